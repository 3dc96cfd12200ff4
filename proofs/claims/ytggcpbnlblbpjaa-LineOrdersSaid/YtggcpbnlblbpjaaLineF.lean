/- The walks of what a law asks of cuts, and of what is light. -/
import Derived.Test.YtggcpbnlblbpjaaLineE
import Derived.Test.YtggcpbnlblbpjaaLineD
namespace Go.Proofs.Ytggcpbnlblbpjaa.L
open Go Go.RowKit Go.Proofs.Ytggcpbnlblbpjaa.K Go.Proofs.Ytggcpbnlblbpjaa.H Go.Proofs.YtggcpbnlblbpjaaW.PrintLast
set_option linter.unusedVariables false
set_option linter.unusedSimpArgs false
set_option maxRecDepth 100000
set_option maxHeartbeats 1600000
section
variable {w : World}
theorem cut_lit11 (c n a d t : Int) (x0 x1 x2 x3 x4 x5 x6 x7 x8 x9 x10 x11 x12 x13 x14 x15 x16 x17 x18 x19 x20 x21 x22 : Value) (H0 : x0.oneCell' = true) (H1 : x1.oneCell' = true) (H2 : x2.oneCell' = true) (H3 : x3.oneCell' = true) (H4 : x4.oneCell' = true) (H5 : x5.oneCell' = true) (H6 : x6.oneCell' = true) (H7 : x7.oneCell' = true) (H8 : x8.oneCell' = true) (H9 : x9.oneCell' = true) (H10 : x10.oneCell' = true) (H11 : x11.oneCell' = true) (H12 : x12.oneCell' = true) (H13 : x13.oneCell' = true) (H14 : x14.oneCell' = true) (H15 : x15.oneCell' = true) (H16 : x16.oneCell' = true) (H17 : x17.oneCell' = true) (H18 : x18.oneCell' = true) (H19 : x19.oneCell' = true) (H20 : x20.oneCell' = true) (H21 : x21.oneCell' = true) (H22 : x22.oneCell' = true) (q : Int) (HT : Hid (t > q)) (HDD : Hid (d > q))  :
    Calls Try.prog 57 #[.agg #[.int .i64 c, .int .i64 n, .int .i64 a, .int .i64 d, .int .i64 t, x0, x1, x2, x3, x4, x5, x6, x7, x8, x9, x10, x11, x12, x13, x14, x15, x16, x17, x18, x19, x20, x21, x22], .int .i64 q] w fun en w' => en = .returned (.agg #[.int .i64 c, .int .i64 n, .int .i64 a, .int .i64 0, .int .i64 0, .int .i64 0, .int .i64 0, .int .u64 0, .string ⟨#[]⟩, .slice none 0 0, .slice none 0 0, .slice none 0 0, .int .i64 0, .int .i64 0, .int .i64 0, .int .i64 0, .int .i64 0, .int .i64 0, .int .i64 0, .string ⟨#[]⟩, .slice none 0 0, .int .i64 0, .int .i64 0, .int .i64 0, .int .u64 0, .string ⟨#[]⟩, .slice none 0 0, .slice none 0 0]) ∧ Ch [] w w' := by
  have C0 := Lib.hid (Ch.refl [] w)
  have D8 := Lib.hid (show decide (t > q) = true from decide_eq_true HT.out)
  have D13 := Lib.hid (show decide (d > q) = true from decide_eq_true HDD.out)
  go_enter Try.func57, Try.ntmps57
  refine q_ (fun Q hQ hP => ?_)
  refine s_ (fun K1 hK1 => ?_)
  refine ef_ (fun K2 hK2 => ?_)
  refine e_boxN (by rfl) rfl rfl (cs := #[.int .i64 c, .int .i64 n, .int .i64 a, .int .i64 d, .int .i64 t, x0, x1, x2, x3, x4, x5, x6, x7, x8, x9, x10, x11, x12, x13, x14, x15, x16, x17, x18, x19, x20, x21, x22]) (v := .agg #[.int .i64 c, .int .i64 n, .int .i64 a, .int .i64 d, .int .i64 t, x0, x1, x2, x3, x4, x5, x6, x7, x8, x9, x10, x11, x12, x13, x14, x15, x16, x17, x18, x19, x20, x21, x22]) (by rfl) rfl ?_
  rintro g3 w4 HG5 B6 C7
  have nw8 := Lib.hid (show w.heap.size ≤ g3 by have := C0.out.size; have := HG5.out; omega)
  have C0' := Lib.hid (show Ch [] w w4 from C0.out.trans' C7 (fun x hx => absurd hx (by simp)))
  clear C0
  have C0 := C0'; clear C0'
  have Fg3 := Lib.hid (show Blk w4 g3 (#[.int .i64 c, .int .i64 n, .int .i64 a, .int .i64 d, .int .i64 t, x0, x1, x2, x3, x4, x5, x6, x7, x8, x9, x10, x11, x12, x13, x14, x15, x16, x17, x18, x19, x20, x21, x22]) 49 from B6); clear B6 C7
  refine hK2 _ _ ?_; clear hK2 K2
  (try simp only [zP, zN, zA, zB, zC])
  refine ef_ (fun K9 hK9 => ?_)
  refine e_alloc (by rfl) rfl rfl (cs := #[.int .i64 0, .int .i64 0, .int .i64 0, .int .i64 0, .int .i64 0, .int .i64 0, .int .i64 0, .int .u64 0, .string ⟨#[]⟩, .slice none 0 0, .slice none 0 0, .slice none 0 0, .int .i64 0, .int .i64 0, .int .i64 0, .int .i64 0, .int .i64 0, .int .i64 0, .int .i64 0, .string ⟨#[]⟩, .slice none 0 0, .int .i64 0, .int .i64 0, .int .i64 0, .int .u64 0, .string ⟨#[]⟩, .slice none 0 0, .slice none 0 0]) (by kernel_rfl) ?_
  rintro g10 w11 HG12 B13 C14
  have nw15 := Lib.hid (show w.heap.size ≤ g10 by have := C0.out.size; have := HG12.out; omega)
  have ne16 := Lib.hid (Fg3.out.ne_new HG12)
  have C0' := Lib.hid (show Ch [] w w11 from C0.out.trans' C14 (fun x hx => absurd hx (by simp)))
  have Fg3' := Lib.hid (show Blk w11 g3 (#[.int .i64 c, .int .i64 n, .int .i64 a, .int .i64 d, .int .i64 t, x0, x1, x2, x3, x4, x5, x6, x7, x8, x9, x10, x11, x12, x13, x14, x15, x16, x17, x18, x19, x20, x21, x22]) 49 from C14.blk Fg3.out nin_nil)
  clear C0 Fg3
  have C0 := C0'; clear C0'
  have Fg3 := Fg3'; clear Fg3'
  have Fg10 := Lib.hid (show Blk w11 g10 (#[.int .i64 0, .int .i64 0, .int .i64 0, .int .i64 0, .int .i64 0, .int .i64 0, .int .i64 0, .int .u64 0, .string ⟨#[]⟩, .slice none 0 0, .slice none 0 0, .slice none 0 0, .int .i64 0, .int .i64 0, .int .i64 0, .int .i64 0, .int .i64 0, .int .i64 0, .int .i64 0, .string ⟨#[]⟩, .slice none 0 0, .int .i64 0, .int .i64 0, .int .i64 0, .int .u64 0, .string ⟨#[]⟩, .slice none 0 0, .slice none 0 0]) 49 from B13); clear B13 C14
  refine hK9 _ _ ?_; clear hK9 K9
  (try simp only [zP, zN, zA, zB, zC])
  refine nl_ (hK1 _ _ ?_); clear hK1 K1
  refine sq_ (fun K17 hK17 => ?_)
  refine s_ (fun K18 hK18 => ?_)
  refine pu_ (v := .pointer (some ⟨g3, 4, none⟩)) (y_run (by rfl) (fun W => by go_simp)) ?_
  (try simp only [zP, zN, zA, zB, zC])
  refine ld_ (v := .int .i64 t) rfl (by rfl) (by rfl) (run_load_one ((Fg3.out.cell 4).trans rfl) Try.underlying3 rfl) ?_
  (try simp only [zP, zN, zA, zB, zC])
  refine pu_ (v := .int .i64 q) (y_move rfl (by rfl) (by rfl)) ?_
  (try simp only [zP, zN, zA, zB, zC])
  refine pu_ (v := .bool true) (y_run (by rfl) (fun W => by have d9 := D8.out; go_simp)) ?_
  (try simp only [zP, zN, zA, zB, zC])
  refine nl_ (hK18 _ _ ?_); clear hK18 K18
  refine wp_cond_true rfl ?_
  refine r_ ?_
  refine pu_ (v := .pointer (some ⟨g3, 4, none⟩)) (y_run (by rfl) (fun W => by go_simp)) ?_
  (try simp only [zP, zN, zA, zB, zC])
  refine ef_ (fun K19 hK19 => ?_)
  refine e_store1 (b := g3) (j := 4) (v := .int .i64 0) (by rfl) rfl rfl (by rfl) (by rfl) Fg3.out (show 4 < 28 by omega) (by kernel_rfl) rfl ?_
  rintro w20 B21 C22
  have C0' := Lib.hid (show Ch [] w w20 from C0.out.trans' C22 (inw_cons (.inr nw8.out) inw_nil))
  have Fg10' := Lib.hid (show Blk w20 g10 (#[.int .i64 0, .int .i64 0, .int .i64 0, .int .i64 0, .int .i64 0, .int .i64 0, .int .i64 0, .int .u64 0, .string ⟨#[]⟩, .slice none 0 0, .slice none 0 0, .slice none 0 0, .int .i64 0, .int .i64 0, .int .i64 0, .int .i64 0, .int .i64 0, .int .i64 0, .int .i64 0, .string ⟨#[]⟩, .slice none 0 0, .int .i64 0, .int .i64 0, .int .i64 0, .int .u64 0, .string ⟨#[]⟩, .slice none 0 0, .slice none 0 0]) 49 from C22.blk Fg10.out (nin_cons (Ne.symm ne16.out) nin_nil))
  clear C0 Fg10
  have C0 := C0'; clear C0'
  have Fg10 := Fg10'; clear Fg10'
  clear Fg3; have Fg3 := Lib.hid (show Blk w20 g3 (#[.int .i64 c, .int .i64 n, .int .i64 a, .int .i64 d, .int .i64 0, x0, x1, x2, x3, x4, x5, x6, x7, x8, x9, x10, x11, x12, x13, x14, x15, x16, x17, x18, x19, x20, x21, x22]) 49 from B21); clear B21 C22
  refine hK19 _ _ ?_; clear hK19 K19
  (try simp only [zP, zN, zA, zB, zC])
  refine nl_ ?_
  refine th_norm (hK17 _ _ ?_); try clear hK17 K17
  refine sq_ (fun K23 hK23 => ?_)
  refine s_ (fun K24 hK24 => ?_)
  refine pu_ (v := .pointer (some ⟨g3, 3, none⟩)) (y_run (by rfl) (fun W => by go_simp)) ?_
  (try simp only [zP, zN, zA, zB, zC])
  refine ld_ (v := .int .i64 d) rfl (by rfl) (by rfl) (run_load_one ((Fg3.out.cell 3).trans rfl) Try.underlying3 rfl) ?_
  (try simp only [zP, zN, zA, zB, zC])
  refine pu_ (v := .int .i64 q) (y_move rfl (by rfl) (by rfl)) ?_
  (try simp only [zP, zN, zA, zB, zC])
  refine pu_ (v := .bool true) (y_run (by rfl) (fun W => by have d9 := D13.out; go_simp)) ?_
  (try simp only [zP, zN, zA, zB, zC])
  refine nl_ (hK24 _ _ ?_); clear hK24 K24
  refine wp_cond_true rfl ?_
  refine r_ ?_
  refine pu_ (v := .agg #[.int .i64 0, .int .i64 0, .int .u64 0, .string ⟨#[]⟩, .slice none 0 0, .slice none 0 0, .slice none 0 0, .int .i64 0, .int .i64 0, .int .i64 0, .int .i64 0, .int .i64 0, .int .i64 0, .int .i64 0, .string ⟨#[]⟩, .slice none 0 0]) (y_build (vs := #[]) (by rfl) rfl (by first | rfl | (simp only [List.map_toArray, List.map_cons, List.map_nil]; first | done | rfl)) (by kernel_rfl)) ?_
  (try simp only [zP, zN, zA, zB, zC])
  refine pu_ (v := .agg #[.int .i64 0, .int .i64 0, .int .i64 0, .int .u64 0, .string ⟨#[]⟩, .slice none 0 0, .slice none 0 0]) (y_build (vs := #[]) (by rfl) rfl (by first | rfl | (simp only [List.map_toArray, List.map_cons, List.map_nil]; first | done | rfl)) (by kernel_rfl)) ?_
  (try simp only [zP, zN, zA, zB, zC])
  refine pu_ (v := .pointer (some ⟨g3, 3, none⟩)) (y_run (by rfl) (fun W => by go_simp)) ?_
  (try simp only [zP, zN, zA, zB, zC])
  refine ef_ (fun K25 hK25 => ?_)
  refine e_store1 (b := g3) (j := 3) (v := .int .i64 0) (by rfl) rfl rfl (by rfl) (by rfl) Fg3.out (show 3 < 28 by omega) (by kernel_rfl) rfl ?_
  rintro w26 B27 C28
  have C0' := Lib.hid (show Ch [] w w26 from C0.out.trans' C28 (inw_cons (.inr nw8.out) inw_nil))
  have Fg10' := Lib.hid (show Blk w26 g10 (#[.int .i64 0, .int .i64 0, .int .i64 0, .int .i64 0, .int .i64 0, .int .i64 0, .int .i64 0, .int .u64 0, .string ⟨#[]⟩, .slice none 0 0, .slice none 0 0, .slice none 0 0, .int .i64 0, .int .i64 0, .int .i64 0, .int .i64 0, .int .i64 0, .int .i64 0, .int .i64 0, .string ⟨#[]⟩, .slice none 0 0, .int .i64 0, .int .i64 0, .int .i64 0, .int .u64 0, .string ⟨#[]⟩, .slice none 0 0, .slice none 0 0]) 49 from C28.blk Fg10.out (nin_cons (Ne.symm ne16.out) nin_nil))
  clear C0 Fg10
  have C0 := C0'; clear C0'
  have Fg10 := Fg10'; clear Fg10'
  clear Fg3; have Fg3 := Lib.hid (show Blk w26 g3 (#[.int .i64 c, .int .i64 n, .int .i64 a, .int .i64 0, .int .i64 0, x0, x1, x2, x3, x4, x5, x6, x7, x8, x9, x10, x11, x12, x13, x14, x15, x16, x17, x18, x19, x20, x21, x22]) 49 from B27); clear B27 C28
  refine hK25 _ _ ?_; clear hK25 K25
  (try simp only [zP, zN, zA, zB, zC])
  refine pu_ (v := .pointer (some ⟨g3, 5, none⟩)) (y_run (by rfl) (fun W => by go_simp)) ?_
  (try simp only [zP, zN, zA, zB, zC])
  refine ef_ (fun K29 hK29 => ?_)
  refine e_storeP (by rfl) rfl rfl 5 (by rfl) (by rfl) Fg3.out (by kernel_rfl) (by simp) (ones_cons rfl (ones_cons rfl (ones_cons rfl (ones_cons rfl (ones_cons rfl (ones_cons rfl (ones_cons rfl (ones_cons rfl (ones_cons rfl (ones_cons rfl (ones_cons rfl (ones_cons rfl (ones_cons rfl (ones_cons rfl (ones_cons rfl (ones_cons rfl ones_nil)))))))))))))))) ?_
  rintro w30 B31 C32
  have C0' := Lib.hid (show Ch [] w w30 from C0.out.trans' C32 (inw_cons (.inr nw8.out) inw_nil))
  have Fg10' := Lib.hid (show Blk w30 g10 (#[.int .i64 0, .int .i64 0, .int .i64 0, .int .i64 0, .int .i64 0, .int .i64 0, .int .i64 0, .int .u64 0, .string ⟨#[]⟩, .slice none 0 0, .slice none 0 0, .slice none 0 0, .int .i64 0, .int .i64 0, .int .i64 0, .int .i64 0, .int .i64 0, .int .i64 0, .int .i64 0, .string ⟨#[]⟩, .slice none 0 0, .int .i64 0, .int .i64 0, .int .i64 0, .int .u64 0, .string ⟨#[]⟩, .slice none 0 0, .slice none 0 0]) 49 from C32.blk Fg10.out (nin_cons (Ne.symm ne16.out) nin_nil))
  clear C0 Fg10
  have C0 := C0'; clear C0'
  have Fg10 := Fg10'; clear Fg10'
  clear Fg3; have Fg3 := Lib.hid (show Blk w30 g3 (#[.int .i64 c, .int .i64 n, .int .i64 a, .int .i64 0, .int .i64 0, .int .i64 0, .int .i64 0, .int .u64 0, .string ⟨#[]⟩, .slice none 0 0, .slice none 0 0, .slice none 0 0, .int .i64 0, .int .i64 0, .int .i64 0, .int .i64 0, .int .i64 0, .int .i64 0, .int .i64 0, .string ⟨#[]⟩, .slice none 0 0, x16, x17, x18, x19, x20, x21, x22]) 49 from B31); clear B31 C32
  refine hK29 _ _ ?_; clear hK29 K29
  (try simp only [zP, zN, zA, zB, zC])
  refine pu_ (v := .pointer (some ⟨g3, 21, none⟩)) (y_run (by rfl) (fun W => by go_simp)) ?_
  (try simp only [zP, zN, zA, zB, zC])
  refine ef_ (fun K33 hK33 => ?_)
  refine e_storeP (by rfl) rfl rfl 21 (by rfl) (by rfl) Fg3.out (by kernel_rfl) (by simp) (ones_cons rfl (ones_cons rfl (ones_cons rfl (ones_cons rfl (ones_cons rfl (ones_cons rfl (ones_cons rfl ones_nil))))))) ?_
  rintro w34 B35 C36
  have C0' := Lib.hid (show Ch [] w w34 from C0.out.trans' C36 (inw_cons (.inr nw8.out) inw_nil))
  have Fg10' := Lib.hid (show Blk w34 g10 (#[.int .i64 0, .int .i64 0, .int .i64 0, .int .i64 0, .int .i64 0, .int .i64 0, .int .i64 0, .int .u64 0, .string ⟨#[]⟩, .slice none 0 0, .slice none 0 0, .slice none 0 0, .int .i64 0, .int .i64 0, .int .i64 0, .int .i64 0, .int .i64 0, .int .i64 0, .int .i64 0, .string ⟨#[]⟩, .slice none 0 0, .int .i64 0, .int .i64 0, .int .i64 0, .int .u64 0, .string ⟨#[]⟩, .slice none 0 0, .slice none 0 0]) 49 from C36.blk Fg10.out (nin_cons (Ne.symm ne16.out) nin_nil))
  clear C0 Fg10
  have C0 := C0'; clear C0'
  have Fg10 := Fg10'; clear Fg10'
  clear Fg3; have Fg3 := Lib.hid (show Blk w34 g3 (#[.int .i64 c, .int .i64 n, .int .i64 a, .int .i64 0, .int .i64 0, .int .i64 0, .int .i64 0, .int .u64 0, .string ⟨#[]⟩, .slice none 0 0, .slice none 0 0, .slice none 0 0, .int .i64 0, .int .i64 0, .int .i64 0, .int .i64 0, .int .i64 0, .int .i64 0, .int .i64 0, .string ⟨#[]⟩, .slice none 0 0, .int .i64 0, .int .i64 0, .int .i64 0, .int .u64 0, .string ⟨#[]⟩, .slice none 0 0, .slice none 0 0]) 49 from B35); clear B35 C36
  refine hK33 _ _ ?_; clear hK33 K33
  (try simp only [zP, zN, zA, zB, zC])
  refine nl_ ?_
  refine th_norm (hK23 _ _ ?_); try clear hK23 K23
  refine s_ (fun K37 hK37 => ?_)
  refine ld_ (v := .agg (#[.int .i64 c, .int .i64 n, .int .i64 a, .int .i64 0, .int .i64 0, .int .i64 0, .int .i64 0, .int .u64 0, .string ⟨#[]⟩, .slice none 0 0, .slice none 0 0, .slice none 0 0, .int .i64 0, .int .i64 0, .int .i64 0, .int .i64 0, .int .i64 0, .int .i64 0, .int .i64 0, .string ⟨#[]⟩, .slice none 0 0, .int .i64 0, .int .i64 0, .int .i64 0, .int .u64 0, .string ⟨#[]⟩, .slice none 0 0, .slice none 0 0])) rfl (by rfl) (by rfl) (run_loadVar_row _ _ 49 49 (#[.int .i64 c, .int .i64 n, .int .i64 a, .int .i64 0, .int .i64 0, .int .i64 0, .int .i64 0, .int .u64 0, .string ⟨#[]⟩, .slice none 0 0, .slice none 0 0, .slice none 0 0, .int .i64 0, .int .i64 0, .int .i64 0, .int .i64 0, .int .i64 0, .int .i64 0, .int .i64 0, .string ⟨#[]⟩, .slice none 0 0, .int .i64 0, .int .i64 0, .int .i64 0, .int .u64 0, .string ⟨#[]⟩, .slice none 0 0, .slice none 0 0]) (0, 0) _ Fg3.out Try.underlying49 rfl (by kernel_rfl)) ?_
  (try simp only [zP, zN, zA, zB, zC])
  refine ef_ (fun K38 hK38 => ?_)
  refine e_storeN (cells := (#[.int .i64 c, .int .i64 n, .int .i64 a, .int .i64 0, .int .i64 0, .int .i64 0, .int .i64 0, .int .u64 0, .string ⟨#[]⟩, .slice none 0 0, .slice none 0 0, .slice none 0 0, .int .i64 0, .int .i64 0, .int .i64 0, .int .i64 0, .int .i64 0, .int .i64 0, .int .i64 0, .string ⟨#[]⟩, .slice none 0 0, .int .i64 0, .int .i64 0, .int .i64 0, .int .u64 0, .string ⟨#[]⟩, .slice none 0 0, .slice none 0 0])) (by rfl) rfl rfl (by rfl) (by rfl) Fg10.out (by kernel_rfl) (by rfl) (ones_cons rfl (ones_cons rfl (ones_cons rfl (ones_cons rfl (ones_cons rfl (ones_cons rfl (ones_cons rfl (ones_cons rfl (ones_cons rfl (ones_cons rfl (ones_cons rfl (ones_cons rfl (ones_cons rfl (ones_cons rfl (ones_cons rfl (ones_cons rfl (ones_cons rfl (ones_cons rfl (ones_cons rfl (ones_cons rfl (ones_cons rfl (ones_cons rfl (ones_cons rfl (ones_cons rfl (ones_cons rfl (ones_cons rfl (ones_cons rfl (ones_cons rfl ones_nil)))))))))))))))))))))))))))) ?_
  rintro w39 B40 C41
  have C0' := Lib.hid (show Ch [] w w39 from C0.out.trans' C41 (inw_cons (.inr nw15.out) inw_nil))
  have Fg3' := Lib.hid (show Blk w39 g3 (#[.int .i64 c, .int .i64 n, .int .i64 a, .int .i64 0, .int .i64 0, .int .i64 0, .int .i64 0, .int .u64 0, .string ⟨#[]⟩, .slice none 0 0, .slice none 0 0, .slice none 0 0, .int .i64 0, .int .i64 0, .int .i64 0, .int .i64 0, .int .i64 0, .int .i64 0, .int .i64 0, .string ⟨#[]⟩, .slice none 0 0, .int .i64 0, .int .i64 0, .int .i64 0, .int .u64 0, .string ⟨#[]⟩, .slice none 0 0, .slice none 0 0]) 49 from C41.blk Fg3.out (nin_cons ne16.out nin_nil))
  clear C0 Fg3
  have C0 := C0'; clear C0'
  have Fg3 := Fg3'; clear Fg3'
  clear Fg10; have Fg10 := Lib.hid (show Blk w39 g10 ((#[.int .i64 c, .int .i64 n, .int .i64 a, .int .i64 0, .int .i64 0, .int .i64 0, .int .i64 0, .int .u64 0, .string ⟨#[]⟩, .slice none 0 0, .slice none 0 0, .slice none 0 0, .int .i64 0, .int .i64 0, .int .i64 0, .int .i64 0, .int .i64 0, .int .i64 0, .int .i64 0, .string ⟨#[]⟩, .slice none 0 0, .int .i64 0, .int .i64 0, .int .i64 0, .int .u64 0, .string ⟨#[]⟩, .slice none 0 0, .slice none 0 0])) 49 from B40); clear B40 C41
  refine hK38 _ _ ?_; clear hK38 K38
  (try simp only [zP, zN, zA, zB, zC])
  refine nl_ (hK37 _ _ ?_); clear hK37 K37
  refine wp_ret ?_
  refine hQ _ _ _ ?_
  refine bodyPost_ret (res1 rfl (rdv_cell (by rfl) (run_loadVar_row _ _ 49 49 ((#[.int .i64 c, .int .i64 n, .int .i64 a, .int .i64 0, .int .i64 0, .int .i64 0, .int .i64 0, .int .u64 0, .string ⟨#[]⟩, .slice none 0 0, .slice none 0 0, .slice none 0 0, .int .i64 0, .int .i64 0, .int .i64 0, .int .i64 0, .int .i64 0, .int .i64 0, .int .i64 0, .string ⟨#[]⟩, .slice none 0 0, .int .i64 0, .int .i64 0, .int .i64 0, .int .u64 0, .string ⟨#[]⟩, .slice none 0 0, .slice none 0 0])) (0, 0) _ Fg10.out Try.underlying49 rfl (by kernel_rfl)))) rfl ?_
  exact ⟨rfl, C0.out⟩
theorem cut_lit10 (c n a d t : Int) (x0 x1 x2 x3 x4 x5 x6 x7 x8 x9 x10 x11 x12 x13 x14 x15 x16 x17 x18 x19 x20 x21 x22 : Value) (H0 : x0.oneCell' = true) (H1 : x1.oneCell' = true) (H2 : x2.oneCell' = true) (H3 : x3.oneCell' = true) (H4 : x4.oneCell' = true) (H5 : x5.oneCell' = true) (H6 : x6.oneCell' = true) (H7 : x7.oneCell' = true) (H8 : x8.oneCell' = true) (H9 : x9.oneCell' = true) (H10 : x10.oneCell' = true) (H11 : x11.oneCell' = true) (H12 : x12.oneCell' = true) (H13 : x13.oneCell' = true) (H14 : x14.oneCell' = true) (H15 : x15.oneCell' = true) (H16 : x16.oneCell' = true) (H17 : x17.oneCell' = true) (H18 : x18.oneCell' = true) (H19 : x19.oneCell' = true) (H20 : x20.oneCell' = true) (H21 : x21.oneCell' = true) (H22 : x22.oneCell' = true) (q : Int) (HT : Hid (t > q)) (HDD : Hid (¬ d > q))  :
    Calls Try.prog 57 #[.agg #[.int .i64 c, .int .i64 n, .int .i64 a, .int .i64 d, .int .i64 t, x0, x1, x2, x3, x4, x5, x6, x7, x8, x9, x10, x11, x12, x13, x14, x15, x16, x17, x18, x19, x20, x21, x22], .int .i64 q] w fun en w' => en = .returned (.agg #[.int .i64 c, .int .i64 n, .int .i64 a, .int .i64 d, .int .i64 0, x0, x1, x2, x3, x4, x5, x6, x7, x8, x9, x10, x11, x12, x13, x14, x15, x16, x17, x18, x19, x20, x21, x22]) ∧ Ch [] w w' := by
  have C0 := Lib.hid (Ch.refl [] w)
  have D8 := Lib.hid (show decide (t > q) = true from decide_eq_true HT.out)
  have D13 := Lib.hid (show decide (d > q) = false from decide_eq_false HDD.out)
  go_enter Try.func57, Try.ntmps57
  refine q_ (fun Q hQ hP => ?_)
  refine s_ (fun K1 hK1 => ?_)
  refine ef_ (fun K2 hK2 => ?_)
  refine e_boxN (by rfl) rfl rfl (cs := #[.int .i64 c, .int .i64 n, .int .i64 a, .int .i64 d, .int .i64 t, x0, x1, x2, x3, x4, x5, x6, x7, x8, x9, x10, x11, x12, x13, x14, x15, x16, x17, x18, x19, x20, x21, x22]) (v := .agg #[.int .i64 c, .int .i64 n, .int .i64 a, .int .i64 d, .int .i64 t, x0, x1, x2, x3, x4, x5, x6, x7, x8, x9, x10, x11, x12, x13, x14, x15, x16, x17, x18, x19, x20, x21, x22]) (by rfl) rfl ?_
  rintro g3 w4 HG5 B6 C7
  have nw8 := Lib.hid (show w.heap.size ≤ g3 by have := C0.out.size; have := HG5.out; omega)
  have C0' := Lib.hid (show Ch [] w w4 from C0.out.trans' C7 (fun x hx => absurd hx (by simp)))
  clear C0
  have C0 := C0'; clear C0'
  have Fg3 := Lib.hid (show Blk w4 g3 (#[.int .i64 c, .int .i64 n, .int .i64 a, .int .i64 d, .int .i64 t, x0, x1, x2, x3, x4, x5, x6, x7, x8, x9, x10, x11, x12, x13, x14, x15, x16, x17, x18, x19, x20, x21, x22]) 49 from B6); clear B6 C7
  refine hK2 _ _ ?_; clear hK2 K2
  (try simp only [zP, zN, zA, zB, zC])
  refine ef_ (fun K9 hK9 => ?_)
  refine e_alloc (by rfl) rfl rfl (cs := #[.int .i64 0, .int .i64 0, .int .i64 0, .int .i64 0, .int .i64 0, .int .i64 0, .int .i64 0, .int .u64 0, .string ⟨#[]⟩, .slice none 0 0, .slice none 0 0, .slice none 0 0, .int .i64 0, .int .i64 0, .int .i64 0, .int .i64 0, .int .i64 0, .int .i64 0, .int .i64 0, .string ⟨#[]⟩, .slice none 0 0, .int .i64 0, .int .i64 0, .int .i64 0, .int .u64 0, .string ⟨#[]⟩, .slice none 0 0, .slice none 0 0]) (by kernel_rfl) ?_
  rintro g10 w11 HG12 B13 C14
  have nw15 := Lib.hid (show w.heap.size ≤ g10 by have := C0.out.size; have := HG12.out; omega)
  have ne16 := Lib.hid (Fg3.out.ne_new HG12)
  have C0' := Lib.hid (show Ch [] w w11 from C0.out.trans' C14 (fun x hx => absurd hx (by simp)))
  have Fg3' := Lib.hid (show Blk w11 g3 (#[.int .i64 c, .int .i64 n, .int .i64 a, .int .i64 d, .int .i64 t, x0, x1, x2, x3, x4, x5, x6, x7, x8, x9, x10, x11, x12, x13, x14, x15, x16, x17, x18, x19, x20, x21, x22]) 49 from C14.blk Fg3.out nin_nil)
  clear C0 Fg3
  have C0 := C0'; clear C0'
  have Fg3 := Fg3'; clear Fg3'
  have Fg10 := Lib.hid (show Blk w11 g10 (#[.int .i64 0, .int .i64 0, .int .i64 0, .int .i64 0, .int .i64 0, .int .i64 0, .int .i64 0, .int .u64 0, .string ⟨#[]⟩, .slice none 0 0, .slice none 0 0, .slice none 0 0, .int .i64 0, .int .i64 0, .int .i64 0, .int .i64 0, .int .i64 0, .int .i64 0, .int .i64 0, .string ⟨#[]⟩, .slice none 0 0, .int .i64 0, .int .i64 0, .int .i64 0, .int .u64 0, .string ⟨#[]⟩, .slice none 0 0, .slice none 0 0]) 49 from B13); clear B13 C14
  refine hK9 _ _ ?_; clear hK9 K9
  (try simp only [zP, zN, zA, zB, zC])
  refine nl_ (hK1 _ _ ?_); clear hK1 K1
  refine sq_ (fun K17 hK17 => ?_)
  refine s_ (fun K18 hK18 => ?_)
  refine pu_ (v := .pointer (some ⟨g3, 4, none⟩)) (y_run (by rfl) (fun W => by go_simp)) ?_
  (try simp only [zP, zN, zA, zB, zC])
  refine ld_ (v := .int .i64 t) rfl (by rfl) (by rfl) (run_load_one ((Fg3.out.cell 4).trans rfl) Try.underlying3 rfl) ?_
  (try simp only [zP, zN, zA, zB, zC])
  refine pu_ (v := .int .i64 q) (y_move rfl (by rfl) (by rfl)) ?_
  (try simp only [zP, zN, zA, zB, zC])
  refine pu_ (v := .bool true) (y_run (by rfl) (fun W => by have d9 := D8.out; go_simp)) ?_
  (try simp only [zP, zN, zA, zB, zC])
  refine nl_ (hK18 _ _ ?_); clear hK18 K18
  refine wp_cond_true rfl ?_
  refine r_ ?_
  refine pu_ (v := .pointer (some ⟨g3, 4, none⟩)) (y_run (by rfl) (fun W => by go_simp)) ?_
  (try simp only [zP, zN, zA, zB, zC])
  refine ef_ (fun K19 hK19 => ?_)
  refine e_store1 (b := g3) (j := 4) (v := .int .i64 0) (by rfl) rfl rfl (by rfl) (by rfl) Fg3.out (show 4 < 28 by omega) (by kernel_rfl) rfl ?_
  rintro w20 B21 C22
  have C0' := Lib.hid (show Ch [] w w20 from C0.out.trans' C22 (inw_cons (.inr nw8.out) inw_nil))
  have Fg10' := Lib.hid (show Blk w20 g10 (#[.int .i64 0, .int .i64 0, .int .i64 0, .int .i64 0, .int .i64 0, .int .i64 0, .int .i64 0, .int .u64 0, .string ⟨#[]⟩, .slice none 0 0, .slice none 0 0, .slice none 0 0, .int .i64 0, .int .i64 0, .int .i64 0, .int .i64 0, .int .i64 0, .int .i64 0, .int .i64 0, .string ⟨#[]⟩, .slice none 0 0, .int .i64 0, .int .i64 0, .int .i64 0, .int .u64 0, .string ⟨#[]⟩, .slice none 0 0, .slice none 0 0]) 49 from C22.blk Fg10.out (nin_cons (Ne.symm ne16.out) nin_nil))
  clear C0 Fg10
  have C0 := C0'; clear C0'
  have Fg10 := Fg10'; clear Fg10'
  clear Fg3; have Fg3 := Lib.hid (show Blk w20 g3 (#[.int .i64 c, .int .i64 n, .int .i64 a, .int .i64 d, .int .i64 0, x0, x1, x2, x3, x4, x5, x6, x7, x8, x9, x10, x11, x12, x13, x14, x15, x16, x17, x18, x19, x20, x21, x22]) 49 from B21); clear B21 C22
  refine hK19 _ _ ?_; clear hK19 K19
  (try simp only [zP, zN, zA, zB, zC])
  refine nl_ ?_
  refine th_norm (hK17 _ _ ?_); try clear hK17 K17
  refine sq_ (fun K23 hK23 => ?_)
  refine s_ (fun K24 hK24 => ?_)
  refine pu_ (v := .pointer (some ⟨g3, 3, none⟩)) (y_run (by rfl) (fun W => by go_simp)) ?_
  (try simp only [zP, zN, zA, zB, zC])
  refine ld_ (v := .int .i64 d) rfl (by rfl) (by rfl) (run_load_one ((Fg3.out.cell 3).trans rfl) Try.underlying3 rfl) ?_
  (try simp only [zP, zN, zA, zB, zC])
  refine pu_ (v := .int .i64 q) (y_move rfl (by rfl) (by rfl)) ?_
  (try simp only [zP, zN, zA, zB, zC])
  refine pu_ (v := .bool false) (y_run (by rfl) (fun W => by have d9 := D13.out; go_simp)) ?_
  (try simp only [zP, zN, zA, zB, zC])
  refine nl_ (hK24 _ _ ?_); clear hK24 K24
  refine wp_cond_false rfl ?_
  refine wp_skip ?_
  refine th_norm (hK23 _ _ ?_); try clear hK23 K23
  refine s_ (fun K25 hK25 => ?_)
  refine ld_ (v := .agg (#[.int .i64 c, .int .i64 n, .int .i64 a, .int .i64 d, .int .i64 0, x0, x1, x2, x3, x4, x5, x6, x7, x8, x9, x10, x11, x12, x13, x14, x15, x16, x17, x18, x19, x20, x21, x22])) rfl (by rfl) (by rfl) (run_loadVar_row _ _ 49 49 (#[.int .i64 c, .int .i64 n, .int .i64 a, .int .i64 d, .int .i64 0, x0, x1, x2, x3, x4, x5, x6, x7, x8, x9, x10, x11, x12, x13, x14, x15, x16, x17, x18, x19, x20, x21, x22]) (0, 0) _ Fg3.out Try.underlying49 rfl (by kernel_rfl)) ?_
  (try simp only [zP, zN, zA, zB, zC])
  refine ef_ (fun K26 hK26 => ?_)
  refine e_storeN (cells := (#[.int .i64 c, .int .i64 n, .int .i64 a, .int .i64 d, .int .i64 0, x0, x1, x2, x3, x4, x5, x6, x7, x8, x9, x10, x11, x12, x13, x14, x15, x16, x17, x18, x19, x20, x21, x22])) (by rfl) rfl rfl (by rfl) (by rfl) Fg10.out (by kernel_rfl) (by rfl) (ones_cons rfl (ones_cons rfl (ones_cons rfl (ones_cons rfl (ones_cons rfl (ones_cons H0 (ones_cons H1 (ones_cons H2 (ones_cons H3 (ones_cons H4 (ones_cons H5 (ones_cons H6 (ones_cons H7 (ones_cons H8 (ones_cons H9 (ones_cons H10 (ones_cons H11 (ones_cons H12 (ones_cons H13 (ones_cons H14 (ones_cons H15 (ones_cons H16 (ones_cons H17 (ones_cons H18 (ones_cons H19 (ones_cons H20 (ones_cons H21 (ones_cons H22 ones_nil)))))))))))))))))))))))))))) ?_
  rintro w27 B28 C29
  have C0' := Lib.hid (show Ch [] w w27 from C0.out.trans' C29 (inw_cons (.inr nw15.out) inw_nil))
  have Fg3' := Lib.hid (show Blk w27 g3 (#[.int .i64 c, .int .i64 n, .int .i64 a, .int .i64 d, .int .i64 0, x0, x1, x2, x3, x4, x5, x6, x7, x8, x9, x10, x11, x12, x13, x14, x15, x16, x17, x18, x19, x20, x21, x22]) 49 from C29.blk Fg3.out (nin_cons ne16.out nin_nil))
  clear C0 Fg3
  have C0 := C0'; clear C0'
  have Fg3 := Fg3'; clear Fg3'
  clear Fg10; have Fg10 := Lib.hid (show Blk w27 g10 ((#[.int .i64 c, .int .i64 n, .int .i64 a, .int .i64 d, .int .i64 0, x0, x1, x2, x3, x4, x5, x6, x7, x8, x9, x10, x11, x12, x13, x14, x15, x16, x17, x18, x19, x20, x21, x22])) 49 from B28); clear B28 C29
  refine hK26 _ _ ?_; clear hK26 K26
  (try simp only [zP, zN, zA, zB, zC])
  refine nl_ (hK25 _ _ ?_); clear hK25 K25
  refine wp_ret ?_
  refine hQ _ _ _ ?_
  refine bodyPost_ret (res1 rfl (rdv_cell (by rfl) (run_loadVar_row _ _ 49 49 ((#[.int .i64 c, .int .i64 n, .int .i64 a, .int .i64 d, .int .i64 0, x0, x1, x2, x3, x4, x5, x6, x7, x8, x9, x10, x11, x12, x13, x14, x15, x16, x17, x18, x19, x20, x21, x22])) (0, 0) _ Fg10.out Try.underlying49 rfl (by kernel_rfl)))) rfl ?_
  exact ⟨rfl, C0.out⟩
theorem cut_lit01 (c n a d t : Int) (x0 x1 x2 x3 x4 x5 x6 x7 x8 x9 x10 x11 x12 x13 x14 x15 x16 x17 x18 x19 x20 x21 x22 : Value) (H0 : x0.oneCell' = true) (H1 : x1.oneCell' = true) (H2 : x2.oneCell' = true) (H3 : x3.oneCell' = true) (H4 : x4.oneCell' = true) (H5 : x5.oneCell' = true) (H6 : x6.oneCell' = true) (H7 : x7.oneCell' = true) (H8 : x8.oneCell' = true) (H9 : x9.oneCell' = true) (H10 : x10.oneCell' = true) (H11 : x11.oneCell' = true) (H12 : x12.oneCell' = true) (H13 : x13.oneCell' = true) (H14 : x14.oneCell' = true) (H15 : x15.oneCell' = true) (H16 : x16.oneCell' = true) (H17 : x17.oneCell' = true) (H18 : x18.oneCell' = true) (H19 : x19.oneCell' = true) (H20 : x20.oneCell' = true) (H21 : x21.oneCell' = true) (H22 : x22.oneCell' = true) (q : Int) (HT : Hid (¬ t > q)) (HDD : Hid (d > q))  :
    Calls Try.prog 57 #[.agg #[.int .i64 c, .int .i64 n, .int .i64 a, .int .i64 d, .int .i64 t, x0, x1, x2, x3, x4, x5, x6, x7, x8, x9, x10, x11, x12, x13, x14, x15, x16, x17, x18, x19, x20, x21, x22], .int .i64 q] w fun en w' => en = .returned (.agg #[.int .i64 c, .int .i64 n, .int .i64 a, .int .i64 0, .int .i64 t, .int .i64 0, .int .i64 0, .int .u64 0, .string ⟨#[]⟩, .slice none 0 0, .slice none 0 0, .slice none 0 0, .int .i64 0, .int .i64 0, .int .i64 0, .int .i64 0, .int .i64 0, .int .i64 0, .int .i64 0, .string ⟨#[]⟩, .slice none 0 0, .int .i64 0, .int .i64 0, .int .i64 0, .int .u64 0, .string ⟨#[]⟩, .slice none 0 0, .slice none 0 0]) ∧ Ch [] w w' := by
  have C0 := Lib.hid (Ch.refl [] w)
  have D8 := Lib.hid (show decide (t > q) = false from decide_eq_false HT.out)
  have D13 := Lib.hid (show decide (d > q) = true from decide_eq_true HDD.out)
  go_enter Try.func57, Try.ntmps57
  refine q_ (fun Q hQ hP => ?_)
  refine s_ (fun K1 hK1 => ?_)
  refine ef_ (fun K2 hK2 => ?_)
  refine e_boxN (by rfl) rfl rfl (cs := #[.int .i64 c, .int .i64 n, .int .i64 a, .int .i64 d, .int .i64 t, x0, x1, x2, x3, x4, x5, x6, x7, x8, x9, x10, x11, x12, x13, x14, x15, x16, x17, x18, x19, x20, x21, x22]) (v := .agg #[.int .i64 c, .int .i64 n, .int .i64 a, .int .i64 d, .int .i64 t, x0, x1, x2, x3, x4, x5, x6, x7, x8, x9, x10, x11, x12, x13, x14, x15, x16, x17, x18, x19, x20, x21, x22]) (by rfl) rfl ?_
  rintro g3 w4 HG5 B6 C7
  have nw8 := Lib.hid (show w.heap.size ≤ g3 by have := C0.out.size; have := HG5.out; omega)
  have C0' := Lib.hid (show Ch [] w w4 from C0.out.trans' C7 (fun x hx => absurd hx (by simp)))
  clear C0
  have C0 := C0'; clear C0'
  have Fg3 := Lib.hid (show Blk w4 g3 (#[.int .i64 c, .int .i64 n, .int .i64 a, .int .i64 d, .int .i64 t, x0, x1, x2, x3, x4, x5, x6, x7, x8, x9, x10, x11, x12, x13, x14, x15, x16, x17, x18, x19, x20, x21, x22]) 49 from B6); clear B6 C7
  refine hK2 _ _ ?_; clear hK2 K2
  (try simp only [zP, zN, zA, zB, zC])
  refine ef_ (fun K9 hK9 => ?_)
  refine e_alloc (by rfl) rfl rfl (cs := #[.int .i64 0, .int .i64 0, .int .i64 0, .int .i64 0, .int .i64 0, .int .i64 0, .int .i64 0, .int .u64 0, .string ⟨#[]⟩, .slice none 0 0, .slice none 0 0, .slice none 0 0, .int .i64 0, .int .i64 0, .int .i64 0, .int .i64 0, .int .i64 0, .int .i64 0, .int .i64 0, .string ⟨#[]⟩, .slice none 0 0, .int .i64 0, .int .i64 0, .int .i64 0, .int .u64 0, .string ⟨#[]⟩, .slice none 0 0, .slice none 0 0]) (by kernel_rfl) ?_
  rintro g10 w11 HG12 B13 C14
  have nw15 := Lib.hid (show w.heap.size ≤ g10 by have := C0.out.size; have := HG12.out; omega)
  have ne16 := Lib.hid (Fg3.out.ne_new HG12)
  have C0' := Lib.hid (show Ch [] w w11 from C0.out.trans' C14 (fun x hx => absurd hx (by simp)))
  have Fg3' := Lib.hid (show Blk w11 g3 (#[.int .i64 c, .int .i64 n, .int .i64 a, .int .i64 d, .int .i64 t, x0, x1, x2, x3, x4, x5, x6, x7, x8, x9, x10, x11, x12, x13, x14, x15, x16, x17, x18, x19, x20, x21, x22]) 49 from C14.blk Fg3.out nin_nil)
  clear C0 Fg3
  have C0 := C0'; clear C0'
  have Fg3 := Fg3'; clear Fg3'
  have Fg10 := Lib.hid (show Blk w11 g10 (#[.int .i64 0, .int .i64 0, .int .i64 0, .int .i64 0, .int .i64 0, .int .i64 0, .int .i64 0, .int .u64 0, .string ⟨#[]⟩, .slice none 0 0, .slice none 0 0, .slice none 0 0, .int .i64 0, .int .i64 0, .int .i64 0, .int .i64 0, .int .i64 0, .int .i64 0, .int .i64 0, .string ⟨#[]⟩, .slice none 0 0, .int .i64 0, .int .i64 0, .int .i64 0, .int .u64 0, .string ⟨#[]⟩, .slice none 0 0, .slice none 0 0]) 49 from B13); clear B13 C14
  refine hK9 _ _ ?_; clear hK9 K9
  (try simp only [zP, zN, zA, zB, zC])
  refine nl_ (hK1 _ _ ?_); clear hK1 K1
  refine sq_ (fun K17 hK17 => ?_)
  refine s_ (fun K18 hK18 => ?_)
  refine pu_ (v := .pointer (some ⟨g3, 4, none⟩)) (y_run (by rfl) (fun W => by go_simp)) ?_
  (try simp only [zP, zN, zA, zB, zC])
  refine ld_ (v := .int .i64 t) rfl (by rfl) (by rfl) (run_load_one ((Fg3.out.cell 4).trans rfl) Try.underlying3 rfl) ?_
  (try simp only [zP, zN, zA, zB, zC])
  refine pu_ (v := .int .i64 q) (y_move rfl (by rfl) (by rfl)) ?_
  (try simp only [zP, zN, zA, zB, zC])
  refine pu_ (v := .bool false) (y_run (by rfl) (fun W => by have d9 := D8.out; go_simp)) ?_
  (try simp only [zP, zN, zA, zB, zC])
  refine nl_ (hK18 _ _ ?_); clear hK18 K18
  refine wp_cond_false rfl ?_
  refine wp_skip ?_
  refine th_norm (hK17 _ _ ?_); try clear hK17 K17
  refine sq_ (fun K19 hK19 => ?_)
  refine s_ (fun K20 hK20 => ?_)
  refine pu_ (v := .pointer (some ⟨g3, 3, none⟩)) (y_run (by rfl) (fun W => by go_simp)) ?_
  (try simp only [zP, zN, zA, zB, zC])
  refine ld_ (v := .int .i64 d) rfl (by rfl) (by rfl) (run_load_one ((Fg3.out.cell 3).trans rfl) Try.underlying3 rfl) ?_
  (try simp only [zP, zN, zA, zB, zC])
  refine pu_ (v := .int .i64 q) (y_move rfl (by rfl) (by rfl)) ?_
  (try simp only [zP, zN, zA, zB, zC])
  refine pu_ (v := .bool true) (y_run (by rfl) (fun W => by have d9 := D13.out; go_simp)) ?_
  (try simp only [zP, zN, zA, zB, zC])
  refine nl_ (hK20 _ _ ?_); clear hK20 K20
  refine wp_cond_true rfl ?_
  refine r_ ?_
  refine pu_ (v := .agg #[.int .i64 0, .int .i64 0, .int .u64 0, .string ⟨#[]⟩, .slice none 0 0, .slice none 0 0, .slice none 0 0, .int .i64 0, .int .i64 0, .int .i64 0, .int .i64 0, .int .i64 0, .int .i64 0, .int .i64 0, .string ⟨#[]⟩, .slice none 0 0]) (y_build (vs := #[]) (by rfl) rfl (by first | rfl | (simp only [List.map_toArray, List.map_cons, List.map_nil]; first | done | rfl)) (by kernel_rfl)) ?_
  (try simp only [zP, zN, zA, zB, zC])
  refine pu_ (v := .agg #[.int .i64 0, .int .i64 0, .int .i64 0, .int .u64 0, .string ⟨#[]⟩, .slice none 0 0, .slice none 0 0]) (y_build (vs := #[]) (by rfl) rfl (by first | rfl | (simp only [List.map_toArray, List.map_cons, List.map_nil]; first | done | rfl)) (by kernel_rfl)) ?_
  (try simp only [zP, zN, zA, zB, zC])
  refine pu_ (v := .pointer (some ⟨g3, 3, none⟩)) (y_run (by rfl) (fun W => by go_simp)) ?_
  (try simp only [zP, zN, zA, zB, zC])
  refine ef_ (fun K21 hK21 => ?_)
  refine e_store1 (b := g3) (j := 3) (v := .int .i64 0) (by rfl) rfl rfl (by rfl) (by rfl) Fg3.out (show 3 < 28 by omega) (by kernel_rfl) rfl ?_
  rintro w22 B23 C24
  have C0' := Lib.hid (show Ch [] w w22 from C0.out.trans' C24 (inw_cons (.inr nw8.out) inw_nil))
  have Fg10' := Lib.hid (show Blk w22 g10 (#[.int .i64 0, .int .i64 0, .int .i64 0, .int .i64 0, .int .i64 0, .int .i64 0, .int .i64 0, .int .u64 0, .string ⟨#[]⟩, .slice none 0 0, .slice none 0 0, .slice none 0 0, .int .i64 0, .int .i64 0, .int .i64 0, .int .i64 0, .int .i64 0, .int .i64 0, .int .i64 0, .string ⟨#[]⟩, .slice none 0 0, .int .i64 0, .int .i64 0, .int .i64 0, .int .u64 0, .string ⟨#[]⟩, .slice none 0 0, .slice none 0 0]) 49 from C24.blk Fg10.out (nin_cons (Ne.symm ne16.out) nin_nil))
  clear C0 Fg10
  have C0 := C0'; clear C0'
  have Fg10 := Fg10'; clear Fg10'
  clear Fg3; have Fg3 := Lib.hid (show Blk w22 g3 (#[.int .i64 c, .int .i64 n, .int .i64 a, .int .i64 0, .int .i64 t, x0, x1, x2, x3, x4, x5, x6, x7, x8, x9, x10, x11, x12, x13, x14, x15, x16, x17, x18, x19, x20, x21, x22]) 49 from B23); clear B23 C24
  refine hK21 _ _ ?_; clear hK21 K21
  (try simp only [zP, zN, zA, zB, zC])
  refine pu_ (v := .pointer (some ⟨g3, 5, none⟩)) (y_run (by rfl) (fun W => by go_simp)) ?_
  (try simp only [zP, zN, zA, zB, zC])
  refine ef_ (fun K25 hK25 => ?_)
  refine e_storeP (by rfl) rfl rfl 5 (by rfl) (by rfl) Fg3.out (by kernel_rfl) (by simp) (ones_cons rfl (ones_cons rfl (ones_cons rfl (ones_cons rfl (ones_cons rfl (ones_cons rfl (ones_cons rfl (ones_cons rfl (ones_cons rfl (ones_cons rfl (ones_cons rfl (ones_cons rfl (ones_cons rfl (ones_cons rfl (ones_cons rfl (ones_cons rfl ones_nil)))))))))))))))) ?_
  rintro w26 B27 C28
  have C0' := Lib.hid (show Ch [] w w26 from C0.out.trans' C28 (inw_cons (.inr nw8.out) inw_nil))
  have Fg10' := Lib.hid (show Blk w26 g10 (#[.int .i64 0, .int .i64 0, .int .i64 0, .int .i64 0, .int .i64 0, .int .i64 0, .int .i64 0, .int .u64 0, .string ⟨#[]⟩, .slice none 0 0, .slice none 0 0, .slice none 0 0, .int .i64 0, .int .i64 0, .int .i64 0, .int .i64 0, .int .i64 0, .int .i64 0, .int .i64 0, .string ⟨#[]⟩, .slice none 0 0, .int .i64 0, .int .i64 0, .int .i64 0, .int .u64 0, .string ⟨#[]⟩, .slice none 0 0, .slice none 0 0]) 49 from C28.blk Fg10.out (nin_cons (Ne.symm ne16.out) nin_nil))
  clear C0 Fg10
  have C0 := C0'; clear C0'
  have Fg10 := Fg10'; clear Fg10'
  clear Fg3; have Fg3 := Lib.hid (show Blk w26 g3 (#[.int .i64 c, .int .i64 n, .int .i64 a, .int .i64 0, .int .i64 t, .int .i64 0, .int .i64 0, .int .u64 0, .string ⟨#[]⟩, .slice none 0 0, .slice none 0 0, .slice none 0 0, .int .i64 0, .int .i64 0, .int .i64 0, .int .i64 0, .int .i64 0, .int .i64 0, .int .i64 0, .string ⟨#[]⟩, .slice none 0 0, x16, x17, x18, x19, x20, x21, x22]) 49 from B27); clear B27 C28
  refine hK25 _ _ ?_; clear hK25 K25
  (try simp only [zP, zN, zA, zB, zC])
  refine pu_ (v := .pointer (some ⟨g3, 21, none⟩)) (y_run (by rfl) (fun W => by go_simp)) ?_
  (try simp only [zP, zN, zA, zB, zC])
  refine ef_ (fun K29 hK29 => ?_)
  refine e_storeP (by rfl) rfl rfl 21 (by rfl) (by rfl) Fg3.out (by kernel_rfl) (by simp) (ones_cons rfl (ones_cons rfl (ones_cons rfl (ones_cons rfl (ones_cons rfl (ones_cons rfl (ones_cons rfl ones_nil))))))) ?_
  rintro w30 B31 C32
  have C0' := Lib.hid (show Ch [] w w30 from C0.out.trans' C32 (inw_cons (.inr nw8.out) inw_nil))
  have Fg10' := Lib.hid (show Blk w30 g10 (#[.int .i64 0, .int .i64 0, .int .i64 0, .int .i64 0, .int .i64 0, .int .i64 0, .int .i64 0, .int .u64 0, .string ⟨#[]⟩, .slice none 0 0, .slice none 0 0, .slice none 0 0, .int .i64 0, .int .i64 0, .int .i64 0, .int .i64 0, .int .i64 0, .int .i64 0, .int .i64 0, .string ⟨#[]⟩, .slice none 0 0, .int .i64 0, .int .i64 0, .int .i64 0, .int .u64 0, .string ⟨#[]⟩, .slice none 0 0, .slice none 0 0]) 49 from C32.blk Fg10.out (nin_cons (Ne.symm ne16.out) nin_nil))
  clear C0 Fg10
  have C0 := C0'; clear C0'
  have Fg10 := Fg10'; clear Fg10'
  clear Fg3; have Fg3 := Lib.hid (show Blk w30 g3 (#[.int .i64 c, .int .i64 n, .int .i64 a, .int .i64 0, .int .i64 t, .int .i64 0, .int .i64 0, .int .u64 0, .string ⟨#[]⟩, .slice none 0 0, .slice none 0 0, .slice none 0 0, .int .i64 0, .int .i64 0, .int .i64 0, .int .i64 0, .int .i64 0, .int .i64 0, .int .i64 0, .string ⟨#[]⟩, .slice none 0 0, .int .i64 0, .int .i64 0, .int .i64 0, .int .u64 0, .string ⟨#[]⟩, .slice none 0 0, .slice none 0 0]) 49 from B31); clear B31 C32
  refine hK29 _ _ ?_; clear hK29 K29
  (try simp only [zP, zN, zA, zB, zC])
  refine nl_ ?_
  refine th_norm (hK19 _ _ ?_); try clear hK19 K19
  refine s_ (fun K33 hK33 => ?_)
  refine ld_ (v := .agg (#[.int .i64 c, .int .i64 n, .int .i64 a, .int .i64 0, .int .i64 t, .int .i64 0, .int .i64 0, .int .u64 0, .string ⟨#[]⟩, .slice none 0 0, .slice none 0 0, .slice none 0 0, .int .i64 0, .int .i64 0, .int .i64 0, .int .i64 0, .int .i64 0, .int .i64 0, .int .i64 0, .string ⟨#[]⟩, .slice none 0 0, .int .i64 0, .int .i64 0, .int .i64 0, .int .u64 0, .string ⟨#[]⟩, .slice none 0 0, .slice none 0 0])) rfl (by rfl) (by rfl) (run_loadVar_row _ _ 49 49 (#[.int .i64 c, .int .i64 n, .int .i64 a, .int .i64 0, .int .i64 t, .int .i64 0, .int .i64 0, .int .u64 0, .string ⟨#[]⟩, .slice none 0 0, .slice none 0 0, .slice none 0 0, .int .i64 0, .int .i64 0, .int .i64 0, .int .i64 0, .int .i64 0, .int .i64 0, .int .i64 0, .string ⟨#[]⟩, .slice none 0 0, .int .i64 0, .int .i64 0, .int .i64 0, .int .u64 0, .string ⟨#[]⟩, .slice none 0 0, .slice none 0 0]) (0, 0) _ Fg3.out Try.underlying49 rfl (by kernel_rfl)) ?_
  (try simp only [zP, zN, zA, zB, zC])
  refine ef_ (fun K34 hK34 => ?_)
  refine e_storeN (cells := (#[.int .i64 c, .int .i64 n, .int .i64 a, .int .i64 0, .int .i64 t, .int .i64 0, .int .i64 0, .int .u64 0, .string ⟨#[]⟩, .slice none 0 0, .slice none 0 0, .slice none 0 0, .int .i64 0, .int .i64 0, .int .i64 0, .int .i64 0, .int .i64 0, .int .i64 0, .int .i64 0, .string ⟨#[]⟩, .slice none 0 0, .int .i64 0, .int .i64 0, .int .i64 0, .int .u64 0, .string ⟨#[]⟩, .slice none 0 0, .slice none 0 0])) (by rfl) rfl rfl (by rfl) (by rfl) Fg10.out (by kernel_rfl) (by rfl) (ones_cons rfl (ones_cons rfl (ones_cons rfl (ones_cons rfl (ones_cons rfl (ones_cons rfl (ones_cons rfl (ones_cons rfl (ones_cons rfl (ones_cons rfl (ones_cons rfl (ones_cons rfl (ones_cons rfl (ones_cons rfl (ones_cons rfl (ones_cons rfl (ones_cons rfl (ones_cons rfl (ones_cons rfl (ones_cons rfl (ones_cons rfl (ones_cons rfl (ones_cons rfl (ones_cons rfl (ones_cons rfl (ones_cons rfl (ones_cons rfl (ones_cons rfl ones_nil)))))))))))))))))))))))))))) ?_
  rintro w35 B36 C37
  have C0' := Lib.hid (show Ch [] w w35 from C0.out.trans' C37 (inw_cons (.inr nw15.out) inw_nil))
  have Fg3' := Lib.hid (show Blk w35 g3 (#[.int .i64 c, .int .i64 n, .int .i64 a, .int .i64 0, .int .i64 t, .int .i64 0, .int .i64 0, .int .u64 0, .string ⟨#[]⟩, .slice none 0 0, .slice none 0 0, .slice none 0 0, .int .i64 0, .int .i64 0, .int .i64 0, .int .i64 0, .int .i64 0, .int .i64 0, .int .i64 0, .string ⟨#[]⟩, .slice none 0 0, .int .i64 0, .int .i64 0, .int .i64 0, .int .u64 0, .string ⟨#[]⟩, .slice none 0 0, .slice none 0 0]) 49 from C37.blk Fg3.out (nin_cons ne16.out nin_nil))
  clear C0 Fg3
  have C0 := C0'; clear C0'
  have Fg3 := Fg3'; clear Fg3'
  clear Fg10; have Fg10 := Lib.hid (show Blk w35 g10 ((#[.int .i64 c, .int .i64 n, .int .i64 a, .int .i64 0, .int .i64 t, .int .i64 0, .int .i64 0, .int .u64 0, .string ⟨#[]⟩, .slice none 0 0, .slice none 0 0, .slice none 0 0, .int .i64 0, .int .i64 0, .int .i64 0, .int .i64 0, .int .i64 0, .int .i64 0, .int .i64 0, .string ⟨#[]⟩, .slice none 0 0, .int .i64 0, .int .i64 0, .int .i64 0, .int .u64 0, .string ⟨#[]⟩, .slice none 0 0, .slice none 0 0])) 49 from B36); clear B36 C37
  refine hK34 _ _ ?_; clear hK34 K34
  (try simp only [zP, zN, zA, zB, zC])
  refine nl_ (hK33 _ _ ?_); clear hK33 K33
  refine wp_ret ?_
  refine hQ _ _ _ ?_
  refine bodyPost_ret (res1 rfl (rdv_cell (by rfl) (run_loadVar_row _ _ 49 49 ((#[.int .i64 c, .int .i64 n, .int .i64 a, .int .i64 0, .int .i64 t, .int .i64 0, .int .i64 0, .int .u64 0, .string ⟨#[]⟩, .slice none 0 0, .slice none 0 0, .slice none 0 0, .int .i64 0, .int .i64 0, .int .i64 0, .int .i64 0, .int .i64 0, .int .i64 0, .int .i64 0, .string ⟨#[]⟩, .slice none 0 0, .int .i64 0, .int .i64 0, .int .i64 0, .int .u64 0, .string ⟨#[]⟩, .slice none 0 0, .slice none 0 0])) (0, 0) _ Fg10.out Try.underlying49 rfl (by kernel_rfl)))) rfl ?_
  exact ⟨rfl, C0.out⟩
theorem cut_lit00 (c n a d t : Int) (x0 x1 x2 x3 x4 x5 x6 x7 x8 x9 x10 x11 x12 x13 x14 x15 x16 x17 x18 x19 x20 x21 x22 : Value) (H0 : x0.oneCell' = true) (H1 : x1.oneCell' = true) (H2 : x2.oneCell' = true) (H3 : x3.oneCell' = true) (H4 : x4.oneCell' = true) (H5 : x5.oneCell' = true) (H6 : x6.oneCell' = true) (H7 : x7.oneCell' = true) (H8 : x8.oneCell' = true) (H9 : x9.oneCell' = true) (H10 : x10.oneCell' = true) (H11 : x11.oneCell' = true) (H12 : x12.oneCell' = true) (H13 : x13.oneCell' = true) (H14 : x14.oneCell' = true) (H15 : x15.oneCell' = true) (H16 : x16.oneCell' = true) (H17 : x17.oneCell' = true) (H18 : x18.oneCell' = true) (H19 : x19.oneCell' = true) (H20 : x20.oneCell' = true) (H21 : x21.oneCell' = true) (H22 : x22.oneCell' = true) (q : Int) (HT : Hid (¬ t > q)) (HDD : Hid (¬ d > q))  :
    Calls Try.prog 57 #[.agg #[.int .i64 c, .int .i64 n, .int .i64 a, .int .i64 d, .int .i64 t, x0, x1, x2, x3, x4, x5, x6, x7, x8, x9, x10, x11, x12, x13, x14, x15, x16, x17, x18, x19, x20, x21, x22], .int .i64 q] w fun en w' => en = .returned (.agg #[.int .i64 c, .int .i64 n, .int .i64 a, .int .i64 d, .int .i64 t, x0, x1, x2, x3, x4, x5, x6, x7, x8, x9, x10, x11, x12, x13, x14, x15, x16, x17, x18, x19, x20, x21, x22]) ∧ Ch [] w w' := by
  have C0 := Lib.hid (Ch.refl [] w)
  have D8 := Lib.hid (show decide (t > q) = false from decide_eq_false HT.out)
  have D13 := Lib.hid (show decide (d > q) = false from decide_eq_false HDD.out)
  go_enter Try.func57, Try.ntmps57
  refine q_ (fun Q hQ hP => ?_)
  refine s_ (fun K1 hK1 => ?_)
  refine ef_ (fun K2 hK2 => ?_)
  refine e_boxN (by rfl) rfl rfl (cs := #[.int .i64 c, .int .i64 n, .int .i64 a, .int .i64 d, .int .i64 t, x0, x1, x2, x3, x4, x5, x6, x7, x8, x9, x10, x11, x12, x13, x14, x15, x16, x17, x18, x19, x20, x21, x22]) (v := .agg #[.int .i64 c, .int .i64 n, .int .i64 a, .int .i64 d, .int .i64 t, x0, x1, x2, x3, x4, x5, x6, x7, x8, x9, x10, x11, x12, x13, x14, x15, x16, x17, x18, x19, x20, x21, x22]) (by rfl) rfl ?_
  rintro g3 w4 HG5 B6 C7
  have nw8 := Lib.hid (show w.heap.size ≤ g3 by have := C0.out.size; have := HG5.out; omega)
  have C0' := Lib.hid (show Ch [] w w4 from C0.out.trans' C7 (fun x hx => absurd hx (by simp)))
  clear C0
  have C0 := C0'; clear C0'
  have Fg3 := Lib.hid (show Blk w4 g3 (#[.int .i64 c, .int .i64 n, .int .i64 a, .int .i64 d, .int .i64 t, x0, x1, x2, x3, x4, x5, x6, x7, x8, x9, x10, x11, x12, x13, x14, x15, x16, x17, x18, x19, x20, x21, x22]) 49 from B6); clear B6 C7
  refine hK2 _ _ ?_; clear hK2 K2
  (try simp only [zP, zN, zA, zB, zC])
  refine ef_ (fun K9 hK9 => ?_)
  refine e_alloc (by rfl) rfl rfl (cs := #[.int .i64 0, .int .i64 0, .int .i64 0, .int .i64 0, .int .i64 0, .int .i64 0, .int .i64 0, .int .u64 0, .string ⟨#[]⟩, .slice none 0 0, .slice none 0 0, .slice none 0 0, .int .i64 0, .int .i64 0, .int .i64 0, .int .i64 0, .int .i64 0, .int .i64 0, .int .i64 0, .string ⟨#[]⟩, .slice none 0 0, .int .i64 0, .int .i64 0, .int .i64 0, .int .u64 0, .string ⟨#[]⟩, .slice none 0 0, .slice none 0 0]) (by kernel_rfl) ?_
  rintro g10 w11 HG12 B13 C14
  have nw15 := Lib.hid (show w.heap.size ≤ g10 by have := C0.out.size; have := HG12.out; omega)
  have ne16 := Lib.hid (Fg3.out.ne_new HG12)
  have C0' := Lib.hid (show Ch [] w w11 from C0.out.trans' C14 (fun x hx => absurd hx (by simp)))
  have Fg3' := Lib.hid (show Blk w11 g3 (#[.int .i64 c, .int .i64 n, .int .i64 a, .int .i64 d, .int .i64 t, x0, x1, x2, x3, x4, x5, x6, x7, x8, x9, x10, x11, x12, x13, x14, x15, x16, x17, x18, x19, x20, x21, x22]) 49 from C14.blk Fg3.out nin_nil)
  clear C0 Fg3
  have C0 := C0'; clear C0'
  have Fg3 := Fg3'; clear Fg3'
  have Fg10 := Lib.hid (show Blk w11 g10 (#[.int .i64 0, .int .i64 0, .int .i64 0, .int .i64 0, .int .i64 0, .int .i64 0, .int .i64 0, .int .u64 0, .string ⟨#[]⟩, .slice none 0 0, .slice none 0 0, .slice none 0 0, .int .i64 0, .int .i64 0, .int .i64 0, .int .i64 0, .int .i64 0, .int .i64 0, .int .i64 0, .string ⟨#[]⟩, .slice none 0 0, .int .i64 0, .int .i64 0, .int .i64 0, .int .u64 0, .string ⟨#[]⟩, .slice none 0 0, .slice none 0 0]) 49 from B13); clear B13 C14
  refine hK9 _ _ ?_; clear hK9 K9
  (try simp only [zP, zN, zA, zB, zC])
  refine nl_ (hK1 _ _ ?_); clear hK1 K1
  refine sq_ (fun K17 hK17 => ?_)
  refine s_ (fun K18 hK18 => ?_)
  refine pu_ (v := .pointer (some ⟨g3, 4, none⟩)) (y_run (by rfl) (fun W => by go_simp)) ?_
  (try simp only [zP, zN, zA, zB, zC])
  refine ld_ (v := .int .i64 t) rfl (by rfl) (by rfl) (run_load_one ((Fg3.out.cell 4).trans rfl) Try.underlying3 rfl) ?_
  (try simp only [zP, zN, zA, zB, zC])
  refine pu_ (v := .int .i64 q) (y_move rfl (by rfl) (by rfl)) ?_
  (try simp only [zP, zN, zA, zB, zC])
  refine pu_ (v := .bool false) (y_run (by rfl) (fun W => by have d9 := D8.out; go_simp)) ?_
  (try simp only [zP, zN, zA, zB, zC])
  refine nl_ (hK18 _ _ ?_); clear hK18 K18
  refine wp_cond_false rfl ?_
  refine wp_skip ?_
  refine th_norm (hK17 _ _ ?_); try clear hK17 K17
  refine sq_ (fun K19 hK19 => ?_)
  refine s_ (fun K20 hK20 => ?_)
  refine pu_ (v := .pointer (some ⟨g3, 3, none⟩)) (y_run (by rfl) (fun W => by go_simp)) ?_
  (try simp only [zP, zN, zA, zB, zC])
  refine ld_ (v := .int .i64 d) rfl (by rfl) (by rfl) (run_load_one ((Fg3.out.cell 3).trans rfl) Try.underlying3 rfl) ?_
  (try simp only [zP, zN, zA, zB, zC])
  refine pu_ (v := .int .i64 q) (y_move rfl (by rfl) (by rfl)) ?_
  (try simp only [zP, zN, zA, zB, zC])
  refine pu_ (v := .bool false) (y_run (by rfl) (fun W => by have d9 := D13.out; go_simp)) ?_
  (try simp only [zP, zN, zA, zB, zC])
  refine nl_ (hK20 _ _ ?_); clear hK20 K20
  refine wp_cond_false rfl ?_
  refine wp_skip ?_
  refine th_norm (hK19 _ _ ?_); try clear hK19 K19
  refine s_ (fun K21 hK21 => ?_)
  refine ld_ (v := .agg (#[.int .i64 c, .int .i64 n, .int .i64 a, .int .i64 d, .int .i64 t, x0, x1, x2, x3, x4, x5, x6, x7, x8, x9, x10, x11, x12, x13, x14, x15, x16, x17, x18, x19, x20, x21, x22])) rfl (by rfl) (by rfl) (run_loadVar_row _ _ 49 49 (#[.int .i64 c, .int .i64 n, .int .i64 a, .int .i64 d, .int .i64 t, x0, x1, x2, x3, x4, x5, x6, x7, x8, x9, x10, x11, x12, x13, x14, x15, x16, x17, x18, x19, x20, x21, x22]) (0, 0) _ Fg3.out Try.underlying49 rfl (by kernel_rfl)) ?_
  (try simp only [zP, zN, zA, zB, zC])
  refine ef_ (fun K22 hK22 => ?_)
  refine e_storeN (cells := (#[.int .i64 c, .int .i64 n, .int .i64 a, .int .i64 d, .int .i64 t, x0, x1, x2, x3, x4, x5, x6, x7, x8, x9, x10, x11, x12, x13, x14, x15, x16, x17, x18, x19, x20, x21, x22])) (by rfl) rfl rfl (by rfl) (by rfl) Fg10.out (by kernel_rfl) (by rfl) (ones_cons rfl (ones_cons rfl (ones_cons rfl (ones_cons rfl (ones_cons rfl (ones_cons H0 (ones_cons H1 (ones_cons H2 (ones_cons H3 (ones_cons H4 (ones_cons H5 (ones_cons H6 (ones_cons H7 (ones_cons H8 (ones_cons H9 (ones_cons H10 (ones_cons H11 (ones_cons H12 (ones_cons H13 (ones_cons H14 (ones_cons H15 (ones_cons H16 (ones_cons H17 (ones_cons H18 (ones_cons H19 (ones_cons H20 (ones_cons H21 (ones_cons H22 ones_nil)))))))))))))))))))))))))))) ?_
  rintro w23 B24 C25
  have C0' := Lib.hid (show Ch [] w w23 from C0.out.trans' C25 (inw_cons (.inr nw15.out) inw_nil))
  have Fg3' := Lib.hid (show Blk w23 g3 (#[.int .i64 c, .int .i64 n, .int .i64 a, .int .i64 d, .int .i64 t, x0, x1, x2, x3, x4, x5, x6, x7, x8, x9, x10, x11, x12, x13, x14, x15, x16, x17, x18, x19, x20, x21, x22]) 49 from C25.blk Fg3.out (nin_cons ne16.out nin_nil))
  clear C0 Fg3
  have C0 := C0'; clear C0'
  have Fg3 := Fg3'; clear Fg3'
  clear Fg10; have Fg10 := Lib.hid (show Blk w23 g10 ((#[.int .i64 c, .int .i64 n, .int .i64 a, .int .i64 d, .int .i64 t, x0, x1, x2, x3, x4, x5, x6, x7, x8, x9, x10, x11, x12, x13, x14, x15, x16, x17, x18, x19, x20, x21, x22])) 49 from B24); clear B24 C25
  refine hK22 _ _ ?_; clear hK22 K22
  (try simp only [zP, zN, zA, zB, zC])
  refine nl_ (hK21 _ _ ?_); clear hK21 K21
  refine wp_ret ?_
  refine hQ _ _ _ ?_
  refine bodyPost_ret (res1 rfl (rdv_cell (by rfl) (run_loadVar_row _ _ 49 49 ((#[.int .i64 c, .int .i64 n, .int .i64 a, .int .i64 d, .int .i64 t, x0, x1, x2, x3, x4, x5, x6, x7, x8, x9, x10, x11, x12, x13, x14, x15, x16, x17, x18, x19, x20, x21, x22])) (0, 0) _ Fg10.out Try.underlying49 rfl (by kernel_rfl)))) rfl ?_
  exact ⟨rfl, C0.out⟩
theorem Cut_ {A : Option Addr} {c : Nat} {L : List HOp} {q : Int} (HN : Hid (L.length ≤ 1000)) (SL : Hid (SrcIs w (.slice A L.length c) (L.length) ((L).flatMap opC) 28)) :
    Calls Try.prog 43 #[.slice A L.length c, .int .i64 q] w fun en w' => ∃ v', en = .returned v' ∧ OwnS w' w.heap.size 49 28 v' (cutL L q).length ((cutL L q).flatMap opC) ∧ Ch [] w w' := by
  have C0 := Lib.hid (Ch.refl [] w)
  obtain ⟨i49, I49⟩ := Info.of info49
  go_enter Try.func43, Try.ntmps43
  refine q_ (fun Q hQ hP => ?_)
  refine s_ (fun K1 hK1 => ?_)
  refine pu_ (v := .slice none 0 0) (y_assign rfl (by rfl) (by rfl)) ?_
  (try simp only [zP, zN, zA, zB, zC])
  refine nl_ (hK1 _ _ ?_); clear hK1 K1
  refine s_ (fun K2 hK2 => ?_)
  refine pu_ (v := .slice none 0 0) (y_assign rfl (by rfl) (by rfl)) ?_
  (try simp only [zP, zN, zA, zB, zC])
  refine nl_ (hK2 _ _ ?_); clear hK2 K2
  refine sq_ (fun K3 hK3 => ?_)
  refine s_ (fun K4 hK4 => ?_)
  refine pu_ (v := .slice A L.length c) (y_move rfl (by rfl) (by rfl)) ?_
  (try simp only [zP, zN, zA, zB, zC])
  refine pu_ (v := .int .i64 L.length) (y_run (by rfl) (fun W => by go_simp)) ?_
  (try simp only [zP, zN, zA, zB, zC])
  refine pu_ (v := .int .i64 0) (y_move rfl (by rfl) (by rfl)) ?_
  (try simp only [zP, zN, zA, zB, zC])
  refine nl_ (hK4 _ _ ?_); clear hK4 K4
  refine wp_block ?_
  have OT0 := Lib.hid (show OwnS w w.heap.size 49 28 (.slice none 0 0) 0 ((cutL (L.take 0) q).flatMap opC) from OwnS.nil _ _ _ _ _)
  refine loopk_ (fun (kq : Nat) (a' : Act) (w' : World) => ∃ (k : Nat), ∃ (vt : Value), ∃ (us : Nat → Value), a' = ⟨#[.slice A L.length c, .int .i64 q, us 2, us 3, .slice none 0 0, vt, us 6, us 7, .slice A L.length c, .int .i64 L.length, .int .i64 k, us 11, us 12, us 13, us 14, us 15, us 16, us 17, us 18, us 19, us 20, us 21, us 22, us 23, us 24, us 25], []⟩ ∧ Hid (Ch [] w w') ∧ Hid (SrcIs w' (.slice A L.length c) (L.length) ((L).flatMap opC) 28) ∧ Hid (OwnS w' w.heap.size 49 28 (vt) ((cutL (L.take k) q).length) ((cutL (L.take k) q).flatMap opC)) ∧ Hid (k ≤ L.length ∧ kq + k = L.length) ∧ Hid (∀ k, k ∈ xb (.slice A L.length c) → k ∉ rl vt)) (L.length) (⟨0, _, fun us_ => (#[.slice A L.length c, .int .i64 q, undef, undef, .slice none 0 0, .slice none 0 0, undef, undef, .slice A L.length c, .int .i64 L.length, .int .i64 0, undef, undef, undef, undef, undef, undef, undef, undef, undef, undef, undef, undef, undef, undef, undef] : Array Value).getD us_ undef, rfl, C0, SL, OT0, Lib.hid ⟨by omega, by omega⟩, Lib.hid (fun k _ hm => absurd hm (by simp [rl]))⟩) ?_
  rintro kq _ w5 ⟨k, vt, us, rfl, C0, SL, OT, hk, hxr⟩ K6 hK6
  rcases at_ways hk.out.1 with ⟨o, hlt0, ho0⟩ | h; rcases cut_ways o q with h | h | h | h | h
  · have hlt := Lib.hid hlt0
    have ho := Lib.hid ho0
    have hc := Lib.hid h
    clear hlt0 ho0 h
    obtain ⟨a, hsm_a⟩ := src_some SL.out (by have := hlt.out; omega)
    subst hsm_a
    have D11 := Lib.hid (show (k : Int) < (L.length : Int) by have := hlt.out; omega)
    have Wk := Lib.hid (show IntKind.i64.wrap ((k : Int) + 1) = ((k + 1 : Nat) : Int) by rw [wr64 (by have := hlt.out; have := HN.out; omega)]; omega)
    obtain ⟨x0, x1, x2, x3, x4, x5, x6, x7, x8, x9, x10, x11, x12, x13, x14, x15, hcl0⟩ := lits16 o.cl
    obtain ⟨x16, x17, x18, x19, x20, x21, x22, hrp0⟩ := lits7 o.rp
    have HOL := Lib.hid (show opC o = [.int .i64 o.c, .int .i64 o.n, .int .i64 o.a, .int .i64 o.d, .int .i64 o.t, x0, x1, x2, x3, x4, x5, x6, x7, x8, x9, x10, x11, x12, x13, x14, x15, x16, x17, x18, x19, x20, x21, x22] by simp [opC, hcl0, hrp0])
    have HON := Lib.hid (show ∀ u ∈ [.int .i64 o.c, .int .i64 o.n, .int .i64 o.a, .int .i64 o.d, .int .i64 o.t, x0, x1, x2, x3, x4, x5, x6, x7, x8, x9, x10, x11, x12, x13, x14, x15, x16, x17, x18, x19, x20, x21, x22], u.oneCell' = true from by rw [← HOL.out]; exact opC_one o)
    have HCL := Lib.hid hcl0; have HRP := Lib.hid hrp0; clear hcl0 hrp0
    have D17 := Lib.hid (show decide (o.a ≤ q) = false from decide_eq_false hc.out)
    refine s_ (fun K7 hK7 => ?_)
    refine pu_ (v := .bool true) (y_run (by rfl) (fun W => by have d := D11.out; go_simp)) ?_
    (try simp only [zP, zN, zA, zB, zC])
    refine nl_ (hK7 _ _ ?_); clear hK7 K7
    refine sq_ (fun K8 hK8 => ?_)
    refine wp_cond_true rfl ?_
    refine wp_skip ?_
    refine th_norm (hK8 _ _ ?_); try clear hK8 K8
    refine sq_ (fun K9 hK9 => ?_)
    refine wp_block ?_
    refine s_ (fun K10 hK10 => ?_)
    refine pu_ (v := .pointer (some (a.add (k * 28)))) (y_run (by rfl) (fun W => by have d := D11.out; go_simp)) ?_
    (try simp only [zP, zN, zA, zB, zC])
    refine ld_ (v := .agg #[.int .i64 o.c, .int .i64 o.n, .int .i64 o.a, .int .i64 o.d, .int .i64 o.t, x0, x1, x2, x3, x4, x5, x6, x7, x8, x9, x10, x11, x12, x13, x14, x15, x16, x17, x18, x19, x20, x21, x22]) rfl (by rfl) (by rfl) (run_loadVar_at (by have h := src_elem SL.out ho.out; rw [HOL.out] at h; exact h) Try.underlying49 rfl (by kernel_rfl)) ?_
    (try simp only [zP, zN, zA, zB, zC])
    refine ef_ (fun K11 hK11 => ?_)
    refine e_alloc (by rfl) rfl rfl (cs := #[.int .i64 0, .int .i64 0, .int .i64 0, .int .i64 0, .int .i64 0, .int .i64 0, .int .i64 0, .int .u64 0, .string ⟨#[]⟩, .slice none 0 0, .slice none 0 0, .slice none 0 0, .int .i64 0, .int .i64 0, .int .i64 0, .int .i64 0, .int .i64 0, .int .i64 0, .int .i64 0, .string ⟨#[]⟩, .slice none 0 0, .int .i64 0, .int .i64 0, .int .i64 0, .int .u64 0, .string ⟨#[]⟩, .slice none 0 0, .slice none 0 0]) (by kernel_rfl) ?_
    rintro g12 w13 HG14 B15 C16
    have nw17 := Lib.hid (show w.heap.size ≤ g12 by have := C0.out.size; have := HG14.out; omega)
    have nx18 := Lib.hid (SL.out.ne_new (by decide) HG14)
    have nr19 := Lib.hid (OT.out.ne_new HG14)
    have C0' := Lib.hid (show Ch [] w w13 from C0.out.trans' C16 (fun x hx => absurd hx (by simp)))
    have SL' := Lib.hid (show SrcIs w13 (.slice (some a) L.length c) (L.length) ((L).flatMap opC) 28 from SL.out.chx C16 xnin_nil)
    have OT' := Lib.hid (show OwnS w13 w.heap.size 49 28 (vt) ((cutL (L.take k) q).length) ((cutL (L.take k) q).flatMap opC) from OT.out.ch C16 rnin_nil)
    clear C0 SL OT
    have C0 := C0'; clear C0'
    have SL := SL'; clear SL'
    have OT := OT'; clear OT'
    have Fg12 := Lib.hid (show Blk w13 g12 (#[.int .i64 0, .int .i64 0, .int .i64 0, .int .i64 0, .int .i64 0, .int .i64 0, .int .i64 0, .int .u64 0, .string ⟨#[]⟩, .slice none 0 0, .slice none 0 0, .slice none 0 0, .int .i64 0, .int .i64 0, .int .i64 0, .int .i64 0, .int .i64 0, .int .i64 0, .int .i64 0, .string ⟨#[]⟩, .slice none 0 0, .int .i64 0, .int .i64 0, .int .i64 0, .int .u64 0, .string ⟨#[]⟩, .slice none 0 0, .slice none 0 0]) 49 from B15); clear B15 C16
    refine hK11 _ _ ?_; clear hK11 K11
    (try simp only [zP, zN, zA, zB, zC])
    refine ef_ (fun K20 hK20 => ?_)
    refine e_storeN (cells := #[.int .i64 o.c, .int .i64 o.n, .int .i64 o.a, .int .i64 o.d, .int .i64 o.t, x0, x1, x2, x3, x4, x5, x6, x7, x8, x9, x10, x11, x12, x13, x14, x15, x16, x17, x18, x19, x20, x21, x22]) (by rfl) rfl rfl (by rfl) (by rfl) Fg12.out (by kernel_rfl) (by rfl) (ones_cons rfl (ones_cons rfl (ones_cons rfl (ones_cons rfl (ones_cons rfl (ones_cons (HON.out x0 (by simp)) (ones_cons (HON.out x1 (by simp)) (ones_cons (HON.out x2 (by simp)) (ones_cons (HON.out x3 (by simp)) (ones_cons (HON.out x4 (by simp)) (ones_cons (HON.out x5 (by simp)) (ones_cons (HON.out x6 (by simp)) (ones_cons (HON.out x7 (by simp)) (ones_cons (HON.out x8 (by simp)) (ones_cons (HON.out x9 (by simp)) (ones_cons (HON.out x10 (by simp)) (ones_cons (HON.out x11 (by simp)) (ones_cons (HON.out x12 (by simp)) (ones_cons (HON.out x13 (by simp)) (ones_cons (HON.out x14 (by simp)) (ones_cons (HON.out x15 (by simp)) (ones_cons (HON.out x16 (by simp)) (ones_cons (HON.out x17 (by simp)) (ones_cons (HON.out x18 (by simp)) (ones_cons (HON.out x19 (by simp)) (ones_cons (HON.out x20 (by simp)) (ones_cons (HON.out x21 (by simp)) (ones_cons (HON.out x22 (by simp)) ones_nil)))))))))))))))))))))))))))) ?_
    rintro w21 B22 C23
    have C0' := Lib.hid (show Ch [] w w21 from C0.out.trans' C23 (inw_cons (.inr nw17.out) inw_nil))
    have SL' := Lib.hid (show SrcIs w21 (.slice (some a) L.length c) (L.length) ((L).flatMap opC) 28 from SL.out.chx C23 (xnin_cons nx18.out xnin_nil))
    have OT' := Lib.hid (show OwnS w21 w.heap.size 49 28 (vt) ((cutL (L.take k) q).length) ((cutL (L.take k) q).flatMap opC) from OT.out.ch C23 (rnin_cons nr19.out rnin_nil))
    clear C0 SL OT
    have C0 := C0'; clear C0'
    have SL := SL'; clear SL'
    have OT := OT'; clear OT'
    clear Fg12; have Fg12 := Lib.hid (show Blk w21 g12 (#[.int .i64 o.c, .int .i64 o.n, .int .i64 o.a, .int .i64 o.d, .int .i64 o.t, x0, x1, x2, x3, x4, x5, x6, x7, x8, x9, x10, x11, x12, x13, x14, x15, x16, x17, x18, x19, x20, x21, x22]) 49 from B22); clear B22 C23
    refine hK20 _ _ ?_; clear hK20 K20
    (try simp only [zP, zN, zA, zB, zC])
    refine nl_ (hK10 _ _ ?_); clear hK10 K10
    refine s_ (fun K24 hK24 => ?_)
    refine pu_ (v := .pointer (some ⟨g12, 2, none⟩)) (y_run (by rfl) (fun W => by go_simp)) ?_
    (try simp only [zP, zN, zA, zB, zC])
    refine ld_ (v := .int .i64 o.a) rfl (by rfl) (by rfl) (run_load_one ((Fg12.out.cell 2).trans rfl) Try.underlying3 rfl) ?_
    (try simp only [zP, zN, zA, zB, zC])
    refine pu_ (v := .int .i64 q) (y_move rfl (by rfl) (by rfl)) ?_
    (try simp only [zP, zN, zA, zB, zC])
    refine pu_ (v := .bool false) (y_run (by rfl) (fun W => by have d := D17.out; go_simp)) ?_
    (try simp only [zP, zN, zA, zB, zC])
    refine nl_ (hK24 _ _ ?_); clear hK24 K24
    refine wp_cond_false rfl ?_
    refine wp_skip ?_
    refine ib_norm ?_
    refine th_norm (hK9 _ _ ?_); try clear hK9 K9
    refine r_ ?_
    refine pu_ (v := .int .i64 (k + 1 : Nat)) (y_run (by rfl) (fun W => by have d := Wk.out; go_simp)) ?_
    (try simp only [zP, zN, zA, zB, zC])
    refine pu_ (v := .int .i64 (k + 1 : Nat)) (y_move rfl (by rfl) (by rfl)) ?_
    (try simp only [zP, zN, zA, zB, zC])
    refine nl_ ?_
    exact th_norm (hK6 (kq - 1) _ _ (by have := hlt.out; have := hk.out; omega) ⟨k + 1, _, fun us_ => (#[.slice (some a) L.length c, .int .i64 q, us 2, us 3, .slice none 0 0, vt, us 6, .pointer (some ⟨g12, 0, none⟩), .slice (some a) L.length c, .int .i64 L.length, .int .i64 (k + 1 : Nat), .bool true, .pointer (some (a.add (k * 28))), .agg #[.int .i64 o.c, .int .i64 o.n, .int .i64 o.a, .int .i64 o.d, .int .i64 o.t, x0, x1, x2, x3, x4, x5, x6, x7, x8, x9, x10, x11, x12, x13, x14, x15, x16, x17, x18, x19, x20, x21, x22], .pointer (some ⟨g12, 2, none⟩), .int .i64 o.a, .int .i64 q, .bool false, us 18, us 19, us 20, us 21, us 22, us 23, .int .i64 (k + 1 : Nat), us 25] : Array Value).getD us_ undef, rfl, C0, SL, Lib.hid (by have h := OT.out; rw [cut_no ho.out hc.out]; exact h), Lib.hid ⟨by have := hlt.out; omega, by have := hlt.out; have := hk.out; omega⟩, Lib.hid (hxr.out)⟩)
  · have hlt := Lib.hid hlt0
    have ho := Lib.hid ho0
    have hc := Lib.hid h
    clear hlt0 ho0 h
    obtain ⟨a, hsm_a⟩ := src_some SL.out (by have := hlt.out; omega)
    subst hsm_a
    have D11 := Lib.hid (show (k : Int) < (L.length : Int) by have := hlt.out; omega)
    have Wk := Lib.hid (show IntKind.i64.wrap ((k : Int) + 1) = ((k + 1 : Nat) : Int) by rw [wr64 (by have := hlt.out; have := HN.out; omega)]; omega)
    obtain ⟨x0, x1, x2, x3, x4, x5, x6, x7, x8, x9, x10, x11, x12, x13, x14, x15, hcl0⟩ := lits16 o.cl
    obtain ⟨x16, x17, x18, x19, x20, x21, x22, hrp0⟩ := lits7 o.rp
    have HOL := Lib.hid (show opC o = [.int .i64 o.c, .int .i64 o.n, .int .i64 o.a, .int .i64 o.d, .int .i64 o.t, x0, x1, x2, x3, x4, x5, x6, x7, x8, x9, x10, x11, x12, x13, x14, x15, x16, x17, x18, x19, x20, x21, x22] by simp [opC, hcl0, hrp0])
    have HON := Lib.hid (show ∀ u ∈ [.int .i64 o.c, .int .i64 o.n, .int .i64 o.a, .int .i64 o.d, .int .i64 o.t, x0, x1, x2, x3, x4, x5, x6, x7, x8, x9, x10, x11, x12, x13, x14, x15, x16, x17, x18, x19, x20, x21, x22], u.oneCell' = true from by rw [← HOL.out]; exact opC_one o)
    have HCL := Lib.hid hcl0; have HRP := Lib.hid hrp0; clear hcl0 hrp0
    have D17 := Lib.hid (show decide (o.a ≤ q) = true from decide_eq_true hc.out.1)
    have HCO := Lib.hid (show opC (cutO o q) = [.int .i64 o.c, .int .i64 o.n, .int .i64 o.a, .int .i64 0, .int .i64 0, .int .i64 0, .int .i64 0, .int .u64 0, .string ⟨#[]⟩, .slice none 0 0, .slice none 0 0, .slice none 0 0, .int .i64 0, .int .i64 0, .int .i64 0, .int .i64 0, .int .i64 0, .int .i64 0, .int .i64 0, .string ⟨#[]⟩, .slice none 0 0, .int .i64 0, .int .i64 0, .int .i64 0, .int .u64 0, .string ⟨#[]⟩, .slice none 0 0, .slice none 0 0] by unfold cutO; simp only [hc.out.2.1, hc.out.2.2, if_true, if_false]; simp [opC, HCL.out, HRP.out, ZC, ZR])
    have HCN := Lib.hid (show ∀ u ∈ ([.int .i64 o.c, .int .i64 o.n, .int .i64 o.a, .int .i64 0, .int .i64 0, .int .i64 0, .int .i64 0, .int .u64 0, .string ⟨#[]⟩, .slice none 0 0, .slice none 0 0, .slice none 0 0, .int .i64 0, .int .i64 0, .int .i64 0, .int .i64 0, .int .i64 0, .int .i64 0, .int .i64 0, .string ⟨#[]⟩, .slice none 0 0, .int .i64 0, .int .i64 0, .int .i64 0, .int .u64 0, .string ⟨#[]⟩, .slice none 0 0, .slice none 0 0] : List Value), u.oneCell' = true from by rw [← HCO.out]; exact opC_one _)
    refine s_ (fun K25 hK25 => ?_)
    refine pu_ (v := .bool true) (y_run (by rfl) (fun W => by have d := D11.out; go_simp)) ?_
    (try simp only [zP, zN, zA, zB, zC])
    refine nl_ (hK25 _ _ ?_); clear hK25 K25
    refine sq_ (fun K26 hK26 => ?_)
    refine wp_cond_true rfl ?_
    refine wp_skip ?_
    refine th_norm (hK26 _ _ ?_); try clear hK26 K26
    refine sq_ (fun K27 hK27 => ?_)
    refine wp_block ?_
    refine s_ (fun K28 hK28 => ?_)
    refine pu_ (v := .pointer (some (a.add (k * 28)))) (y_run (by rfl) (fun W => by have d := D11.out; go_simp)) ?_
    (try simp only [zP, zN, zA, zB, zC])
    refine ld_ (v := .agg #[.int .i64 o.c, .int .i64 o.n, .int .i64 o.a, .int .i64 o.d, .int .i64 o.t, x0, x1, x2, x3, x4, x5, x6, x7, x8, x9, x10, x11, x12, x13, x14, x15, x16, x17, x18, x19, x20, x21, x22]) rfl (by rfl) (by rfl) (run_loadVar_at (by have h := src_elem SL.out ho.out; rw [HOL.out] at h; exact h) Try.underlying49 rfl (by kernel_rfl)) ?_
    (try simp only [zP, zN, zA, zB, zC])
    refine ef_ (fun K29 hK29 => ?_)
    refine e_alloc (by rfl) rfl rfl (cs := #[.int .i64 0, .int .i64 0, .int .i64 0, .int .i64 0, .int .i64 0, .int .i64 0, .int .i64 0, .int .u64 0, .string ⟨#[]⟩, .slice none 0 0, .slice none 0 0, .slice none 0 0, .int .i64 0, .int .i64 0, .int .i64 0, .int .i64 0, .int .i64 0, .int .i64 0, .int .i64 0, .string ⟨#[]⟩, .slice none 0 0, .int .i64 0, .int .i64 0, .int .i64 0, .int .u64 0, .string ⟨#[]⟩, .slice none 0 0, .slice none 0 0]) (by kernel_rfl) ?_
    rintro g30 w31 HG32 B33 C34
    have nw35 := Lib.hid (show w.heap.size ≤ g30 by have := C0.out.size; have := HG32.out; omega)
    have nx36 := Lib.hid (SL.out.ne_new (by decide) HG32)
    have nr37 := Lib.hid (OT.out.ne_new HG32)
    have C0' := Lib.hid (show Ch [] w w31 from C0.out.trans' C34 (fun x hx => absurd hx (by simp)))
    have SL' := Lib.hid (show SrcIs w31 (.slice (some a) L.length c) (L.length) ((L).flatMap opC) 28 from SL.out.chx C34 xnin_nil)
    have OT' := Lib.hid (show OwnS w31 w.heap.size 49 28 (vt) ((cutL (L.take k) q).length) ((cutL (L.take k) q).flatMap opC) from OT.out.ch C34 rnin_nil)
    clear C0 SL OT
    have C0 := C0'; clear C0'
    have SL := SL'; clear SL'
    have OT := OT'; clear OT'
    have Fg30 := Lib.hid (show Blk w31 g30 (#[.int .i64 0, .int .i64 0, .int .i64 0, .int .i64 0, .int .i64 0, .int .i64 0, .int .i64 0, .int .u64 0, .string ⟨#[]⟩, .slice none 0 0, .slice none 0 0, .slice none 0 0, .int .i64 0, .int .i64 0, .int .i64 0, .int .i64 0, .int .i64 0, .int .i64 0, .int .i64 0, .string ⟨#[]⟩, .slice none 0 0, .int .i64 0, .int .i64 0, .int .i64 0, .int .u64 0, .string ⟨#[]⟩, .slice none 0 0, .slice none 0 0]) 49 from B33); clear B33 C34
    refine hK29 _ _ ?_; clear hK29 K29
    (try simp only [zP, zN, zA, zB, zC])
    refine ef_ (fun K38 hK38 => ?_)
    refine e_storeN (cells := #[.int .i64 o.c, .int .i64 o.n, .int .i64 o.a, .int .i64 o.d, .int .i64 o.t, x0, x1, x2, x3, x4, x5, x6, x7, x8, x9, x10, x11, x12, x13, x14, x15, x16, x17, x18, x19, x20, x21, x22]) (by rfl) rfl rfl (by rfl) (by rfl) Fg30.out (by kernel_rfl) (by rfl) (ones_cons rfl (ones_cons rfl (ones_cons rfl (ones_cons rfl (ones_cons rfl (ones_cons (HON.out x0 (by simp)) (ones_cons (HON.out x1 (by simp)) (ones_cons (HON.out x2 (by simp)) (ones_cons (HON.out x3 (by simp)) (ones_cons (HON.out x4 (by simp)) (ones_cons (HON.out x5 (by simp)) (ones_cons (HON.out x6 (by simp)) (ones_cons (HON.out x7 (by simp)) (ones_cons (HON.out x8 (by simp)) (ones_cons (HON.out x9 (by simp)) (ones_cons (HON.out x10 (by simp)) (ones_cons (HON.out x11 (by simp)) (ones_cons (HON.out x12 (by simp)) (ones_cons (HON.out x13 (by simp)) (ones_cons (HON.out x14 (by simp)) (ones_cons (HON.out x15 (by simp)) (ones_cons (HON.out x16 (by simp)) (ones_cons (HON.out x17 (by simp)) (ones_cons (HON.out x18 (by simp)) (ones_cons (HON.out x19 (by simp)) (ones_cons (HON.out x20 (by simp)) (ones_cons (HON.out x21 (by simp)) (ones_cons (HON.out x22 (by simp)) ones_nil)))))))))))))))))))))))))))) ?_
    rintro w39 B40 C41
    have C0' := Lib.hid (show Ch [] w w39 from C0.out.trans' C41 (inw_cons (.inr nw35.out) inw_nil))
    have SL' := Lib.hid (show SrcIs w39 (.slice (some a) L.length c) (L.length) ((L).flatMap opC) 28 from SL.out.chx C41 (xnin_cons nx36.out xnin_nil))
    have OT' := Lib.hid (show OwnS w39 w.heap.size 49 28 (vt) ((cutL (L.take k) q).length) ((cutL (L.take k) q).flatMap opC) from OT.out.ch C41 (rnin_cons nr37.out rnin_nil))
    clear C0 SL OT
    have C0 := C0'; clear C0'
    have SL := SL'; clear SL'
    have OT := OT'; clear OT'
    clear Fg30; have Fg30 := Lib.hid (show Blk w39 g30 (#[.int .i64 o.c, .int .i64 o.n, .int .i64 o.a, .int .i64 o.d, .int .i64 o.t, x0, x1, x2, x3, x4, x5, x6, x7, x8, x9, x10, x11, x12, x13, x14, x15, x16, x17, x18, x19, x20, x21, x22]) 49 from B40); clear B40 C41
    refine hK38 _ _ ?_; clear hK38 K38
    (try simp only [zP, zN, zA, zB, zC])
    refine nl_ (hK28 _ _ ?_); clear hK28 K28
    refine s_ (fun K42 hK42 => ?_)
    refine pu_ (v := .pointer (some ⟨g30, 2, none⟩)) (y_run (by rfl) (fun W => by go_simp)) ?_
    (try simp only [zP, zN, zA, zB, zC])
    refine ld_ (v := .int .i64 o.a) rfl (by rfl) (by rfl) (run_load_one ((Fg30.out.cell 2).trans rfl) Try.underlying3 rfl) ?_
    (try simp only [zP, zN, zA, zB, zC])
    refine pu_ (v := .int .i64 q) (y_move rfl (by rfl) (by rfl)) ?_
    (try simp only [zP, zN, zA, zB, zC])
    refine pu_ (v := .bool true) (y_run (by rfl) (fun W => by have d := D17.out; go_simp)) ?_
    (try simp only [zP, zN, zA, zB, zC])
    refine nl_ (hK42 _ _ ?_); clear hK42 K42
    refine wp_cond_true rfl ?_
    refine r_ ?_
    refine pu_ (v := vt) (y_move rfl (by rfl) (by rfl)) ?_
    (try simp only [zP, zN, zA, zB, zC])
    refine ld_ (v := .agg (#[.int .i64 o.c, .int .i64 o.n, .int .i64 o.a, .int .i64 o.d, .int .i64 o.t, x0, x1, x2, x3, x4, x5, x6, x7, x8, x9, x10, x11, x12, x13, x14, x15, x16, x17, x18, x19, x20, x21, x22])) rfl (by rfl) (by rfl) (run_loadVar_row _ _ 49 49 (#[.int .i64 o.c, .int .i64 o.n, .int .i64 o.a, .int .i64 o.d, .int .i64 o.t, x0, x1, x2, x3, x4, x5, x6, x7, x8, x9, x10, x11, x12, x13, x14, x15, x16, x17, x18, x19, x20, x21, x22]) (0, 0) _ Fg30.out Try.underlying49 rfl (by kernel_rfl)) ?_
    (try simp only [zP, zN, zA, zB, zC])
    refine pu_ (v := .int .i64 q) (y_move rfl (by rfl) (by rfl)) ?_
    (try simp only [zP, zN, zA, zB, zC])
    refine ef_ (fun K43 hK43 => ?_)
    refine e_call Try.func57 (by kernel_rfl) rfl #[.agg (#[.int .i64 o.c, .int .i64 o.n, .int .i64 o.a, .int .i64 o.d, .int .i64 o.t, x0, x1, x2, x3, x4, x5, x6, x7, x8, x9, x10, x11, x12, x13, x14, x15, x16, x17, x18, x19, x20, x21, x22]), .int .i64 q] (by rfl) rfl rfl (by first | rfl | (simp only [List.map_toArray, List.map_cons, List.map_nil]; first | done | rfl)) ((cut_lit11 o.c o.n o.a o.d o.t x0 x1 x2 x3 x4 x5 x6 x7 x8 x9 x10 x11 x12 x13 x14 x15 x16 x17 x18 x19 x20 x21 x22 (HON.out x0 (by simp)) (HON.out x1 (by simp)) (HON.out x2 (by simp)) (HON.out x3 (by simp)) (HON.out x4 (by simp)) (HON.out x5 (by simp)) (HON.out x6 (by simp)) (HON.out x7 (by simp)) (HON.out x8 (by simp)) (HON.out x9 (by simp)) (HON.out x10 (by simp)) (HON.out x11 (by simp)) (HON.out x12 (by simp)) (HON.out x13 (by simp)) (HON.out x14 (by simp)) (HON.out x15 (by simp)) (HON.out x16 (by simp)) (HON.out x17 (by simp)) (HON.out x18 (by simp)) (HON.out x19 (by simp)) (HON.out x20 (by simp)) (HON.out x21 (by simp)) (HON.out x22 (by simp)) q (Lib.hid hc.out.2.1) (Lib.hid hc.out.2.2))) ?_
    rintro en w45 ⟨rfl, cc44⟩
    refine ⟨_, rfl, ?_⟩
    have C0' := Lib.hid (show Ch [] w w45 from C0.out.trans' cc44 (fun x hx => absurd hx (by simp)))
    have SL' := Lib.hid (show SrcIs w45 (.slice (some a) L.length c) (L.length) ((L).flatMap opC) 28 from SL.out.chx cc44 xnin_nil)
    have OT' := Lib.hid (show OwnS w45 w.heap.size 49 28 (vt) ((cutL (L.take k) q).length) ((cutL (L.take k) q).flatMap opC) from OT.out.ch cc44 rnin_nil)
    have Fg30' := Lib.hid (show Blk w45 g30 (#[.int .i64 o.c, .int .i64 o.n, .int .i64 o.a, .int .i64 o.d, .int .i64 o.t, x0, x1, x2, x3, x4, x5, x6, x7, x8, x9, x10, x11, x12, x13, x14, x15, x16, x17, x18, x19, x20, x21, x22]) 49 from cc44.blk Fg30.out nin_nil)
    clear C0 SL OT Fg30
    have C0 := C0'; clear C0'
    have SL := SL'; clear SL'
    have OT := OT'; clear OT'
    have Fg30 := Fg30'; clear Fg30'
    clear cc44
    refine hK43 _ _ ?_; clear hK43 K43
    (try simp only [zP, zN, zA, zB, zC])
    refine ef_ (fun K46 hK46 => ?_)
    refine e_buildS (parts := #[(0, .agg #[.int .i64 o.c, .int .i64 o.n, .int .i64 o.a, .int .i64 0, .int .i64 0, .int .i64 0, .int .i64 0, .int .u64 0, .string ⟨#[]⟩, .slice none 0 0, .slice none 0 0, .slice none 0 0, .int .i64 0, .int .i64 0, .int .i64 0, .int .i64 0, .int .i64 0, .int .i64 0, .int .i64 0, .string ⟨#[]⟩, .slice none 0 0, .int .i64 0, .int .i64 0, .int .i64 0, .int .u64 0, .string ⟨#[]⟩, .slice none 0 0, .slice none 0 0])]) (cells := #[.int .i64 o.c, .int .i64 o.n, .int .i64 o.a, .int .i64 0, .int .i64 0, .int .i64 0, .int .i64 0, .int .u64 0, .string ⟨#[]⟩, .slice none 0 0, .slice none 0 0, .slice none 0 0, .int .i64 0, .int .i64 0, .int .i64 0, .int .i64 0, .int .i64 0, .int .i64 0, .int .i64 0, .string ⟨#[]⟩, .slice none 0 0, .int .i64 0, .int .i64 0, .int .i64 0, .int .u64 0, .string ⟨#[]⟩, .slice none 0 0, .slice none 0 0]) (by rfl) rfl rfl (by first | rfl | (simp only [List.map_toArray, List.map_cons, List.map_nil]; first | done | rfl)) Try.underlying45 I49.hi I49.hz I49.hs (by decide) (by decide) (by kernel_rfl) ?_
    rintro g47 w48 HG49 B50 C51
    have nw52 := Lib.hid (show w.heap.size ≤ g47 by have := C0.out.size; have := HG49.out; omega)
    have nx53 := Lib.hid (SL.out.ne_new (by decide) HG49)
    have nr54 := Lib.hid (OT.out.ne_new HG49)
    have ne55 := Lib.hid (Fg30.out.ne_new HG49)
    have C0' := Lib.hid (show Ch [] w w48 from C0.out.trans' C51 (fun x hx => absurd hx (by simp)))
    have SL' := Lib.hid (show SrcIs w48 (.slice (some a) L.length c) (L.length) ((L).flatMap opC) 28 from SL.out.chx C51 xnin_nil)
    have OT' := Lib.hid (show OwnS w48 w.heap.size 49 28 (vt) ((cutL (L.take k) q).length) ((cutL (L.take k) q).flatMap opC) from OT.out.ch C51 rnin_nil)
    have Fg30' := Lib.hid (show Blk w48 g30 (#[.int .i64 o.c, .int .i64 o.n, .int .i64 o.a, .int .i64 o.d, .int .i64 o.t, x0, x1, x2, x3, x4, x5, x6, x7, x8, x9, x10, x11, x12, x13, x14, x15, x16, x17, x18, x19, x20, x21, x22]) 49 from C51.blk Fg30.out nin_nil)
    clear C0 SL OT Fg30
    have C0 := C0'; clear C0'
    have SL := SL'; clear SL'
    have OT := OT'; clear OT'
    have Fg30 := Fg30'; clear Fg30'
    have Fg47 := Lib.hid (show Blk w48 g47 (#[.int .i64 o.c, .int .i64 o.n, .int .i64 o.a, .int .i64 0, .int .i64 0, .int .i64 0, .int .i64 0, .int .u64 0, .string ⟨#[]⟩, .slice none 0 0, .slice none 0 0, .slice none 0 0, .int .i64 0, .int .i64 0, .int .i64 0, .int .i64 0, .int .i64 0, .int .i64 0, .int .i64 0, .string ⟨#[]⟩, .slice none 0 0, .int .i64 0, .int .i64 0, .int .i64 0, .int .u64 0, .string ⟨#[]⟩, .slice none 0 0, .slice none 0 0]) 49 from B50); clear B50 C51
    refine hK46 _ _ ?_; clear hK46 K46
    (try simp only [zP, zN, zA, zB, zC])
    refine ef_ (fun K56 hK56 => ?_)
    refine e_append (by rfl) rfl rfl (w.heap.size) 49 _ _ 28 344 Try.underlying45 I49.hi I49.hz I49.hs I49.hb rfl (by decide) (vt) ((cutL (L.take k) q).length) ((cutL (L.take k) q).flatMap opC) (by rfl) OT.out (.slice (some ⟨g47, 0, none⟩) 1 1) 1 ([.int .i64 o.c, .int .i64 o.n, .int .i64 o.a, .int .i64 0, .int .i64 0, .int .i64 0, .int .i64 0, .int .u64 0, .string ⟨#[]⟩, .slice none 0 0, .slice none 0 0, .slice none 0 0, .int .i64 0, .int .i64 0, .int .i64 0, .int .i64 0, .int .i64 0, .int .i64 0, .int .i64 0, .string ⟨#[]⟩, .slice none 0 0, .int .i64 0, .int .i64 0, .int .i64 0, .int .u64 0, .string ⟨#[]⟩, .slice none 0 0, .slice none 0 0]) (by rfl) ⟨rfl, .inr ⟨_, _, rfl, CellsAt.blk Fg47.out 0⟩⟩ HCN.out (by have h8 := cut_len (L.take k) q; rw [List.length_take] at h8; have := HN.out; unfold maxLen; omega) (by have h8 := cut_len (L.take k) q; rw [List.length_take] at h8; have := HN.out; omega) C0.out.size ?_
    rintro v57 w58 O59 C60 R61 -
    have xr63 := Lib.hid (show ∀ k, k ∈ xb (.slice (some a) L.length c) → k ∉ rl v57 from fun k hk hm => (R61 k hm).elim (fun h => hxr.out k hk h) (fun h => by have := SL.out.lt (by decide) k hk; omega))
    have nr64 := Lib.hid (show g30 ∉ rl v57 from fun hk => (R61 _ hk).elim nr37.out (fun h => by have := Fg30.out.lt; omega))
    have nr65 := Lib.hid (show g47 ∉ rl v57 from fun hk => (R61 _ hk).elim nr54.out (fun h => by have := Fg47.out.lt; omega))
    have C0' := Lib.hid (show Ch [] w w58 from C0.out.trans' C60 (fun x hx => .inr (OT.out.lt x hx).1))
    have SL' := Lib.hid (show SrcIs w58 (.slice (some a) L.length c) (L.length) ((L).flatMap opC) 28 from SL.out.chx C60 hxr.out)
    have Fg30' := Lib.hid (show Blk w58 g30 (#[.int .i64 o.c, .int .i64 o.n, .int .i64 o.a, .int .i64 o.d, .int .i64 o.t, x0, x1, x2, x3, x4, x5, x6, x7, x8, x9, x10, x11, x12, x13, x14, x15, x16, x17, x18, x19, x20, x21, x22]) 49 from C60.blk Fg30.out nr37.out)
    have Fg47' := Lib.hid (show Blk w58 g47 (#[.int .i64 o.c, .int .i64 o.n, .int .i64 o.a, .int .i64 0, .int .i64 0, .int .i64 0, .int .i64 0, .int .u64 0, .string ⟨#[]⟩, .slice none 0 0, .slice none 0 0, .slice none 0 0, .int .i64 0, .int .i64 0, .int .i64 0, .int .i64 0, .int .i64 0, .int .i64 0, .int .i64 0, .string ⟨#[]⟩, .slice none 0 0, .int .i64 0, .int .i64 0, .int .i64 0, .int .u64 0, .string ⟨#[]⟩, .slice none 0 0, .slice none 0 0]) 49 from C60.blk Fg47.out nr54.out)
    clear C0 SL Fg30 Fg47
    have C0 := C0'; clear C0'
    have SL := SL'; clear SL'
    have Fg30 := Fg30'; clear Fg30'
    have Fg47 := Fg47'; clear Fg47'
    clear OT
    have OT := Lib.hid (show OwnS w58 w.heap.size 49 28 (v57) ((cutL (L.take k) q).length + 1) ((cutL (L.take k) q).flatMap opC ++ [.int .i64 o.c, .int .i64 o.n, .int .i64 o.a, .int .i64 0, .int .i64 0, .int .i64 0, .int .i64 0, .int .u64 0, .string ⟨#[]⟩, .slice none 0 0, .slice none 0 0, .slice none 0 0, .int .i64 0, .int .i64 0, .int .i64 0, .int .i64 0, .int .i64 0, .int .i64 0, .int .i64 0, .string ⟨#[]⟩, .slice none 0 0, .int .i64 0, .int .i64 0, .int .i64 0, .int .u64 0, .string ⟨#[]⟩, .slice none 0 0, .slice none 0 0]) from O59); clear O59 C60
    refine hK56 _ _ ?_; clear hK56 K56
    (try simp only [zP, zN, zA, zB, zC])
    refine pu_ (v := v57) (y_assign rfl (by rfl) (by rfl)) ?_
    (try simp only [zP, zN, zA, zB, zC])
    refine nl_ ?_
    refine ib_norm ?_
    refine th_norm (hK27 _ _ ?_); try clear hK27 K27
    refine r_ ?_
    refine pu_ (v := .int .i64 (k + 1 : Nat)) (y_run (by rfl) (fun W => by have d := Wk.out; go_simp)) ?_
    (try simp only [zP, zN, zA, zB, zC])
    refine pu_ (v := .int .i64 (k + 1 : Nat)) (y_move rfl (by rfl) (by rfl)) ?_
    (try simp only [zP, zN, zA, zB, zC])
    refine nl_ ?_
    exact th_norm (hK6 (kq - 1) _ _ (by have := hlt.out; have := hk.out; omega) ⟨k + 1, _, fun us_ => (#[.slice (some a) L.length c, .int .i64 q, us 2, us 3, .slice none 0 0, v57, us 6, .pointer (some ⟨g30, 0, none⟩), .slice (some a) L.length c, .int .i64 L.length, .int .i64 (k + 1 : Nat), .bool true, .pointer (some (a.add (k * 28))), .agg #[.int .i64 o.c, .int .i64 o.n, .int .i64 o.a, .int .i64 o.d, .int .i64 o.t, x0, x1, x2, x3, x4, x5, x6, x7, x8, x9, x10, x11, x12, x13, x14, x15, x16, x17, x18, x19, x20, x21, x22], .pointer (some ⟨g30, 2, none⟩), .int .i64 o.a, .int .i64 q, .bool true, vt, .agg (#[.int .i64 o.c, .int .i64 o.n, .int .i64 o.a, .int .i64 o.d, .int .i64 o.t, x0, x1, x2, x3, x4, x5, x6, x7, x8, x9, x10, x11, x12, x13, x14, x15, x16, x17, x18, x19, x20, x21, x22]), .int .i64 q, .agg #[.int .i64 o.c, .int .i64 o.n, .int .i64 o.a, .int .i64 0, .int .i64 0, .int .i64 0, .int .i64 0, .int .u64 0, .string ⟨#[]⟩, .slice none 0 0, .slice none 0 0, .slice none 0 0, .int .i64 0, .int .i64 0, .int .i64 0, .int .i64 0, .int .i64 0, .int .i64 0, .int .i64 0, .string ⟨#[]⟩, .slice none 0 0, .int .i64 0, .int .i64 0, .int .i64 0, .int .u64 0, .string ⟨#[]⟩, .slice none 0 0, .slice none 0 0], .slice (some ⟨g47, 0, none⟩) 1 1, v57, .int .i64 (k + 1 : Nat), us 25] : Array Value).getD us_ undef, rfl, C0, SL, Lib.hid (by have h := OT.out; rw [← HCO.out] at h; rw [cut_yes ho.out hc.out.1, List.flatMap_append, List.length_append, List.flatMap_cons, List.flatMap_nil, List.append_nil]; exact h), Lib.hid ⟨by have := hlt.out; omega, by have := hlt.out; have := hk.out; omega⟩, Lib.hid (xr63.out)⟩)
  · have hlt := Lib.hid hlt0
    have ho := Lib.hid ho0
    have hc := Lib.hid h
    clear hlt0 ho0 h
    obtain ⟨a, hsm_a⟩ := src_some SL.out (by have := hlt.out; omega)
    subst hsm_a
    have D11 := Lib.hid (show (k : Int) < (L.length : Int) by have := hlt.out; omega)
    have Wk := Lib.hid (show IntKind.i64.wrap ((k : Int) + 1) = ((k + 1 : Nat) : Int) by rw [wr64 (by have := hlt.out; have := HN.out; omega)]; omega)
    obtain ⟨x0, x1, x2, x3, x4, x5, x6, x7, x8, x9, x10, x11, x12, x13, x14, x15, hcl0⟩ := lits16 o.cl
    obtain ⟨x16, x17, x18, x19, x20, x21, x22, hrp0⟩ := lits7 o.rp
    have HOL := Lib.hid (show opC o = [.int .i64 o.c, .int .i64 o.n, .int .i64 o.a, .int .i64 o.d, .int .i64 o.t, x0, x1, x2, x3, x4, x5, x6, x7, x8, x9, x10, x11, x12, x13, x14, x15, x16, x17, x18, x19, x20, x21, x22] by simp [opC, hcl0, hrp0])
    have HON := Lib.hid (show ∀ u ∈ [.int .i64 o.c, .int .i64 o.n, .int .i64 o.a, .int .i64 o.d, .int .i64 o.t, x0, x1, x2, x3, x4, x5, x6, x7, x8, x9, x10, x11, x12, x13, x14, x15, x16, x17, x18, x19, x20, x21, x22], u.oneCell' = true from by rw [← HOL.out]; exact opC_one o)
    have HCL := Lib.hid hcl0; have HRP := Lib.hid hrp0; clear hcl0 hrp0
    have D17 := Lib.hid (show decide (o.a ≤ q) = true from decide_eq_true hc.out.1)
    have HCO := Lib.hid (show opC (cutO o q) = [.int .i64 o.c, .int .i64 o.n, .int .i64 o.a, .int .i64 o.d, .int .i64 0, x0, x1, x2, x3, x4, x5, x6, x7, x8, x9, x10, x11, x12, x13, x14, x15, x16, x17, x18, x19, x20, x21, x22] by unfold cutO; simp only [hc.out.2.1, hc.out.2.2, if_true, if_false]; simp [opC, HCL.out, HRP.out, ZC, ZR])
    have HCN := Lib.hid (show ∀ u ∈ ([.int .i64 o.c, .int .i64 o.n, .int .i64 o.a, .int .i64 o.d, .int .i64 0, x0, x1, x2, x3, x4, x5, x6, x7, x8, x9, x10, x11, x12, x13, x14, x15, x16, x17, x18, x19, x20, x21, x22] : List Value), u.oneCell' = true from by rw [← HCO.out]; exact opC_one _)
    refine s_ (fun K66 hK66 => ?_)
    refine pu_ (v := .bool true) (y_run (by rfl) (fun W => by have d := D11.out; go_simp)) ?_
    (try simp only [zP, zN, zA, zB, zC])
    refine nl_ (hK66 _ _ ?_); clear hK66 K66
    refine sq_ (fun K67 hK67 => ?_)
    refine wp_cond_true rfl ?_
    refine wp_skip ?_
    refine th_norm (hK67 _ _ ?_); try clear hK67 K67
    refine sq_ (fun K68 hK68 => ?_)
    refine wp_block ?_
    refine s_ (fun K69 hK69 => ?_)
    refine pu_ (v := .pointer (some (a.add (k * 28)))) (y_run (by rfl) (fun W => by have d := D11.out; go_simp)) ?_
    (try simp only [zP, zN, zA, zB, zC])
    refine ld_ (v := .agg #[.int .i64 o.c, .int .i64 o.n, .int .i64 o.a, .int .i64 o.d, .int .i64 o.t, x0, x1, x2, x3, x4, x5, x6, x7, x8, x9, x10, x11, x12, x13, x14, x15, x16, x17, x18, x19, x20, x21, x22]) rfl (by rfl) (by rfl) (run_loadVar_at (by have h := src_elem SL.out ho.out; rw [HOL.out] at h; exact h) Try.underlying49 rfl (by kernel_rfl)) ?_
    (try simp only [zP, zN, zA, zB, zC])
    refine ef_ (fun K70 hK70 => ?_)
    refine e_alloc (by rfl) rfl rfl (cs := #[.int .i64 0, .int .i64 0, .int .i64 0, .int .i64 0, .int .i64 0, .int .i64 0, .int .i64 0, .int .u64 0, .string ⟨#[]⟩, .slice none 0 0, .slice none 0 0, .slice none 0 0, .int .i64 0, .int .i64 0, .int .i64 0, .int .i64 0, .int .i64 0, .int .i64 0, .int .i64 0, .string ⟨#[]⟩, .slice none 0 0, .int .i64 0, .int .i64 0, .int .i64 0, .int .u64 0, .string ⟨#[]⟩, .slice none 0 0, .slice none 0 0]) (by kernel_rfl) ?_
    rintro g71 w72 HG73 B74 C75
    have nw76 := Lib.hid (show w.heap.size ≤ g71 by have := C0.out.size; have := HG73.out; omega)
    have nx77 := Lib.hid (SL.out.ne_new (by decide) HG73)
    have nr78 := Lib.hid (OT.out.ne_new HG73)
    have C0' := Lib.hid (show Ch [] w w72 from C0.out.trans' C75 (fun x hx => absurd hx (by simp)))
    have SL' := Lib.hid (show SrcIs w72 (.slice (some a) L.length c) (L.length) ((L).flatMap opC) 28 from SL.out.chx C75 xnin_nil)
    have OT' := Lib.hid (show OwnS w72 w.heap.size 49 28 (vt) ((cutL (L.take k) q).length) ((cutL (L.take k) q).flatMap opC) from OT.out.ch C75 rnin_nil)
    clear C0 SL OT
    have C0 := C0'; clear C0'
    have SL := SL'; clear SL'
    have OT := OT'; clear OT'
    have Fg71 := Lib.hid (show Blk w72 g71 (#[.int .i64 0, .int .i64 0, .int .i64 0, .int .i64 0, .int .i64 0, .int .i64 0, .int .i64 0, .int .u64 0, .string ⟨#[]⟩, .slice none 0 0, .slice none 0 0, .slice none 0 0, .int .i64 0, .int .i64 0, .int .i64 0, .int .i64 0, .int .i64 0, .int .i64 0, .int .i64 0, .string ⟨#[]⟩, .slice none 0 0, .int .i64 0, .int .i64 0, .int .i64 0, .int .u64 0, .string ⟨#[]⟩, .slice none 0 0, .slice none 0 0]) 49 from B74); clear B74 C75
    refine hK70 _ _ ?_; clear hK70 K70
    (try simp only [zP, zN, zA, zB, zC])
    refine ef_ (fun K79 hK79 => ?_)
    refine e_storeN (cells := #[.int .i64 o.c, .int .i64 o.n, .int .i64 o.a, .int .i64 o.d, .int .i64 o.t, x0, x1, x2, x3, x4, x5, x6, x7, x8, x9, x10, x11, x12, x13, x14, x15, x16, x17, x18, x19, x20, x21, x22]) (by rfl) rfl rfl (by rfl) (by rfl) Fg71.out (by kernel_rfl) (by rfl) (ones_cons rfl (ones_cons rfl (ones_cons rfl (ones_cons rfl (ones_cons rfl (ones_cons (HON.out x0 (by simp)) (ones_cons (HON.out x1 (by simp)) (ones_cons (HON.out x2 (by simp)) (ones_cons (HON.out x3 (by simp)) (ones_cons (HON.out x4 (by simp)) (ones_cons (HON.out x5 (by simp)) (ones_cons (HON.out x6 (by simp)) (ones_cons (HON.out x7 (by simp)) (ones_cons (HON.out x8 (by simp)) (ones_cons (HON.out x9 (by simp)) (ones_cons (HON.out x10 (by simp)) (ones_cons (HON.out x11 (by simp)) (ones_cons (HON.out x12 (by simp)) (ones_cons (HON.out x13 (by simp)) (ones_cons (HON.out x14 (by simp)) (ones_cons (HON.out x15 (by simp)) (ones_cons (HON.out x16 (by simp)) (ones_cons (HON.out x17 (by simp)) (ones_cons (HON.out x18 (by simp)) (ones_cons (HON.out x19 (by simp)) (ones_cons (HON.out x20 (by simp)) (ones_cons (HON.out x21 (by simp)) (ones_cons (HON.out x22 (by simp)) ones_nil)))))))))))))))))))))))))))) ?_
    rintro w80 B81 C82
    have C0' := Lib.hid (show Ch [] w w80 from C0.out.trans' C82 (inw_cons (.inr nw76.out) inw_nil))
    have SL' := Lib.hid (show SrcIs w80 (.slice (some a) L.length c) (L.length) ((L).flatMap opC) 28 from SL.out.chx C82 (xnin_cons nx77.out xnin_nil))
    have OT' := Lib.hid (show OwnS w80 w.heap.size 49 28 (vt) ((cutL (L.take k) q).length) ((cutL (L.take k) q).flatMap opC) from OT.out.ch C82 (rnin_cons nr78.out rnin_nil))
    clear C0 SL OT
    have C0 := C0'; clear C0'
    have SL := SL'; clear SL'
    have OT := OT'; clear OT'
    clear Fg71; have Fg71 := Lib.hid (show Blk w80 g71 (#[.int .i64 o.c, .int .i64 o.n, .int .i64 o.a, .int .i64 o.d, .int .i64 o.t, x0, x1, x2, x3, x4, x5, x6, x7, x8, x9, x10, x11, x12, x13, x14, x15, x16, x17, x18, x19, x20, x21, x22]) 49 from B81); clear B81 C82
    refine hK79 _ _ ?_; clear hK79 K79
    (try simp only [zP, zN, zA, zB, zC])
    refine nl_ (hK69 _ _ ?_); clear hK69 K69
    refine s_ (fun K83 hK83 => ?_)
    refine pu_ (v := .pointer (some ⟨g71, 2, none⟩)) (y_run (by rfl) (fun W => by go_simp)) ?_
    (try simp only [zP, zN, zA, zB, zC])
    refine ld_ (v := .int .i64 o.a) rfl (by rfl) (by rfl) (run_load_one ((Fg71.out.cell 2).trans rfl) Try.underlying3 rfl) ?_
    (try simp only [zP, zN, zA, zB, zC])
    refine pu_ (v := .int .i64 q) (y_move rfl (by rfl) (by rfl)) ?_
    (try simp only [zP, zN, zA, zB, zC])
    refine pu_ (v := .bool true) (y_run (by rfl) (fun W => by have d := D17.out; go_simp)) ?_
    (try simp only [zP, zN, zA, zB, zC])
    refine nl_ (hK83 _ _ ?_); clear hK83 K83
    refine wp_cond_true rfl ?_
    refine r_ ?_
    refine pu_ (v := vt) (y_move rfl (by rfl) (by rfl)) ?_
    (try simp only [zP, zN, zA, zB, zC])
    refine ld_ (v := .agg (#[.int .i64 o.c, .int .i64 o.n, .int .i64 o.a, .int .i64 o.d, .int .i64 o.t, x0, x1, x2, x3, x4, x5, x6, x7, x8, x9, x10, x11, x12, x13, x14, x15, x16, x17, x18, x19, x20, x21, x22])) rfl (by rfl) (by rfl) (run_loadVar_row _ _ 49 49 (#[.int .i64 o.c, .int .i64 o.n, .int .i64 o.a, .int .i64 o.d, .int .i64 o.t, x0, x1, x2, x3, x4, x5, x6, x7, x8, x9, x10, x11, x12, x13, x14, x15, x16, x17, x18, x19, x20, x21, x22]) (0, 0) _ Fg71.out Try.underlying49 rfl (by kernel_rfl)) ?_
    (try simp only [zP, zN, zA, zB, zC])
    refine pu_ (v := .int .i64 q) (y_move rfl (by rfl) (by rfl)) ?_
    (try simp only [zP, zN, zA, zB, zC])
    refine ef_ (fun K84 hK84 => ?_)
    refine e_call Try.func57 (by kernel_rfl) rfl #[.agg (#[.int .i64 o.c, .int .i64 o.n, .int .i64 o.a, .int .i64 o.d, .int .i64 o.t, x0, x1, x2, x3, x4, x5, x6, x7, x8, x9, x10, x11, x12, x13, x14, x15, x16, x17, x18, x19, x20, x21, x22]), .int .i64 q] (by rfl) rfl rfl (by first | rfl | (simp only [List.map_toArray, List.map_cons, List.map_nil]; first | done | rfl)) ((cut_lit10 o.c o.n o.a o.d o.t x0 x1 x2 x3 x4 x5 x6 x7 x8 x9 x10 x11 x12 x13 x14 x15 x16 x17 x18 x19 x20 x21 x22 (HON.out x0 (by simp)) (HON.out x1 (by simp)) (HON.out x2 (by simp)) (HON.out x3 (by simp)) (HON.out x4 (by simp)) (HON.out x5 (by simp)) (HON.out x6 (by simp)) (HON.out x7 (by simp)) (HON.out x8 (by simp)) (HON.out x9 (by simp)) (HON.out x10 (by simp)) (HON.out x11 (by simp)) (HON.out x12 (by simp)) (HON.out x13 (by simp)) (HON.out x14 (by simp)) (HON.out x15 (by simp)) (HON.out x16 (by simp)) (HON.out x17 (by simp)) (HON.out x18 (by simp)) (HON.out x19 (by simp)) (HON.out x20 (by simp)) (HON.out x21 (by simp)) (HON.out x22 (by simp)) q (Lib.hid hc.out.2.1) (Lib.hid hc.out.2.2))) ?_
    rintro en w86 ⟨rfl, cc85⟩
    refine ⟨_, rfl, ?_⟩
    have C0' := Lib.hid (show Ch [] w w86 from C0.out.trans' cc85 (fun x hx => absurd hx (by simp)))
    have SL' := Lib.hid (show SrcIs w86 (.slice (some a) L.length c) (L.length) ((L).flatMap opC) 28 from SL.out.chx cc85 xnin_nil)
    have OT' := Lib.hid (show OwnS w86 w.heap.size 49 28 (vt) ((cutL (L.take k) q).length) ((cutL (L.take k) q).flatMap opC) from OT.out.ch cc85 rnin_nil)
    have Fg71' := Lib.hid (show Blk w86 g71 (#[.int .i64 o.c, .int .i64 o.n, .int .i64 o.a, .int .i64 o.d, .int .i64 o.t, x0, x1, x2, x3, x4, x5, x6, x7, x8, x9, x10, x11, x12, x13, x14, x15, x16, x17, x18, x19, x20, x21, x22]) 49 from cc85.blk Fg71.out nin_nil)
    clear C0 SL OT Fg71
    have C0 := C0'; clear C0'
    have SL := SL'; clear SL'
    have OT := OT'; clear OT'
    have Fg71 := Fg71'; clear Fg71'
    clear cc85
    refine hK84 _ _ ?_; clear hK84 K84
    (try simp only [zP, zN, zA, zB, zC])
    refine ef_ (fun K87 hK87 => ?_)
    refine e_buildS (parts := #[(0, .agg #[.int .i64 o.c, .int .i64 o.n, .int .i64 o.a, .int .i64 o.d, .int .i64 0, x0, x1, x2, x3, x4, x5, x6, x7, x8, x9, x10, x11, x12, x13, x14, x15, x16, x17, x18, x19, x20, x21, x22])]) (cells := #[.int .i64 o.c, .int .i64 o.n, .int .i64 o.a, .int .i64 o.d, .int .i64 0, x0, x1, x2, x3, x4, x5, x6, x7, x8, x9, x10, x11, x12, x13, x14, x15, x16, x17, x18, x19, x20, x21, x22]) (by rfl) rfl rfl (by first | rfl | (simp only [List.map_toArray, List.map_cons, List.map_nil]; first | done | rfl)) Try.underlying45 I49.hi I49.hz I49.hs (by decide) (by decide) (by kernel_rfl) ?_
    rintro g88 w89 HG90 B91 C92
    have nw93 := Lib.hid (show w.heap.size ≤ g88 by have := C0.out.size; have := HG90.out; omega)
    have nx94 := Lib.hid (SL.out.ne_new (by decide) HG90)
    have nr95 := Lib.hid (OT.out.ne_new HG90)
    have ne96 := Lib.hid (Fg71.out.ne_new HG90)
    have C0' := Lib.hid (show Ch [] w w89 from C0.out.trans' C92 (fun x hx => absurd hx (by simp)))
    have SL' := Lib.hid (show SrcIs w89 (.slice (some a) L.length c) (L.length) ((L).flatMap opC) 28 from SL.out.chx C92 xnin_nil)
    have OT' := Lib.hid (show OwnS w89 w.heap.size 49 28 (vt) ((cutL (L.take k) q).length) ((cutL (L.take k) q).flatMap opC) from OT.out.ch C92 rnin_nil)
    have Fg71' := Lib.hid (show Blk w89 g71 (#[.int .i64 o.c, .int .i64 o.n, .int .i64 o.a, .int .i64 o.d, .int .i64 o.t, x0, x1, x2, x3, x4, x5, x6, x7, x8, x9, x10, x11, x12, x13, x14, x15, x16, x17, x18, x19, x20, x21, x22]) 49 from C92.blk Fg71.out nin_nil)
    clear C0 SL OT Fg71
    have C0 := C0'; clear C0'
    have SL := SL'; clear SL'
    have OT := OT'; clear OT'
    have Fg71 := Fg71'; clear Fg71'
    have Fg88 := Lib.hid (show Blk w89 g88 (#[.int .i64 o.c, .int .i64 o.n, .int .i64 o.a, .int .i64 o.d, .int .i64 0, x0, x1, x2, x3, x4, x5, x6, x7, x8, x9, x10, x11, x12, x13, x14, x15, x16, x17, x18, x19, x20, x21, x22]) 49 from B91); clear B91 C92
    refine hK87 _ _ ?_; clear hK87 K87
    (try simp only [zP, zN, zA, zB, zC])
    refine ef_ (fun K97 hK97 => ?_)
    refine e_append (by rfl) rfl rfl (w.heap.size) 49 _ _ 28 344 Try.underlying45 I49.hi I49.hz I49.hs I49.hb rfl (by decide) (vt) ((cutL (L.take k) q).length) ((cutL (L.take k) q).flatMap opC) (by rfl) OT.out (.slice (some ⟨g88, 0, none⟩) 1 1) 1 ([.int .i64 o.c, .int .i64 o.n, .int .i64 o.a, .int .i64 o.d, .int .i64 0, x0, x1, x2, x3, x4, x5, x6, x7, x8, x9, x10, x11, x12, x13, x14, x15, x16, x17, x18, x19, x20, x21, x22]) (by rfl) ⟨rfl, .inr ⟨_, _, rfl, CellsAt.blk Fg88.out 0⟩⟩ HCN.out (by have h8 := cut_len (L.take k) q; rw [List.length_take] at h8; have := HN.out; unfold maxLen; omega) (by have h8 := cut_len (L.take k) q; rw [List.length_take] at h8; have := HN.out; omega) C0.out.size ?_
    rintro v98 w99 O100 C101 R102 -
    have xr104 := Lib.hid (show ∀ k, k ∈ xb (.slice (some a) L.length c) → k ∉ rl v98 from fun k hk hm => (R102 k hm).elim (fun h => hxr.out k hk h) (fun h => by have := SL.out.lt (by decide) k hk; omega))
    have nr105 := Lib.hid (show g71 ∉ rl v98 from fun hk => (R102 _ hk).elim nr78.out (fun h => by have := Fg71.out.lt; omega))
    have nr106 := Lib.hid (show g88 ∉ rl v98 from fun hk => (R102 _ hk).elim nr95.out (fun h => by have := Fg88.out.lt; omega))
    have C0' := Lib.hid (show Ch [] w w99 from C0.out.trans' C101 (fun x hx => .inr (OT.out.lt x hx).1))
    have SL' := Lib.hid (show SrcIs w99 (.slice (some a) L.length c) (L.length) ((L).flatMap opC) 28 from SL.out.chx C101 hxr.out)
    have Fg71' := Lib.hid (show Blk w99 g71 (#[.int .i64 o.c, .int .i64 o.n, .int .i64 o.a, .int .i64 o.d, .int .i64 o.t, x0, x1, x2, x3, x4, x5, x6, x7, x8, x9, x10, x11, x12, x13, x14, x15, x16, x17, x18, x19, x20, x21, x22]) 49 from C101.blk Fg71.out nr78.out)
    have Fg88' := Lib.hid (show Blk w99 g88 (#[.int .i64 o.c, .int .i64 o.n, .int .i64 o.a, .int .i64 o.d, .int .i64 0, x0, x1, x2, x3, x4, x5, x6, x7, x8, x9, x10, x11, x12, x13, x14, x15, x16, x17, x18, x19, x20, x21, x22]) 49 from C101.blk Fg88.out nr95.out)
    clear C0 SL Fg71 Fg88
    have C0 := C0'; clear C0'
    have SL := SL'; clear SL'
    have Fg71 := Fg71'; clear Fg71'
    have Fg88 := Fg88'; clear Fg88'
    clear OT
    have OT := Lib.hid (show OwnS w99 w.heap.size 49 28 (v98) ((cutL (L.take k) q).length + 1) ((cutL (L.take k) q).flatMap opC ++ [.int .i64 o.c, .int .i64 o.n, .int .i64 o.a, .int .i64 o.d, .int .i64 0, x0, x1, x2, x3, x4, x5, x6, x7, x8, x9, x10, x11, x12, x13, x14, x15, x16, x17, x18, x19, x20, x21, x22]) from O100); clear O100 C101
    refine hK97 _ _ ?_; clear hK97 K97
    (try simp only [zP, zN, zA, zB, zC])
    refine pu_ (v := v98) (y_assign rfl (by rfl) (by rfl)) ?_
    (try simp only [zP, zN, zA, zB, zC])
    refine nl_ ?_
    refine ib_norm ?_
    refine th_norm (hK68 _ _ ?_); try clear hK68 K68
    refine r_ ?_
    refine pu_ (v := .int .i64 (k + 1 : Nat)) (y_run (by rfl) (fun W => by have d := Wk.out; go_simp)) ?_
    (try simp only [zP, zN, zA, zB, zC])
    refine pu_ (v := .int .i64 (k + 1 : Nat)) (y_move rfl (by rfl) (by rfl)) ?_
    (try simp only [zP, zN, zA, zB, zC])
    refine nl_ ?_
    exact th_norm (hK6 (kq - 1) _ _ (by have := hlt.out; have := hk.out; omega) ⟨k + 1, _, fun us_ => (#[.slice (some a) L.length c, .int .i64 q, us 2, us 3, .slice none 0 0, v98, us 6, .pointer (some ⟨g71, 0, none⟩), .slice (some a) L.length c, .int .i64 L.length, .int .i64 (k + 1 : Nat), .bool true, .pointer (some (a.add (k * 28))), .agg #[.int .i64 o.c, .int .i64 o.n, .int .i64 o.a, .int .i64 o.d, .int .i64 o.t, x0, x1, x2, x3, x4, x5, x6, x7, x8, x9, x10, x11, x12, x13, x14, x15, x16, x17, x18, x19, x20, x21, x22], .pointer (some ⟨g71, 2, none⟩), .int .i64 o.a, .int .i64 q, .bool true, vt, .agg (#[.int .i64 o.c, .int .i64 o.n, .int .i64 o.a, .int .i64 o.d, .int .i64 o.t, x0, x1, x2, x3, x4, x5, x6, x7, x8, x9, x10, x11, x12, x13, x14, x15, x16, x17, x18, x19, x20, x21, x22]), .int .i64 q, .agg #[.int .i64 o.c, .int .i64 o.n, .int .i64 o.a, .int .i64 o.d, .int .i64 0, x0, x1, x2, x3, x4, x5, x6, x7, x8, x9, x10, x11, x12, x13, x14, x15, x16, x17, x18, x19, x20, x21, x22], .slice (some ⟨g88, 0, none⟩) 1 1, v98, .int .i64 (k + 1 : Nat), us 25] : Array Value).getD us_ undef, rfl, C0, SL, Lib.hid (by have h := OT.out; rw [← HCO.out] at h; rw [cut_yes ho.out hc.out.1, List.flatMap_append, List.length_append, List.flatMap_cons, List.flatMap_nil, List.append_nil]; exact h), Lib.hid ⟨by have := hlt.out; omega, by have := hlt.out; have := hk.out; omega⟩, Lib.hid (xr104.out)⟩)
  · have hlt := Lib.hid hlt0
    have ho := Lib.hid ho0
    have hc := Lib.hid h
    clear hlt0 ho0 h
    obtain ⟨a, hsm_a⟩ := src_some SL.out (by have := hlt.out; omega)
    subst hsm_a
    have D11 := Lib.hid (show (k : Int) < (L.length : Int) by have := hlt.out; omega)
    have Wk := Lib.hid (show IntKind.i64.wrap ((k : Int) + 1) = ((k + 1 : Nat) : Int) by rw [wr64 (by have := hlt.out; have := HN.out; omega)]; omega)
    obtain ⟨x0, x1, x2, x3, x4, x5, x6, x7, x8, x9, x10, x11, x12, x13, x14, x15, hcl0⟩ := lits16 o.cl
    obtain ⟨x16, x17, x18, x19, x20, x21, x22, hrp0⟩ := lits7 o.rp
    have HOL := Lib.hid (show opC o = [.int .i64 o.c, .int .i64 o.n, .int .i64 o.a, .int .i64 o.d, .int .i64 o.t, x0, x1, x2, x3, x4, x5, x6, x7, x8, x9, x10, x11, x12, x13, x14, x15, x16, x17, x18, x19, x20, x21, x22] by simp [opC, hcl0, hrp0])
    have HON := Lib.hid (show ∀ u ∈ [.int .i64 o.c, .int .i64 o.n, .int .i64 o.a, .int .i64 o.d, .int .i64 o.t, x0, x1, x2, x3, x4, x5, x6, x7, x8, x9, x10, x11, x12, x13, x14, x15, x16, x17, x18, x19, x20, x21, x22], u.oneCell' = true from by rw [← HOL.out]; exact opC_one o)
    have HCL := Lib.hid hcl0; have HRP := Lib.hid hrp0; clear hcl0 hrp0
    have D17 := Lib.hid (show decide (o.a ≤ q) = true from decide_eq_true hc.out.1)
    have HCO := Lib.hid (show opC (cutO o q) = [.int .i64 o.c, .int .i64 o.n, .int .i64 o.a, .int .i64 0, .int .i64 o.t, .int .i64 0, .int .i64 0, .int .u64 0, .string ⟨#[]⟩, .slice none 0 0, .slice none 0 0, .slice none 0 0, .int .i64 0, .int .i64 0, .int .i64 0, .int .i64 0, .int .i64 0, .int .i64 0, .int .i64 0, .string ⟨#[]⟩, .slice none 0 0, .int .i64 0, .int .i64 0, .int .i64 0, .int .u64 0, .string ⟨#[]⟩, .slice none 0 0, .slice none 0 0] by unfold cutO; simp only [hc.out.2.1, hc.out.2.2, if_true, if_false]; simp [opC, HCL.out, HRP.out, ZC, ZR])
    have HCN := Lib.hid (show ∀ u ∈ ([.int .i64 o.c, .int .i64 o.n, .int .i64 o.a, .int .i64 0, .int .i64 o.t, .int .i64 0, .int .i64 0, .int .u64 0, .string ⟨#[]⟩, .slice none 0 0, .slice none 0 0, .slice none 0 0, .int .i64 0, .int .i64 0, .int .i64 0, .int .i64 0, .int .i64 0, .int .i64 0, .int .i64 0, .string ⟨#[]⟩, .slice none 0 0, .int .i64 0, .int .i64 0, .int .i64 0, .int .u64 0, .string ⟨#[]⟩, .slice none 0 0, .slice none 0 0] : List Value), u.oneCell' = true from by rw [← HCO.out]; exact opC_one _)
    refine s_ (fun K107 hK107 => ?_)
    refine pu_ (v := .bool true) (y_run (by rfl) (fun W => by have d := D11.out; go_simp)) ?_
    (try simp only [zP, zN, zA, zB, zC])
    refine nl_ (hK107 _ _ ?_); clear hK107 K107
    refine sq_ (fun K108 hK108 => ?_)
    refine wp_cond_true rfl ?_
    refine wp_skip ?_
    refine th_norm (hK108 _ _ ?_); try clear hK108 K108
    refine sq_ (fun K109 hK109 => ?_)
    refine wp_block ?_
    refine s_ (fun K110 hK110 => ?_)
    refine pu_ (v := .pointer (some (a.add (k * 28)))) (y_run (by rfl) (fun W => by have d := D11.out; go_simp)) ?_
    (try simp only [zP, zN, zA, zB, zC])
    refine ld_ (v := .agg #[.int .i64 o.c, .int .i64 o.n, .int .i64 o.a, .int .i64 o.d, .int .i64 o.t, x0, x1, x2, x3, x4, x5, x6, x7, x8, x9, x10, x11, x12, x13, x14, x15, x16, x17, x18, x19, x20, x21, x22]) rfl (by rfl) (by rfl) (run_loadVar_at (by have h := src_elem SL.out ho.out; rw [HOL.out] at h; exact h) Try.underlying49 rfl (by kernel_rfl)) ?_
    (try simp only [zP, zN, zA, zB, zC])
    refine ef_ (fun K111 hK111 => ?_)
    refine e_alloc (by rfl) rfl rfl (cs := #[.int .i64 0, .int .i64 0, .int .i64 0, .int .i64 0, .int .i64 0, .int .i64 0, .int .i64 0, .int .u64 0, .string ⟨#[]⟩, .slice none 0 0, .slice none 0 0, .slice none 0 0, .int .i64 0, .int .i64 0, .int .i64 0, .int .i64 0, .int .i64 0, .int .i64 0, .int .i64 0, .string ⟨#[]⟩, .slice none 0 0, .int .i64 0, .int .i64 0, .int .i64 0, .int .u64 0, .string ⟨#[]⟩, .slice none 0 0, .slice none 0 0]) (by kernel_rfl) ?_
    rintro g112 w113 HG114 B115 C116
    have nw117 := Lib.hid (show w.heap.size ≤ g112 by have := C0.out.size; have := HG114.out; omega)
    have nx118 := Lib.hid (SL.out.ne_new (by decide) HG114)
    have nr119 := Lib.hid (OT.out.ne_new HG114)
    have C0' := Lib.hid (show Ch [] w w113 from C0.out.trans' C116 (fun x hx => absurd hx (by simp)))
    have SL' := Lib.hid (show SrcIs w113 (.slice (some a) L.length c) (L.length) ((L).flatMap opC) 28 from SL.out.chx C116 xnin_nil)
    have OT' := Lib.hid (show OwnS w113 w.heap.size 49 28 (vt) ((cutL (L.take k) q).length) ((cutL (L.take k) q).flatMap opC) from OT.out.ch C116 rnin_nil)
    clear C0 SL OT
    have C0 := C0'; clear C0'
    have SL := SL'; clear SL'
    have OT := OT'; clear OT'
    have Fg112 := Lib.hid (show Blk w113 g112 (#[.int .i64 0, .int .i64 0, .int .i64 0, .int .i64 0, .int .i64 0, .int .i64 0, .int .i64 0, .int .u64 0, .string ⟨#[]⟩, .slice none 0 0, .slice none 0 0, .slice none 0 0, .int .i64 0, .int .i64 0, .int .i64 0, .int .i64 0, .int .i64 0, .int .i64 0, .int .i64 0, .string ⟨#[]⟩, .slice none 0 0, .int .i64 0, .int .i64 0, .int .i64 0, .int .u64 0, .string ⟨#[]⟩, .slice none 0 0, .slice none 0 0]) 49 from B115); clear B115 C116
    refine hK111 _ _ ?_; clear hK111 K111
    (try simp only [zP, zN, zA, zB, zC])
    refine ef_ (fun K120 hK120 => ?_)
    refine e_storeN (cells := #[.int .i64 o.c, .int .i64 o.n, .int .i64 o.a, .int .i64 o.d, .int .i64 o.t, x0, x1, x2, x3, x4, x5, x6, x7, x8, x9, x10, x11, x12, x13, x14, x15, x16, x17, x18, x19, x20, x21, x22]) (by rfl) rfl rfl (by rfl) (by rfl) Fg112.out (by kernel_rfl) (by rfl) (ones_cons rfl (ones_cons rfl (ones_cons rfl (ones_cons rfl (ones_cons rfl (ones_cons (HON.out x0 (by simp)) (ones_cons (HON.out x1 (by simp)) (ones_cons (HON.out x2 (by simp)) (ones_cons (HON.out x3 (by simp)) (ones_cons (HON.out x4 (by simp)) (ones_cons (HON.out x5 (by simp)) (ones_cons (HON.out x6 (by simp)) (ones_cons (HON.out x7 (by simp)) (ones_cons (HON.out x8 (by simp)) (ones_cons (HON.out x9 (by simp)) (ones_cons (HON.out x10 (by simp)) (ones_cons (HON.out x11 (by simp)) (ones_cons (HON.out x12 (by simp)) (ones_cons (HON.out x13 (by simp)) (ones_cons (HON.out x14 (by simp)) (ones_cons (HON.out x15 (by simp)) (ones_cons (HON.out x16 (by simp)) (ones_cons (HON.out x17 (by simp)) (ones_cons (HON.out x18 (by simp)) (ones_cons (HON.out x19 (by simp)) (ones_cons (HON.out x20 (by simp)) (ones_cons (HON.out x21 (by simp)) (ones_cons (HON.out x22 (by simp)) ones_nil)))))))))))))))))))))))))))) ?_
    rintro w121 B122 C123
    have C0' := Lib.hid (show Ch [] w w121 from C0.out.trans' C123 (inw_cons (.inr nw117.out) inw_nil))
    have SL' := Lib.hid (show SrcIs w121 (.slice (some a) L.length c) (L.length) ((L).flatMap opC) 28 from SL.out.chx C123 (xnin_cons nx118.out xnin_nil))
    have OT' := Lib.hid (show OwnS w121 w.heap.size 49 28 (vt) ((cutL (L.take k) q).length) ((cutL (L.take k) q).flatMap opC) from OT.out.ch C123 (rnin_cons nr119.out rnin_nil))
    clear C0 SL OT
    have C0 := C0'; clear C0'
    have SL := SL'; clear SL'
    have OT := OT'; clear OT'
    clear Fg112; have Fg112 := Lib.hid (show Blk w121 g112 (#[.int .i64 o.c, .int .i64 o.n, .int .i64 o.a, .int .i64 o.d, .int .i64 o.t, x0, x1, x2, x3, x4, x5, x6, x7, x8, x9, x10, x11, x12, x13, x14, x15, x16, x17, x18, x19, x20, x21, x22]) 49 from B122); clear B122 C123
    refine hK120 _ _ ?_; clear hK120 K120
    (try simp only [zP, zN, zA, zB, zC])
    refine nl_ (hK110 _ _ ?_); clear hK110 K110
    refine s_ (fun K124 hK124 => ?_)
    refine pu_ (v := .pointer (some ⟨g112, 2, none⟩)) (y_run (by rfl) (fun W => by go_simp)) ?_
    (try simp only [zP, zN, zA, zB, zC])
    refine ld_ (v := .int .i64 o.a) rfl (by rfl) (by rfl) (run_load_one ((Fg112.out.cell 2).trans rfl) Try.underlying3 rfl) ?_
    (try simp only [zP, zN, zA, zB, zC])
    refine pu_ (v := .int .i64 q) (y_move rfl (by rfl) (by rfl)) ?_
    (try simp only [zP, zN, zA, zB, zC])
    refine pu_ (v := .bool true) (y_run (by rfl) (fun W => by have d := D17.out; go_simp)) ?_
    (try simp only [zP, zN, zA, zB, zC])
    refine nl_ (hK124 _ _ ?_); clear hK124 K124
    refine wp_cond_true rfl ?_
    refine r_ ?_
    refine pu_ (v := vt) (y_move rfl (by rfl) (by rfl)) ?_
    (try simp only [zP, zN, zA, zB, zC])
    refine ld_ (v := .agg (#[.int .i64 o.c, .int .i64 o.n, .int .i64 o.a, .int .i64 o.d, .int .i64 o.t, x0, x1, x2, x3, x4, x5, x6, x7, x8, x9, x10, x11, x12, x13, x14, x15, x16, x17, x18, x19, x20, x21, x22])) rfl (by rfl) (by rfl) (run_loadVar_row _ _ 49 49 (#[.int .i64 o.c, .int .i64 o.n, .int .i64 o.a, .int .i64 o.d, .int .i64 o.t, x0, x1, x2, x3, x4, x5, x6, x7, x8, x9, x10, x11, x12, x13, x14, x15, x16, x17, x18, x19, x20, x21, x22]) (0, 0) _ Fg112.out Try.underlying49 rfl (by kernel_rfl)) ?_
    (try simp only [zP, zN, zA, zB, zC])
    refine pu_ (v := .int .i64 q) (y_move rfl (by rfl) (by rfl)) ?_
    (try simp only [zP, zN, zA, zB, zC])
    refine ef_ (fun K125 hK125 => ?_)
    refine e_call Try.func57 (by kernel_rfl) rfl #[.agg (#[.int .i64 o.c, .int .i64 o.n, .int .i64 o.a, .int .i64 o.d, .int .i64 o.t, x0, x1, x2, x3, x4, x5, x6, x7, x8, x9, x10, x11, x12, x13, x14, x15, x16, x17, x18, x19, x20, x21, x22]), .int .i64 q] (by rfl) rfl rfl (by first | rfl | (simp only [List.map_toArray, List.map_cons, List.map_nil]; first | done | rfl)) ((cut_lit01 o.c o.n o.a o.d o.t x0 x1 x2 x3 x4 x5 x6 x7 x8 x9 x10 x11 x12 x13 x14 x15 x16 x17 x18 x19 x20 x21 x22 (HON.out x0 (by simp)) (HON.out x1 (by simp)) (HON.out x2 (by simp)) (HON.out x3 (by simp)) (HON.out x4 (by simp)) (HON.out x5 (by simp)) (HON.out x6 (by simp)) (HON.out x7 (by simp)) (HON.out x8 (by simp)) (HON.out x9 (by simp)) (HON.out x10 (by simp)) (HON.out x11 (by simp)) (HON.out x12 (by simp)) (HON.out x13 (by simp)) (HON.out x14 (by simp)) (HON.out x15 (by simp)) (HON.out x16 (by simp)) (HON.out x17 (by simp)) (HON.out x18 (by simp)) (HON.out x19 (by simp)) (HON.out x20 (by simp)) (HON.out x21 (by simp)) (HON.out x22 (by simp)) q (Lib.hid hc.out.2.1) (Lib.hid hc.out.2.2))) ?_
    rintro en w127 ⟨rfl, cc126⟩
    refine ⟨_, rfl, ?_⟩
    have C0' := Lib.hid (show Ch [] w w127 from C0.out.trans' cc126 (fun x hx => absurd hx (by simp)))
    have SL' := Lib.hid (show SrcIs w127 (.slice (some a) L.length c) (L.length) ((L).flatMap opC) 28 from SL.out.chx cc126 xnin_nil)
    have OT' := Lib.hid (show OwnS w127 w.heap.size 49 28 (vt) ((cutL (L.take k) q).length) ((cutL (L.take k) q).flatMap opC) from OT.out.ch cc126 rnin_nil)
    have Fg112' := Lib.hid (show Blk w127 g112 (#[.int .i64 o.c, .int .i64 o.n, .int .i64 o.a, .int .i64 o.d, .int .i64 o.t, x0, x1, x2, x3, x4, x5, x6, x7, x8, x9, x10, x11, x12, x13, x14, x15, x16, x17, x18, x19, x20, x21, x22]) 49 from cc126.blk Fg112.out nin_nil)
    clear C0 SL OT Fg112
    have C0 := C0'; clear C0'
    have SL := SL'; clear SL'
    have OT := OT'; clear OT'
    have Fg112 := Fg112'; clear Fg112'
    clear cc126
    refine hK125 _ _ ?_; clear hK125 K125
    (try simp only [zP, zN, zA, zB, zC])
    refine ef_ (fun K128 hK128 => ?_)
    refine e_buildS (parts := #[(0, .agg #[.int .i64 o.c, .int .i64 o.n, .int .i64 o.a, .int .i64 0, .int .i64 o.t, .int .i64 0, .int .i64 0, .int .u64 0, .string ⟨#[]⟩, .slice none 0 0, .slice none 0 0, .slice none 0 0, .int .i64 0, .int .i64 0, .int .i64 0, .int .i64 0, .int .i64 0, .int .i64 0, .int .i64 0, .string ⟨#[]⟩, .slice none 0 0, .int .i64 0, .int .i64 0, .int .i64 0, .int .u64 0, .string ⟨#[]⟩, .slice none 0 0, .slice none 0 0])]) (cells := #[.int .i64 o.c, .int .i64 o.n, .int .i64 o.a, .int .i64 0, .int .i64 o.t, .int .i64 0, .int .i64 0, .int .u64 0, .string ⟨#[]⟩, .slice none 0 0, .slice none 0 0, .slice none 0 0, .int .i64 0, .int .i64 0, .int .i64 0, .int .i64 0, .int .i64 0, .int .i64 0, .int .i64 0, .string ⟨#[]⟩, .slice none 0 0, .int .i64 0, .int .i64 0, .int .i64 0, .int .u64 0, .string ⟨#[]⟩, .slice none 0 0, .slice none 0 0]) (by rfl) rfl rfl (by first | rfl | (simp only [List.map_toArray, List.map_cons, List.map_nil]; first | done | rfl)) Try.underlying45 I49.hi I49.hz I49.hs (by decide) (by decide) (by kernel_rfl) ?_
    rintro g129 w130 HG131 B132 C133
    have nw134 := Lib.hid (show w.heap.size ≤ g129 by have := C0.out.size; have := HG131.out; omega)
    have nx135 := Lib.hid (SL.out.ne_new (by decide) HG131)
    have nr136 := Lib.hid (OT.out.ne_new HG131)
    have ne137 := Lib.hid (Fg112.out.ne_new HG131)
    have C0' := Lib.hid (show Ch [] w w130 from C0.out.trans' C133 (fun x hx => absurd hx (by simp)))
    have SL' := Lib.hid (show SrcIs w130 (.slice (some a) L.length c) (L.length) ((L).flatMap opC) 28 from SL.out.chx C133 xnin_nil)
    have OT' := Lib.hid (show OwnS w130 w.heap.size 49 28 (vt) ((cutL (L.take k) q).length) ((cutL (L.take k) q).flatMap opC) from OT.out.ch C133 rnin_nil)
    have Fg112' := Lib.hid (show Blk w130 g112 (#[.int .i64 o.c, .int .i64 o.n, .int .i64 o.a, .int .i64 o.d, .int .i64 o.t, x0, x1, x2, x3, x4, x5, x6, x7, x8, x9, x10, x11, x12, x13, x14, x15, x16, x17, x18, x19, x20, x21, x22]) 49 from C133.blk Fg112.out nin_nil)
    clear C0 SL OT Fg112
    have C0 := C0'; clear C0'
    have SL := SL'; clear SL'
    have OT := OT'; clear OT'
    have Fg112 := Fg112'; clear Fg112'
    have Fg129 := Lib.hid (show Blk w130 g129 (#[.int .i64 o.c, .int .i64 o.n, .int .i64 o.a, .int .i64 0, .int .i64 o.t, .int .i64 0, .int .i64 0, .int .u64 0, .string ⟨#[]⟩, .slice none 0 0, .slice none 0 0, .slice none 0 0, .int .i64 0, .int .i64 0, .int .i64 0, .int .i64 0, .int .i64 0, .int .i64 0, .int .i64 0, .string ⟨#[]⟩, .slice none 0 0, .int .i64 0, .int .i64 0, .int .i64 0, .int .u64 0, .string ⟨#[]⟩, .slice none 0 0, .slice none 0 0]) 49 from B132); clear B132 C133
    refine hK128 _ _ ?_; clear hK128 K128
    (try simp only [zP, zN, zA, zB, zC])
    refine ef_ (fun K138 hK138 => ?_)
    refine e_append (by rfl) rfl rfl (w.heap.size) 49 _ _ 28 344 Try.underlying45 I49.hi I49.hz I49.hs I49.hb rfl (by decide) (vt) ((cutL (L.take k) q).length) ((cutL (L.take k) q).flatMap opC) (by rfl) OT.out (.slice (some ⟨g129, 0, none⟩) 1 1) 1 ([.int .i64 o.c, .int .i64 o.n, .int .i64 o.a, .int .i64 0, .int .i64 o.t, .int .i64 0, .int .i64 0, .int .u64 0, .string ⟨#[]⟩, .slice none 0 0, .slice none 0 0, .slice none 0 0, .int .i64 0, .int .i64 0, .int .i64 0, .int .i64 0, .int .i64 0, .int .i64 0, .int .i64 0, .string ⟨#[]⟩, .slice none 0 0, .int .i64 0, .int .i64 0, .int .i64 0, .int .u64 0, .string ⟨#[]⟩, .slice none 0 0, .slice none 0 0]) (by rfl) ⟨rfl, .inr ⟨_, _, rfl, CellsAt.blk Fg129.out 0⟩⟩ HCN.out (by have h8 := cut_len (L.take k) q; rw [List.length_take] at h8; have := HN.out; unfold maxLen; omega) (by have h8 := cut_len (L.take k) q; rw [List.length_take] at h8; have := HN.out; omega) C0.out.size ?_
    rintro v139 w140 O141 C142 R143 -
    have xr145 := Lib.hid (show ∀ k, k ∈ xb (.slice (some a) L.length c) → k ∉ rl v139 from fun k hk hm => (R143 k hm).elim (fun h => hxr.out k hk h) (fun h => by have := SL.out.lt (by decide) k hk; omega))
    have nr146 := Lib.hid (show g112 ∉ rl v139 from fun hk => (R143 _ hk).elim nr119.out (fun h => by have := Fg112.out.lt; omega))
    have nr147 := Lib.hid (show g129 ∉ rl v139 from fun hk => (R143 _ hk).elim nr136.out (fun h => by have := Fg129.out.lt; omega))
    have C0' := Lib.hid (show Ch [] w w140 from C0.out.trans' C142 (fun x hx => .inr (OT.out.lt x hx).1))
    have SL' := Lib.hid (show SrcIs w140 (.slice (some a) L.length c) (L.length) ((L).flatMap opC) 28 from SL.out.chx C142 hxr.out)
    have Fg112' := Lib.hid (show Blk w140 g112 (#[.int .i64 o.c, .int .i64 o.n, .int .i64 o.a, .int .i64 o.d, .int .i64 o.t, x0, x1, x2, x3, x4, x5, x6, x7, x8, x9, x10, x11, x12, x13, x14, x15, x16, x17, x18, x19, x20, x21, x22]) 49 from C142.blk Fg112.out nr119.out)
    have Fg129' := Lib.hid (show Blk w140 g129 (#[.int .i64 o.c, .int .i64 o.n, .int .i64 o.a, .int .i64 0, .int .i64 o.t, .int .i64 0, .int .i64 0, .int .u64 0, .string ⟨#[]⟩, .slice none 0 0, .slice none 0 0, .slice none 0 0, .int .i64 0, .int .i64 0, .int .i64 0, .int .i64 0, .int .i64 0, .int .i64 0, .int .i64 0, .string ⟨#[]⟩, .slice none 0 0, .int .i64 0, .int .i64 0, .int .i64 0, .int .u64 0, .string ⟨#[]⟩, .slice none 0 0, .slice none 0 0]) 49 from C142.blk Fg129.out nr136.out)
    clear C0 SL Fg112 Fg129
    have C0 := C0'; clear C0'
    have SL := SL'; clear SL'
    have Fg112 := Fg112'; clear Fg112'
    have Fg129 := Fg129'; clear Fg129'
    clear OT
    have OT := Lib.hid (show OwnS w140 w.heap.size 49 28 (v139) ((cutL (L.take k) q).length + 1) ((cutL (L.take k) q).flatMap opC ++ [.int .i64 o.c, .int .i64 o.n, .int .i64 o.a, .int .i64 0, .int .i64 o.t, .int .i64 0, .int .i64 0, .int .u64 0, .string ⟨#[]⟩, .slice none 0 0, .slice none 0 0, .slice none 0 0, .int .i64 0, .int .i64 0, .int .i64 0, .int .i64 0, .int .i64 0, .int .i64 0, .int .i64 0, .string ⟨#[]⟩, .slice none 0 0, .int .i64 0, .int .i64 0, .int .i64 0, .int .u64 0, .string ⟨#[]⟩, .slice none 0 0, .slice none 0 0]) from O141); clear O141 C142
    refine hK138 _ _ ?_; clear hK138 K138
    (try simp only [zP, zN, zA, zB, zC])
    refine pu_ (v := v139) (y_assign rfl (by rfl) (by rfl)) ?_
    (try simp only [zP, zN, zA, zB, zC])
    refine nl_ ?_
    refine ib_norm ?_
    refine th_norm (hK109 _ _ ?_); try clear hK109 K109
    refine r_ ?_
    refine pu_ (v := .int .i64 (k + 1 : Nat)) (y_run (by rfl) (fun W => by have d := Wk.out; go_simp)) ?_
    (try simp only [zP, zN, zA, zB, zC])
    refine pu_ (v := .int .i64 (k + 1 : Nat)) (y_move rfl (by rfl) (by rfl)) ?_
    (try simp only [zP, zN, zA, zB, zC])
    refine nl_ ?_
    exact th_norm (hK6 (kq - 1) _ _ (by have := hlt.out; have := hk.out; omega) ⟨k + 1, _, fun us_ => (#[.slice (some a) L.length c, .int .i64 q, us 2, us 3, .slice none 0 0, v139, us 6, .pointer (some ⟨g112, 0, none⟩), .slice (some a) L.length c, .int .i64 L.length, .int .i64 (k + 1 : Nat), .bool true, .pointer (some (a.add (k * 28))), .agg #[.int .i64 o.c, .int .i64 o.n, .int .i64 o.a, .int .i64 o.d, .int .i64 o.t, x0, x1, x2, x3, x4, x5, x6, x7, x8, x9, x10, x11, x12, x13, x14, x15, x16, x17, x18, x19, x20, x21, x22], .pointer (some ⟨g112, 2, none⟩), .int .i64 o.a, .int .i64 q, .bool true, vt, .agg (#[.int .i64 o.c, .int .i64 o.n, .int .i64 o.a, .int .i64 o.d, .int .i64 o.t, x0, x1, x2, x3, x4, x5, x6, x7, x8, x9, x10, x11, x12, x13, x14, x15, x16, x17, x18, x19, x20, x21, x22]), .int .i64 q, .agg #[.int .i64 o.c, .int .i64 o.n, .int .i64 o.a, .int .i64 0, .int .i64 o.t, .int .i64 0, .int .i64 0, .int .u64 0, .string ⟨#[]⟩, .slice none 0 0, .slice none 0 0, .slice none 0 0, .int .i64 0, .int .i64 0, .int .i64 0, .int .i64 0, .int .i64 0, .int .i64 0, .int .i64 0, .string ⟨#[]⟩, .slice none 0 0, .int .i64 0, .int .i64 0, .int .i64 0, .int .u64 0, .string ⟨#[]⟩, .slice none 0 0, .slice none 0 0], .slice (some ⟨g129, 0, none⟩) 1 1, v139, .int .i64 (k + 1 : Nat), us 25] : Array Value).getD us_ undef, rfl, C0, SL, Lib.hid (by have h := OT.out; rw [← HCO.out] at h; rw [cut_yes ho.out hc.out.1, List.flatMap_append, List.length_append, List.flatMap_cons, List.flatMap_nil, List.append_nil]; exact h), Lib.hid ⟨by have := hlt.out; omega, by have := hlt.out; have := hk.out; omega⟩, Lib.hid (xr145.out)⟩)
  · have hlt := Lib.hid hlt0
    have ho := Lib.hid ho0
    have hc := Lib.hid h
    clear hlt0 ho0 h
    obtain ⟨a, hsm_a⟩ := src_some SL.out (by have := hlt.out; omega)
    subst hsm_a
    have D11 := Lib.hid (show (k : Int) < (L.length : Int) by have := hlt.out; omega)
    have Wk := Lib.hid (show IntKind.i64.wrap ((k : Int) + 1) = ((k + 1 : Nat) : Int) by rw [wr64 (by have := hlt.out; have := HN.out; omega)]; omega)
    obtain ⟨x0, x1, x2, x3, x4, x5, x6, x7, x8, x9, x10, x11, x12, x13, x14, x15, hcl0⟩ := lits16 o.cl
    obtain ⟨x16, x17, x18, x19, x20, x21, x22, hrp0⟩ := lits7 o.rp
    have HOL := Lib.hid (show opC o = [.int .i64 o.c, .int .i64 o.n, .int .i64 o.a, .int .i64 o.d, .int .i64 o.t, x0, x1, x2, x3, x4, x5, x6, x7, x8, x9, x10, x11, x12, x13, x14, x15, x16, x17, x18, x19, x20, x21, x22] by simp [opC, hcl0, hrp0])
    have HON := Lib.hid (show ∀ u ∈ [.int .i64 o.c, .int .i64 o.n, .int .i64 o.a, .int .i64 o.d, .int .i64 o.t, x0, x1, x2, x3, x4, x5, x6, x7, x8, x9, x10, x11, x12, x13, x14, x15, x16, x17, x18, x19, x20, x21, x22], u.oneCell' = true from by rw [← HOL.out]; exact opC_one o)
    have HCL := Lib.hid hcl0; have HRP := Lib.hid hrp0; clear hcl0 hrp0
    have D17 := Lib.hid (show decide (o.a ≤ q) = true from decide_eq_true hc.out.1)
    have HCO := Lib.hid (show opC (cutO o q) = [.int .i64 o.c, .int .i64 o.n, .int .i64 o.a, .int .i64 o.d, .int .i64 o.t, x0, x1, x2, x3, x4, x5, x6, x7, x8, x9, x10, x11, x12, x13, x14, x15, x16, x17, x18, x19, x20, x21, x22] by unfold cutO; simp only [hc.out.2.1, hc.out.2.2, if_true, if_false]; simp [opC, HCL.out, HRP.out, ZC, ZR])
    have HCN := Lib.hid (show ∀ u ∈ ([.int .i64 o.c, .int .i64 o.n, .int .i64 o.a, .int .i64 o.d, .int .i64 o.t, x0, x1, x2, x3, x4, x5, x6, x7, x8, x9, x10, x11, x12, x13, x14, x15, x16, x17, x18, x19, x20, x21, x22] : List Value), u.oneCell' = true from by rw [← HCO.out]; exact opC_one _)
    refine s_ (fun K148 hK148 => ?_)
    refine pu_ (v := .bool true) (y_run (by rfl) (fun W => by have d := D11.out; go_simp)) ?_
    (try simp only [zP, zN, zA, zB, zC])
    refine nl_ (hK148 _ _ ?_); clear hK148 K148
    refine sq_ (fun K149 hK149 => ?_)
    refine wp_cond_true rfl ?_
    refine wp_skip ?_
    refine th_norm (hK149 _ _ ?_); try clear hK149 K149
    refine sq_ (fun K150 hK150 => ?_)
    refine wp_block ?_
    refine s_ (fun K151 hK151 => ?_)
    refine pu_ (v := .pointer (some (a.add (k * 28)))) (y_run (by rfl) (fun W => by have d := D11.out; go_simp)) ?_
    (try simp only [zP, zN, zA, zB, zC])
    refine ld_ (v := .agg #[.int .i64 o.c, .int .i64 o.n, .int .i64 o.a, .int .i64 o.d, .int .i64 o.t, x0, x1, x2, x3, x4, x5, x6, x7, x8, x9, x10, x11, x12, x13, x14, x15, x16, x17, x18, x19, x20, x21, x22]) rfl (by rfl) (by rfl) (run_loadVar_at (by have h := src_elem SL.out ho.out; rw [HOL.out] at h; exact h) Try.underlying49 rfl (by kernel_rfl)) ?_
    (try simp only [zP, zN, zA, zB, zC])
    refine ef_ (fun K152 hK152 => ?_)
    refine e_alloc (by rfl) rfl rfl (cs := #[.int .i64 0, .int .i64 0, .int .i64 0, .int .i64 0, .int .i64 0, .int .i64 0, .int .i64 0, .int .u64 0, .string ⟨#[]⟩, .slice none 0 0, .slice none 0 0, .slice none 0 0, .int .i64 0, .int .i64 0, .int .i64 0, .int .i64 0, .int .i64 0, .int .i64 0, .int .i64 0, .string ⟨#[]⟩, .slice none 0 0, .int .i64 0, .int .i64 0, .int .i64 0, .int .u64 0, .string ⟨#[]⟩, .slice none 0 0, .slice none 0 0]) (by kernel_rfl) ?_
    rintro g153 w154 HG155 B156 C157
    have nw158 := Lib.hid (show w.heap.size ≤ g153 by have := C0.out.size; have := HG155.out; omega)
    have nx159 := Lib.hid (SL.out.ne_new (by decide) HG155)
    have nr160 := Lib.hid (OT.out.ne_new HG155)
    have C0' := Lib.hid (show Ch [] w w154 from C0.out.trans' C157 (fun x hx => absurd hx (by simp)))
    have SL' := Lib.hid (show SrcIs w154 (.slice (some a) L.length c) (L.length) ((L).flatMap opC) 28 from SL.out.chx C157 xnin_nil)
    have OT' := Lib.hid (show OwnS w154 w.heap.size 49 28 (vt) ((cutL (L.take k) q).length) ((cutL (L.take k) q).flatMap opC) from OT.out.ch C157 rnin_nil)
    clear C0 SL OT
    have C0 := C0'; clear C0'
    have SL := SL'; clear SL'
    have OT := OT'; clear OT'
    have Fg153 := Lib.hid (show Blk w154 g153 (#[.int .i64 0, .int .i64 0, .int .i64 0, .int .i64 0, .int .i64 0, .int .i64 0, .int .i64 0, .int .u64 0, .string ⟨#[]⟩, .slice none 0 0, .slice none 0 0, .slice none 0 0, .int .i64 0, .int .i64 0, .int .i64 0, .int .i64 0, .int .i64 0, .int .i64 0, .int .i64 0, .string ⟨#[]⟩, .slice none 0 0, .int .i64 0, .int .i64 0, .int .i64 0, .int .u64 0, .string ⟨#[]⟩, .slice none 0 0, .slice none 0 0]) 49 from B156); clear B156 C157
    refine hK152 _ _ ?_; clear hK152 K152
    (try simp only [zP, zN, zA, zB, zC])
    refine ef_ (fun K161 hK161 => ?_)
    refine e_storeN (cells := #[.int .i64 o.c, .int .i64 o.n, .int .i64 o.a, .int .i64 o.d, .int .i64 o.t, x0, x1, x2, x3, x4, x5, x6, x7, x8, x9, x10, x11, x12, x13, x14, x15, x16, x17, x18, x19, x20, x21, x22]) (by rfl) rfl rfl (by rfl) (by rfl) Fg153.out (by kernel_rfl) (by rfl) (ones_cons rfl (ones_cons rfl (ones_cons rfl (ones_cons rfl (ones_cons rfl (ones_cons (HON.out x0 (by simp)) (ones_cons (HON.out x1 (by simp)) (ones_cons (HON.out x2 (by simp)) (ones_cons (HON.out x3 (by simp)) (ones_cons (HON.out x4 (by simp)) (ones_cons (HON.out x5 (by simp)) (ones_cons (HON.out x6 (by simp)) (ones_cons (HON.out x7 (by simp)) (ones_cons (HON.out x8 (by simp)) (ones_cons (HON.out x9 (by simp)) (ones_cons (HON.out x10 (by simp)) (ones_cons (HON.out x11 (by simp)) (ones_cons (HON.out x12 (by simp)) (ones_cons (HON.out x13 (by simp)) (ones_cons (HON.out x14 (by simp)) (ones_cons (HON.out x15 (by simp)) (ones_cons (HON.out x16 (by simp)) (ones_cons (HON.out x17 (by simp)) (ones_cons (HON.out x18 (by simp)) (ones_cons (HON.out x19 (by simp)) (ones_cons (HON.out x20 (by simp)) (ones_cons (HON.out x21 (by simp)) (ones_cons (HON.out x22 (by simp)) ones_nil)))))))))))))))))))))))))))) ?_
    rintro w162 B163 C164
    have C0' := Lib.hid (show Ch [] w w162 from C0.out.trans' C164 (inw_cons (.inr nw158.out) inw_nil))
    have SL' := Lib.hid (show SrcIs w162 (.slice (some a) L.length c) (L.length) ((L).flatMap opC) 28 from SL.out.chx C164 (xnin_cons nx159.out xnin_nil))
    have OT' := Lib.hid (show OwnS w162 w.heap.size 49 28 (vt) ((cutL (L.take k) q).length) ((cutL (L.take k) q).flatMap opC) from OT.out.ch C164 (rnin_cons nr160.out rnin_nil))
    clear C0 SL OT
    have C0 := C0'; clear C0'
    have SL := SL'; clear SL'
    have OT := OT'; clear OT'
    clear Fg153; have Fg153 := Lib.hid (show Blk w162 g153 (#[.int .i64 o.c, .int .i64 o.n, .int .i64 o.a, .int .i64 o.d, .int .i64 o.t, x0, x1, x2, x3, x4, x5, x6, x7, x8, x9, x10, x11, x12, x13, x14, x15, x16, x17, x18, x19, x20, x21, x22]) 49 from B163); clear B163 C164
    refine hK161 _ _ ?_; clear hK161 K161
    (try simp only [zP, zN, zA, zB, zC])
    refine nl_ (hK151 _ _ ?_); clear hK151 K151
    refine s_ (fun K165 hK165 => ?_)
    refine pu_ (v := .pointer (some ⟨g153, 2, none⟩)) (y_run (by rfl) (fun W => by go_simp)) ?_
    (try simp only [zP, zN, zA, zB, zC])
    refine ld_ (v := .int .i64 o.a) rfl (by rfl) (by rfl) (run_load_one ((Fg153.out.cell 2).trans rfl) Try.underlying3 rfl) ?_
    (try simp only [zP, zN, zA, zB, zC])
    refine pu_ (v := .int .i64 q) (y_move rfl (by rfl) (by rfl)) ?_
    (try simp only [zP, zN, zA, zB, zC])
    refine pu_ (v := .bool true) (y_run (by rfl) (fun W => by have d := D17.out; go_simp)) ?_
    (try simp only [zP, zN, zA, zB, zC])
    refine nl_ (hK165 _ _ ?_); clear hK165 K165
    refine wp_cond_true rfl ?_
    refine r_ ?_
    refine pu_ (v := vt) (y_move rfl (by rfl) (by rfl)) ?_
    (try simp only [zP, zN, zA, zB, zC])
    refine ld_ (v := .agg (#[.int .i64 o.c, .int .i64 o.n, .int .i64 o.a, .int .i64 o.d, .int .i64 o.t, x0, x1, x2, x3, x4, x5, x6, x7, x8, x9, x10, x11, x12, x13, x14, x15, x16, x17, x18, x19, x20, x21, x22])) rfl (by rfl) (by rfl) (run_loadVar_row _ _ 49 49 (#[.int .i64 o.c, .int .i64 o.n, .int .i64 o.a, .int .i64 o.d, .int .i64 o.t, x0, x1, x2, x3, x4, x5, x6, x7, x8, x9, x10, x11, x12, x13, x14, x15, x16, x17, x18, x19, x20, x21, x22]) (0, 0) _ Fg153.out Try.underlying49 rfl (by kernel_rfl)) ?_
    (try simp only [zP, zN, zA, zB, zC])
    refine pu_ (v := .int .i64 q) (y_move rfl (by rfl) (by rfl)) ?_
    (try simp only [zP, zN, zA, zB, zC])
    refine ef_ (fun K166 hK166 => ?_)
    refine e_call Try.func57 (by kernel_rfl) rfl #[.agg (#[.int .i64 o.c, .int .i64 o.n, .int .i64 o.a, .int .i64 o.d, .int .i64 o.t, x0, x1, x2, x3, x4, x5, x6, x7, x8, x9, x10, x11, x12, x13, x14, x15, x16, x17, x18, x19, x20, x21, x22]), .int .i64 q] (by rfl) rfl rfl (by first | rfl | (simp only [List.map_toArray, List.map_cons, List.map_nil]; first | done | rfl)) ((cut_lit00 o.c o.n o.a o.d o.t x0 x1 x2 x3 x4 x5 x6 x7 x8 x9 x10 x11 x12 x13 x14 x15 x16 x17 x18 x19 x20 x21 x22 (HON.out x0 (by simp)) (HON.out x1 (by simp)) (HON.out x2 (by simp)) (HON.out x3 (by simp)) (HON.out x4 (by simp)) (HON.out x5 (by simp)) (HON.out x6 (by simp)) (HON.out x7 (by simp)) (HON.out x8 (by simp)) (HON.out x9 (by simp)) (HON.out x10 (by simp)) (HON.out x11 (by simp)) (HON.out x12 (by simp)) (HON.out x13 (by simp)) (HON.out x14 (by simp)) (HON.out x15 (by simp)) (HON.out x16 (by simp)) (HON.out x17 (by simp)) (HON.out x18 (by simp)) (HON.out x19 (by simp)) (HON.out x20 (by simp)) (HON.out x21 (by simp)) (HON.out x22 (by simp)) q (Lib.hid hc.out.2.1) (Lib.hid hc.out.2.2))) ?_
    rintro en w168 ⟨rfl, cc167⟩
    refine ⟨_, rfl, ?_⟩
    have C0' := Lib.hid (show Ch [] w w168 from C0.out.trans' cc167 (fun x hx => absurd hx (by simp)))
    have SL' := Lib.hid (show SrcIs w168 (.slice (some a) L.length c) (L.length) ((L).flatMap opC) 28 from SL.out.chx cc167 xnin_nil)
    have OT' := Lib.hid (show OwnS w168 w.heap.size 49 28 (vt) ((cutL (L.take k) q).length) ((cutL (L.take k) q).flatMap opC) from OT.out.ch cc167 rnin_nil)
    have Fg153' := Lib.hid (show Blk w168 g153 (#[.int .i64 o.c, .int .i64 o.n, .int .i64 o.a, .int .i64 o.d, .int .i64 o.t, x0, x1, x2, x3, x4, x5, x6, x7, x8, x9, x10, x11, x12, x13, x14, x15, x16, x17, x18, x19, x20, x21, x22]) 49 from cc167.blk Fg153.out nin_nil)
    clear C0 SL OT Fg153
    have C0 := C0'; clear C0'
    have SL := SL'; clear SL'
    have OT := OT'; clear OT'
    have Fg153 := Fg153'; clear Fg153'
    clear cc167
    refine hK166 _ _ ?_; clear hK166 K166
    (try simp only [zP, zN, zA, zB, zC])
    refine ef_ (fun K169 hK169 => ?_)
    refine e_buildS (parts := #[(0, .agg #[.int .i64 o.c, .int .i64 o.n, .int .i64 o.a, .int .i64 o.d, .int .i64 o.t, x0, x1, x2, x3, x4, x5, x6, x7, x8, x9, x10, x11, x12, x13, x14, x15, x16, x17, x18, x19, x20, x21, x22])]) (cells := #[.int .i64 o.c, .int .i64 o.n, .int .i64 o.a, .int .i64 o.d, .int .i64 o.t, x0, x1, x2, x3, x4, x5, x6, x7, x8, x9, x10, x11, x12, x13, x14, x15, x16, x17, x18, x19, x20, x21, x22]) (by rfl) rfl rfl (by first | rfl | (simp only [List.map_toArray, List.map_cons, List.map_nil]; first | done | rfl)) Try.underlying45 I49.hi I49.hz I49.hs (by decide) (by decide) (by kernel_rfl) ?_
    rintro g170 w171 HG172 B173 C174
    have nw175 := Lib.hid (show w.heap.size ≤ g170 by have := C0.out.size; have := HG172.out; omega)
    have nx176 := Lib.hid (SL.out.ne_new (by decide) HG172)
    have nr177 := Lib.hid (OT.out.ne_new HG172)
    have ne178 := Lib.hid (Fg153.out.ne_new HG172)
    have C0' := Lib.hid (show Ch [] w w171 from C0.out.trans' C174 (fun x hx => absurd hx (by simp)))
    have SL' := Lib.hid (show SrcIs w171 (.slice (some a) L.length c) (L.length) ((L).flatMap opC) 28 from SL.out.chx C174 xnin_nil)
    have OT' := Lib.hid (show OwnS w171 w.heap.size 49 28 (vt) ((cutL (L.take k) q).length) ((cutL (L.take k) q).flatMap opC) from OT.out.ch C174 rnin_nil)
    have Fg153' := Lib.hid (show Blk w171 g153 (#[.int .i64 o.c, .int .i64 o.n, .int .i64 o.a, .int .i64 o.d, .int .i64 o.t, x0, x1, x2, x3, x4, x5, x6, x7, x8, x9, x10, x11, x12, x13, x14, x15, x16, x17, x18, x19, x20, x21, x22]) 49 from C174.blk Fg153.out nin_nil)
    clear C0 SL OT Fg153
    have C0 := C0'; clear C0'
    have SL := SL'; clear SL'
    have OT := OT'; clear OT'
    have Fg153 := Fg153'; clear Fg153'
    have Fg170 := Lib.hid (show Blk w171 g170 (#[.int .i64 o.c, .int .i64 o.n, .int .i64 o.a, .int .i64 o.d, .int .i64 o.t, x0, x1, x2, x3, x4, x5, x6, x7, x8, x9, x10, x11, x12, x13, x14, x15, x16, x17, x18, x19, x20, x21, x22]) 49 from B173); clear B173 C174
    refine hK169 _ _ ?_; clear hK169 K169
    (try simp only [zP, zN, zA, zB, zC])
    refine ef_ (fun K179 hK179 => ?_)
    refine e_append (by rfl) rfl rfl (w.heap.size) 49 _ _ 28 344 Try.underlying45 I49.hi I49.hz I49.hs I49.hb rfl (by decide) (vt) ((cutL (L.take k) q).length) ((cutL (L.take k) q).flatMap opC) (by rfl) OT.out (.slice (some ⟨g170, 0, none⟩) 1 1) 1 ([.int .i64 o.c, .int .i64 o.n, .int .i64 o.a, .int .i64 o.d, .int .i64 o.t, x0, x1, x2, x3, x4, x5, x6, x7, x8, x9, x10, x11, x12, x13, x14, x15, x16, x17, x18, x19, x20, x21, x22]) (by rfl) ⟨rfl, .inr ⟨_, _, rfl, CellsAt.blk Fg170.out 0⟩⟩ HCN.out (by have h8 := cut_len (L.take k) q; rw [List.length_take] at h8; have := HN.out; unfold maxLen; omega) (by have h8 := cut_len (L.take k) q; rw [List.length_take] at h8; have := HN.out; omega) C0.out.size ?_
    rintro v180 w181 O182 C183 R184 -
    have xr186 := Lib.hid (show ∀ k, k ∈ xb (.slice (some a) L.length c) → k ∉ rl v180 from fun k hk hm => (R184 k hm).elim (fun h => hxr.out k hk h) (fun h => by have := SL.out.lt (by decide) k hk; omega))
    have nr187 := Lib.hid (show g153 ∉ rl v180 from fun hk => (R184 _ hk).elim nr160.out (fun h => by have := Fg153.out.lt; omega))
    have nr188 := Lib.hid (show g170 ∉ rl v180 from fun hk => (R184 _ hk).elim nr177.out (fun h => by have := Fg170.out.lt; omega))
    have C0' := Lib.hid (show Ch [] w w181 from C0.out.trans' C183 (fun x hx => .inr (OT.out.lt x hx).1))
    have SL' := Lib.hid (show SrcIs w181 (.slice (some a) L.length c) (L.length) ((L).flatMap opC) 28 from SL.out.chx C183 hxr.out)
    have Fg153' := Lib.hid (show Blk w181 g153 (#[.int .i64 o.c, .int .i64 o.n, .int .i64 o.a, .int .i64 o.d, .int .i64 o.t, x0, x1, x2, x3, x4, x5, x6, x7, x8, x9, x10, x11, x12, x13, x14, x15, x16, x17, x18, x19, x20, x21, x22]) 49 from C183.blk Fg153.out nr160.out)
    have Fg170' := Lib.hid (show Blk w181 g170 (#[.int .i64 o.c, .int .i64 o.n, .int .i64 o.a, .int .i64 o.d, .int .i64 o.t, x0, x1, x2, x3, x4, x5, x6, x7, x8, x9, x10, x11, x12, x13, x14, x15, x16, x17, x18, x19, x20, x21, x22]) 49 from C183.blk Fg170.out nr177.out)
    clear C0 SL Fg153 Fg170
    have C0 := C0'; clear C0'
    have SL := SL'; clear SL'
    have Fg153 := Fg153'; clear Fg153'
    have Fg170 := Fg170'; clear Fg170'
    clear OT
    have OT := Lib.hid (show OwnS w181 w.heap.size 49 28 (v180) ((cutL (L.take k) q).length + 1) ((cutL (L.take k) q).flatMap opC ++ [.int .i64 o.c, .int .i64 o.n, .int .i64 o.a, .int .i64 o.d, .int .i64 o.t, x0, x1, x2, x3, x4, x5, x6, x7, x8, x9, x10, x11, x12, x13, x14, x15, x16, x17, x18, x19, x20, x21, x22]) from O182); clear O182 C183
    refine hK179 _ _ ?_; clear hK179 K179
    (try simp only [zP, zN, zA, zB, zC])
    refine pu_ (v := v180) (y_assign rfl (by rfl) (by rfl)) ?_
    (try simp only [zP, zN, zA, zB, zC])
    refine nl_ ?_
    refine ib_norm ?_
    refine th_norm (hK150 _ _ ?_); try clear hK150 K150
    refine r_ ?_
    refine pu_ (v := .int .i64 (k + 1 : Nat)) (y_run (by rfl) (fun W => by have d := Wk.out; go_simp)) ?_
    (try simp only [zP, zN, zA, zB, zC])
    refine pu_ (v := .int .i64 (k + 1 : Nat)) (y_move rfl (by rfl) (by rfl)) ?_
    (try simp only [zP, zN, zA, zB, zC])
    refine nl_ ?_
    exact th_norm (hK6 (kq - 1) _ _ (by have := hlt.out; have := hk.out; omega) ⟨k + 1, _, fun us_ => (#[.slice (some a) L.length c, .int .i64 q, us 2, us 3, .slice none 0 0, v180, us 6, .pointer (some ⟨g153, 0, none⟩), .slice (some a) L.length c, .int .i64 L.length, .int .i64 (k + 1 : Nat), .bool true, .pointer (some (a.add (k * 28))), .agg #[.int .i64 o.c, .int .i64 o.n, .int .i64 o.a, .int .i64 o.d, .int .i64 o.t, x0, x1, x2, x3, x4, x5, x6, x7, x8, x9, x10, x11, x12, x13, x14, x15, x16, x17, x18, x19, x20, x21, x22], .pointer (some ⟨g153, 2, none⟩), .int .i64 o.a, .int .i64 q, .bool true, vt, .agg (#[.int .i64 o.c, .int .i64 o.n, .int .i64 o.a, .int .i64 o.d, .int .i64 o.t, x0, x1, x2, x3, x4, x5, x6, x7, x8, x9, x10, x11, x12, x13, x14, x15, x16, x17, x18, x19, x20, x21, x22]), .int .i64 q, .agg #[.int .i64 o.c, .int .i64 o.n, .int .i64 o.a, .int .i64 o.d, .int .i64 o.t, x0, x1, x2, x3, x4, x5, x6, x7, x8, x9, x10, x11, x12, x13, x14, x15, x16, x17, x18, x19, x20, x21, x22], .slice (some ⟨g170, 0, none⟩) 1 1, v180, .int .i64 (k + 1 : Nat), us 25] : Array Value).getD us_ undef, rfl, C0, SL, Lib.hid (by have h := OT.out; rw [← HCO.out] at h; rw [cut_yes ho.out hc.out.1, List.flatMap_append, List.length_append, List.flatMap_cons, List.flatMap_nil, List.append_nil]; exact h), Lib.hid ⟨by have := hlt.out; omega, by have := hlt.out; have := hk.out; omega⟩, Lib.hid (xr186.out)⟩)
  · have D11 := Lib.hid (show ¬ k < L.length by have := hk.out; omega)
    have HE := Lib.hid h
    clear h
    refine s_ (fun K189 hK189 => ?_)
    refine pu_ (v := .bool false) (y_run (by rfl) (fun W => by have d := D11.out; go_simp)) ?_
    (try simp only [zP, zN, zA, zB, zC])
    refine nl_ (hK189 _ _ ?_); clear hK189 K189
    refine sq_ (fun K190 hK190 => ?_)
    refine wp_cond_false rfl ?_
    refine wp_exit ?_
    refine th_exit ?_
    refine th_exit ?_
    refine ib_exit ?_
    refine th_norm (hK3 _ _ ?_); try clear hK3 K3
    refine s_ (fun K191 hK191 => ?_)
    refine pu_ (v := vt) (y_move rfl (by rfl) (by rfl)) ?_
    (try simp only [zP, zN, zA, zB, zC])
    refine pu_ (v := vt) (y_assign rfl (by rfl) (by rfl)) ?_
    (try simp only [zP, zN, zA, zB, zC])
    refine nl_ (hK191 _ _ ?_); clear hK191 K191
    refine wp_ret ?_
    refine hQ _ _ _ ?_
    refine bodyPost_ret (res1 rfl (rdv_tmp (v := vt) (by rfl))) rfl ?_
    exact ⟨_, rfl, by have h := OT.out; rw [HE.out, List.take_length] at h; exact h, C0.out⟩
theorem light_ {A : Option Addr} {c : Nat} {L : List HOp} {rs : Nat → Bool} {ns : Nat → Nat} (HLL : Hid (∀ i o, L[i]? = some o → opLits w o (rs i) (ns i))) (SL : Hid (SrcIs w (.slice A L.length c) (L.length) ((L).flatMap opC) 28)) :
    Calls Try.prog 32 #[.slice A L.length c] w fun en w' => ∃ b, en = .returned (.bool b) ∧ (b = true ↔ lightP L rs ns) ∧ Ch [] w w' := by
  have C0 := Lib.hid (Ch.refl [] w)
  go_enter Try.func32, Try.ntmps32
  refine q_ (fun Q hQ hP => ?_)
  refine s_ (fun K1 hK1 => ?_)
  refine pu_ (v := .bool false) (y_assign rfl (by rfl) (by rfl)) ?_
  (try simp only [zP, zN, zA, zB, zC])
  refine nl_ (hK1 _ _ ?_); clear hK1 K1
  refine sq_ (fun K2 hK2 => ?_)
  refine s_ (fun K3 hK3 => ?_)
  refine pu_ (v := .int .i64 0) (y_assign rfl (by rfl) (by rfl)) ?_
  (try simp only [zP, zN, zA, zB, zC])
  refine nl_ (hK3 _ _ ?_); clear hK3 K3
  refine wp_block ?_
  refine loopk_ (fun (kq : Nat) (a' : Act) (w' : World) => ∃ (k : Nat), ∃ (us : Nat → Value), a' = ⟨#[.slice A L.length c, us 1, .bool false, .int .i64 k, us 4, us 5, us 6, us 7, us 8, us 9, us 10, us 11, us 12, us 13, us 14, us 15, us 16, us 17, us 18, us 19, us 20, us 21, us 22, us 23, us 24, us 25, us 26, us 27, us 28, us 29, us 30, us 31, us 32, us 33, us 34, us 35, us 36, us 37, us 38, us 39, us 40, us 41, us 42, us 43, us 44, us 45, us 46, us 47, us 48], []⟩ ∧ Hid (Ch [] w w') ∧ Hid (SrcIs w' (.slice A L.length c) (L.length) ((L).flatMap opC) 28) ∧ Hid (k ≤ L.length ∧ k ≤ 30 ∧ kq + k = 30) ∧ Hid (∀ i o, i < k → L[i]? = some o → posO o ∧ rs i = true ∧ ns i = 0)) (30) (⟨0, fun us_ => (#[.slice A L.length c, undef, .bool false, .int .i64 0, undef, undef, undef, undef, undef, undef, undef, undef, undef, undef, undef, undef, undef, undef, undef, undef, undef, undef, undef, undef, undef, undef, undef, undef, undef, undef, undef, undef, undef, undef, undef, undef, undef, undef, undef, undef, undef, undef, undef, undef, undef, undef, undef, undef, undef] : Array Value).getD us_ undef, rfl, C0, SL, Lib.hid ⟨by omega, by omega, rfl⟩, Lib.hid (fun i o h => absurd h (by omega))⟩) ?_
  rintro kq _ w4 ⟨k, us, rfl, C0, SL, hk, hr⟩ K5 hK5
  refine sq_ (fun K6 hK6 => ?_)
  rcases light_ways (L := L) hk.out.1 hk.out.2.1 rs ns with ⟨o, hlt0, ho0, h | h | h | h | h | h⟩ | h | h
  · have hlt := Lib.hid hlt0
    have ho := Lib.hid ho0
    have hc := Lib.hid h
    clear hlt0 ho0 h
    obtain ⟨a, hsm_a⟩ := src_some SL.out (by have := hlt.out; omega)
    subst hsm_a
    have D8 := Lib.hid (show (k : Int) < (L.length : Int) by have := hlt.out; omega)
    have D11 := Lib.hid (show decide ((k : Int) < 30) = true from decide_eq_true (by have := hlt.out; omega))
    have Wk := Lib.hid (show IntKind.i64.wrap ((k : Int) + 1) = ((k + 1 : Nat) : Int) by rw [wr64 (by have := hlt.out; omega)]; omega)
    obtain ⟨x0, x1, x2, x3, x4, x5, x6, x7, x8, x9, x10, x11, x12, x13, x14, x15, y0, y1, y2, y3, y4, y6, Ap, cp, hcl0, hrp0, hsp0⟩ := HLL.out k o ho.out
    obtain ⟨np, hnp⟩ : ∃ x, ns k = x := ⟨_, rfl⟩
    rw [hnp] at hrp0
    have HSP := Lib.hid hsp0; have HNP := Lib.hid hnp
    have HOL := Lib.hid (show opC o = [.int .i64 o.c, .int .i64 o.n, .int .i64 o.a, .int .i64 o.d, .int .i64 o.t, x0, x1, x2, x3, x4, x5, x6, x7, x8, x9, x10, x11, x12, x13, x14, x15, y0, y1, y2, y3, y4, .slice Ap np cp, y6] by simp [opC, hcl0, hrp0])
    have HON := Lib.hid (show ∀ u ∈ [.int .i64 o.c, .int .i64 o.n, .int .i64 o.a, .int .i64 o.d, .int .i64 o.t, x0, x1, x2, x3, x4, x5, x6, x7, x8, x9, x10, x11, x12, x13, x14, x15, y0, y1, y2, y3, y4, .slice Ap np cp, y6], u.oneCell' = true from by rw [← HOL.out]; exact opC_one o)
    clear hcl0 hrp0 hsp0 hnp
    have D21 := Lib.hid (show decide (o.a < 0) = true from decide_eq_true (by have := hc.out; omega))
    have HR := Lib.hid (show ¬ lightP L rs ns from fun h9 => by have h8 := h9.2 k o hlt.out.2 ho.out; unfold posO at h8; have := hc.out; omega)
    refine s_ (fun K7 hK7 => ?_)
    refine pu_ (v := .int .i64 k) (y_move rfl (by rfl) (by rfl)) ?_
    (try simp only [zP, zN, zA, zB, zC])
    refine pu_ (v := .slice (some a) L.length c) (y_move rfl (by rfl) (by rfl)) ?_
    (try simp only [zP, zN, zA, zB, zC])
    refine pu_ (v := .int .i64 L.length) (y_run (by rfl) (fun W => by go_simp)) ?_
    (try simp only [zP, zN, zA, zB, zC])
    refine pu_ (v := .bool true) (y_run (by rfl) (fun W => by have d := D8.out; go_simp)) ?_
    (try simp only [zP, zN, zA, zB, zC])
    refine pu_ (v := .bool true) (y_move rfl (by rfl) (by rfl)) ?_
    (try simp only [zP, zN, zA, zB, zC])
    refine pu_ (v := .int .i64 k) (y_move rfl (by rfl) (by rfl)) ?_
    (try simp only [zP, zN, zA, zB, zC])
    refine pu_ (v := .bool true) (y_run (by rfl) (fun W => by have d := D11.out; go_simp)) ?_
    (try simp only [zP, zN, zA, zB, zC])
    refine pu_ (v := .bool true) (y_pick (t := true) (by rfl) rfl (by rfl) (by rfl)) ?_
    (try simp only [zP, zN, zA, zB, zC])
    refine nl_ (hK7 _ _ ?_); clear hK7 K7
    refine wp_cond_true rfl ?_
    refine wp_skip ?_
    refine th_norm (hK6 _ _ ?_); try clear hK6 K6
    refine sq_ (fun K8 hK8 => ?_)
    refine wp_block ?_
    refine s_ (fun K9 hK9 => ?_)
    refine pu_ (v := .slice (some a) L.length c) (y_move rfl (by rfl) (by rfl)) ?_
    (try simp only [zP, zN, zA, zB, zC])
    refine pu_ (v := .int .i64 k) (y_move rfl (by rfl) (by rfl)) ?_
    (try simp only [zP, zN, zA, zB, zC])
    refine pu_ (v := .pointer (some (a.add (k * 28)))) (y_run (by rfl) (fun W => by have d := D8.out; go_simp)) ?_
    (try simp only [zP, zN, zA, zB, zC])
    refine ld_ (v := .agg #[.int .i64 o.c, .int .i64 o.n, .int .i64 o.a, .int .i64 o.d, .int .i64 o.t, x0, x1, x2, x3, x4, x5, x6, x7, x8, x9, x10, x11, x12, x13, x14, x15, y0, y1, y2, y3, y4, .slice Ap np cp, y6]) rfl (by rfl) (by rfl) (run_loadVar_at (by have h := src_elem SL.out ho.out; rw [HOL.out] at h; exact h) Try.underlying59 rfl (by kernel_rfl)) ?_
    (try simp only [zP, zN, zA, zB, zC])
    refine ef_ (fun K10 hK10 => ?_)
    refine e_alloc (by rfl) rfl rfl (cs := #[.int .i64 0, .int .i64 0, .int .i64 0, .int .i64 0, .int .i64 0, .int .i64 0, .int .i64 0, .int .u64 0, .string ⟨#[]⟩, .slice none 0 0, .slice none 0 0, .slice none 0 0, .int .i64 0, .int .i64 0, .int .i64 0, .int .i64 0, .int .i64 0, .int .i64 0, .int .i64 0, .string ⟨#[]⟩, .slice none 0 0, .int .i64 0, .int .i64 0, .int .i64 0, .int .u64 0, .string ⟨#[]⟩, .slice none 0 0, .slice none 0 0]) (by kernel_rfl) ?_
    rintro g11 w12 HG13 B14 C15
    have nw16 := Lib.hid (show w.heap.size ≤ g11 by have := C0.out.size; have := HG13.out; omega)
    have nx17 := Lib.hid (SL.out.ne_new (by decide) HG13)
    have C0' := Lib.hid (show Ch [] w w12 from C0.out.trans' C15 (fun x hx => absurd hx (by simp)))
    have SL' := Lib.hid (show SrcIs w12 (.slice (some a) L.length c) (L.length) ((L).flatMap opC) 28 from SL.out.chx C15 xnin_nil)
    clear C0 SL
    have C0 := C0'; clear C0'
    have SL := SL'; clear SL'
    have Fg11 := Lib.hid (show Blk w12 g11 (#[.int .i64 0, .int .i64 0, .int .i64 0, .int .i64 0, .int .i64 0, .int .i64 0, .int .i64 0, .int .u64 0, .string ⟨#[]⟩, .slice none 0 0, .slice none 0 0, .slice none 0 0, .int .i64 0, .int .i64 0, .int .i64 0, .int .i64 0, .int .i64 0, .int .i64 0, .int .i64 0, .string ⟨#[]⟩, .slice none 0 0, .int .i64 0, .int .i64 0, .int .i64 0, .int .u64 0, .string ⟨#[]⟩, .slice none 0 0, .slice none 0 0]) 59 from B14); clear B14 C15
    refine hK10 _ _ ?_; clear hK10 K10
    (try simp only [zP, zN, zA, zB, zC])
    refine ef_ (fun K18 hK18 => ?_)
    refine e_storeN (cells := #[.int .i64 o.c, .int .i64 o.n, .int .i64 o.a, .int .i64 o.d, .int .i64 o.t, x0, x1, x2, x3, x4, x5, x6, x7, x8, x9, x10, x11, x12, x13, x14, x15, y0, y1, y2, y3, y4, .slice Ap np cp, y6]) (by rfl) rfl rfl (by rfl) (by rfl) Fg11.out (by kernel_rfl) (by rfl) (ones_cons rfl (ones_cons rfl (ones_cons rfl (ones_cons rfl (ones_cons rfl (ones_cons (HON.out x0 (by simp)) (ones_cons (HON.out x1 (by simp)) (ones_cons (HON.out x2 (by simp)) (ones_cons (HON.out x3 (by simp)) (ones_cons (HON.out x4 (by simp)) (ones_cons (HON.out x5 (by simp)) (ones_cons (HON.out x6 (by simp)) (ones_cons (HON.out x7 (by simp)) (ones_cons (HON.out x8 (by simp)) (ones_cons (HON.out x9 (by simp)) (ones_cons (HON.out x10 (by simp)) (ones_cons (HON.out x11 (by simp)) (ones_cons (HON.out x12 (by simp)) (ones_cons (HON.out x13 (by simp)) (ones_cons (HON.out x14 (by simp)) (ones_cons (HON.out x15 (by simp)) (ones_cons (HON.out y0 (by simp)) (ones_cons (HON.out y1 (by simp)) (ones_cons (HON.out y2 (by simp)) (ones_cons (HON.out y3 (by simp)) (ones_cons (HON.out y4 (by simp)) (ones_cons rfl (ones_cons (HON.out y6 (by simp)) ones_nil)))))))))))))))))))))))))))) ?_
    rintro w19 B20 C21
    have C0' := Lib.hid (show Ch [] w w19 from C0.out.trans' C21 (inw_cons (.inr nw16.out) inw_nil))
    have SL' := Lib.hid (show SrcIs w19 (.slice (some a) L.length c) (L.length) ((L).flatMap opC) 28 from SL.out.chx C21 (xnin_cons nx17.out xnin_nil))
    clear C0 SL
    have C0 := C0'; clear C0'
    have SL := SL'; clear SL'
    clear Fg11; have Fg11 := Lib.hid (show Blk w19 g11 (#[.int .i64 o.c, .int .i64 o.n, .int .i64 o.a, .int .i64 o.d, .int .i64 o.t, x0, x1, x2, x3, x4, x5, x6, x7, x8, x9, x10, x11, x12, x13, x14, x15, y0, y1, y2, y3, y4, .slice Ap np cp, y6]) 59 from B20); clear B20 C21
    refine hK18 _ _ ?_; clear hK18 K18
    (try simp only [zP, zN, zA, zB, zC])
    refine nl_ (hK9 _ _ ?_); clear hK9 K9
    refine s_ (fun K22 hK22 => ?_)
    refine pu_ (v := .pointer (some ⟨g11, 2, none⟩)) (y_run (by rfl) (fun W => by go_simp)) ?_
    (try simp only [zP, zN, zA, zB, zC])
    refine ld_ (v := .int .i64 o.a) rfl (by rfl) (by rfl) (run_load_one ((Fg11.out.cell 2).trans rfl) Try.underlying3 rfl) ?_
    (try simp only [zP, zN, zA, zB, zC])
    refine pu_ (v := .bool true) (y_run (by rfl) (fun W => by have d := D21.out; go_simp)) ?_
    (try simp only [zP, zN, zA, zB, zC])
    refine pu_ (v := .bool true) (y_move rfl (by rfl) (by rfl)) ?_
    (try simp only [zP, zN, zA, zB, zC])
    refine pu_ (y_off (by rfl)) ?_
    (try simp only [zP, zN, zA, zB, zC])
    refine pu_ (y_off (by rfl)) ?_
    (try simp only [zP, zN, zA, zB, zC])
    refine pu_ (y_off (by rfl)) ?_
    (try simp only [zP, zN, zA, zB, zC])
    refine pu_ (v := .bool true) (y_pick (t := true) (by rfl) rfl (by rfl) (by rfl)) ?_
    (try simp only [zP, zN, zA, zB, zC])
    refine pu_ (v := .bool true) (y_move rfl (by rfl) (by rfl)) ?_
    (try simp only [zP, zN, zA, zB, zC])
    refine pu_ (y_off (by rfl)) ?_
    (try simp only [zP, zN, zA, zB, zC])
    refine pu_ (y_off (by rfl)) ?_
    (try simp only [zP, zN, zA, zB, zC])
    refine pu_ (y_off (by rfl)) ?_
    (try simp only [zP, zN, zA, zB, zC])
    refine pu_ (v := .bool true) (y_pick (t := true) (by rfl) rfl (by rfl) (by rfl)) ?_
    (try simp only [zP, zN, zA, zB, zC])
    refine pu_ (v := .bool true) (y_move rfl (by rfl) (by rfl)) ?_
    (try simp only [zP, zN, zA, zB, zC])
    refine pu_ (y_off (by rfl)) ?_
    (try simp only [zP, zN, zA, zB, zC])
    refine pu_ (y_off (by rfl)) ?_
    (try simp only [zP, zN, zA, zB, zC])
    refine pu_ (y_off (by rfl)) ?_
    (try simp only [zP, zN, zA, zB, zC])
    refine pu_ (y_off (by rfl)) ?_
    (try simp only [zP, zN, zA, zB, zC])
    refine pu_ (y_off (by rfl)) ?_
    (try simp only [zP, zN, zA, zB, zC])
    refine pu_ (v := .bool true) (y_pick (t := true) (by rfl) rfl (by rfl) (by rfl)) ?_
    (try simp only [zP, zN, zA, zB, zC])
    refine pu_ (v := .bool true) (y_move rfl (by rfl) (by rfl)) ?_
    (try simp only [zP, zN, zA, zB, zC])
    refine pu_ (y_off (by rfl)) ?_
    (try simp only [zP, zN, zA, zB, zC])
    refine pu_ (y_off (by rfl)) ?_
    (try simp only [zP, zN, zA, zB, zC])
    refine pu_ (y_off (by rfl)) ?_
    (try simp only [zP, zN, zA, zB, zC])
    refine pu_ (y_off (by rfl)) ?_
    (try simp only [zP, zN, zA, zB, zC])
    refine pu_ (y_off (by rfl)) ?_
    (try simp only [zP, zN, zA, zB, zC])
    refine pu_ (v := .bool true) (y_pick (t := true) (by rfl) rfl (by rfl) (by rfl)) ?_
    (try simp only [zP, zN, zA, zB, zC])
    refine nl_ (hK22 _ _ ?_); clear hK22 K22
    refine wp_cond_true rfl ?_
    refine s_ (fun K23 hK23 => ?_)
    refine pu_ (v := .bool false) (y_assign rfl (by rfl) (by rfl)) ?_
    (try simp only [zP, zN, zA, zB, zC])
    refine nl_ (hK23 _ _ ?_); clear hK23 K23
    refine wp_ret ?_
    refine ib_ret ?_
    refine th_ret ?_
    refine th_ret ?_
    refine ib_ret ?_
    refine th_ret ?_
    refine hQ _ _ _ ?_
    refine bodyPost_ret (res1 rfl (rdv_tmp (v := .bool false) (by rfl))) rfl ?_
    exact ⟨_, rfl, ⟨fun h9 => absurd h9 (by decide), fun h9 => absurd h9 HR.out⟩, C0.out⟩
  · have hlt := Lib.hid hlt0
    have ho := Lib.hid ho0
    have hc := Lib.hid h
    clear hlt0 ho0 h
    obtain ⟨a, hsm_a⟩ := src_some SL.out (by have := hlt.out; omega)
    subst hsm_a
    have D8 := Lib.hid (show (k : Int) < (L.length : Int) by have := hlt.out; omega)
    have D11 := Lib.hid (show decide ((k : Int) < 30) = true from decide_eq_true (by have := hlt.out; omega))
    have Wk := Lib.hid (show IntKind.i64.wrap ((k : Int) + 1) = ((k + 1 : Nat) : Int) by rw [wr64 (by have := hlt.out; omega)]; omega)
    obtain ⟨x0, x1, x2, x3, x4, x5, x6, x7, x8, x9, x10, x11, x12, x13, x14, x15, y0, y1, y2, y3, y4, y6, Ap, cp, hcl0, hrp0, hsp0⟩ := HLL.out k o ho.out
    obtain ⟨np, hnp⟩ : ∃ x, ns k = x := ⟨_, rfl⟩
    rw [hnp] at hrp0
    have HSP := Lib.hid hsp0; have HNP := Lib.hid hnp
    have HOL := Lib.hid (show opC o = [.int .i64 o.c, .int .i64 o.n, .int .i64 o.a, .int .i64 o.d, .int .i64 o.t, x0, x1, x2, x3, x4, x5, x6, x7, x8, x9, x10, x11, x12, x13, x14, x15, y0, y1, y2, y3, y4, .slice Ap np cp, y6] by simp [opC, hcl0, hrp0])
    have HON := Lib.hid (show ∀ u ∈ [.int .i64 o.c, .int .i64 o.n, .int .i64 o.a, .int .i64 o.d, .int .i64 o.t, x0, x1, x2, x3, x4, x5, x6, x7, x8, x9, x10, x11, x12, x13, x14, x15, y0, y1, y2, y3, y4, .slice Ap np cp, y6], u.oneCell' = true from by rw [← HOL.out]; exact opC_one o)
    clear hcl0 hrp0 hsp0 hnp
    have D21 := Lib.hid (show decide (o.a < 0) = false from decide_eq_false (by have := hc.out; omega))
    have D25 := Lib.hid (show decide (o.d < 0) = true from decide_eq_true (by have := hc.out; omega))
    have HR := Lib.hid (show ¬ lightP L rs ns from fun h9 => by have h8 := h9.2 k o hlt.out.2 ho.out; unfold posO at h8; have := hc.out; omega)
    refine s_ (fun K24 hK24 => ?_)
    refine pu_ (v := .int .i64 k) (y_move rfl (by rfl) (by rfl)) ?_
    (try simp only [zP, zN, zA, zB, zC])
    refine pu_ (v := .slice (some a) L.length c) (y_move rfl (by rfl) (by rfl)) ?_
    (try simp only [zP, zN, zA, zB, zC])
    refine pu_ (v := .int .i64 L.length) (y_run (by rfl) (fun W => by go_simp)) ?_
    (try simp only [zP, zN, zA, zB, zC])
    refine pu_ (v := .bool true) (y_run (by rfl) (fun W => by have d := D8.out; go_simp)) ?_
    (try simp only [zP, zN, zA, zB, zC])
    refine pu_ (v := .bool true) (y_move rfl (by rfl) (by rfl)) ?_
    (try simp only [zP, zN, zA, zB, zC])
    refine pu_ (v := .int .i64 k) (y_move rfl (by rfl) (by rfl)) ?_
    (try simp only [zP, zN, zA, zB, zC])
    refine pu_ (v := .bool true) (y_run (by rfl) (fun W => by have d := D11.out; go_simp)) ?_
    (try simp only [zP, zN, zA, zB, zC])
    refine pu_ (v := .bool true) (y_pick (t := true) (by rfl) rfl (by rfl) (by rfl)) ?_
    (try simp only [zP, zN, zA, zB, zC])
    refine nl_ (hK24 _ _ ?_); clear hK24 K24
    refine wp_cond_true rfl ?_
    refine wp_skip ?_
    refine th_norm (hK6 _ _ ?_); try clear hK6 K6
    refine sq_ (fun K25 hK25 => ?_)
    refine wp_block ?_
    refine s_ (fun K26 hK26 => ?_)
    refine pu_ (v := .slice (some a) L.length c) (y_move rfl (by rfl) (by rfl)) ?_
    (try simp only [zP, zN, zA, zB, zC])
    refine pu_ (v := .int .i64 k) (y_move rfl (by rfl) (by rfl)) ?_
    (try simp only [zP, zN, zA, zB, zC])
    refine pu_ (v := .pointer (some (a.add (k * 28)))) (y_run (by rfl) (fun W => by have d := D8.out; go_simp)) ?_
    (try simp only [zP, zN, zA, zB, zC])
    refine ld_ (v := .agg #[.int .i64 o.c, .int .i64 o.n, .int .i64 o.a, .int .i64 o.d, .int .i64 o.t, x0, x1, x2, x3, x4, x5, x6, x7, x8, x9, x10, x11, x12, x13, x14, x15, y0, y1, y2, y3, y4, .slice Ap np cp, y6]) rfl (by rfl) (by rfl) (run_loadVar_at (by have h := src_elem SL.out ho.out; rw [HOL.out] at h; exact h) Try.underlying59 rfl (by kernel_rfl)) ?_
    (try simp only [zP, zN, zA, zB, zC])
    refine ef_ (fun K27 hK27 => ?_)
    refine e_alloc (by rfl) rfl rfl (cs := #[.int .i64 0, .int .i64 0, .int .i64 0, .int .i64 0, .int .i64 0, .int .i64 0, .int .i64 0, .int .u64 0, .string ⟨#[]⟩, .slice none 0 0, .slice none 0 0, .slice none 0 0, .int .i64 0, .int .i64 0, .int .i64 0, .int .i64 0, .int .i64 0, .int .i64 0, .int .i64 0, .string ⟨#[]⟩, .slice none 0 0, .int .i64 0, .int .i64 0, .int .i64 0, .int .u64 0, .string ⟨#[]⟩, .slice none 0 0, .slice none 0 0]) (by kernel_rfl) ?_
    rintro g28 w29 HG30 B31 C32
    have nw33 := Lib.hid (show w.heap.size ≤ g28 by have := C0.out.size; have := HG30.out; omega)
    have nx34 := Lib.hid (SL.out.ne_new (by decide) HG30)
    have C0' := Lib.hid (show Ch [] w w29 from C0.out.trans' C32 (fun x hx => absurd hx (by simp)))
    have SL' := Lib.hid (show SrcIs w29 (.slice (some a) L.length c) (L.length) ((L).flatMap opC) 28 from SL.out.chx C32 xnin_nil)
    clear C0 SL
    have C0 := C0'; clear C0'
    have SL := SL'; clear SL'
    have Fg28 := Lib.hid (show Blk w29 g28 (#[.int .i64 0, .int .i64 0, .int .i64 0, .int .i64 0, .int .i64 0, .int .i64 0, .int .i64 0, .int .u64 0, .string ⟨#[]⟩, .slice none 0 0, .slice none 0 0, .slice none 0 0, .int .i64 0, .int .i64 0, .int .i64 0, .int .i64 0, .int .i64 0, .int .i64 0, .int .i64 0, .string ⟨#[]⟩, .slice none 0 0, .int .i64 0, .int .i64 0, .int .i64 0, .int .u64 0, .string ⟨#[]⟩, .slice none 0 0, .slice none 0 0]) 59 from B31); clear B31 C32
    refine hK27 _ _ ?_; clear hK27 K27
    (try simp only [zP, zN, zA, zB, zC])
    refine ef_ (fun K35 hK35 => ?_)
    refine e_storeN (cells := #[.int .i64 o.c, .int .i64 o.n, .int .i64 o.a, .int .i64 o.d, .int .i64 o.t, x0, x1, x2, x3, x4, x5, x6, x7, x8, x9, x10, x11, x12, x13, x14, x15, y0, y1, y2, y3, y4, .slice Ap np cp, y6]) (by rfl) rfl rfl (by rfl) (by rfl) Fg28.out (by kernel_rfl) (by rfl) (ones_cons rfl (ones_cons rfl (ones_cons rfl (ones_cons rfl (ones_cons rfl (ones_cons (HON.out x0 (by simp)) (ones_cons (HON.out x1 (by simp)) (ones_cons (HON.out x2 (by simp)) (ones_cons (HON.out x3 (by simp)) (ones_cons (HON.out x4 (by simp)) (ones_cons (HON.out x5 (by simp)) (ones_cons (HON.out x6 (by simp)) (ones_cons (HON.out x7 (by simp)) (ones_cons (HON.out x8 (by simp)) (ones_cons (HON.out x9 (by simp)) (ones_cons (HON.out x10 (by simp)) (ones_cons (HON.out x11 (by simp)) (ones_cons (HON.out x12 (by simp)) (ones_cons (HON.out x13 (by simp)) (ones_cons (HON.out x14 (by simp)) (ones_cons (HON.out x15 (by simp)) (ones_cons (HON.out y0 (by simp)) (ones_cons (HON.out y1 (by simp)) (ones_cons (HON.out y2 (by simp)) (ones_cons (HON.out y3 (by simp)) (ones_cons (HON.out y4 (by simp)) (ones_cons rfl (ones_cons (HON.out y6 (by simp)) ones_nil)))))))))))))))))))))))))))) ?_
    rintro w36 B37 C38
    have C0' := Lib.hid (show Ch [] w w36 from C0.out.trans' C38 (inw_cons (.inr nw33.out) inw_nil))
    have SL' := Lib.hid (show SrcIs w36 (.slice (some a) L.length c) (L.length) ((L).flatMap opC) 28 from SL.out.chx C38 (xnin_cons nx34.out xnin_nil))
    clear C0 SL
    have C0 := C0'; clear C0'
    have SL := SL'; clear SL'
    clear Fg28; have Fg28 := Lib.hid (show Blk w36 g28 (#[.int .i64 o.c, .int .i64 o.n, .int .i64 o.a, .int .i64 o.d, .int .i64 o.t, x0, x1, x2, x3, x4, x5, x6, x7, x8, x9, x10, x11, x12, x13, x14, x15, y0, y1, y2, y3, y4, .slice Ap np cp, y6]) 59 from B37); clear B37 C38
    refine hK35 _ _ ?_; clear hK35 K35
    (try simp only [zP, zN, zA, zB, zC])
    refine nl_ (hK26 _ _ ?_); clear hK26 K26
    refine s_ (fun K39 hK39 => ?_)
    refine pu_ (v := .pointer (some ⟨g28, 2, none⟩)) (y_run (by rfl) (fun W => by go_simp)) ?_
    (try simp only [zP, zN, zA, zB, zC])
    refine ld_ (v := .int .i64 o.a) rfl (by rfl) (by rfl) (run_load_one ((Fg28.out.cell 2).trans rfl) Try.underlying3 rfl) ?_
    (try simp only [zP, zN, zA, zB, zC])
    refine pu_ (v := .bool false) (y_run (by rfl) (fun W => by have d := D21.out; go_simp)) ?_
    (try simp only [zP, zN, zA, zB, zC])
    refine pu_ (v := .bool false) (y_move rfl (by rfl) (by rfl)) ?_
    (try simp only [zP, zN, zA, zB, zC])
    refine pu_ (v := .pointer (some ⟨g28, 3, none⟩)) (y_run (by rfl) (fun W => by go_simp)) ?_
    (try simp only [zP, zN, zA, zB, zC])
    refine ld_ (v := .int .i64 o.d) rfl (by rfl) (by rfl) (run_load_one ((Fg28.out.cell 3).trans rfl) Try.underlying3 rfl) ?_
    (try simp only [zP, zN, zA, zB, zC])
    refine pu_ (v := .bool true) (y_run (by rfl) (fun W => by have d := D25.out; go_simp)) ?_
    (try simp only [zP, zN, zA, zB, zC])
    refine pu_ (v := .bool true) (y_pick (t := false) (by rfl) rfl (by rfl) (by rfl)) ?_
    (try simp only [zP, zN, zA, zB, zC])
    refine pu_ (v := .bool true) (y_move rfl (by rfl) (by rfl)) ?_
    (try simp only [zP, zN, zA, zB, zC])
    refine pu_ (y_off (by rfl)) ?_
    (try simp only [zP, zN, zA, zB, zC])
    refine pu_ (y_off (by rfl)) ?_
    (try simp only [zP, zN, zA, zB, zC])
    refine pu_ (y_off (by rfl)) ?_
    (try simp only [zP, zN, zA, zB, zC])
    refine pu_ (v := .bool true) (y_pick (t := true) (by rfl) rfl (by rfl) (by rfl)) ?_
    (try simp only [zP, zN, zA, zB, zC])
    refine pu_ (v := .bool true) (y_move rfl (by rfl) (by rfl)) ?_
    (try simp only [zP, zN, zA, zB, zC])
    refine pu_ (y_off (by rfl)) ?_
    (try simp only [zP, zN, zA, zB, zC])
    refine pu_ (y_off (by rfl)) ?_
    (try simp only [zP, zN, zA, zB, zC])
    refine pu_ (y_off (by rfl)) ?_
    (try simp only [zP, zN, zA, zB, zC])
    refine pu_ (y_off (by rfl)) ?_
    (try simp only [zP, zN, zA, zB, zC])
    refine pu_ (y_off (by rfl)) ?_
    (try simp only [zP, zN, zA, zB, zC])
    refine pu_ (v := .bool true) (y_pick (t := true) (by rfl) rfl (by rfl) (by rfl)) ?_
    (try simp only [zP, zN, zA, zB, zC])
    refine pu_ (v := .bool true) (y_move rfl (by rfl) (by rfl)) ?_
    (try simp only [zP, zN, zA, zB, zC])
    refine pu_ (y_off (by rfl)) ?_
    (try simp only [zP, zN, zA, zB, zC])
    refine pu_ (y_off (by rfl)) ?_
    (try simp only [zP, zN, zA, zB, zC])
    refine pu_ (y_off (by rfl)) ?_
    (try simp only [zP, zN, zA, zB, zC])
    refine pu_ (y_off (by rfl)) ?_
    (try simp only [zP, zN, zA, zB, zC])
    refine pu_ (y_off (by rfl)) ?_
    (try simp only [zP, zN, zA, zB, zC])
    refine pu_ (v := .bool true) (y_pick (t := true) (by rfl) rfl (by rfl) (by rfl)) ?_
    (try simp only [zP, zN, zA, zB, zC])
    refine nl_ (hK39 _ _ ?_); clear hK39 K39
    refine wp_cond_true rfl ?_
    refine s_ (fun K40 hK40 => ?_)
    refine pu_ (v := .bool false) (y_assign rfl (by rfl) (by rfl)) ?_
    (try simp only [zP, zN, zA, zB, zC])
    refine nl_ (hK40 _ _ ?_); clear hK40 K40
    refine wp_ret ?_
    refine ib_ret ?_
    refine th_ret ?_
    refine th_ret ?_
    refine ib_ret ?_
    refine th_ret ?_
    refine hQ _ _ _ ?_
    refine bodyPost_ret (res1 rfl (rdv_tmp (v := .bool false) (by rfl))) rfl ?_
    exact ⟨_, rfl, ⟨fun h9 => absurd h9 (by decide), fun h9 => absurd h9 HR.out⟩, C0.out⟩
  · have hlt := Lib.hid hlt0
    have ho := Lib.hid ho0
    have hc := Lib.hid h
    clear hlt0 ho0 h
    obtain ⟨a, hsm_a⟩ := src_some SL.out (by have := hlt.out; omega)
    subst hsm_a
    have D8 := Lib.hid (show (k : Int) < (L.length : Int) by have := hlt.out; omega)
    have D11 := Lib.hid (show decide ((k : Int) < 30) = true from decide_eq_true (by have := hlt.out; omega))
    have Wk := Lib.hid (show IntKind.i64.wrap ((k : Int) + 1) = ((k + 1 : Nat) : Int) by rw [wr64 (by have := hlt.out; omega)]; omega)
    obtain ⟨x0, x1, x2, x3, x4, x5, x6, x7, x8, x9, x10, x11, x12, x13, x14, x15, y0, y1, y2, y3, y4, y6, Ap, cp, hcl0, hrp0, hsp0⟩ := HLL.out k o ho.out
    obtain ⟨np, hnp⟩ : ∃ x, ns k = x := ⟨_, rfl⟩
    rw [hnp] at hrp0
    have HSP := Lib.hid hsp0; have HNP := Lib.hid hnp
    have HOL := Lib.hid (show opC o = [.int .i64 o.c, .int .i64 o.n, .int .i64 o.a, .int .i64 o.d, .int .i64 o.t, x0, x1, x2, x3, x4, x5, x6, x7, x8, x9, x10, x11, x12, x13, x14, x15, y0, y1, y2, y3, y4, .slice Ap np cp, y6] by simp [opC, hcl0, hrp0])
    have HON := Lib.hid (show ∀ u ∈ [.int .i64 o.c, .int .i64 o.n, .int .i64 o.a, .int .i64 o.d, .int .i64 o.t, x0, x1, x2, x3, x4, x5, x6, x7, x8, x9, x10, x11, x12, x13, x14, x15, y0, y1, y2, y3, y4, .slice Ap np cp, y6], u.oneCell' = true from by rw [← HOL.out]; exact opC_one o)
    clear hcl0 hrp0 hsp0 hnp
    have D21 := Lib.hid (show decide (o.a < 0) = false from decide_eq_false (by have := hc.out; omega))
    have D25 := Lib.hid (show decide (o.d < 0) = false from decide_eq_false (by have := hc.out; omega))
    have D30 := Lib.hid (show decide (o.t < 0) = true from decide_eq_true (by have := hc.out; omega))
    have HR := Lib.hid (show ¬ lightP L rs ns from fun h9 => by have h8 := h9.2 k o hlt.out.2 ho.out; unfold posO at h8; have := hc.out; omega)
    refine s_ (fun K41 hK41 => ?_)
    refine pu_ (v := .int .i64 k) (y_move rfl (by rfl) (by rfl)) ?_
    (try simp only [zP, zN, zA, zB, zC])
    refine pu_ (v := .slice (some a) L.length c) (y_move rfl (by rfl) (by rfl)) ?_
    (try simp only [zP, zN, zA, zB, zC])
    refine pu_ (v := .int .i64 L.length) (y_run (by rfl) (fun W => by go_simp)) ?_
    (try simp only [zP, zN, zA, zB, zC])
    refine pu_ (v := .bool true) (y_run (by rfl) (fun W => by have d := D8.out; go_simp)) ?_
    (try simp only [zP, zN, zA, zB, zC])
    refine pu_ (v := .bool true) (y_move rfl (by rfl) (by rfl)) ?_
    (try simp only [zP, zN, zA, zB, zC])
    refine pu_ (v := .int .i64 k) (y_move rfl (by rfl) (by rfl)) ?_
    (try simp only [zP, zN, zA, zB, zC])
    refine pu_ (v := .bool true) (y_run (by rfl) (fun W => by have d := D11.out; go_simp)) ?_
    (try simp only [zP, zN, zA, zB, zC])
    refine pu_ (v := .bool true) (y_pick (t := true) (by rfl) rfl (by rfl) (by rfl)) ?_
    (try simp only [zP, zN, zA, zB, zC])
    refine nl_ (hK41 _ _ ?_); clear hK41 K41
    refine wp_cond_true rfl ?_
    refine wp_skip ?_
    refine th_norm (hK6 _ _ ?_); try clear hK6 K6
    refine sq_ (fun K42 hK42 => ?_)
    refine wp_block ?_
    refine s_ (fun K43 hK43 => ?_)
    refine pu_ (v := .slice (some a) L.length c) (y_move rfl (by rfl) (by rfl)) ?_
    (try simp only [zP, zN, zA, zB, zC])
    refine pu_ (v := .int .i64 k) (y_move rfl (by rfl) (by rfl)) ?_
    (try simp only [zP, zN, zA, zB, zC])
    refine pu_ (v := .pointer (some (a.add (k * 28)))) (y_run (by rfl) (fun W => by have d := D8.out; go_simp)) ?_
    (try simp only [zP, zN, zA, zB, zC])
    refine ld_ (v := .agg #[.int .i64 o.c, .int .i64 o.n, .int .i64 o.a, .int .i64 o.d, .int .i64 o.t, x0, x1, x2, x3, x4, x5, x6, x7, x8, x9, x10, x11, x12, x13, x14, x15, y0, y1, y2, y3, y4, .slice Ap np cp, y6]) rfl (by rfl) (by rfl) (run_loadVar_at (by have h := src_elem SL.out ho.out; rw [HOL.out] at h; exact h) Try.underlying59 rfl (by kernel_rfl)) ?_
    (try simp only [zP, zN, zA, zB, zC])
    refine ef_ (fun K44 hK44 => ?_)
    refine e_alloc (by rfl) rfl rfl (cs := #[.int .i64 0, .int .i64 0, .int .i64 0, .int .i64 0, .int .i64 0, .int .i64 0, .int .i64 0, .int .u64 0, .string ⟨#[]⟩, .slice none 0 0, .slice none 0 0, .slice none 0 0, .int .i64 0, .int .i64 0, .int .i64 0, .int .i64 0, .int .i64 0, .int .i64 0, .int .i64 0, .string ⟨#[]⟩, .slice none 0 0, .int .i64 0, .int .i64 0, .int .i64 0, .int .u64 0, .string ⟨#[]⟩, .slice none 0 0, .slice none 0 0]) (by kernel_rfl) ?_
    rintro g45 w46 HG47 B48 C49
    have nw50 := Lib.hid (show w.heap.size ≤ g45 by have := C0.out.size; have := HG47.out; omega)
    have nx51 := Lib.hid (SL.out.ne_new (by decide) HG47)
    have C0' := Lib.hid (show Ch [] w w46 from C0.out.trans' C49 (fun x hx => absurd hx (by simp)))
    have SL' := Lib.hid (show SrcIs w46 (.slice (some a) L.length c) (L.length) ((L).flatMap opC) 28 from SL.out.chx C49 xnin_nil)
    clear C0 SL
    have C0 := C0'; clear C0'
    have SL := SL'; clear SL'
    have Fg45 := Lib.hid (show Blk w46 g45 (#[.int .i64 0, .int .i64 0, .int .i64 0, .int .i64 0, .int .i64 0, .int .i64 0, .int .i64 0, .int .u64 0, .string ⟨#[]⟩, .slice none 0 0, .slice none 0 0, .slice none 0 0, .int .i64 0, .int .i64 0, .int .i64 0, .int .i64 0, .int .i64 0, .int .i64 0, .int .i64 0, .string ⟨#[]⟩, .slice none 0 0, .int .i64 0, .int .i64 0, .int .i64 0, .int .u64 0, .string ⟨#[]⟩, .slice none 0 0, .slice none 0 0]) 59 from B48); clear B48 C49
    refine hK44 _ _ ?_; clear hK44 K44
    (try simp only [zP, zN, zA, zB, zC])
    refine ef_ (fun K52 hK52 => ?_)
    refine e_storeN (cells := #[.int .i64 o.c, .int .i64 o.n, .int .i64 o.a, .int .i64 o.d, .int .i64 o.t, x0, x1, x2, x3, x4, x5, x6, x7, x8, x9, x10, x11, x12, x13, x14, x15, y0, y1, y2, y3, y4, .slice Ap np cp, y6]) (by rfl) rfl rfl (by rfl) (by rfl) Fg45.out (by kernel_rfl) (by rfl) (ones_cons rfl (ones_cons rfl (ones_cons rfl (ones_cons rfl (ones_cons rfl (ones_cons (HON.out x0 (by simp)) (ones_cons (HON.out x1 (by simp)) (ones_cons (HON.out x2 (by simp)) (ones_cons (HON.out x3 (by simp)) (ones_cons (HON.out x4 (by simp)) (ones_cons (HON.out x5 (by simp)) (ones_cons (HON.out x6 (by simp)) (ones_cons (HON.out x7 (by simp)) (ones_cons (HON.out x8 (by simp)) (ones_cons (HON.out x9 (by simp)) (ones_cons (HON.out x10 (by simp)) (ones_cons (HON.out x11 (by simp)) (ones_cons (HON.out x12 (by simp)) (ones_cons (HON.out x13 (by simp)) (ones_cons (HON.out x14 (by simp)) (ones_cons (HON.out x15 (by simp)) (ones_cons (HON.out y0 (by simp)) (ones_cons (HON.out y1 (by simp)) (ones_cons (HON.out y2 (by simp)) (ones_cons (HON.out y3 (by simp)) (ones_cons (HON.out y4 (by simp)) (ones_cons rfl (ones_cons (HON.out y6 (by simp)) ones_nil)))))))))))))))))))))))))))) ?_
    rintro w53 B54 C55
    have C0' := Lib.hid (show Ch [] w w53 from C0.out.trans' C55 (inw_cons (.inr nw50.out) inw_nil))
    have SL' := Lib.hid (show SrcIs w53 (.slice (some a) L.length c) (L.length) ((L).flatMap opC) 28 from SL.out.chx C55 (xnin_cons nx51.out xnin_nil))
    clear C0 SL
    have C0 := C0'; clear C0'
    have SL := SL'; clear SL'
    clear Fg45; have Fg45 := Lib.hid (show Blk w53 g45 (#[.int .i64 o.c, .int .i64 o.n, .int .i64 o.a, .int .i64 o.d, .int .i64 o.t, x0, x1, x2, x3, x4, x5, x6, x7, x8, x9, x10, x11, x12, x13, x14, x15, y0, y1, y2, y3, y4, .slice Ap np cp, y6]) 59 from B54); clear B54 C55
    refine hK52 _ _ ?_; clear hK52 K52
    (try simp only [zP, zN, zA, zB, zC])
    refine nl_ (hK43 _ _ ?_); clear hK43 K43
    refine s_ (fun K56 hK56 => ?_)
    refine pu_ (v := .pointer (some ⟨g45, 2, none⟩)) (y_run (by rfl) (fun W => by go_simp)) ?_
    (try simp only [zP, zN, zA, zB, zC])
    refine ld_ (v := .int .i64 o.a) rfl (by rfl) (by rfl) (run_load_one ((Fg45.out.cell 2).trans rfl) Try.underlying3 rfl) ?_
    (try simp only [zP, zN, zA, zB, zC])
    refine pu_ (v := .bool false) (y_run (by rfl) (fun W => by have d := D21.out; go_simp)) ?_
    (try simp only [zP, zN, zA, zB, zC])
    refine pu_ (v := .bool false) (y_move rfl (by rfl) (by rfl)) ?_
    (try simp only [zP, zN, zA, zB, zC])
    refine pu_ (v := .pointer (some ⟨g45, 3, none⟩)) (y_run (by rfl) (fun W => by go_simp)) ?_
    (try simp only [zP, zN, zA, zB, zC])
    refine ld_ (v := .int .i64 o.d) rfl (by rfl) (by rfl) (run_load_one ((Fg45.out.cell 3).trans rfl) Try.underlying3 rfl) ?_
    (try simp only [zP, zN, zA, zB, zC])
    refine pu_ (v := .bool false) (y_run (by rfl) (fun W => by have d := D25.out; go_simp)) ?_
    (try simp only [zP, zN, zA, zB, zC])
    refine pu_ (v := .bool false) (y_pick (t := false) (by rfl) rfl (by rfl) (by rfl)) ?_
    (try simp only [zP, zN, zA, zB, zC])
    refine pu_ (v := .bool false) (y_move rfl (by rfl) (by rfl)) ?_
    (try simp only [zP, zN, zA, zB, zC])
    refine pu_ (v := .pointer (some ⟨g45, 4, none⟩)) (y_run (by rfl) (fun W => by go_simp)) ?_
    (try simp only [zP, zN, zA, zB, zC])
    refine ld_ (v := .int .i64 o.t) rfl (by rfl) (by rfl) (run_load_one ((Fg45.out.cell 4).trans rfl) Try.underlying3 rfl) ?_
    (try simp only [zP, zN, zA, zB, zC])
    refine pu_ (v := .bool true) (y_run (by rfl) (fun W => by have d := D30.out; go_simp)) ?_
    (try simp only [zP, zN, zA, zB, zC])
    refine pu_ (v := .bool true) (y_pick (t := false) (by rfl) rfl (by rfl) (by rfl)) ?_
    (try simp only [zP, zN, zA, zB, zC])
    refine pu_ (v := .bool true) (y_move rfl (by rfl) (by rfl)) ?_
    (try simp only [zP, zN, zA, zB, zC])
    refine pu_ (y_off (by rfl)) ?_
    (try simp only [zP, zN, zA, zB, zC])
    refine pu_ (y_off (by rfl)) ?_
    (try simp only [zP, zN, zA, zB, zC])
    refine pu_ (y_off (by rfl)) ?_
    (try simp only [zP, zN, zA, zB, zC])
    refine pu_ (y_off (by rfl)) ?_
    (try simp only [zP, zN, zA, zB, zC])
    refine pu_ (y_off (by rfl)) ?_
    (try simp only [zP, zN, zA, zB, zC])
    refine pu_ (v := .bool true) (y_pick (t := true) (by rfl) rfl (by rfl) (by rfl)) ?_
    (try simp only [zP, zN, zA, zB, zC])
    refine pu_ (v := .bool true) (y_move rfl (by rfl) (by rfl)) ?_
    (try simp only [zP, zN, zA, zB, zC])
    refine pu_ (y_off (by rfl)) ?_
    (try simp only [zP, zN, zA, zB, zC])
    refine pu_ (y_off (by rfl)) ?_
    (try simp only [zP, zN, zA, zB, zC])
    refine pu_ (y_off (by rfl)) ?_
    (try simp only [zP, zN, zA, zB, zC])
    refine pu_ (y_off (by rfl)) ?_
    (try simp only [zP, zN, zA, zB, zC])
    refine pu_ (y_off (by rfl)) ?_
    (try simp only [zP, zN, zA, zB, zC])
    refine pu_ (v := .bool true) (y_pick (t := true) (by rfl) rfl (by rfl) (by rfl)) ?_
    (try simp only [zP, zN, zA, zB, zC])
    refine nl_ (hK56 _ _ ?_); clear hK56 K56
    refine wp_cond_true rfl ?_
    refine s_ (fun K57 hK57 => ?_)
    refine pu_ (v := .bool false) (y_assign rfl (by rfl) (by rfl)) ?_
    (try simp only [zP, zN, zA, zB, zC])
    refine nl_ (hK57 _ _ ?_); clear hK57 K57
    refine wp_ret ?_
    refine ib_ret ?_
    refine th_ret ?_
    refine th_ret ?_
    refine ib_ret ?_
    refine th_ret ?_
    refine hQ _ _ _ ?_
    refine bodyPost_ret (res1 rfl (rdv_tmp (v := .bool false) (by rfl))) rfl ?_
    exact ⟨_, rfl, ⟨fun h9 => absurd h9 (by decide), fun h9 => absurd h9 HR.out⟩, C0.out⟩
  · have hlt := Lib.hid hlt0
    have ho := Lib.hid ho0
    have hc := Lib.hid h
    clear hlt0 ho0 h
    obtain ⟨a, hsm_a⟩ := src_some SL.out (by have := hlt.out; omega)
    subst hsm_a
    have D8 := Lib.hid (show (k : Int) < (L.length : Int) by have := hlt.out; omega)
    have D11 := Lib.hid (show decide ((k : Int) < 30) = true from decide_eq_true (by have := hlt.out; omega))
    have Wk := Lib.hid (show IntKind.i64.wrap ((k : Int) + 1) = ((k + 1 : Nat) : Int) by rw [wr64 (by have := hlt.out; omega)]; omega)
    obtain ⟨x0, x1, x2, x3, x4, x5, x6, x7, x8, x9, x10, x11, x12, x13, x14, x15, y0, y1, y2, y3, y4, y6, Ap, cp, hcl0, hrp0, hsp0⟩ := HLL.out k o ho.out
    obtain ⟨np, hnp⟩ : ∃ x, ns k = x := ⟨_, rfl⟩
    rw [hnp] at hrp0
    have HSP := Lib.hid hsp0; have HNP := Lib.hid hnp
    have HOL := Lib.hid (show opC o = [.int .i64 o.c, .int .i64 o.n, .int .i64 o.a, .int .i64 o.d, .int .i64 o.t, x0, x1, x2, x3, x4, x5, x6, x7, x8, x9, x10, x11, x12, x13, x14, x15, y0, y1, y2, y3, y4, .slice Ap np cp, y6] by simp [opC, hcl0, hrp0])
    have HON := Lib.hid (show ∀ u ∈ [.int .i64 o.c, .int .i64 o.n, .int .i64 o.a, .int .i64 o.d, .int .i64 o.t, x0, x1, x2, x3, x4, x5, x6, x7, x8, x9, x10, x11, x12, x13, x14, x15, y0, y1, y2, y3, y4, .slice Ap np cp, y6], u.oneCell' = true from by rw [← HOL.out]; exact opC_one o)
    clear hcl0 hrp0 hsp0 hnp
    have D21 := Lib.hid (show decide (o.a < 0) = false from decide_eq_false (by have := hc.out; omega))
    have D25 := Lib.hid (show decide (o.d < 0) = false from decide_eq_false (by have := hc.out; omega))
    have D30 := Lib.hid (show decide (o.t < 0) = false from decide_eq_false (by have := hc.out; omega))
    have HR := Lib.hid (show ¬ lightP L rs ns from fun h9 => by have h8 := h9.2 k o hlt.out.2 ho.out; unfold posO at h8; have := hc.out; rw [hc.out.2.2.2] at h8; exact absurd h8.2.1 (by decide))
    refine s_ (fun K58 hK58 => ?_)
    refine pu_ (v := .int .i64 k) (y_move rfl (by rfl) (by rfl)) ?_
    (try simp only [zP, zN, zA, zB, zC])
    refine pu_ (v := .slice (some a) L.length c) (y_move rfl (by rfl) (by rfl)) ?_
    (try simp only [zP, zN, zA, zB, zC])
    refine pu_ (v := .int .i64 L.length) (y_run (by rfl) (fun W => by go_simp)) ?_
    (try simp only [zP, zN, zA, zB, zC])
    refine pu_ (v := .bool true) (y_run (by rfl) (fun W => by have d := D8.out; go_simp)) ?_
    (try simp only [zP, zN, zA, zB, zC])
    refine pu_ (v := .bool true) (y_move rfl (by rfl) (by rfl)) ?_
    (try simp only [zP, zN, zA, zB, zC])
    refine pu_ (v := .int .i64 k) (y_move rfl (by rfl) (by rfl)) ?_
    (try simp only [zP, zN, zA, zB, zC])
    refine pu_ (v := .bool true) (y_run (by rfl) (fun W => by have d := D11.out; go_simp)) ?_
    (try simp only [zP, zN, zA, zB, zC])
    refine pu_ (v := .bool true) (y_pick (t := true) (by rfl) rfl (by rfl) (by rfl)) ?_
    (try simp only [zP, zN, zA, zB, zC])
    refine nl_ (hK58 _ _ ?_); clear hK58 K58
    refine wp_cond_true rfl ?_
    refine wp_skip ?_
    refine th_norm (hK6 _ _ ?_); try clear hK6 K6
    refine sq_ (fun K59 hK59 => ?_)
    refine wp_block ?_
    refine s_ (fun K60 hK60 => ?_)
    refine pu_ (v := .slice (some a) L.length c) (y_move rfl (by rfl) (by rfl)) ?_
    (try simp only [zP, zN, zA, zB, zC])
    refine pu_ (v := .int .i64 k) (y_move rfl (by rfl) (by rfl)) ?_
    (try simp only [zP, zN, zA, zB, zC])
    refine pu_ (v := .pointer (some (a.add (k * 28)))) (y_run (by rfl) (fun W => by have d := D8.out; go_simp)) ?_
    (try simp only [zP, zN, zA, zB, zC])
    refine ld_ (v := .agg #[.int .i64 o.c, .int .i64 o.n, .int .i64 o.a, .int .i64 o.d, .int .i64 o.t, x0, x1, x2, x3, x4, x5, x6, x7, x8, x9, x10, x11, x12, x13, x14, x15, y0, y1, y2, y3, y4, .slice Ap np cp, y6]) rfl (by rfl) (by rfl) (run_loadVar_at (by have h := src_elem SL.out ho.out; rw [HOL.out] at h; exact h) Try.underlying59 rfl (by kernel_rfl)) ?_
    (try simp only [zP, zN, zA, zB, zC])
    refine ef_ (fun K61 hK61 => ?_)
    refine e_alloc (by rfl) rfl rfl (cs := #[.int .i64 0, .int .i64 0, .int .i64 0, .int .i64 0, .int .i64 0, .int .i64 0, .int .i64 0, .int .u64 0, .string ⟨#[]⟩, .slice none 0 0, .slice none 0 0, .slice none 0 0, .int .i64 0, .int .i64 0, .int .i64 0, .int .i64 0, .int .i64 0, .int .i64 0, .int .i64 0, .string ⟨#[]⟩, .slice none 0 0, .int .i64 0, .int .i64 0, .int .i64 0, .int .u64 0, .string ⟨#[]⟩, .slice none 0 0, .slice none 0 0]) (by kernel_rfl) ?_
    rintro g62 w63 HG64 B65 C66
    have nw67 := Lib.hid (show w.heap.size ≤ g62 by have := C0.out.size; have := HG64.out; omega)
    have nx68 := Lib.hid (SL.out.ne_new (by decide) HG64)
    have C0' := Lib.hid (show Ch [] w w63 from C0.out.trans' C66 (fun x hx => absurd hx (by simp)))
    have SL' := Lib.hid (show SrcIs w63 (.slice (some a) L.length c) (L.length) ((L).flatMap opC) 28 from SL.out.chx C66 xnin_nil)
    clear C0 SL
    have C0 := C0'; clear C0'
    have SL := SL'; clear SL'
    have Fg62 := Lib.hid (show Blk w63 g62 (#[.int .i64 0, .int .i64 0, .int .i64 0, .int .i64 0, .int .i64 0, .int .i64 0, .int .i64 0, .int .u64 0, .string ⟨#[]⟩, .slice none 0 0, .slice none 0 0, .slice none 0 0, .int .i64 0, .int .i64 0, .int .i64 0, .int .i64 0, .int .i64 0, .int .i64 0, .int .i64 0, .string ⟨#[]⟩, .slice none 0 0, .int .i64 0, .int .i64 0, .int .i64 0, .int .u64 0, .string ⟨#[]⟩, .slice none 0 0, .slice none 0 0]) 59 from B65); clear B65 C66
    refine hK61 _ _ ?_; clear hK61 K61
    (try simp only [zP, zN, zA, zB, zC])
    refine ef_ (fun K69 hK69 => ?_)
    refine e_storeN (cells := #[.int .i64 o.c, .int .i64 o.n, .int .i64 o.a, .int .i64 o.d, .int .i64 o.t, x0, x1, x2, x3, x4, x5, x6, x7, x8, x9, x10, x11, x12, x13, x14, x15, y0, y1, y2, y3, y4, .slice Ap np cp, y6]) (by rfl) rfl rfl (by rfl) (by rfl) Fg62.out (by kernel_rfl) (by rfl) (ones_cons rfl (ones_cons rfl (ones_cons rfl (ones_cons rfl (ones_cons rfl (ones_cons (HON.out x0 (by simp)) (ones_cons (HON.out x1 (by simp)) (ones_cons (HON.out x2 (by simp)) (ones_cons (HON.out x3 (by simp)) (ones_cons (HON.out x4 (by simp)) (ones_cons (HON.out x5 (by simp)) (ones_cons (HON.out x6 (by simp)) (ones_cons (HON.out x7 (by simp)) (ones_cons (HON.out x8 (by simp)) (ones_cons (HON.out x9 (by simp)) (ones_cons (HON.out x10 (by simp)) (ones_cons (HON.out x11 (by simp)) (ones_cons (HON.out x12 (by simp)) (ones_cons (HON.out x13 (by simp)) (ones_cons (HON.out x14 (by simp)) (ones_cons (HON.out x15 (by simp)) (ones_cons (HON.out y0 (by simp)) (ones_cons (HON.out y1 (by simp)) (ones_cons (HON.out y2 (by simp)) (ones_cons (HON.out y3 (by simp)) (ones_cons (HON.out y4 (by simp)) (ones_cons rfl (ones_cons (HON.out y6 (by simp)) ones_nil)))))))))))))))))))))))))))) ?_
    rintro w70 B71 C72
    have C0' := Lib.hid (show Ch [] w w70 from C0.out.trans' C72 (inw_cons (.inr nw67.out) inw_nil))
    have SL' := Lib.hid (show SrcIs w70 (.slice (some a) L.length c) (L.length) ((L).flatMap opC) 28 from SL.out.chx C72 (xnin_cons nx68.out xnin_nil))
    clear C0 SL
    have C0 := C0'; clear C0'
    have SL := SL'; clear SL'
    clear Fg62; have Fg62 := Lib.hid (show Blk w70 g62 (#[.int .i64 o.c, .int .i64 o.n, .int .i64 o.a, .int .i64 o.d, .int .i64 o.t, x0, x1, x2, x3, x4, x5, x6, x7, x8, x9, x10, x11, x12, x13, x14, x15, y0, y1, y2, y3, y4, .slice Ap np cp, y6]) 59 from B71); clear B71 C72
    refine hK69 _ _ ?_; clear hK69 K69
    (try simp only [zP, zN, zA, zB, zC])
    refine nl_ (hK60 _ _ ?_); clear hK60 K60
    refine s_ (fun K73 hK73 => ?_)
    refine pu_ (v := .pointer (some ⟨g62, 2, none⟩)) (y_run (by rfl) (fun W => by go_simp)) ?_
    (try simp only [zP, zN, zA, zB, zC])
    refine ld_ (v := .int .i64 o.a) rfl (by rfl) (by rfl) (run_load_one ((Fg62.out.cell 2).trans rfl) Try.underlying3 rfl) ?_
    (try simp only [zP, zN, zA, zB, zC])
    refine pu_ (v := .bool false) (y_run (by rfl) (fun W => by have d := D21.out; go_simp)) ?_
    (try simp only [zP, zN, zA, zB, zC])
    refine pu_ (v := .bool false) (y_move rfl (by rfl) (by rfl)) ?_
    (try simp only [zP, zN, zA, zB, zC])
    refine pu_ (v := .pointer (some ⟨g62, 3, none⟩)) (y_run (by rfl) (fun W => by go_simp)) ?_
    (try simp only [zP, zN, zA, zB, zC])
    refine ld_ (v := .int .i64 o.d) rfl (by rfl) (by rfl) (run_load_one ((Fg62.out.cell 3).trans rfl) Try.underlying3 rfl) ?_
    (try simp only [zP, zN, zA, zB, zC])
    refine pu_ (v := .bool false) (y_run (by rfl) (fun W => by have d := D25.out; go_simp)) ?_
    (try simp only [zP, zN, zA, zB, zC])
    refine pu_ (v := .bool false) (y_pick (t := false) (by rfl) rfl (by rfl) (by rfl)) ?_
    (try simp only [zP, zN, zA, zB, zC])
    refine pu_ (v := .bool false) (y_move rfl (by rfl) (by rfl)) ?_
    (try simp only [zP, zN, zA, zB, zC])
    refine pu_ (v := .pointer (some ⟨g62, 4, none⟩)) (y_run (by rfl) (fun W => by go_simp)) ?_
    (try simp only [zP, zN, zA, zB, zC])
    refine ld_ (v := .int .i64 o.t) rfl (by rfl) (by rfl) (run_load_one ((Fg62.out.cell 4).trans rfl) Try.underlying3 rfl) ?_
    (try simp only [zP, zN, zA, zB, zC])
    refine pu_ (v := .bool false) (y_run (by rfl) (fun W => by have d := D30.out; go_simp)) ?_
    (try simp only [zP, zN, zA, zB, zC])
    refine pu_ (v := .bool false) (y_pick (t := false) (by rfl) rfl (by rfl) (by rfl)) ?_
    (try simp only [zP, zN, zA, zB, zC])
    refine pu_ (v := .bool false) (y_move rfl (by rfl) (by rfl)) ?_
    (try simp only [zP, zN, zA, zB, zC])
    refine pu_ (v := .pointer (some ⟨g62, 5, none⟩)) (y_run (by rfl) (fun W => by go_simp)) ?_
    (try simp only [zP, zN, zA, zB, zC])
    refine pu_ (v := .pointer (some ⟨g62, 8, none⟩)) (y_run (by rfl) (fun W => by go_simp)) ?_
    (try simp only [zP, zN, zA, zB, zC])
    refine ld_ (v := .agg #[x3, x4, x5, x6, x7, x8, x9]) rfl (by rfl) (by rfl) (run_loadVar_at (cs := [x3, x4, x5, x6, x7, x8, x9]) (cells_part Fg62.out 8 (by rfl)) Try.underlying30 rfl (by kernel_rfl)) ?_
    (try simp only [zP, zN, zA, zB, zC])
    refine ef_ (fun K74 hK74 => ?_)
    refine e_call Try.func17 (by kernel_rfl) rfl #[.agg #[x3, x4, x5, x6, x7, x8, x9]] (by rfl) rfl rfl (by first | rfl | (simp only [List.map_toArray, List.map_cons, List.map_nil]; first | done | rfl)) ((by have h := HSP.out w70 C0.out.below0; rw [show rs k = false from hc.out.2.2.2] at h; exact h)) ?_
    rintro en w76 ⟨rfl, cc75⟩
    refine ⟨_, rfl, ?_⟩
    have C0' := Lib.hid (show Ch [] w w76 from C0.out.trans' cc75 (fun x hx => absurd hx (by simp)))
    have SL' := Lib.hid (show SrcIs w76 (.slice (some a) L.length c) (L.length) ((L).flatMap opC) 28 from SL.out.chx cc75 xnin_nil)
    have Fg62' := Lib.hid (show Blk w76 g62 (#[.int .i64 o.c, .int .i64 o.n, .int .i64 o.a, .int .i64 o.d, .int .i64 o.t, x0, x1, x2, x3, x4, x5, x6, x7, x8, x9, x10, x11, x12, x13, x14, x15, y0, y1, y2, y3, y4, .slice Ap np cp, y6]) 59 from cc75.blk Fg62.out nin_nil)
    clear C0 SL Fg62
    have C0 := C0'; clear C0'
    have SL := SL'; clear SL'
    have Fg62 := Fg62'; clear Fg62'
    clear cc75
    refine hK74 _ _ ?_; clear hK74 K74
    (try simp only [zP, zN, zA, zB, zC])
    refine pu_ (v := .bool true) (y_run (by rfl) (fun W => by go_simp)) ?_
    (try simp only [zP, zN, zA, zB, zC])
    refine pu_ (v := .bool true) (y_pick (t := false) (by rfl) rfl (by rfl) (by rfl)) ?_
    (try simp only [zP, zN, zA, zB, zC])
    refine pu_ (v := .bool true) (y_move rfl (by rfl) (by rfl)) ?_
    (try simp only [zP, zN, zA, zB, zC])
    refine pu_ (y_off (by rfl)) ?_
    (try simp only [zP, zN, zA, zB, zC])
    refine pu_ (y_off (by rfl)) ?_
    (try simp only [zP, zN, zA, zB, zC])
    refine pu_ (y_off (by rfl)) ?_
    (try simp only [zP, zN, zA, zB, zC])
    refine pu_ (y_off (by rfl)) ?_
    (try simp only [zP, zN, zA, zB, zC])
    refine pu_ (y_off (by rfl)) ?_
    (try simp only [zP, zN, zA, zB, zC])
    refine pu_ (v := .bool true) (y_pick (t := true) (by rfl) rfl (by rfl) (by rfl)) ?_
    (try simp only [zP, zN, zA, zB, zC])
    refine nl_ (hK73 _ _ ?_); clear hK73 K73
    refine wp_cond_true rfl ?_
    refine s_ (fun K77 hK77 => ?_)
    refine pu_ (v := .bool false) (y_assign rfl (by rfl) (by rfl)) ?_
    (try simp only [zP, zN, zA, zB, zC])
    refine nl_ (hK77 _ _ ?_); clear hK77 K77
    refine wp_ret ?_
    refine ib_ret ?_
    refine th_ret ?_
    refine th_ret ?_
    refine ib_ret ?_
    refine th_ret ?_
    refine hQ _ _ _ ?_
    refine bodyPost_ret (res1 rfl (rdv_tmp (v := .bool false) (by rfl))) rfl ?_
    exact ⟨_, rfl, ⟨fun h9 => absurd h9 (by decide), fun h9 => absurd h9 HR.out⟩, C0.out⟩
  · have hlt := Lib.hid hlt0
    have ho := Lib.hid ho0
    have hc := Lib.hid h
    clear hlt0 ho0 h
    obtain ⟨a, hsm_a⟩ := src_some SL.out (by have := hlt.out; omega)
    subst hsm_a
    have D8 := Lib.hid (show (k : Int) < (L.length : Int) by have := hlt.out; omega)
    have D11 := Lib.hid (show decide ((k : Int) < 30) = true from decide_eq_true (by have := hlt.out; omega))
    have Wk := Lib.hid (show IntKind.i64.wrap ((k : Int) + 1) = ((k + 1 : Nat) : Int) by rw [wr64 (by have := hlt.out; omega)]; omega)
    obtain ⟨x0, x1, x2, x3, x4, x5, x6, x7, x8, x9, x10, x11, x12, x13, x14, x15, y0, y1, y2, y3, y4, y6, Ap, cp, hcl0, hrp0, hsp0⟩ := HLL.out k o ho.out
    obtain ⟨np, hnp⟩ : ∃ x, ns k = x := ⟨_, rfl⟩
    rw [hnp] at hrp0
    have HSP := Lib.hid hsp0; have HNP := Lib.hid hnp
    have HOL := Lib.hid (show opC o = [.int .i64 o.c, .int .i64 o.n, .int .i64 o.a, .int .i64 o.d, .int .i64 o.t, x0, x1, x2, x3, x4, x5, x6, x7, x8, x9, x10, x11, x12, x13, x14, x15, y0, y1, y2, y3, y4, .slice Ap np cp, y6] by simp [opC, hcl0, hrp0])
    have HON := Lib.hid (show ∀ u ∈ [.int .i64 o.c, .int .i64 o.n, .int .i64 o.a, .int .i64 o.d, .int .i64 o.t, x0, x1, x2, x3, x4, x5, x6, x7, x8, x9, x10, x11, x12, x13, x14, x15, y0, y1, y2, y3, y4, .slice Ap np cp, y6], u.oneCell' = true from by rw [← HOL.out]; exact opC_one o)
    clear hcl0 hrp0 hsp0 hnp
    have D21 := Lib.hid (show decide (o.a < 0) = false from decide_eq_false (by have := hc.out; omega))
    have D25 := Lib.hid (show decide (o.d < 0) = false from decide_eq_false (by have := hc.out; omega))
    have D30 := Lib.hid (show decide (o.t < 0) = false from decide_eq_false (by have := hc.out; omega))
    have D44 := Lib.hid (show 0 < np by have := hc.out; have := HNP.out; omega)
    have HR := Lib.hid (show ¬ lightP L rs ns from fun h9 => by have h8 := h9.2 k o hlt.out.2 ho.out; unfold posO at h8; have := hc.out; omega)
    refine s_ (fun K78 hK78 => ?_)
    refine pu_ (v := .int .i64 k) (y_move rfl (by rfl) (by rfl)) ?_
    (try simp only [zP, zN, zA, zB, zC])
    refine pu_ (v := .slice (some a) L.length c) (y_move rfl (by rfl) (by rfl)) ?_
    (try simp only [zP, zN, zA, zB, zC])
    refine pu_ (v := .int .i64 L.length) (y_run (by rfl) (fun W => by go_simp)) ?_
    (try simp only [zP, zN, zA, zB, zC])
    refine pu_ (v := .bool true) (y_run (by rfl) (fun W => by have d := D8.out; go_simp)) ?_
    (try simp only [zP, zN, zA, zB, zC])
    refine pu_ (v := .bool true) (y_move rfl (by rfl) (by rfl)) ?_
    (try simp only [zP, zN, zA, zB, zC])
    refine pu_ (v := .int .i64 k) (y_move rfl (by rfl) (by rfl)) ?_
    (try simp only [zP, zN, zA, zB, zC])
    refine pu_ (v := .bool true) (y_run (by rfl) (fun W => by have d := D11.out; go_simp)) ?_
    (try simp only [zP, zN, zA, zB, zC])
    refine pu_ (v := .bool true) (y_pick (t := true) (by rfl) rfl (by rfl) (by rfl)) ?_
    (try simp only [zP, zN, zA, zB, zC])
    refine nl_ (hK78 _ _ ?_); clear hK78 K78
    refine wp_cond_true rfl ?_
    refine wp_skip ?_
    refine th_norm (hK6 _ _ ?_); try clear hK6 K6
    refine sq_ (fun K79 hK79 => ?_)
    refine wp_block ?_
    refine s_ (fun K80 hK80 => ?_)
    refine pu_ (v := .slice (some a) L.length c) (y_move rfl (by rfl) (by rfl)) ?_
    (try simp only [zP, zN, zA, zB, zC])
    refine pu_ (v := .int .i64 k) (y_move rfl (by rfl) (by rfl)) ?_
    (try simp only [zP, zN, zA, zB, zC])
    refine pu_ (v := .pointer (some (a.add (k * 28)))) (y_run (by rfl) (fun W => by have d := D8.out; go_simp)) ?_
    (try simp only [zP, zN, zA, zB, zC])
    refine ld_ (v := .agg #[.int .i64 o.c, .int .i64 o.n, .int .i64 o.a, .int .i64 o.d, .int .i64 o.t, x0, x1, x2, x3, x4, x5, x6, x7, x8, x9, x10, x11, x12, x13, x14, x15, y0, y1, y2, y3, y4, .slice Ap np cp, y6]) rfl (by rfl) (by rfl) (run_loadVar_at (by have h := src_elem SL.out ho.out; rw [HOL.out] at h; exact h) Try.underlying59 rfl (by kernel_rfl)) ?_
    (try simp only [zP, zN, zA, zB, zC])
    refine ef_ (fun K81 hK81 => ?_)
    refine e_alloc (by rfl) rfl rfl (cs := #[.int .i64 0, .int .i64 0, .int .i64 0, .int .i64 0, .int .i64 0, .int .i64 0, .int .i64 0, .int .u64 0, .string ⟨#[]⟩, .slice none 0 0, .slice none 0 0, .slice none 0 0, .int .i64 0, .int .i64 0, .int .i64 0, .int .i64 0, .int .i64 0, .int .i64 0, .int .i64 0, .string ⟨#[]⟩, .slice none 0 0, .int .i64 0, .int .i64 0, .int .i64 0, .int .u64 0, .string ⟨#[]⟩, .slice none 0 0, .slice none 0 0]) (by kernel_rfl) ?_
    rintro g82 w83 HG84 B85 C86
    have nw87 := Lib.hid (show w.heap.size ≤ g82 by have := C0.out.size; have := HG84.out; omega)
    have nx88 := Lib.hid (SL.out.ne_new (by decide) HG84)
    have C0' := Lib.hid (show Ch [] w w83 from C0.out.trans' C86 (fun x hx => absurd hx (by simp)))
    have SL' := Lib.hid (show SrcIs w83 (.slice (some a) L.length c) (L.length) ((L).flatMap opC) 28 from SL.out.chx C86 xnin_nil)
    clear C0 SL
    have C0 := C0'; clear C0'
    have SL := SL'; clear SL'
    have Fg82 := Lib.hid (show Blk w83 g82 (#[.int .i64 0, .int .i64 0, .int .i64 0, .int .i64 0, .int .i64 0, .int .i64 0, .int .i64 0, .int .u64 0, .string ⟨#[]⟩, .slice none 0 0, .slice none 0 0, .slice none 0 0, .int .i64 0, .int .i64 0, .int .i64 0, .int .i64 0, .int .i64 0, .int .i64 0, .int .i64 0, .string ⟨#[]⟩, .slice none 0 0, .int .i64 0, .int .i64 0, .int .i64 0, .int .u64 0, .string ⟨#[]⟩, .slice none 0 0, .slice none 0 0]) 59 from B85); clear B85 C86
    refine hK81 _ _ ?_; clear hK81 K81
    (try simp only [zP, zN, zA, zB, zC])
    refine ef_ (fun K89 hK89 => ?_)
    refine e_storeN (cells := #[.int .i64 o.c, .int .i64 o.n, .int .i64 o.a, .int .i64 o.d, .int .i64 o.t, x0, x1, x2, x3, x4, x5, x6, x7, x8, x9, x10, x11, x12, x13, x14, x15, y0, y1, y2, y3, y4, .slice Ap np cp, y6]) (by rfl) rfl rfl (by rfl) (by rfl) Fg82.out (by kernel_rfl) (by rfl) (ones_cons rfl (ones_cons rfl (ones_cons rfl (ones_cons rfl (ones_cons rfl (ones_cons (HON.out x0 (by simp)) (ones_cons (HON.out x1 (by simp)) (ones_cons (HON.out x2 (by simp)) (ones_cons (HON.out x3 (by simp)) (ones_cons (HON.out x4 (by simp)) (ones_cons (HON.out x5 (by simp)) (ones_cons (HON.out x6 (by simp)) (ones_cons (HON.out x7 (by simp)) (ones_cons (HON.out x8 (by simp)) (ones_cons (HON.out x9 (by simp)) (ones_cons (HON.out x10 (by simp)) (ones_cons (HON.out x11 (by simp)) (ones_cons (HON.out x12 (by simp)) (ones_cons (HON.out x13 (by simp)) (ones_cons (HON.out x14 (by simp)) (ones_cons (HON.out x15 (by simp)) (ones_cons (HON.out y0 (by simp)) (ones_cons (HON.out y1 (by simp)) (ones_cons (HON.out y2 (by simp)) (ones_cons (HON.out y3 (by simp)) (ones_cons (HON.out y4 (by simp)) (ones_cons rfl (ones_cons (HON.out y6 (by simp)) ones_nil)))))))))))))))))))))))))))) ?_
    rintro w90 B91 C92
    have C0' := Lib.hid (show Ch [] w w90 from C0.out.trans' C92 (inw_cons (.inr nw87.out) inw_nil))
    have SL' := Lib.hid (show SrcIs w90 (.slice (some a) L.length c) (L.length) ((L).flatMap opC) 28 from SL.out.chx C92 (xnin_cons nx88.out xnin_nil))
    clear C0 SL
    have C0 := C0'; clear C0'
    have SL := SL'; clear SL'
    clear Fg82; have Fg82 := Lib.hid (show Blk w90 g82 (#[.int .i64 o.c, .int .i64 o.n, .int .i64 o.a, .int .i64 o.d, .int .i64 o.t, x0, x1, x2, x3, x4, x5, x6, x7, x8, x9, x10, x11, x12, x13, x14, x15, y0, y1, y2, y3, y4, .slice Ap np cp, y6]) 59 from B91); clear B91 C92
    refine hK89 _ _ ?_; clear hK89 K89
    (try simp only [zP, zN, zA, zB, zC])
    refine nl_ (hK80 _ _ ?_); clear hK80 K80
    refine s_ (fun K93 hK93 => ?_)
    refine pu_ (v := .pointer (some ⟨g82, 2, none⟩)) (y_run (by rfl) (fun W => by go_simp)) ?_
    (try simp only [zP, zN, zA, zB, zC])
    refine ld_ (v := .int .i64 o.a) rfl (by rfl) (by rfl) (run_load_one ((Fg82.out.cell 2).trans rfl) Try.underlying3 rfl) ?_
    (try simp only [zP, zN, zA, zB, zC])
    refine pu_ (v := .bool false) (y_run (by rfl) (fun W => by have d := D21.out; go_simp)) ?_
    (try simp only [zP, zN, zA, zB, zC])
    refine pu_ (v := .bool false) (y_move rfl (by rfl) (by rfl)) ?_
    (try simp only [zP, zN, zA, zB, zC])
    refine pu_ (v := .pointer (some ⟨g82, 3, none⟩)) (y_run (by rfl) (fun W => by go_simp)) ?_
    (try simp only [zP, zN, zA, zB, zC])
    refine ld_ (v := .int .i64 o.d) rfl (by rfl) (by rfl) (run_load_one ((Fg82.out.cell 3).trans rfl) Try.underlying3 rfl) ?_
    (try simp only [zP, zN, zA, zB, zC])
    refine pu_ (v := .bool false) (y_run (by rfl) (fun W => by have d := D25.out; go_simp)) ?_
    (try simp only [zP, zN, zA, zB, zC])
    refine pu_ (v := .bool false) (y_pick (t := false) (by rfl) rfl (by rfl) (by rfl)) ?_
    (try simp only [zP, zN, zA, zB, zC])
    refine pu_ (v := .bool false) (y_move rfl (by rfl) (by rfl)) ?_
    (try simp only [zP, zN, zA, zB, zC])
    refine pu_ (v := .pointer (some ⟨g82, 4, none⟩)) (y_run (by rfl) (fun W => by go_simp)) ?_
    (try simp only [zP, zN, zA, zB, zC])
    refine ld_ (v := .int .i64 o.t) rfl (by rfl) (by rfl) (run_load_one ((Fg82.out.cell 4).trans rfl) Try.underlying3 rfl) ?_
    (try simp only [zP, zN, zA, zB, zC])
    refine pu_ (v := .bool false) (y_run (by rfl) (fun W => by have d := D30.out; go_simp)) ?_
    (try simp only [zP, zN, zA, zB, zC])
    refine pu_ (v := .bool false) (y_pick (t := false) (by rfl) rfl (by rfl) (by rfl)) ?_
    (try simp only [zP, zN, zA, zB, zC])
    refine pu_ (v := .bool false) (y_move rfl (by rfl) (by rfl)) ?_
    (try simp only [zP, zN, zA, zB, zC])
    refine pu_ (v := .pointer (some ⟨g82, 5, none⟩)) (y_run (by rfl) (fun W => by go_simp)) ?_
    (try simp only [zP, zN, zA, zB, zC])
    refine pu_ (v := .pointer (some ⟨g82, 8, none⟩)) (y_run (by rfl) (fun W => by go_simp)) ?_
    (try simp only [zP, zN, zA, zB, zC])
    refine ld_ (v := .agg #[x3, x4, x5, x6, x7, x8, x9]) rfl (by rfl) (by rfl) (run_loadVar_at (cs := [x3, x4, x5, x6, x7, x8, x9]) (cells_part Fg82.out 8 (by rfl)) Try.underlying30 rfl (by kernel_rfl)) ?_
    (try simp only [zP, zN, zA, zB, zC])
    refine ef_ (fun K94 hK94 => ?_)
    refine e_call Try.func17 (by kernel_rfl) rfl #[.agg #[x3, x4, x5, x6, x7, x8, x9]] (by rfl) rfl rfl (by first | rfl | (simp only [List.map_toArray, List.map_cons, List.map_nil]; first | done | rfl)) ((by have h := HSP.out w90 C0.out.below0; rw [show rs k = true from hc.out.2.2.2.1] at h; exact h)) ?_
    rintro en w96 ⟨rfl, cc95⟩
    refine ⟨_, rfl, ?_⟩
    have C0' := Lib.hid (show Ch [] w w96 from C0.out.trans' cc95 (fun x hx => absurd hx (by simp)))
    have SL' := Lib.hid (show SrcIs w96 (.slice (some a) L.length c) (L.length) ((L).flatMap opC) 28 from SL.out.chx cc95 xnin_nil)
    have Fg82' := Lib.hid (show Blk w96 g82 (#[.int .i64 o.c, .int .i64 o.n, .int .i64 o.a, .int .i64 o.d, .int .i64 o.t, x0, x1, x2, x3, x4, x5, x6, x7, x8, x9, x10, x11, x12, x13, x14, x15, y0, y1, y2, y3, y4, .slice Ap np cp, y6]) 59 from cc95.blk Fg82.out nin_nil)
    clear C0 SL Fg82
    have C0 := C0'; clear C0'
    have SL := SL'; clear SL'
    have Fg82 := Fg82'; clear Fg82'
    clear cc95
    refine hK94 _ _ ?_; clear hK94 K94
    (try simp only [zP, zN, zA, zB, zC])
    refine pu_ (v := .bool false) (y_run (by rfl) (fun W => by go_simp)) ?_
    (try simp only [zP, zN, zA, zB, zC])
    refine pu_ (v := .bool false) (y_pick (t := false) (by rfl) rfl (by rfl) (by rfl)) ?_
    (try simp only [zP, zN, zA, zB, zC])
    refine pu_ (v := .bool false) (y_move rfl (by rfl) (by rfl)) ?_
    (try simp only [zP, zN, zA, zB, zC])
    refine pu_ (v := .pointer (some ⟨g82, 21, none⟩)) (y_run (by rfl) (fun W => by go_simp)) ?_
    (try simp only [zP, zN, zA, zB, zC])
    refine pu_ (v := .pointer (some ⟨g82, 26, none⟩)) (y_run (by rfl) (fun W => by go_simp)) ?_
    (try simp only [zP, zN, zA, zB, zC])
    refine ld_ (v := .slice Ap np cp) rfl (by rfl) (by rfl) (run_load_one ((Fg82.out.cell 26).trans rfl) Try.underlying39 rfl) ?_
    (try simp only [zP, zN, zA, zB, zC])
    refine pu_ (v := .int .i64 np) (y_run (by rfl) (fun W => by go_simp)) ?_
    (try simp only [zP, zN, zA, zB, zC])
    refine pu_ (v := .bool true) (y_run (by rfl) (fun W => by have d := D44.out; go_simp)) ?_
    (try simp only [zP, zN, zA, zB, zC])
    refine pu_ (v := .bool true) (y_pick (t := false) (by rfl) rfl (by rfl) (by rfl)) ?_
    (try simp only [zP, zN, zA, zB, zC])
    refine nl_ (hK93 _ _ ?_); clear hK93 K93
    refine wp_cond_true rfl ?_
    refine s_ (fun K97 hK97 => ?_)
    refine pu_ (v := .bool false) (y_assign rfl (by rfl) (by rfl)) ?_
    (try simp only [zP, zN, zA, zB, zC])
    refine nl_ (hK97 _ _ ?_); clear hK97 K97
    refine wp_ret ?_
    refine ib_ret ?_
    refine th_ret ?_
    refine th_ret ?_
    refine ib_ret ?_
    refine th_ret ?_
    refine hQ _ _ _ ?_
    refine bodyPost_ret (res1 rfl (rdv_tmp (v := .bool false) (by rfl))) rfl ?_
    exact ⟨_, rfl, ⟨fun h9 => absurd h9 (by decide), fun h9 => absurd h9 HR.out⟩, C0.out⟩
  · have hlt := Lib.hid hlt0
    have ho := Lib.hid ho0
    have hc := Lib.hid h
    clear hlt0 ho0 h
    obtain ⟨a, hsm_a⟩ := src_some SL.out (by have := hlt.out; omega)
    subst hsm_a
    have D8 := Lib.hid (show (k : Int) < (L.length : Int) by have := hlt.out; omega)
    have D11 := Lib.hid (show decide ((k : Int) < 30) = true from decide_eq_true (by have := hlt.out; omega))
    have Wk := Lib.hid (show IntKind.i64.wrap ((k : Int) + 1) = ((k + 1 : Nat) : Int) by rw [wr64 (by have := hlt.out; omega)]; omega)
    obtain ⟨x0, x1, x2, x3, x4, x5, x6, x7, x8, x9, x10, x11, x12, x13, x14, x15, y0, y1, y2, y3, y4, y6, Ap, cp, hcl0, hrp0, hsp0⟩ := HLL.out k o ho.out
    obtain ⟨np, hnp⟩ : ∃ x, ns k = x := ⟨_, rfl⟩
    rw [hnp] at hrp0
    have HSP := Lib.hid hsp0; have HNP := Lib.hid hnp
    have HOL := Lib.hid (show opC o = [.int .i64 o.c, .int .i64 o.n, .int .i64 o.a, .int .i64 o.d, .int .i64 o.t, x0, x1, x2, x3, x4, x5, x6, x7, x8, x9, x10, x11, x12, x13, x14, x15, y0, y1, y2, y3, y4, .slice Ap np cp, y6] by simp [opC, hcl0, hrp0])
    have HON := Lib.hid (show ∀ u ∈ [.int .i64 o.c, .int .i64 o.n, .int .i64 o.a, .int .i64 o.d, .int .i64 o.t, x0, x1, x2, x3, x4, x5, x6, x7, x8, x9, x10, x11, x12, x13, x14, x15, y0, y1, y2, y3, y4, .slice Ap np cp, y6], u.oneCell' = true from by rw [← HOL.out]; exact opC_one o)
    clear hcl0 hrp0 hsp0 hnp
    have D21 := Lib.hid (show decide (o.a < 0) = false from decide_eq_false (by have := hc.out; omega))
    have D25 := Lib.hid (show decide (o.d < 0) = false from decide_eq_false (by have := hc.out; omega))
    have D30 := Lib.hid (show decide (o.t < 0) = false from decide_eq_false (by have := hc.out; omega))
    have D44 := Lib.hid (show np = 0 by have := hc.out; have := HNP.out; omega)
    refine s_ (fun K98 hK98 => ?_)
    refine pu_ (v := .int .i64 k) (y_move rfl (by rfl) (by rfl)) ?_
    (try simp only [zP, zN, zA, zB, zC])
    refine pu_ (v := .slice (some a) L.length c) (y_move rfl (by rfl) (by rfl)) ?_
    (try simp only [zP, zN, zA, zB, zC])
    refine pu_ (v := .int .i64 L.length) (y_run (by rfl) (fun W => by go_simp)) ?_
    (try simp only [zP, zN, zA, zB, zC])
    refine pu_ (v := .bool true) (y_run (by rfl) (fun W => by have d := D8.out; go_simp)) ?_
    (try simp only [zP, zN, zA, zB, zC])
    refine pu_ (v := .bool true) (y_move rfl (by rfl) (by rfl)) ?_
    (try simp only [zP, zN, zA, zB, zC])
    refine pu_ (v := .int .i64 k) (y_move rfl (by rfl) (by rfl)) ?_
    (try simp only [zP, zN, zA, zB, zC])
    refine pu_ (v := .bool true) (y_run (by rfl) (fun W => by have d := D11.out; go_simp)) ?_
    (try simp only [zP, zN, zA, zB, zC])
    refine pu_ (v := .bool true) (y_pick (t := true) (by rfl) rfl (by rfl) (by rfl)) ?_
    (try simp only [zP, zN, zA, zB, zC])
    refine nl_ (hK98 _ _ ?_); clear hK98 K98
    refine wp_cond_true rfl ?_
    refine wp_skip ?_
    refine th_norm (hK6 _ _ ?_); try clear hK6 K6
    refine sq_ (fun K99 hK99 => ?_)
    refine wp_block ?_
    refine s_ (fun K100 hK100 => ?_)
    refine pu_ (v := .slice (some a) L.length c) (y_move rfl (by rfl) (by rfl)) ?_
    (try simp only [zP, zN, zA, zB, zC])
    refine pu_ (v := .int .i64 k) (y_move rfl (by rfl) (by rfl)) ?_
    (try simp only [zP, zN, zA, zB, zC])
    refine pu_ (v := .pointer (some (a.add (k * 28)))) (y_run (by rfl) (fun W => by have d := D8.out; go_simp)) ?_
    (try simp only [zP, zN, zA, zB, zC])
    refine ld_ (v := .agg #[.int .i64 o.c, .int .i64 o.n, .int .i64 o.a, .int .i64 o.d, .int .i64 o.t, x0, x1, x2, x3, x4, x5, x6, x7, x8, x9, x10, x11, x12, x13, x14, x15, y0, y1, y2, y3, y4, .slice Ap np cp, y6]) rfl (by rfl) (by rfl) (run_loadVar_at (by have h := src_elem SL.out ho.out; rw [HOL.out] at h; exact h) Try.underlying59 rfl (by kernel_rfl)) ?_
    (try simp only [zP, zN, zA, zB, zC])
    refine ef_ (fun K101 hK101 => ?_)
    refine e_alloc (by rfl) rfl rfl (cs := #[.int .i64 0, .int .i64 0, .int .i64 0, .int .i64 0, .int .i64 0, .int .i64 0, .int .i64 0, .int .u64 0, .string ⟨#[]⟩, .slice none 0 0, .slice none 0 0, .slice none 0 0, .int .i64 0, .int .i64 0, .int .i64 0, .int .i64 0, .int .i64 0, .int .i64 0, .int .i64 0, .string ⟨#[]⟩, .slice none 0 0, .int .i64 0, .int .i64 0, .int .i64 0, .int .u64 0, .string ⟨#[]⟩, .slice none 0 0, .slice none 0 0]) (by kernel_rfl) ?_
    rintro g102 w103 HG104 B105 C106
    have nw107 := Lib.hid (show w.heap.size ≤ g102 by have := C0.out.size; have := HG104.out; omega)
    have nx108 := Lib.hid (SL.out.ne_new (by decide) HG104)
    have C0' := Lib.hid (show Ch [] w w103 from C0.out.trans' C106 (fun x hx => absurd hx (by simp)))
    have SL' := Lib.hid (show SrcIs w103 (.slice (some a) L.length c) (L.length) ((L).flatMap opC) 28 from SL.out.chx C106 xnin_nil)
    clear C0 SL
    have C0 := C0'; clear C0'
    have SL := SL'; clear SL'
    have Fg102 := Lib.hid (show Blk w103 g102 (#[.int .i64 0, .int .i64 0, .int .i64 0, .int .i64 0, .int .i64 0, .int .i64 0, .int .i64 0, .int .u64 0, .string ⟨#[]⟩, .slice none 0 0, .slice none 0 0, .slice none 0 0, .int .i64 0, .int .i64 0, .int .i64 0, .int .i64 0, .int .i64 0, .int .i64 0, .int .i64 0, .string ⟨#[]⟩, .slice none 0 0, .int .i64 0, .int .i64 0, .int .i64 0, .int .u64 0, .string ⟨#[]⟩, .slice none 0 0, .slice none 0 0]) 59 from B105); clear B105 C106
    refine hK101 _ _ ?_; clear hK101 K101
    (try simp only [zP, zN, zA, zB, zC])
    refine ef_ (fun K109 hK109 => ?_)
    refine e_storeN (cells := #[.int .i64 o.c, .int .i64 o.n, .int .i64 o.a, .int .i64 o.d, .int .i64 o.t, x0, x1, x2, x3, x4, x5, x6, x7, x8, x9, x10, x11, x12, x13, x14, x15, y0, y1, y2, y3, y4, .slice Ap np cp, y6]) (by rfl) rfl rfl (by rfl) (by rfl) Fg102.out (by kernel_rfl) (by rfl) (ones_cons rfl (ones_cons rfl (ones_cons rfl (ones_cons rfl (ones_cons rfl (ones_cons (HON.out x0 (by simp)) (ones_cons (HON.out x1 (by simp)) (ones_cons (HON.out x2 (by simp)) (ones_cons (HON.out x3 (by simp)) (ones_cons (HON.out x4 (by simp)) (ones_cons (HON.out x5 (by simp)) (ones_cons (HON.out x6 (by simp)) (ones_cons (HON.out x7 (by simp)) (ones_cons (HON.out x8 (by simp)) (ones_cons (HON.out x9 (by simp)) (ones_cons (HON.out x10 (by simp)) (ones_cons (HON.out x11 (by simp)) (ones_cons (HON.out x12 (by simp)) (ones_cons (HON.out x13 (by simp)) (ones_cons (HON.out x14 (by simp)) (ones_cons (HON.out x15 (by simp)) (ones_cons (HON.out y0 (by simp)) (ones_cons (HON.out y1 (by simp)) (ones_cons (HON.out y2 (by simp)) (ones_cons (HON.out y3 (by simp)) (ones_cons (HON.out y4 (by simp)) (ones_cons rfl (ones_cons (HON.out y6 (by simp)) ones_nil)))))))))))))))))))))))))))) ?_
    rintro w110 B111 C112
    have C0' := Lib.hid (show Ch [] w w110 from C0.out.trans' C112 (inw_cons (.inr nw107.out) inw_nil))
    have SL' := Lib.hid (show SrcIs w110 (.slice (some a) L.length c) (L.length) ((L).flatMap opC) 28 from SL.out.chx C112 (xnin_cons nx108.out xnin_nil))
    clear C0 SL
    have C0 := C0'; clear C0'
    have SL := SL'; clear SL'
    clear Fg102; have Fg102 := Lib.hid (show Blk w110 g102 (#[.int .i64 o.c, .int .i64 o.n, .int .i64 o.a, .int .i64 o.d, .int .i64 o.t, x0, x1, x2, x3, x4, x5, x6, x7, x8, x9, x10, x11, x12, x13, x14, x15, y0, y1, y2, y3, y4, .slice Ap np cp, y6]) 59 from B111); clear B111 C112
    refine hK109 _ _ ?_; clear hK109 K109
    (try simp only [zP, zN, zA, zB, zC])
    refine nl_ (hK100 _ _ ?_); clear hK100 K100
    refine s_ (fun K113 hK113 => ?_)
    refine pu_ (v := .pointer (some ⟨g102, 2, none⟩)) (y_run (by rfl) (fun W => by go_simp)) ?_
    (try simp only [zP, zN, zA, zB, zC])
    refine ld_ (v := .int .i64 o.a) rfl (by rfl) (by rfl) (run_load_one ((Fg102.out.cell 2).trans rfl) Try.underlying3 rfl) ?_
    (try simp only [zP, zN, zA, zB, zC])
    refine pu_ (v := .bool false) (y_run (by rfl) (fun W => by have d := D21.out; go_simp)) ?_
    (try simp only [zP, zN, zA, zB, zC])
    refine pu_ (v := .bool false) (y_move rfl (by rfl) (by rfl)) ?_
    (try simp only [zP, zN, zA, zB, zC])
    refine pu_ (v := .pointer (some ⟨g102, 3, none⟩)) (y_run (by rfl) (fun W => by go_simp)) ?_
    (try simp only [zP, zN, zA, zB, zC])
    refine ld_ (v := .int .i64 o.d) rfl (by rfl) (by rfl) (run_load_one ((Fg102.out.cell 3).trans rfl) Try.underlying3 rfl) ?_
    (try simp only [zP, zN, zA, zB, zC])
    refine pu_ (v := .bool false) (y_run (by rfl) (fun W => by have d := D25.out; go_simp)) ?_
    (try simp only [zP, zN, zA, zB, zC])
    refine pu_ (v := .bool false) (y_pick (t := false) (by rfl) rfl (by rfl) (by rfl)) ?_
    (try simp only [zP, zN, zA, zB, zC])
    refine pu_ (v := .bool false) (y_move rfl (by rfl) (by rfl)) ?_
    (try simp only [zP, zN, zA, zB, zC])
    refine pu_ (v := .pointer (some ⟨g102, 4, none⟩)) (y_run (by rfl) (fun W => by go_simp)) ?_
    (try simp only [zP, zN, zA, zB, zC])
    refine ld_ (v := .int .i64 o.t) rfl (by rfl) (by rfl) (run_load_one ((Fg102.out.cell 4).trans rfl) Try.underlying3 rfl) ?_
    (try simp only [zP, zN, zA, zB, zC])
    refine pu_ (v := .bool false) (y_run (by rfl) (fun W => by have d := D30.out; go_simp)) ?_
    (try simp only [zP, zN, zA, zB, zC])
    refine pu_ (v := .bool false) (y_pick (t := false) (by rfl) rfl (by rfl) (by rfl)) ?_
    (try simp only [zP, zN, zA, zB, zC])
    refine pu_ (v := .bool false) (y_move rfl (by rfl) (by rfl)) ?_
    (try simp only [zP, zN, zA, zB, zC])
    refine pu_ (v := .pointer (some ⟨g102, 5, none⟩)) (y_run (by rfl) (fun W => by go_simp)) ?_
    (try simp only [zP, zN, zA, zB, zC])
    refine pu_ (v := .pointer (some ⟨g102, 8, none⟩)) (y_run (by rfl) (fun W => by go_simp)) ?_
    (try simp only [zP, zN, zA, zB, zC])
    refine ld_ (v := .agg #[x3, x4, x5, x6, x7, x8, x9]) rfl (by rfl) (by rfl) (run_loadVar_at (cs := [x3, x4, x5, x6, x7, x8, x9]) (cells_part Fg102.out 8 (by rfl)) Try.underlying30 rfl (by kernel_rfl)) ?_
    (try simp only [zP, zN, zA, zB, zC])
    refine ef_ (fun K114 hK114 => ?_)
    refine e_call Try.func17 (by kernel_rfl) rfl #[.agg #[x3, x4, x5, x6, x7, x8, x9]] (by rfl) rfl rfl (by first | rfl | (simp only [List.map_toArray, List.map_cons, List.map_nil]; first | done | rfl)) ((by have h := HSP.out w110 C0.out.below0; rw [show rs k = true from hc.out.2.2.2.1] at h; exact h)) ?_
    rintro en w116 ⟨rfl, cc115⟩
    refine ⟨_, rfl, ?_⟩
    have C0' := Lib.hid (show Ch [] w w116 from C0.out.trans' cc115 (fun x hx => absurd hx (by simp)))
    have SL' := Lib.hid (show SrcIs w116 (.slice (some a) L.length c) (L.length) ((L).flatMap opC) 28 from SL.out.chx cc115 xnin_nil)
    have Fg102' := Lib.hid (show Blk w116 g102 (#[.int .i64 o.c, .int .i64 o.n, .int .i64 o.a, .int .i64 o.d, .int .i64 o.t, x0, x1, x2, x3, x4, x5, x6, x7, x8, x9, x10, x11, x12, x13, x14, x15, y0, y1, y2, y3, y4, .slice Ap np cp, y6]) 59 from cc115.blk Fg102.out nin_nil)
    clear C0 SL Fg102
    have C0 := C0'; clear C0'
    have SL := SL'; clear SL'
    have Fg102 := Fg102'; clear Fg102'
    clear cc115
    refine hK114 _ _ ?_; clear hK114 K114
    (try simp only [zP, zN, zA, zB, zC])
    refine pu_ (v := .bool false) (y_run (by rfl) (fun W => by go_simp)) ?_
    (try simp only [zP, zN, zA, zB, zC])
    refine pu_ (v := .bool false) (y_pick (t := false) (by rfl) rfl (by rfl) (by rfl)) ?_
    (try simp only [zP, zN, zA, zB, zC])
    refine pu_ (v := .bool false) (y_move rfl (by rfl) (by rfl)) ?_
    (try simp only [zP, zN, zA, zB, zC])
    refine pu_ (v := .pointer (some ⟨g102, 21, none⟩)) (y_run (by rfl) (fun W => by go_simp)) ?_
    (try simp only [zP, zN, zA, zB, zC])
    refine pu_ (v := .pointer (some ⟨g102, 26, none⟩)) (y_run (by rfl) (fun W => by go_simp)) ?_
    (try simp only [zP, zN, zA, zB, zC])
    refine ld_ (v := .slice Ap np cp) rfl (by rfl) (by rfl) (run_load_one ((Fg102.out.cell 26).trans rfl) Try.underlying39 rfl) ?_
    (try simp only [zP, zN, zA, zB, zC])
    refine pu_ (v := .int .i64 np) (y_run (by rfl) (fun W => by go_simp)) ?_
    (try simp only [zP, zN, zA, zB, zC])
    refine pu_ (v := .bool false) (y_run (by rfl) (fun W => by have d := D44.out; go_simp)) ?_
    (try simp only [zP, zN, zA, zB, zC])
    refine pu_ (v := .bool false) (y_pick (t := false) (by rfl) rfl (by rfl) (by rfl)) ?_
    (try simp only [zP, zN, zA, zB, zC])
    refine nl_ (hK113 _ _ ?_); clear hK113 K113
    refine wp_cond_false rfl ?_
    refine wp_skip ?_
    refine ib_norm ?_
    refine th_norm (hK99 _ _ ?_); try clear hK99 K99
    refine r_ ?_
    refine pu_ (v := .int .i64 k) (y_move rfl (by rfl) (by rfl)) ?_
    (try simp only [zP, zN, zA, zB, zC])
    refine pu_ (v := .int .i64 (k + 1 : Nat)) (y_run (by rfl) (fun W => by have d := Wk.out; go_simp)) ?_
    (try simp only [zP, zN, zA, zB, zC])
    refine pu_ (v := .int .i64 (k + 1 : Nat)) (y_assign rfl (by rfl) (by rfl)) ?_
    (try simp only [zP, zN, zA, zB, zC])
    refine nl_ ?_
    exact th_norm (hK5 (kq - 1) _ _ (by have := hlt.out; have := hk.out; omega) ⟨k + 1, fun us_ => (#[.slice (some a) L.length c, us 1, .bool false, .int .i64 (k + 1 : Nat), .pointer (some ⟨g102, 0, none⟩), .int .i64 k, .slice (some a) L.length c, .int .i64 L.length, .bool true, .bool true, .int .i64 k, .bool true, .bool true, .int .i64 k, .int .i64 (k + 1 : Nat), .slice (some a) L.length c, .int .i64 k, .pointer (some (a.add (k * 28))), .agg #[.int .i64 o.c, .int .i64 o.n, .int .i64 o.a, .int .i64 o.d, .int .i64 o.t, x0, x1, x2, x3, x4, x5, x6, x7, x8, x9, x10, x11, x12, x13, x14, x15, y0, y1, y2, y3, y4, .slice Ap np cp, y6], .pointer (some ⟨g102, 2, none⟩), .int .i64 o.a, .bool false, .bool false, .pointer (some ⟨g102, 3, none⟩), .int .i64 o.d, .bool false, .bool false, .bool false, .pointer (some ⟨g102, 4, none⟩), .int .i64 o.t, .bool false, .bool false, .bool false, .pointer (some ⟨g102, 5, none⟩), .pointer (some ⟨g102, 8, none⟩), .agg #[x3, x4, x5, x6, x7, x8, x9], .bool true, .bool false, .bool false, .bool false, .pointer (some ⟨g102, 21, none⟩), .pointer (some ⟨g102, 26, none⟩), .slice Ap np cp, .int .i64 np, .bool false, .bool false, us 46, us 47, us 48] : Array Value).getD us_ undef, rfl, C0, SL, Lib.hid ⟨by have := hlt.out; omega, by have := hlt.out; omega, by have := hlt.out; have := hk.out; omega⟩, Lib.hid (fun i p h9 h8 => (Nat.lt_or_ge i k).elim (fun h7 => hr.out i p h7 h8) (fun h7 => by obtain rfl : i = k := (by omega); rw [ho.out] at h8; injection h8 with h8; subst h8; exact ⟨by unfold posO; have := hc.out; omega, hc.out.2.2.2.1, hc.out.2.2.2.2⟩))⟩)
  · have D8 := Lib.hid (show (k : Int) < (L.length : Int) by omega)
    have D11 := Lib.hid (show decide ((k : Int) < 30) = false from decide_eq_false (by omega))
    have HR := Lib.hid (show ¬ lightP L rs ns from fun h9 => by have := h9.1; omega)
    have D48 := Lib.hid (show decide ((L.length : Int) ≤ 30) = false from decide_eq_false (by omega))
    clear h
    refine s_ (fun K117 hK117 => ?_)
    refine pu_ (v := .int .i64 k) (y_move rfl (by rfl) (by rfl)) ?_
    (try simp only [zP, zN, zA, zB, zC])
    refine pu_ (v := .slice A L.length c) (y_move rfl (by rfl) (by rfl)) ?_
    (try simp only [zP, zN, zA, zB, zC])
    refine pu_ (v := .int .i64 L.length) (y_run (by rfl) (fun W => by go_simp)) ?_
    (try simp only [zP, zN, zA, zB, zC])
    refine pu_ (v := .bool true) (y_run (by rfl) (fun W => by have d := D8.out; go_simp)) ?_
    (try simp only [zP, zN, zA, zB, zC])
    refine pu_ (v := .bool true) (y_move rfl (by rfl) (by rfl)) ?_
    (try simp only [zP, zN, zA, zB, zC])
    refine pu_ (v := .int .i64 k) (y_move rfl (by rfl) (by rfl)) ?_
    (try simp only [zP, zN, zA, zB, zC])
    refine pu_ (v := .bool false) (y_run (by rfl) (fun W => by have d := D11.out; go_simp)) ?_
    (try simp only [zP, zN, zA, zB, zC])
    refine pu_ (v := .bool false) (y_pick (t := true) (by rfl) rfl (by rfl) (by rfl)) ?_
    (try simp only [zP, zN, zA, zB, zC])
    refine nl_ (hK117 _ _ ?_); clear hK117 K117
    refine wp_cond_false rfl ?_
    refine wp_exit ?_
    refine th_exit ?_
    refine th_exit ?_
    refine ib_exit ?_
    refine th_norm (hK2 _ _ ?_); try clear hK2 K2
    refine s_ (fun K118 hK118 => ?_)
    refine pu_ (v := .slice A L.length c) (y_move rfl (by rfl) (by rfl)) ?_
    (try simp only [zP, zN, zA, zB, zC])
    refine pu_ (v := .int .i64 L.length) (y_run (by rfl) (fun W => by go_simp)) ?_
    (try simp only [zP, zN, zA, zB, zC])
    refine pu_ (v := .bool false) (y_run (by rfl) (fun W => by have d := D48.out; go_simp)) ?_
    (try simp only [zP, zN, zA, zB, zC])
    refine pu_ (v := .bool false) (y_assign rfl (by rfl) (by rfl)) ?_
    (try simp only [zP, zN, zA, zB, zC])
    refine nl_ (hK118 _ _ ?_); clear hK118 K118
    refine wp_ret ?_
    refine hQ _ _ _ ?_
    refine bodyPost_ret (res1 rfl (rdv_tmp (v := .bool false) (by rfl))) rfl ?_
    exact ⟨_, rfl, ⟨fun h9 => absurd h9 (by decide), fun h9 => absurd h9 HR.out⟩, C0.out⟩
  · have D8 := Lib.hid (show ¬ k < L.length by have := hk.out; omega)
    have HR := Lib.hid (show lightP L rs ns from ⟨by have := hk.out; omega, fun i o _ h9 => hr.out i o (by have := (List.getElem?_eq_some_iff.1 h9).1; omega) h9⟩)
    have D48 := Lib.hid (show decide ((L.length : Int) ≤ 30) = true from decide_eq_true (by have := hk.out; omega))
    clear h
    refine s_ (fun K119 hK119 => ?_)
    refine pu_ (v := .int .i64 k) (y_move rfl (by rfl) (by rfl)) ?_
    (try simp only [zP, zN, zA, zB, zC])
    refine pu_ (v := .slice A L.length c) (y_move rfl (by rfl) (by rfl)) ?_
    (try simp only [zP, zN, zA, zB, zC])
    refine pu_ (v := .int .i64 L.length) (y_run (by rfl) (fun W => by go_simp)) ?_
    (try simp only [zP, zN, zA, zB, zC])
    refine pu_ (v := .bool false) (y_run (by rfl) (fun W => by have d := D8.out; go_simp)) ?_
    (try simp only [zP, zN, zA, zB, zC])
    refine pu_ (v := .bool false) (y_move rfl (by rfl) (by rfl)) ?_
    (try simp only [zP, zN, zA, zB, zC])
    refine pu_ (y_off (by rfl)) ?_
    (try simp only [zP, zN, zA, zB, zC])
    refine pu_ (y_off (by rfl)) ?_
    (try simp only [zP, zN, zA, zB, zC])
    refine pu_ (v := .bool false) (y_pick (t := false) (by rfl) rfl (by rfl) (by rfl)) ?_
    (try simp only [zP, zN, zA, zB, zC])
    refine nl_ (hK119 _ _ ?_); clear hK119 K119
    refine wp_cond_false rfl ?_
    refine wp_exit ?_
    refine th_exit ?_
    refine th_exit ?_
    refine ib_exit ?_
    refine th_norm (hK2 _ _ ?_); try clear hK2 K2
    refine s_ (fun K120 hK120 => ?_)
    refine pu_ (v := .slice A L.length c) (y_move rfl (by rfl) (by rfl)) ?_
    (try simp only [zP, zN, zA, zB, zC])
    refine pu_ (v := .int .i64 L.length) (y_run (by rfl) (fun W => by go_simp)) ?_
    (try simp only [zP, zN, zA, zB, zC])
    refine pu_ (v := .bool true) (y_run (by rfl) (fun W => by have d := D48.out; go_simp)) ?_
    (try simp only [zP, zN, zA, zB, zC])
    refine pu_ (v := .bool true) (y_assign rfl (by rfl) (by rfl)) ?_
    (try simp only [zP, zN, zA, zB, zC])
    refine nl_ (hK120 _ _ ?_); clear hK120 K120
    refine wp_ret ?_
    refine hQ _ _ _ ?_
    refine bodyPost_ret (res1 rfl (rdv_tmp (v := .bool true) (by rfl))) rfl ?_
    exact ⟨_, rfl, ⟨fun _ => HR.out, fun _ => rfl⟩, C0.out⟩
end
end Go.Proofs.Ytggcpbnlblbpjaa.L
