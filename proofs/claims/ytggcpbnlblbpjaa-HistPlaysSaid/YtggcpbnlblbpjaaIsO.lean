/- The walk of Is: an operation is the same as itself. -/
import Derived.Test.YtggcpbnlblbpjaaSame
namespace Go.Proofs.Ytggcpbnlblbpjaa.L
open Go Go.RowKit Go.Proofs.Ytggcpbnlblbpjaa.K Go.Proofs.Ytggcpbnlblbpjaa.H Go.Proofs.YtggcpbnlblbpjaaW.PrintLast
set_option linter.unusedVariables false
set_option linter.unusedSimpArgs false
set_option maxRecDepth 100000
set_option maxHeartbeats 1600000
section
variable {w : World}
/-- A call, a reply that is the same as itself. -/
def SameC (W : World) (cs : List Value) : Prop := ∀ w', Below W.heap.size W w' → Calls Try.prog 49 #[.agg cs.toArray, .agg cs.toArray] w' fun en w2 => en = .returned (.bool true) ∧ Ch [] w' w2
def SameP (W : World) (cs : List Value) : Prop := ∀ w', Below W.heap.size W w' → Calls Try.prog 50 #[.agg cs.toArray, .agg cs.toArray] w' fun en w2 => en = .returned (.bool true) ∧ Ch [] w' w2
theorem is_ (c n a d t : Int) (x0 x1 x2 x3 x4 x5 x6 x7 x8 x9 x10 x11 x12 x13 x14 x15 x16 x17 x18 x19 x20 x21 x22 : Value) (H0 : x0.oneCell' = true) (H1 : x1.oneCell' = true) (H2 : x2.oneCell' = true) (H3 : x3.oneCell' = true) (H4 : x4.oneCell' = true) (H5 : x5.oneCell' = true) (H6 : x6.oneCell' = true) (H7 : x7.oneCell' = true) (H8 : x8.oneCell' = true) (H9 : x9.oneCell' = true) (H10 : x10.oneCell' = true) (H11 : x11.oneCell' = true) (H12 : x12.oneCell' = true) (H13 : x13.oneCell' = true) (H14 : x14.oneCell' = true) (H15 : x15.oneCell' = true) (H16 : x16.oneCell' = true) (H17 : x17.oneCell' = true) (H18 : x18.oneCell' = true) (H19 : x19.oneCell' = true) (H20 : x20.oneCell' = true) (H21 : x21.oneCell' = true) (H22 : x22.oneCell' = true) (HS : Hid (SameC w [x0, x1, x2, x3, x4, x5, x6, x7, x8, x9, x10, x11, x12, x13, x14, x15])) (HR : Hid (SameP w [x16, x17, x18, x19, x20, x21, x22]))  :
    Calls Try.prog 26 #[.agg #[.int .i64 c, .int .i64 n, .int .i64 a, .int .i64 d, .int .i64 t, x0, x1, x2, x3, x4, x5, x6, x7, x8, x9, x10, x11, x12, x13, x14, x15, x16, x17, x18, x19, x20, x21, x22], .agg #[.int .i64 c, .int .i64 n, .int .i64 a, .int .i64 d, .int .i64 t, x0, x1, x2, x3, x4, x5, x6, x7, x8, x9, x10, x11, x12, x13, x14, x15, x16, x17, x18, x19, x20, x21, x22]] w fun en w' => en = .returned (.bool true) ∧ Ch [] w w' := by
  have C0 := Lib.hid (Ch.refl [] w)
  go_enter Try.func26, Try.ntmps26
  refine q_ (fun Q hQ hP => ?_)
  refine s_ (fun K1 hK1 => ?_)
  refine ef_ (fun K2 hK2 => ?_)
  refine e_boxN (by rfl) rfl rfl (cs := #[.int .i64 c, .int .i64 n, .int .i64 a, .int .i64 d, .int .i64 t, x0, x1, x2, x3, x4, x5, x6, x7, x8, x9, x10, x11, x12, x13, x14, x15, x16, x17, x18, x19, x20, x21, x22]) (v := .agg #[.int .i64 c, .int .i64 n, .int .i64 a, .int .i64 d, .int .i64 t, x0, x1, x2, x3, x4, x5, x6, x7, x8, x9, x10, x11, x12, x13, x14, x15, x16, x17, x18, x19, x20, x21, x22]) (by rfl) rfl ?_
  rintro g3 w4 HG5 B6 C7
  have nw8 := Lib.hid (show w.heap.size ≤ g3 by have := C0.out.size; have := HG5.out; omega)
  have C0' := Lib.hid (show Ch [] w w4 from C0.out.trans' C7 (fun x hx => absurd hx (by simp)))
  clear C0
  have C0 := C0'; clear C0'
  have Fg3 := Lib.hid (show Blk w4 g3 (#[.int .i64 c, .int .i64 n, .int .i64 a, .int .i64 d, .int .i64 t, x0, x1, x2, x3, x4, x5, x6, x7, x8, x9, x10, x11, x12, x13, x14, x15, x16, x17, x18, x19, x20, x21, x22]) 49 from B6); clear B6 C7
  refine hK2 _ _ ?_; clear hK2 K2
  (try simp only [zP, zN, zA, zB, zC])
  refine ef_ (fun K9 hK9 => ?_)
  refine e_boxN (by rfl) rfl rfl (cs := #[.int .i64 c, .int .i64 n, .int .i64 a, .int .i64 d, .int .i64 t, x0, x1, x2, x3, x4, x5, x6, x7, x8, x9, x10, x11, x12, x13, x14, x15, x16, x17, x18, x19, x20, x21, x22]) (v := .agg #[.int .i64 c, .int .i64 n, .int .i64 a, .int .i64 d, .int .i64 t, x0, x1, x2, x3, x4, x5, x6, x7, x8, x9, x10, x11, x12, x13, x14, x15, x16, x17, x18, x19, x20, x21, x22]) (by rfl) rfl ?_
  rintro g10 w11 HG12 B13 C14
  have nw15 := Lib.hid (show w.heap.size ≤ g10 by have := C0.out.size; have := HG12.out; omega)
  have C0' := Lib.hid (show Ch [] w w11 from C0.out.trans' C14 (fun x hx => absurd hx (by simp)))
  have Fg3' := Lib.hid (show Blk w11 g3 (#[.int .i64 c, .int .i64 n, .int .i64 a, .int .i64 d, .int .i64 t, x0, x1, x2, x3, x4, x5, x6, x7, x8, x9, x10, x11, x12, x13, x14, x15, x16, x17, x18, x19, x20, x21, x22]) 49 from C14.blk Fg3.out nin_nil)
  clear C0 Fg3
  have C0 := C0'; clear C0'
  have Fg3 := Fg3'; clear Fg3'
  have Fg10 := Lib.hid (show Blk w11 g10 (#[.int .i64 c, .int .i64 n, .int .i64 a, .int .i64 d, .int .i64 t, x0, x1, x2, x3, x4, x5, x6, x7, x8, x9, x10, x11, x12, x13, x14, x15, x16, x17, x18, x19, x20, x21, x22]) 59 from B13); clear B13 C14
  refine hK9 _ _ ?_; clear hK9 K9
  (try simp only [zP, zN, zA, zB, zC])
  refine pu_ (v := .bool false) (y_assign rfl (by rfl) (by rfl)) ?_
  (try simp only [zP, zN, zA, zB, zC])
  refine nl_ (hK1 _ _ ?_); clear hK1 K1
  refine s_ (fun K16 hK16 => ?_)
  refine pu_ (v := .pointer (some ⟨g3, 0, none⟩)) (y_run (by rfl) (fun W => by go_simp)) ?_
  (try simp only [zP, zN, zA, zB, zC])
  refine ld_ (v := .int .i64 c) rfl (by rfl) (by rfl) (run_load_one ((Fg3.out.cell 0).trans rfl) Try.underlying3 rfl) ?_
  (try simp only [zP, zN, zA, zB, zC])
  refine pu_ (v := .pointer (some ⟨g10, 0, none⟩)) (y_run (by rfl) (fun W => by go_simp)) ?_
  (try simp only [zP, zN, zA, zB, zC])
  refine ld_ (v := .int .i64 c) rfl (by rfl) (by rfl) (run_load_one ((Fg10.out.cell 0).trans rfl) Try.underlying3 rfl) ?_
  (try simp only [zP, zN, zA, zB, zC])
  refine pu_ (v := .bool true) (y_run (by rfl) (fun W => by go_simp)) ?_
  (try simp only [zP, zN, zA, zB, zC])
  refine pu_ (v := .bool true) (y_move rfl (by rfl) (by rfl)) ?_
  (try simp only [zP, zN, zA, zB, zC])
  refine pu_ (v := .pointer (some ⟨g3, 1, none⟩)) (y_run (by rfl) (fun W => by go_simp)) ?_
  (try simp only [zP, zN, zA, zB, zC])
  refine ld_ (v := .int .i64 n) rfl (by rfl) (by rfl) (run_load_one ((Fg3.out.cell 1).trans rfl) Try.underlying3 rfl) ?_
  (try simp only [zP, zN, zA, zB, zC])
  refine pu_ (v := .pointer (some ⟨g10, 1, none⟩)) (y_run (by rfl) (fun W => by go_simp)) ?_
  (try simp only [zP, zN, zA, zB, zC])
  refine ld_ (v := .int .i64 n) rfl (by rfl) (by rfl) (run_load_one ((Fg10.out.cell 1).trans rfl) Try.underlying3 rfl) ?_
  (try simp only [zP, zN, zA, zB, zC])
  refine pu_ (v := .bool true) (y_run (by rfl) (fun W => by go_simp)) ?_
  (try simp only [zP, zN, zA, zB, zC])
  refine pu_ (v := .bool true) (y_pick (t := true) (by rfl) rfl (by rfl) (by rfl)) ?_
  (try simp only [zP, zN, zA, zB, zC])
  refine pu_ (v := .bool true) (y_move rfl (by rfl) (by rfl)) ?_
  (try simp only [zP, zN, zA, zB, zC])
  refine pu_ (v := .pointer (some ⟨g3, 2, none⟩)) (y_run (by rfl) (fun W => by go_simp)) ?_
  (try simp only [zP, zN, zA, zB, zC])
  refine ld_ (v := .int .i64 a) rfl (by rfl) (by rfl) (run_load_one ((Fg3.out.cell 2).trans rfl) Try.underlying3 rfl) ?_
  (try simp only [zP, zN, zA, zB, zC])
  refine pu_ (v := .pointer (some ⟨g10, 2, none⟩)) (y_run (by rfl) (fun W => by go_simp)) ?_
  (try simp only [zP, zN, zA, zB, zC])
  refine ld_ (v := .int .i64 a) rfl (by rfl) (by rfl) (run_load_one ((Fg10.out.cell 2).trans rfl) Try.underlying3 rfl) ?_
  (try simp only [zP, zN, zA, zB, zC])
  refine pu_ (v := .bool true) (y_run (by rfl) (fun W => by go_simp)) ?_
  (try simp only [zP, zN, zA, zB, zC])
  refine pu_ (v := .bool true) (y_pick (t := true) (by rfl) rfl (by rfl) (by rfl)) ?_
  (try simp only [zP, zN, zA, zB, zC])
  refine pu_ (v := .bool true) (y_move rfl (by rfl) (by rfl)) ?_
  (try simp only [zP, zN, zA, zB, zC])
  refine pu_ (v := .pointer (some ⟨g3, 3, none⟩)) (y_run (by rfl) (fun W => by go_simp)) ?_
  (try simp only [zP, zN, zA, zB, zC])
  refine ld_ (v := .int .i64 d) rfl (by rfl) (by rfl) (run_load_one ((Fg3.out.cell 3).trans rfl) Try.underlying3 rfl) ?_
  (try simp only [zP, zN, zA, zB, zC])
  refine pu_ (v := .pointer (some ⟨g10, 3, none⟩)) (y_run (by rfl) (fun W => by go_simp)) ?_
  (try simp only [zP, zN, zA, zB, zC])
  refine ld_ (v := .int .i64 d) rfl (by rfl) (by rfl) (run_load_one ((Fg10.out.cell 3).trans rfl) Try.underlying3 rfl) ?_
  (try simp only [zP, zN, zA, zB, zC])
  refine pu_ (v := .bool true) (y_run (by rfl) (fun W => by go_simp)) ?_
  (try simp only [zP, zN, zA, zB, zC])
  refine pu_ (v := .bool true) (y_pick (t := true) (by rfl) rfl (by rfl) (by rfl)) ?_
  (try simp only [zP, zN, zA, zB, zC])
  refine pu_ (v := .bool true) (y_move rfl (by rfl) (by rfl)) ?_
  (try simp only [zP, zN, zA, zB, zC])
  refine pu_ (v := .pointer (some ⟨g3, 4, none⟩)) (y_run (by rfl) (fun W => by go_simp)) ?_
  (try simp only [zP, zN, zA, zB, zC])
  refine ld_ (v := .int .i64 t) rfl (by rfl) (by rfl) (run_load_one ((Fg3.out.cell 4).trans rfl) Try.underlying3 rfl) ?_
  (try simp only [zP, zN, zA, zB, zC])
  refine pu_ (v := .pointer (some ⟨g10, 4, none⟩)) (y_run (by rfl) (fun W => by go_simp)) ?_
  (try simp only [zP, zN, zA, zB, zC])
  refine ld_ (v := .int .i64 t) rfl (by rfl) (by rfl) (run_load_one ((Fg10.out.cell 4).trans rfl) Try.underlying3 rfl) ?_
  (try simp only [zP, zN, zA, zB, zC])
  refine pu_ (v := .bool true) (y_run (by rfl) (fun W => by go_simp)) ?_
  (try simp only [zP, zN, zA, zB, zC])
  refine pu_ (v := .bool true) (y_pick (t := true) (by rfl) rfl (by rfl) (by rfl)) ?_
  (try simp only [zP, zN, zA, zB, zC])
  refine pu_ (v := .bool true) (y_move rfl (by rfl) (by rfl)) ?_
  (try simp only [zP, zN, zA, zB, zC])
  refine pu_ (v := .pointer (some ⟨g3, 5, none⟩)) (y_run (by rfl) (fun W => by go_simp)) ?_
  (try simp only [zP, zN, zA, zB, zC])
  refine ld_ (v := .agg #[x0, x1, x2, x3, x4, x5, x6, x7, x8, x9, x10, x11, x12, x13, x14, x15]) rfl (by rfl) (by rfl) (run_loadVar_at (cs := [x0, x1, x2, x3, x4, x5, x6, x7, x8, x9, x10, x11, x12, x13, x14, x15]) (cells_part Fg3.out 5 (by rfl)) Try.underlying32 rfl (by kernel_rfl)) ?_
  (try simp only [zP, zN, zA, zB, zC])
  refine pu_ (v := .pointer (some ⟨g10, 5, none⟩)) (y_run (by rfl) (fun W => by go_simp)) ?_
  (try simp only [zP, zN, zA, zB, zC])
  refine ld_ (v := .agg #[x0, x1, x2, x3, x4, x5, x6, x7, x8, x9, x10, x11, x12, x13, x14, x15]) rfl (by rfl) (by rfl) (run_loadVar_at (cs := [x0, x1, x2, x3, x4, x5, x6, x7, x8, x9, x10, x11, x12, x13, x14, x15]) (cells_part Fg10.out 5 (by rfl)) Try.underlying32 rfl (by kernel_rfl)) ?_
  (try simp only [zP, zN, zA, zB, zC])
  refine ef_ (fun K17 hK17 => ?_)
  refine e_call Try.func49 (by kernel_rfl) rfl #[.agg #[x0, x1, x2, x3, x4, x5, x6, x7, x8, x9, x10, x11, x12, x13, x14, x15], .agg #[x0, x1, x2, x3, x4, x5, x6, x7, x8, x9, x10, x11, x12, x13, x14, x15]] (by rfl) rfl rfl (by first | rfl | (simp only [List.map_toArray, List.map_cons, List.map_nil]; first | done | rfl)) ((HS.out w11 C0.out.below0)) ?_
  rintro en w19 ⟨rfl, cc18⟩
  refine ⟨_, rfl, ?_⟩
  have C0' := Lib.hid (show Ch [] w w19 from C0.out.trans' cc18 (fun x hx => absurd hx (by simp)))
  have Fg3' := Lib.hid (show Blk w19 g3 (#[.int .i64 c, .int .i64 n, .int .i64 a, .int .i64 d, .int .i64 t, x0, x1, x2, x3, x4, x5, x6, x7, x8, x9, x10, x11, x12, x13, x14, x15, x16, x17, x18, x19, x20, x21, x22]) 49 from cc18.blk Fg3.out nin_nil)
  have Fg10' := Lib.hid (show Blk w19 g10 (#[.int .i64 c, .int .i64 n, .int .i64 a, .int .i64 d, .int .i64 t, x0, x1, x2, x3, x4, x5, x6, x7, x8, x9, x10, x11, x12, x13, x14, x15, x16, x17, x18, x19, x20, x21, x22]) 59 from cc18.blk Fg10.out nin_nil)
  clear C0 Fg3 Fg10
  have C0 := C0'; clear C0'
  have Fg3 := Fg3'; clear Fg3'
  have Fg10 := Fg10'; clear Fg10'
  clear cc18
  refine hK17 _ _ ?_; clear hK17 K17
  (try simp only [zP, zN, zA, zB, zC])
  refine pu_ (v := .bool true) (y_pick (t := true) (by rfl) rfl (by rfl) (by rfl)) ?_
  (try simp only [zP, zN, zA, zB, zC])
  refine pu_ (v := .bool true) (y_move rfl (by rfl) (by rfl)) ?_
  (try simp only [zP, zN, zA, zB, zC])
  refine pu_ (v := .pointer (some ⟨g3, 21, none⟩)) (y_run (by rfl) (fun W => by go_simp)) ?_
  (try simp only [zP, zN, zA, zB, zC])
  refine ld_ (v := .agg #[x16, x17, x18, x19, x20, x21, x22]) rfl (by rfl) (by rfl) (run_loadVar_at (cs := [x16, x17, x18, x19, x20, x21, x22]) (cells_part Fg3.out 21 (by rfl)) Try.underlying42 rfl (by kernel_rfl)) ?_
  (try simp only [zP, zN, zA, zB, zC])
  refine pu_ (v := .pointer (some ⟨g10, 21, none⟩)) (y_run (by rfl) (fun W => by go_simp)) ?_
  (try simp only [zP, zN, zA, zB, zC])
  refine ld_ (v := .agg #[x16, x17, x18, x19, x20, x21, x22]) rfl (by rfl) (by rfl) (run_loadVar_at (cs := [x16, x17, x18, x19, x20, x21, x22]) (cells_part Fg10.out 21 (by rfl)) Try.underlying42 rfl (by kernel_rfl)) ?_
  (try simp only [zP, zN, zA, zB, zC])
  refine ef_ (fun K20 hK20 => ?_)
  refine e_call Try.func50 (by kernel_rfl) rfl #[.agg #[x16, x17, x18, x19, x20, x21, x22], .agg #[x16, x17, x18, x19, x20, x21, x22]] (by rfl) rfl rfl (by first | rfl | (simp only [List.map_toArray, List.map_cons, List.map_nil]; first | done | rfl)) ((HR.out w19 C0.out.below0)) ?_
  rintro en w22 ⟨rfl, cc21⟩
  refine ⟨_, rfl, ?_⟩
  have C0' := Lib.hid (show Ch [] w w22 from C0.out.trans' cc21 (fun x hx => absurd hx (by simp)))
  have Fg3' := Lib.hid (show Blk w22 g3 (#[.int .i64 c, .int .i64 n, .int .i64 a, .int .i64 d, .int .i64 t, x0, x1, x2, x3, x4, x5, x6, x7, x8, x9, x10, x11, x12, x13, x14, x15, x16, x17, x18, x19, x20, x21, x22]) 49 from cc21.blk Fg3.out nin_nil)
  have Fg10' := Lib.hid (show Blk w22 g10 (#[.int .i64 c, .int .i64 n, .int .i64 a, .int .i64 d, .int .i64 t, x0, x1, x2, x3, x4, x5, x6, x7, x8, x9, x10, x11, x12, x13, x14, x15, x16, x17, x18, x19, x20, x21, x22]) 59 from cc21.blk Fg10.out nin_nil)
  clear C0 Fg3 Fg10
  have C0 := C0'; clear C0'
  have Fg3 := Fg3'; clear Fg3'
  have Fg10 := Fg10'; clear Fg10'
  clear cc21
  refine hK20 _ _ ?_; clear hK20 K20
  (try simp only [zP, zN, zA, zB, zC])
  refine pu_ (v := .bool true) (y_pick (t := true) (by rfl) rfl (by rfl) (by rfl)) ?_
  (try simp only [zP, zN, zA, zB, zC])
  refine pu_ (v := .bool true) (y_assign rfl (by rfl) (by rfl)) ?_
  (try simp only [zP, zN, zA, zB, zC])
  refine nl_ (hK16 _ _ ?_); clear hK16 K16
  refine wp_ret ?_
  refine hQ _ _ _ ?_
  refine bodyPost_ret (res1 rfl (rdv_tmp (v := .bool true) (by rfl))) rfl ?_
  exact ⟨rfl, C0.out⟩
end
end Go.Proofs.Ytggcpbnlblbpjaa.L
