/- The walks of the example of package line, and of the law LineOne. -/
import Derived.Test.YtggcpbnlblbpjaaLineA
namespace Go.Proofs.Ytggcpbnlblbpjaa.L
open Go Go.RowKit Go.Proofs.Ytggcpbnlblbpjaa.K Go.Proofs.Ytggcpbnlblbpjaa.H Go.Proofs.YtggcpbnlblbpjaaW.PrintLast
set_option linter.unusedVariables false
set_option linter.unusedSimpArgs false
set_option maxRecDepth 100000
set_option maxHeartbeats 1600000
def wa : HOp := ⟨0, 0, 1, 2, 3, ZC, ZR⟩
def wb : HOp := ⟨0, 0, 5, 6, 0, ZC, ZR⟩
theorem w01 : respP [wa, wb] [0, 1] := by
  refine ⟨⟨by simp, by decide⟩, fun i j h1 h2 y z e1 e2 a b e3 e4 => ?_⟩
  have hj := (List.getElem?_eq_some_iff.1 e2).1
  simp only [List.length_cons, List.length_nil] at hj
  obtain rfl : j = 1 := by omega
  obtain rfl : i = 0 := by omega
  simp at e1 e2
  subst e1 e2
  simp at e3 e4
  subst e3 e4
  rfl
theorem w10 : ¬ respP [wa, wb] [1, 0] := fun h => by
  have := h.2 0 1 (by decide) (by decide) 1 0 rfl rfl wb wa rfl rfl
  exact absurd this (by decide)
section
variable {w : World}
theorem works_   :
    Calls Try.prog 27 #[] w fun en w' => en = .returned (.bool true) ∧ Ch [] w w' := by
  have C0 := Lib.hid (Ch.refl [] w)
  obtain ⟨i3, I3⟩ := Info.of info3
  obtain ⟨i49, I49⟩ := Info.of info49
  go_enter Try.func27, Try.ntmps27
  refine q_ (fun Q hQ hP => ?_)
  refine s_ (fun K1 hK1 => ?_)
  refine pu_ (v := .bool false) (y_assign rfl (by rfl) (by rfl)) ?_
  (try simp only [zP, zN, zA, zB, zC])
  refine nl_ (hK1 _ _ ?_); clear hK1 K1
  refine s_ (fun K2 hK2 => ?_)
  refine pu_ (v := .agg (opC wa).toArray) (y_build (vs := #[(2, .int .i64 1), (3, .int .i64 2), (4, .int .i64 3)]) (by rfl) rfl (by first | rfl | (simp only [List.map_toArray, List.map_cons, List.map_nil]; first | done | rfl)) (by kernel_rfl)) ?_
  (try simp only [zP, zN, zA, zB, zC])
  refine pu_ (v := .agg (opC wb).toArray) (y_build (vs := #[(2, .int .i64 5), (3, .int .i64 6)]) (by rfl) rfl (by first | rfl | (simp only [List.map_toArray, List.map_cons, List.map_nil]; first | done | rfl)) (by kernel_rfl)) ?_
  (try simp only [zP, zN, zA, zB, zC])
  refine ef_ (fun K3 hK3 => ?_)
  refine e_alloc (by rfl) rfl rfl (cs := #[.int .i64 0, .int .i64 0, .int .i64 0, .int .i64 0, .int .i64 0, .int .i64 0, .int .i64 0, .int .u64 0, .string ⟨#[]⟩, .slice none 0 0, .slice none 0 0, .slice none 0 0, .int .i64 0, .int .i64 0, .int .i64 0, .int .i64 0, .int .i64 0, .int .i64 0, .int .i64 0, .string ⟨#[]⟩, .slice none 0 0, .int .i64 0, .int .i64 0, .int .i64 0, .int .u64 0, .string ⟨#[]⟩, .slice none 0 0, .slice none 0 0]) (by kernel_rfl) ?_
  rintro g4 w5 HG6 B7 C8
  have nw9 := Lib.hid (show w.heap.size ≤ g4 by have := C0.out.size; have := HG6.out; omega)
  have C0' := Lib.hid (show Ch [] w w5 from C0.out.trans' C8 (fun x hx => absurd hx (by simp)))
  clear C0
  have C0 := C0'; clear C0'
  have Fg4 := Lib.hid (show Blk w5 g4 (#[.int .i64 0, .int .i64 0, .int .i64 0, .int .i64 0, .int .i64 0, .int .i64 0, .int .i64 0, .int .u64 0, .string ⟨#[]⟩, .slice none 0 0, .slice none 0 0, .slice none 0 0, .int .i64 0, .int .i64 0, .int .i64 0, .int .i64 0, .int .i64 0, .int .i64 0, .int .i64 0, .string ⟨#[]⟩, .slice none 0 0, .int .i64 0, .int .i64 0, .int .i64 0, .int .u64 0, .string ⟨#[]⟩, .slice none 0 0, .slice none 0 0]) 49 from B7); clear B7 C8
  refine hK3 _ _ ?_; clear hK3 K3
  (try simp only [zP, zN, zA, zB, zC])
  refine ef_ (fun K10 hK10 => ?_)
  refine e_alloc (by rfl) rfl rfl (cs := #[.int .i64 0, .int .i64 0, .int .i64 0, .int .i64 0, .int .i64 0, .int .i64 0, .int .i64 0, .int .u64 0, .string ⟨#[]⟩, .slice none 0 0, .slice none 0 0, .slice none 0 0, .int .i64 0, .int .i64 0, .int .i64 0, .int .i64 0, .int .i64 0, .int .i64 0, .int .i64 0, .string ⟨#[]⟩, .slice none 0 0, .int .i64 0, .int .i64 0, .int .i64 0, .int .u64 0, .string ⟨#[]⟩, .slice none 0 0, .slice none 0 0]) (by kernel_rfl) ?_
  rintro g11 w12 HG13 B14 C15
  have nw16 := Lib.hid (show w.heap.size ≤ g11 by have := C0.out.size; have := HG13.out; omega)
  have ne17 := Lib.hid (Fg4.out.ne_new HG13)
  have C0' := Lib.hid (show Ch [] w w12 from C0.out.trans' C15 (fun x hx => absurd hx (by simp)))
  have Fg4' := Lib.hid (show Blk w12 g4 (#[.int .i64 0, .int .i64 0, .int .i64 0, .int .i64 0, .int .i64 0, .int .i64 0, .int .i64 0, .int .u64 0, .string ⟨#[]⟩, .slice none 0 0, .slice none 0 0, .slice none 0 0, .int .i64 0, .int .i64 0, .int .i64 0, .int .i64 0, .int .i64 0, .int .i64 0, .int .i64 0, .string ⟨#[]⟩, .slice none 0 0, .int .i64 0, .int .i64 0, .int .i64 0, .int .u64 0, .string ⟨#[]⟩, .slice none 0 0, .slice none 0 0]) 49 from C15.blk Fg4.out nin_nil)
  clear C0 Fg4
  have C0 := C0'; clear C0'
  have Fg4 := Fg4'; clear Fg4'
  have Fg11 := Lib.hid (show Blk w12 g11 (#[.int .i64 0, .int .i64 0, .int .i64 0, .int .i64 0, .int .i64 0, .int .i64 0, .int .i64 0, .int .u64 0, .string ⟨#[]⟩, .slice none 0 0, .slice none 0 0, .slice none 0 0, .int .i64 0, .int .i64 0, .int .i64 0, .int .i64 0, .int .i64 0, .int .i64 0, .int .i64 0, .string ⟨#[]⟩, .slice none 0 0, .int .i64 0, .int .i64 0, .int .i64 0, .int .u64 0, .string ⟨#[]⟩, .slice none 0 0, .slice none 0 0]) 49 from B14); clear B14 C15
  refine hK10 _ _ ?_; clear hK10 K10
  (try simp only [zP, zN, zA, zB, zC])
  refine ef_ (fun K18 hK18 => ?_)
  refine e_storeN (cells := (opC wa).toArray) (by rfl) rfl rfl (by rfl) (by rfl) Fg4.out (sz49 wa) (by rw [show (opC wa).toArray.size = 28 by rw [List.size_toArray, opC_len]]; rfl) (by simpa using opC_one wa) ?_
  rintro w19 B20 C21
  have C0' := Lib.hid (show Ch [] w w19 from C0.out.trans' C21 (inw_cons (.inr nw9.out) inw_nil))
  have Fg11' := Lib.hid (show Blk w19 g11 (#[.int .i64 0, .int .i64 0, .int .i64 0, .int .i64 0, .int .i64 0, .int .i64 0, .int .i64 0, .int .u64 0, .string ⟨#[]⟩, .slice none 0 0, .slice none 0 0, .slice none 0 0, .int .i64 0, .int .i64 0, .int .i64 0, .int .i64 0, .int .i64 0, .int .i64 0, .int .i64 0, .string ⟨#[]⟩, .slice none 0 0, .int .i64 0, .int .i64 0, .int .i64 0, .int .u64 0, .string ⟨#[]⟩, .slice none 0 0, .slice none 0 0]) 49 from C21.blk Fg11.out (nin_cons (Ne.symm ne17.out) nin_nil))
  clear C0 Fg11
  have C0 := C0'; clear C0'
  have Fg11 := Fg11'; clear Fg11'
  clear Fg4; have Fg4 := Lib.hid (show Blk w19 g4 ((opC wa).toArray) 49 from B20); clear B20 C21
  refine hK18 _ _ ?_; clear hK18 K18
  (try simp only [zP, zN, zA, zB, zC])
  refine ef_ (fun K22 hK22 => ?_)
  refine e_storeN (cells := (opC wb).toArray) (by rfl) rfl rfl (by rfl) (by rfl) Fg11.out (sz49 wb) (by rw [show (opC wb).toArray.size = 28 by rw [List.size_toArray, opC_len]]; rfl) (by simpa using opC_one wb) ?_
  rintro w23 B24 C25
  have C0' := Lib.hid (show Ch [] w w23 from C0.out.trans' C25 (inw_cons (.inr nw16.out) inw_nil))
  have Fg4' := Lib.hid (show Blk w23 g4 ((opC wa).toArray) 49 from C25.blk Fg4.out (nin_cons ne17.out nin_nil))
  clear C0 Fg4
  have C0 := C0'; clear C0'
  have Fg4 := Fg4'; clear Fg4'
  clear Fg11; have Fg11 := Lib.hid (show Blk w23 g11 ((opC wb).toArray) 49 from B24); clear B24 C25
  refine hK22 _ _ ?_; clear hK22 K22
  (try simp only [zP, zN, zA, zB, zC])
  refine nl_ (hK2 _ _ ?_); clear hK2 K2
  refine s_ (fun K26 hK26 => ?_)
  refine ld_ (v := .agg (opC wa).toArray) rfl (by rfl) (by rfl) (run_loadVar_row _ _ 49 49 ((opC wa).toArray) (0, 0) _ Fg4.out Try.underlying49 rfl (sz49 wa)) ?_
  (try simp only [zP, zN, zA, zB, zC])
  refine ld_ (v := .agg (opC wb).toArray) rfl (by rfl) (by rfl) (run_loadVar_row _ _ 49 49 ((opC wb).toArray) (0, 0) _ Fg11.out Try.underlying49 rfl (sz49 wb)) ?_
  (try simp only [zP, zN, zA, zB, zC])
  refine ef_ (fun K27 hK27 => ?_)
  refine e_call Try.func33 (by kernel_rfl) rfl #[.agg (opC wa).toArray, .agg (opC wb).toArray] (by rfl) rfl rfl (by first | rfl | (simp only [List.map_toArray, List.map_cons, List.map_nil]; first | done | rfl)) ((by have h := may_ (w := w23) wa wb; rw [show mayB wa wb = true from by decide] at h; exact h)) ?_
  rintro en w29 ⟨rfl, cc28⟩
  refine ⟨_, rfl, ?_⟩
  have C0' := Lib.hid (show Ch [] w w29 from C0.out.trans' cc28 (fun x hx => absurd hx (by simp)))
  have Fg4' := Lib.hid (show Blk w29 g4 ((opC wa).toArray) 49 from cc28.blk Fg4.out nin_nil)
  have Fg11' := Lib.hid (show Blk w29 g11 ((opC wb).toArray) 49 from cc28.blk Fg11.out nin_nil)
  clear C0 Fg4 Fg11
  have C0 := C0'; clear C0'
  have Fg4 := Fg4'; clear Fg4'
  have Fg11 := Fg11'; clear Fg11'
  clear cc28
  refine hK27 _ _ ?_; clear hK27 K27
  (try simp only [zP, zN, zA, zB, zC])
  refine pu_ (v := .bool true) (y_move rfl (by rfl) (by rfl)) ?_
  (try simp only [zP, zN, zA, zB, zC])
  refine ld_ (v := .agg (opC wb).toArray) rfl (by rfl) (by rfl) (run_loadVar_row _ _ 49 49 ((opC wb).toArray) (0, 0) _ Fg11.out Try.underlying49 rfl (sz49 wb)) ?_
  (try simp only [zP, zN, zA, zB, zC])
  refine ld_ (v := .agg (opC wa).toArray) rfl (by rfl) (by rfl) (run_loadVar_row _ _ 49 49 ((opC wa).toArray) (0, 0) _ Fg4.out Try.underlying49 rfl (sz49 wa)) ?_
  (try simp only [zP, zN, zA, zB, zC])
  refine ef_ (fun K30 hK30 => ?_)
  refine e_call Try.func33 (by kernel_rfl) rfl #[.agg (opC wb).toArray, .agg (opC wa).toArray] (by rfl) rfl rfl (by first | rfl | (simp only [List.map_toArray, List.map_cons, List.map_nil]; first | done | rfl)) ((by have h := may_ (w := w29) wb wa; rw [show mayB wb wa = false from by decide] at h; exact h)) ?_
  rintro en w32 ⟨rfl, cc31⟩
  refine ⟨_, rfl, ?_⟩
  have C0' := Lib.hid (show Ch [] w w32 from C0.out.trans' cc31 (fun x hx => absurd hx (by simp)))
  have Fg4' := Lib.hid (show Blk w32 g4 ((opC wa).toArray) 49 from cc31.blk Fg4.out nin_nil)
  have Fg11' := Lib.hid (show Blk w32 g11 ((opC wb).toArray) 49 from cc31.blk Fg11.out nin_nil)
  clear C0 Fg4 Fg11
  have C0 := C0'; clear C0'
  have Fg4 := Fg4'; clear Fg4'
  have Fg11 := Fg11'; clear Fg11'
  clear cc31
  refine hK30 _ _ ?_; clear hK30 K30
  (try simp only [zP, zN, zA, zB, zC])
  refine pu_ (v := .bool true) (y_run (by rfl) (fun W => by go_simp)) ?_
  (try simp only [zP, zN, zA, zB, zC])
  refine pu_ (v := .bool true) (y_pick (t := true) (by rfl) rfl (by rfl) (by rfl)) ?_
  (try simp only [zP, zN, zA, zB, zC])
  refine pu_ (v := .bool true) (y_move rfl (by rfl) (by rfl)) ?_
  (try simp only [zP, zN, zA, zB, zC])
  refine ld_ (v := .agg (opC wa).toArray) rfl (by rfl) (by rfl) (run_loadVar_row _ _ 49 49 ((opC wa).toArray) (0, 0) _ Fg4.out Try.underlying49 rfl (sz49 wa)) ?_
  (try simp only [zP, zN, zA, zB, zC])
  refine ld_ (v := .agg (opC wb).toArray) rfl (by rfl) (by rfl) (run_loadVar_row _ _ 49 49 ((opC wb).toArray) (0, 0) _ Fg11.out Try.underlying49 rfl (sz49 wb)) ?_
  (try simp only [zP, zN, zA, zB, zC])
  refine ef_ (fun K33 hK33 => ?_)
  refine e_buildS (parts := #[(0, .agg (opC wa).toArray), (1, .agg (opC wb).toArray)]) (cells := (opC wa ++ opC wb).toArray) (by rfl) rfl rfl (by first | rfl | (simp only [List.map_toArray, List.map_cons, List.map_nil]; first | done | rfl)) Try.underlying45 I49.hi I49.hz I49.hs (by decide) (by decide) (by kernel_rfl) ?_
  rintro g38 w34 HG35 B36 C37
  have nw39 := Lib.hid (show w.heap.size ≤ g38 by have := C0.out.size; have := HG35.out; omega)
  have ne40 := Lib.hid (Fg4.out.ne_new HG35)
  have ne41 := Lib.hid (Fg11.out.ne_new HG35)
  have C0' := Lib.hid (show Ch [] w w34 from C0.out.trans' C37 (fun x hx => absurd hx (by simp)))
  have Fg4' := Lib.hid (show Blk w34 g4 ((opC wa).toArray) 49 from C37.blk Fg4.out nin_nil)
  have Fg11' := Lib.hid (show Blk w34 g11 ((opC wb).toArray) 49 from C37.blk Fg11.out nin_nil)
  clear C0 Fg4 Fg11
  have C0 := C0'; clear C0'
  have Fg4 := Fg4'; clear Fg4'
  have Fg11 := Fg11'; clear Fg11'
  have S1 := Lib.hid (show SrcIs w34 (.slice (some ⟨g38, 0, none⟩) 2 2) (2) (([wa, wb]).flatMap opC) 28 from ⟨rfl, .inr ⟨_, _, rfl, CellsAt.blk B36 0⟩⟩); clear B36 C37
  refine hK33 _ _ ?_; clear hK33 K33
  (try simp only [zP, zN, zA, zB, zC])
  refine ef_ (fun K42 hK42 => ?_)
  refine e_buildS (parts := #[(0, .int .i64 0), (1, .int .i64 1)]) (cells := #[.int .i64 0, .int .i64 1]) (by rfl) rfl rfl (by first | rfl | (simp only [List.map_toArray, List.map_cons, List.map_nil]; first | done | rfl)) Try.underlying44 I3.hi I3.hz I3.hs (by decide) (by decide) (by kernel_rfl) ?_
  rintro g43 w44 HG45 B46 C47
  have nw48 := Lib.hid (show w.heap.size ≤ g43 by have := C0.out.size; have := HG45.out; omega)
  have nx49 := Lib.hid (S1.out.ne_new (by decide) HG45)
  have C0' := Lib.hid (show Ch [] w w44 from C0.out.trans' C47 (fun x hx => absurd hx (by simp)))
  have Fg4' := Lib.hid (show Blk w44 g4 ((opC wa).toArray) 49 from C47.blk Fg4.out nin_nil)
  have Fg11' := Lib.hid (show Blk w44 g11 ((opC wb).toArray) 49 from C47.blk Fg11.out nin_nil)
  have S1' := Lib.hid (show SrcIs w44 (.slice (some ⟨g38, 0, none⟩) 2 2) (2) (([wa, wb]).flatMap opC) 28 from S1.out.chx C47 xnin_nil)
  clear C0 Fg4 Fg11 S1
  have C0 := C0'; clear C0'
  have Fg4 := Fg4'; clear Fg4'
  have Fg11 := Fg11'; clear Fg11'
  have S1 := S1'; clear S1'
  have Fg43 := Lib.hid (show Blk w44 g43 (#[.int .i64 0, .int .i64 1]) 3 from B46); clear B46 C47
  refine hK42 _ _ ?_; clear hK42 K42
  (try simp only [zP, zN, zA, zB, zC])
  refine ef_ (fun K50 hK50 => ?_)
  refine e_call Try.func29 (by kernel_rfl) rfl #[.slice (some ⟨g38, 0, none⟩) 2 2, .slice (some ⟨g43, 0, none⟩) 2 2] (by rfl) rfl rfl (by first | rfl | (simp only [List.map_toArray, List.map_cons, List.map_nil]; first | done | rfl)) ((ynT (respects_ (w := w44) (L := [wa, wb]) (M := [0, 1]) (Lib.hid (by decide)) (Lib.hid (by decide)) (Lib.hid ⟨by decide, by decide⟩) S1 (Lib.hid ⟨rfl, .inr ⟨_, _, rfl, CellsAt.blk Fg43.out 0⟩⟩)) w01)) ?_
  rintro en w52 ⟨rfl, cc51⟩
  refine ⟨_, rfl, ?_⟩
  have C0' := Lib.hid (show Ch [] w w52 from C0.out.trans' cc51 (fun x hx => absurd hx (by simp)))
  have Fg4' := Lib.hid (show Blk w52 g4 ((opC wa).toArray) 49 from cc51.blk Fg4.out nin_nil)
  have Fg11' := Lib.hid (show Blk w52 g11 ((opC wb).toArray) 49 from cc51.blk Fg11.out nin_nil)
  have S1' := Lib.hid (show SrcIs w52 (.slice (some ⟨g38, 0, none⟩) 2 2) (2) (([wa, wb]).flatMap opC) 28 from S1.out.chx cc51 xnin_nil)
  have Fg43' := Lib.hid (show Blk w52 g43 (#[.int .i64 0, .int .i64 1]) 3 from cc51.blk Fg43.out nin_nil)
  clear C0 Fg4 Fg11 S1 Fg43
  have C0 := C0'; clear C0'
  have Fg4 := Fg4'; clear Fg4'
  have Fg11 := Fg11'; clear Fg11'
  have S1 := S1'; clear S1'
  have Fg43 := Fg43'; clear Fg43'
  clear cc51
  refine hK50 _ _ ?_; clear hK50 K50
  (try simp only [zP, zN, zA, zB, zC])
  refine pu_ (v := .bool true) (y_pick (t := true) (by rfl) rfl (by rfl) (by rfl)) ?_
  (try simp only [zP, zN, zA, zB, zC])
  refine pu_ (v := .bool true) (y_move rfl (by rfl) (by rfl)) ?_
  (try simp only [zP, zN, zA, zB, zC])
  refine ld_ (v := .agg (opC wa).toArray) rfl (by rfl) (by rfl) (run_loadVar_row _ _ 49 49 ((opC wa).toArray) (0, 0) _ Fg4.out Try.underlying49 rfl (sz49 wa)) ?_
  (try simp only [zP, zN, zA, zB, zC])
  refine ld_ (v := .agg (opC wb).toArray) rfl (by rfl) (by rfl) (run_loadVar_row _ _ 49 49 ((opC wb).toArray) (0, 0) _ Fg11.out Try.underlying49 rfl (sz49 wb)) ?_
  (try simp only [zP, zN, zA, zB, zC])
  refine ef_ (fun K53 hK53 => ?_)
  refine e_buildS (parts := #[(0, .agg (opC wa).toArray), (1, .agg (opC wb).toArray)]) (cells := (opC wa ++ opC wb).toArray) (by rfl) rfl rfl (by first | rfl | (simp only [List.map_toArray, List.map_cons, List.map_nil]; first | done | rfl)) Try.underlying45 I49.hi I49.hz I49.hs (by decide) (by decide) (by kernel_rfl) ?_
  rintro g58 w54 HG55 B56 C57
  have nw59 := Lib.hid (show w.heap.size ≤ g58 by have := C0.out.size; have := HG55.out; omega)
  have ne60 := Lib.hid (Fg4.out.ne_new HG55)
  have ne61 := Lib.hid (Fg11.out.ne_new HG55)
  have nx62 := Lib.hid (S1.out.ne_new (by decide) HG55)
  have C0' := Lib.hid (show Ch [] w w54 from C0.out.trans' C57 (fun x hx => absurd hx (by simp)))
  have Fg4' := Lib.hid (show Blk w54 g4 ((opC wa).toArray) 49 from C57.blk Fg4.out nin_nil)
  have Fg11' := Lib.hid (show Blk w54 g11 ((opC wb).toArray) 49 from C57.blk Fg11.out nin_nil)
  have S1' := Lib.hid (show SrcIs w54 (.slice (some ⟨g38, 0, none⟩) 2 2) (2) (([wa, wb]).flatMap opC) 28 from S1.out.chx C57 xnin_nil)
  have Fg43' := Lib.hid (show Blk w54 g43 (#[.int .i64 0, .int .i64 1]) 3 from C57.blk Fg43.out nin_nil)
  clear C0 Fg4 Fg11 S1 Fg43
  have C0 := C0'; clear C0'
  have Fg4 := Fg4'; clear Fg4'
  have Fg11 := Fg11'; clear Fg11'
  have S1 := S1'; clear S1'
  have Fg43 := Fg43'; clear Fg43'
  have S2 := Lib.hid (show SrcIs w54 (.slice (some ⟨g58, 0, none⟩) 2 2) (2) (([wa, wb]).flatMap opC) 28 from ⟨rfl, .inr ⟨_, _, rfl, CellsAt.blk B56 0⟩⟩); clear B56 C57
  refine hK53 _ _ ?_; clear hK53 K53
  (try simp only [zP, zN, zA, zB, zC])
  refine ef_ (fun K63 hK63 => ?_)
  refine e_buildS (parts := #[(0, .int .i64 1), (1, .int .i64 0)]) (cells := #[.int .i64 1, .int .i64 0]) (by rfl) rfl rfl (by first | rfl | (simp only [List.map_toArray, List.map_cons, List.map_nil]; first | done | rfl)) Try.underlying44 I3.hi I3.hz I3.hs (by decide) (by decide) (by kernel_rfl) ?_
  rintro g64 w65 HG66 B67 C68
  have nw69 := Lib.hid (show w.heap.size ≤ g64 by have := C0.out.size; have := HG66.out; omega)
  have nx70 := Lib.hid (S1.out.ne_new (by decide) HG66)
  have ne71 := Lib.hid (Fg43.out.ne_new HG66)
  have nx72 := Lib.hid (S2.out.ne_new (by decide) HG66)
  have C0' := Lib.hid (show Ch [] w w65 from C0.out.trans' C68 (fun x hx => absurd hx (by simp)))
  have Fg4' := Lib.hid (show Blk w65 g4 ((opC wa).toArray) 49 from C68.blk Fg4.out nin_nil)
  have Fg11' := Lib.hid (show Blk w65 g11 ((opC wb).toArray) 49 from C68.blk Fg11.out nin_nil)
  have S1' := Lib.hid (show SrcIs w65 (.slice (some ⟨g38, 0, none⟩) 2 2) (2) (([wa, wb]).flatMap opC) 28 from S1.out.chx C68 xnin_nil)
  have Fg43' := Lib.hid (show Blk w65 g43 (#[.int .i64 0, .int .i64 1]) 3 from C68.blk Fg43.out nin_nil)
  have S2' := Lib.hid (show SrcIs w65 (.slice (some ⟨g58, 0, none⟩) 2 2) (2) (([wa, wb]).flatMap opC) 28 from S2.out.chx C68 xnin_nil)
  clear C0 Fg4 Fg11 S1 Fg43 S2
  have C0 := C0'; clear C0'
  have Fg4 := Fg4'; clear Fg4'
  have Fg11 := Fg11'; clear Fg11'
  have S1 := S1'; clear S1'
  have Fg43 := Fg43'; clear Fg43'
  have S2 := S2'; clear S2'
  have Fg64 := Lib.hid (show Blk w65 g64 (#[.int .i64 1, .int .i64 0]) 3 from B67); clear B67 C68
  refine hK63 _ _ ?_; clear hK63 K63
  (try simp only [zP, zN, zA, zB, zC])
  refine ef_ (fun K73 hK73 => ?_)
  refine e_call Try.func29 (by kernel_rfl) rfl #[.slice (some ⟨g58, 0, none⟩) 2 2, .slice (some ⟨g64, 0, none⟩) 2 2] (by rfl) rfl rfl (by first | rfl | (simp only [List.map_toArray, List.map_cons, List.map_nil]; first | done | rfl)) ((ynF (respects_ (w := w65) (L := [wa, wb]) (M := [1, 0]) (Lib.hid (by decide)) (Lib.hid (by decide)) (Lib.hid ⟨by decide, by decide⟩) S2 (Lib.hid ⟨rfl, .inr ⟨_, _, rfl, CellsAt.blk Fg64.out 0⟩⟩)) w10)) ?_
  rintro en w75 ⟨rfl, cc74⟩
  refine ⟨_, rfl, ?_⟩
  have C0' := Lib.hid (show Ch [] w w75 from C0.out.trans' cc74 (fun x hx => absurd hx (by simp)))
  have Fg4' := Lib.hid (show Blk w75 g4 ((opC wa).toArray) 49 from cc74.blk Fg4.out nin_nil)
  have Fg11' := Lib.hid (show Blk w75 g11 ((opC wb).toArray) 49 from cc74.blk Fg11.out nin_nil)
  have S1' := Lib.hid (show SrcIs w75 (.slice (some ⟨g38, 0, none⟩) 2 2) (2) (([wa, wb]).flatMap opC) 28 from S1.out.chx cc74 xnin_nil)
  have Fg43' := Lib.hid (show Blk w75 g43 (#[.int .i64 0, .int .i64 1]) 3 from cc74.blk Fg43.out nin_nil)
  have S2' := Lib.hid (show SrcIs w75 (.slice (some ⟨g58, 0, none⟩) 2 2) (2) (([wa, wb]).flatMap opC) 28 from S2.out.chx cc74 xnin_nil)
  have Fg64' := Lib.hid (show Blk w75 g64 (#[.int .i64 1, .int .i64 0]) 3 from cc74.blk Fg64.out nin_nil)
  clear C0 Fg4 Fg11 S1 Fg43 S2 Fg64
  have C0 := C0'; clear C0'
  have Fg4 := Fg4'; clear Fg4'
  have Fg11 := Fg11'; clear Fg11'
  have S1 := S1'; clear S1'
  have Fg43 := Fg43'; clear Fg43'
  have S2 := S2'; clear S2'
  have Fg64 := Fg64'; clear Fg64'
  clear cc74
  refine hK73 _ _ ?_; clear hK73 K73
  (try simp only [zP, zN, zA, zB, zC])
  refine pu_ (v := .bool true) (y_run (by rfl) (fun W => by go_simp)) ?_
  (try simp only [zP, zN, zA, zB, zC])
  refine pu_ (v := .bool true) (y_pick (t := true) (by rfl) rfl (by rfl) (by rfl)) ?_
  (try simp only [zP, zN, zA, zB, zC])
  refine pu_ (v := .bool true) (y_move rfl (by rfl) (by rfl)) ?_
  (try simp only [zP, zN, zA, zB, zC])
  refine ld_ (v := .agg (opC wa).toArray) rfl (by rfl) (by rfl) (run_loadVar_row _ _ 49 49 ((opC wa).toArray) (0, 0) _ Fg4.out Try.underlying49 rfl (sz49 wa)) ?_
  (try simp only [zP, zN, zA, zB, zC])
  refine ld_ (v := .agg (opC wb).toArray) rfl (by rfl) (by rfl) (run_loadVar_row _ _ 49 49 ((opC wb).toArray) (0, 0) _ Fg11.out Try.underlying49 rfl (sz49 wb)) ?_
  (try simp only [zP, zN, zA, zB, zC])
  refine ef_ (fun K76 hK76 => ?_)
  refine e_buildS (parts := #[(0, .agg (opC wa).toArray), (1, .agg (opC wb).toArray)]) (cells := (opC wa ++ opC wb).toArray) (by rfl) rfl rfl (by first | rfl | (simp only [List.map_toArray, List.map_cons, List.map_nil]; first | done | rfl)) Try.underlying45 I49.hi I49.hz I49.hs (by decide) (by decide) (by kernel_rfl) ?_
  rintro g81 w77 HG78 B79 C80
  have nw82 := Lib.hid (show w.heap.size ≤ g81 by have := C0.out.size; have := HG78.out; omega)
  have ne83 := Lib.hid (Fg4.out.ne_new HG78)
  have ne84 := Lib.hid (Fg11.out.ne_new HG78)
  have nx85 := Lib.hid (S1.out.ne_new (by decide) HG78)
  have nx86 := Lib.hid (S2.out.ne_new (by decide) HG78)
  have C0' := Lib.hid (show Ch [] w w77 from C0.out.trans' C80 (fun x hx => absurd hx (by simp)))
  have Fg4' := Lib.hid (show Blk w77 g4 ((opC wa).toArray) 49 from C80.blk Fg4.out nin_nil)
  have Fg11' := Lib.hid (show Blk w77 g11 ((opC wb).toArray) 49 from C80.blk Fg11.out nin_nil)
  have S1' := Lib.hid (show SrcIs w77 (.slice (some ⟨g38, 0, none⟩) 2 2) (2) (([wa, wb]).flatMap opC) 28 from S1.out.chx C80 xnin_nil)
  have Fg43' := Lib.hid (show Blk w77 g43 (#[.int .i64 0, .int .i64 1]) 3 from C80.blk Fg43.out nin_nil)
  have S2' := Lib.hid (show SrcIs w77 (.slice (some ⟨g58, 0, none⟩) 2 2) (2) (([wa, wb]).flatMap opC) 28 from S2.out.chx C80 xnin_nil)
  have Fg64' := Lib.hid (show Blk w77 g64 (#[.int .i64 1, .int .i64 0]) 3 from C80.blk Fg64.out nin_nil)
  clear C0 Fg4 Fg11 S1 Fg43 S2 Fg64
  have C0 := C0'; clear C0'
  have Fg4 := Fg4'; clear Fg4'
  have Fg11 := Fg11'; clear Fg11'
  have S1 := S1'; clear S1'
  have Fg43 := Fg43'; clear Fg43'
  have S2 := S2'; clear S2'
  have Fg64 := Fg64'; clear Fg64'
  have S3 := Lib.hid (show SrcIs w77 (.slice (some ⟨g81, 0, none⟩) 2 2) (2) (([wa, wb]).flatMap opC) 28 from ⟨rfl, .inr ⟨_, _, rfl, CellsAt.blk B79 0⟩⟩); clear B79 C80
  refine hK76 _ _ ?_; clear hK76 K76
  (try simp only [zP, zN, zA, zB, zC])
  refine ef_ (fun K87 hK87 => ?_)
  refine e_call Try.func28 (by kernel_rfl) rfl #[.slice (some ⟨g81, 0, none⟩) 2 2] (by rfl) rfl rfl (by first | rfl | (simp only [List.map_toArray, List.map_cons, List.map_nil]; first | done | rfl)) ((by have h := width_ (w := w77) (L := [wa, wb]) (Lib.hid (by decide)) S3; rw [show widN [wa, wb] [wa, wb] = 1 from by decide] at h; exact h)) ?_
  rintro en w89 ⟨rfl, cc88⟩
  refine ⟨_, rfl, ?_⟩
  have C0' := Lib.hid (show Ch [] w w89 from C0.out.trans' cc88 (fun x hx => absurd hx (by simp)))
  have Fg4' := Lib.hid (show Blk w89 g4 ((opC wa).toArray) 49 from cc88.blk Fg4.out nin_nil)
  have Fg11' := Lib.hid (show Blk w89 g11 ((opC wb).toArray) 49 from cc88.blk Fg11.out nin_nil)
  have S1' := Lib.hid (show SrcIs w89 (.slice (some ⟨g38, 0, none⟩) 2 2) (2) (([wa, wb]).flatMap opC) 28 from S1.out.chx cc88 xnin_nil)
  have Fg43' := Lib.hid (show Blk w89 g43 (#[.int .i64 0, .int .i64 1]) 3 from cc88.blk Fg43.out nin_nil)
  have S2' := Lib.hid (show SrcIs w89 (.slice (some ⟨g58, 0, none⟩) 2 2) (2) (([wa, wb]).flatMap opC) 28 from S2.out.chx cc88 xnin_nil)
  have Fg64' := Lib.hid (show Blk w89 g64 (#[.int .i64 1, .int .i64 0]) 3 from cc88.blk Fg64.out nin_nil)
  have S3' := Lib.hid (show SrcIs w89 (.slice (some ⟨g81, 0, none⟩) 2 2) (2) (([wa, wb]).flatMap opC) 28 from S3.out.chx cc88 xnin_nil)
  clear C0 Fg4 Fg11 S1 Fg43 S2 Fg64 S3
  have C0 := C0'; clear C0'
  have Fg4 := Fg4'; clear Fg4'
  have Fg11 := Fg11'; clear Fg11'
  have S1 := S1'; clear S1'
  have Fg43 := Fg43'; clear Fg43'
  have S2 := S2'; clear S2'
  have Fg64 := Fg64'; clear Fg64'
  have S3 := S3'; clear S3'
  clear cc88
  refine hK87 _ _ ?_; clear hK87 K87
  (try simp only [zP, zN, zA, zB, zC])
  refine pu_ (v := .bool true) (y_run (by rfl) (fun W => by go_simp)) ?_
  (try simp only [zP, zN, zA, zB, zC])
  refine pu_ (v := .bool true) (y_pick (t := true) (by rfl) rfl (by rfl) (by rfl)) ?_
  (try simp only [zP, zN, zA, zB, zC])
  refine pu_ (v := .bool true) (y_assign rfl (by rfl) (by rfl)) ?_
  (try simp only [zP, zN, zA, zB, zC])
  refine nl_ (hK26 _ _ ?_); clear hK26 K26
  refine wp_ret ?_
  refine hQ _ _ _ ?_
  refine bodyPost_ret (res1 rfl (rdv_tmp (v := .bool true) (by rfl))) rfl ?_
  exact ⟨rfl, C0.out⟩
theorem xn_len (k : Nat) : (List.map (fun i : Nat => (i : Int)) (List.range k)).length = k := by rw [List.length_map, List.length_range]
theorem xn_at {k i : Nat} (h : i < k) : (List.map (fun i : Nat => (i : Int)) (List.range k))[i]? = some (i : Int) := by rw [List.getElem?_map, List.getElem?_range h]; rfl
theorem one_ways (n : Int) (l : Nat) : n < 0 ∨ (0 ≤ n ∧ n > 20) ∨ (0 ≤ n ∧ n ≤ 20 ∧ ¬ (l : Int) = n) ∨ ∃ N : Nat, n = N ∧ l = N ∧ N ≤ 20 := by
  rcases Int.lt_or_le n 0 with h | h
  · exact .inl h
  · obtain ⟨N, rfl⟩ := Int.eq_ofNat_of_zero_le h
    rcases Nat.lt_or_ge 20 N with h1 | h1
    · exact .inr (.inl ⟨h, by omega⟩)
    · by_cases h2 : l = N
      · exact .inr (.inr (.inr ⟨N, rfl, h2, h1⟩))
      · exact .inr (.inr (.inl ⟨h, by omega, by omega⟩))
theorem in_ways {M : List Int} {k N : Nat} (h : k ≤ N) (hl : M.length = N) (r : Bool) : (∃ z, k < N ∧ M[k]? = some z ∧ ((r = true ∧ z = k) ∨ (r = true ∧ z ≠ k) ∨ r = false)) ∨ k = N := by
  rcases Nat.lt_or_ge k N with h1 | h1
  · refine .inl ⟨_, h1, List.getElem?_eq_getElem (by omega), ?_⟩
    cases r with
    | false => exact .inr (.inr rfl)
    | true =>
      by_cases h2 : M[k] = (k : Int)
      · exact .inl ⟨rfl, h2⟩
      · exact .inr (.inl ⟨rfl, h2⟩)
  · exact .inr (by omega)
theorem one_ {B : Option Addr} {d : Nat} {M : List Int} (n : Int) (HD : Hid (M.length ≤ d ∧ d ≤ maxLen)) (SM : Hid (SrcIs w (.slice B M.length d) (M.length) ((M).map (Value.int .i64)) 1)) :
    Calls Try.prog 5 #[.int .i64 n, .slice B M.length d] w fun en w' => en = .returned (.bool true) ∧ Ch [] w w' := by
  have C0 := Lib.hid (Ch.refl [] w)
  obtain ⟨i49, I49⟩ := Info.of info49
  go_enter Try.func5, Try.ntmps5
  refine q_ (fun Q hQ hP => ?_)
  refine s_ (fun K1 hK1 => ?_)
  refine pu_ (v := .bool false) (y_assign rfl (by rfl) (by rfl)) ?_
  (try simp only [zP, zN, zA, zB, zC])
  refine nl_ (hK1 _ _ ?_); clear hK1 K1
  refine sq_ (fun K2 hK2 => ?_)
  refine s_ (fun K3 hK3 => ?_)
  refine ef_ (fun K4 hK4 => ?_)
  refine e_call Try.func27 (by kernel_rfl) rfl #[] (by rfl) rfl rfl (by first | rfl | (simp only [List.map_toArray, List.map_cons, List.map_nil]; first | done | rfl)) (works_) ?_
  rintro en w6 ⟨rfl, cc5⟩
  refine ⟨_, rfl, ?_⟩
  have C0' := Lib.hid (show Ch [] w w6 from C0.out.trans' cc5 (fun x hx => absurd hx (by simp)))
  have SM' := Lib.hid (show SrcIs w6 (.slice B M.length d) (M.length) ((M).map (Value.int .i64)) 1 from SM.out.chx cc5 xnin_nil)
  clear C0 SM
  have C0 := C0'; clear C0'
  have SM := SM'; clear SM'
  clear cc5
  refine hK4 _ _ ?_; clear hK4 K4
  (try simp only [zP, zN, zA, zB, zC])
  refine pu_ (v := .bool false) (y_run (by rfl) (fun W => by go_simp)) ?_
  (try simp only [zP, zN, zA, zB, zC])
  refine nl_ (hK3 _ _ ?_); clear hK3 K3
  refine wp_cond_false rfl ?_
  refine wp_skip ?_
  refine th_norm (hK2 _ _ ?_); try clear hK2 K2
  refine sq_ (fun K7 hK7 => ?_)
  rcases one_ways n M.length with h | h | h | h
  · have D12 := Lib.hid (show decide (n < 0) = true from decide_eq_true h)
    clear h
    refine s_ (fun K8 hK8 => ?_)
    refine pu_ (v := .int .i64 n) (y_move rfl (by rfl) (by rfl)) ?_
    (try simp only [zP, zN, zA, zB, zC])
    refine pu_ (v := .bool true) (y_run (by rfl) (fun W => by have d := D12.out; go_simp)) ?_
    (try simp only [zP, zN, zA, zB, zC])
    refine pu_ (v := .bool true) (y_move rfl (by rfl) (by rfl)) ?_
    (try simp only [zP, zN, zA, zB, zC])
    refine pu_ (y_off (by rfl)) ?_
    (try simp only [zP, zN, zA, zB, zC])
    refine pu_ (y_off (by rfl)) ?_
    (try simp only [zP, zN, zA, zB, zC])
    refine pu_ (v := .bool true) (y_pick (t := true) (by rfl) rfl (by rfl) (by rfl)) ?_
    (try simp only [zP, zN, zA, zB, zC])
    refine pu_ (v := .bool true) (y_move rfl (by rfl) (by rfl)) ?_
    (try simp only [zP, zN, zA, zB, zC])
    refine pu_ (y_off (by rfl)) ?_
    (try simp only [zP, zN, zA, zB, zC])
    refine pu_ (y_off (by rfl)) ?_
    (try simp only [zP, zN, zA, zB, zC])
    refine pu_ (y_off (by rfl)) ?_
    (try simp only [zP, zN, zA, zB, zC])
    refine pu_ (y_off (by rfl)) ?_
    (try simp only [zP, zN, zA, zB, zC])
    refine pu_ (v := .bool true) (y_pick (t := true) (by rfl) rfl (by rfl) (by rfl)) ?_
    (try simp only [zP, zN, zA, zB, zC])
    refine nl_ (hK8 _ _ ?_); clear hK8 K8
    refine wp_cond_true rfl ?_
    refine s_ (fun K9 hK9 => ?_)
    refine pu_ (v := .bool true) (y_assign rfl (by rfl) (by rfl)) ?_
    (try simp only [zP, zN, zA, zB, zC])
    refine nl_ (hK9 _ _ ?_); clear hK9 K9
    refine wp_ret ?_
    refine th_ret ?_
    refine hQ _ _ _ ?_
    refine bodyPost_ret (res1 rfl (rdv_tmp (v := .bool true) (by rfl))) rfl ?_
    exact ⟨rfl, C0.out⟩
  · have D12 := Lib.hid (show decide (n < 0) = false from decide_eq_false (by omega))
    have D15 := Lib.hid (show decide (n > 20) = true from decide_eq_true h.2)
    clear h
    refine s_ (fun K10 hK10 => ?_)
    refine pu_ (v := .int .i64 n) (y_move rfl (by rfl) (by rfl)) ?_
    (try simp only [zP, zN, zA, zB, zC])
    refine pu_ (v := .bool false) (y_run (by rfl) (fun W => by have d := D12.out; go_simp)) ?_
    (try simp only [zP, zN, zA, zB, zC])
    refine pu_ (v := .bool false) (y_move rfl (by rfl) (by rfl)) ?_
    (try simp only [zP, zN, zA, zB, zC])
    refine pu_ (v := .int .i64 n) (y_move rfl (by rfl) (by rfl)) ?_
    (try simp only [zP, zN, zA, zB, zC])
    refine pu_ (v := .bool true) (y_run (by rfl) (fun W => by have d := D15.out; go_simp)) ?_
    (try simp only [zP, zN, zA, zB, zC])
    refine pu_ (v := .bool true) (y_pick (t := false) (by rfl) rfl (by rfl) (by rfl)) ?_
    (try simp only [zP, zN, zA, zB, zC])
    refine pu_ (v := .bool true) (y_move rfl (by rfl) (by rfl)) ?_
    (try simp only [zP, zN, zA, zB, zC])
    refine pu_ (y_off (by rfl)) ?_
    (try simp only [zP, zN, zA, zB, zC])
    refine pu_ (y_off (by rfl)) ?_
    (try simp only [zP, zN, zA, zB, zC])
    refine pu_ (y_off (by rfl)) ?_
    (try simp only [zP, zN, zA, zB, zC])
    refine pu_ (y_off (by rfl)) ?_
    (try simp only [zP, zN, zA, zB, zC])
    refine pu_ (v := .bool true) (y_pick (t := true) (by rfl) rfl (by rfl) (by rfl)) ?_
    (try simp only [zP, zN, zA, zB, zC])
    refine nl_ (hK10 _ _ ?_); clear hK10 K10
    refine wp_cond_true rfl ?_
    refine s_ (fun K11 hK11 => ?_)
    refine pu_ (v := .bool true) (y_assign rfl (by rfl) (by rfl)) ?_
    (try simp only [zP, zN, zA, zB, zC])
    refine nl_ (hK11 _ _ ?_); clear hK11 K11
    refine wp_ret ?_
    refine th_ret ?_
    refine hQ _ _ _ ?_
    refine bodyPost_ret (res1 rfl (rdv_tmp (v := .bool true) (by rfl))) rfl ?_
    exact ⟨rfl, C0.out⟩
  · have D12 := Lib.hid (show decide (n < 0) = false from decide_eq_false (by omega))
    have D15 := Lib.hid (show decide (n > 20) = false from decide_eq_false (by omega))
    have D21 := Lib.hid (show ¬ (M.length : Int) = n from h.2.2)
    clear h
    refine s_ (fun K12 hK12 => ?_)
    refine pu_ (v := .int .i64 n) (y_move rfl (by rfl) (by rfl)) ?_
    (try simp only [zP, zN, zA, zB, zC])
    refine pu_ (v := .bool false) (y_run (by rfl) (fun W => by have d := D12.out; go_simp)) ?_
    (try simp only [zP, zN, zA, zB, zC])
    refine pu_ (v := .bool false) (y_move rfl (by rfl) (by rfl)) ?_
    (try simp only [zP, zN, zA, zB, zC])
    refine pu_ (v := .int .i64 n) (y_move rfl (by rfl) (by rfl)) ?_
    (try simp only [zP, zN, zA, zB, zC])
    refine pu_ (v := .bool false) (y_run (by rfl) (fun W => by have d := D15.out; go_simp)) ?_
    (try simp only [zP, zN, zA, zB, zC])
    refine pu_ (v := .bool false) (y_pick (t := false) (by rfl) rfl (by rfl) (by rfl)) ?_
    (try simp only [zP, zN, zA, zB, zC])
    refine pu_ (v := .bool false) (y_move rfl (by rfl) (by rfl)) ?_
    (try simp only [zP, zN, zA, zB, zC])
    refine pu_ (v := .slice B M.length d) (y_move rfl (by rfl) (by rfl)) ?_
    (try simp only [zP, zN, zA, zB, zC])
    refine pu_ (v := .int .i64 M.length) (y_run (by rfl) (fun W => by go_simp)) ?_
    (try simp only [zP, zN, zA, zB, zC])
    refine pu_ (v := .int .i64 n) (y_move rfl (by rfl) (by rfl)) ?_
    (try simp only [zP, zN, zA, zB, zC])
    refine pu_ (v := .bool true) (y_run (by rfl) (fun W => by have d := D21.out; go_simp)) ?_
    (try simp only [zP, zN, zA, zB, zC])
    refine pu_ (v := .bool true) (y_pick (t := false) (by rfl) rfl (by rfl) (by rfl)) ?_
    (try simp only [zP, zN, zA, zB, zC])
    refine nl_ (hK12 _ _ ?_); clear hK12 K12
    refine wp_cond_true rfl ?_
    refine s_ (fun K13 hK13 => ?_)
    refine pu_ (v := .bool true) (y_assign rfl (by rfl) (by rfl)) ?_
    (try simp only [zP, zN, zA, zB, zC])
    refine nl_ (hK13 _ _ ?_); clear hK13 K13
    refine wp_ret ?_
    refine th_ret ?_
    refine hQ _ _ _ ?_
    refine bodyPost_ret (res1 rfl (rdv_tmp (v := .bool true) (by rfl))) rfl ?_
    exact ⟨rfl, C0.out⟩
  · obtain ⟨N, hn, hML0, hN0⟩ := h
    subst hn
    have HML := Lib.hid hML0
    have HN := Lib.hid hN0
    clear hML0 hN0
    have D12 := Lib.hid (show decide ((N : Int) < 0) = false from decide_eq_false (by omega))
    have D15 := Lib.hid (show decide ((N : Int) > 20) = false from decide_eq_false (by have := HN.out; omega))
    have D21 := Lib.hid (show (M.length : Int) = (N : Int) by have := HML.out; omega)
    refine s_ (fun K14 hK14 => ?_)
    refine pu_ (v := .int .i64 N) (y_move rfl (by rfl) (by rfl)) ?_
    (try simp only [zP, zN, zA, zB, zC])
    refine pu_ (v := .bool false) (y_run (by rfl) (fun W => by have d := D12.out; go_simp)) ?_
    (try simp only [zP, zN, zA, zB, zC])
    refine pu_ (v := .bool false) (y_move rfl (by rfl) (by rfl)) ?_
    (try simp only [zP, zN, zA, zB, zC])
    refine pu_ (v := .int .i64 N) (y_move rfl (by rfl) (by rfl)) ?_
    (try simp only [zP, zN, zA, zB, zC])
    refine pu_ (v := .bool false) (y_run (by rfl) (fun W => by have d := D15.out; go_simp)) ?_
    (try simp only [zP, zN, zA, zB, zC])
    refine pu_ (v := .bool false) (y_pick (t := false) (by rfl) rfl (by rfl) (by rfl)) ?_
    (try simp only [zP, zN, zA, zB, zC])
    refine pu_ (v := .bool false) (y_move rfl (by rfl) (by rfl)) ?_
    (try simp only [zP, zN, zA, zB, zC])
    refine pu_ (v := .slice B M.length d) (y_move rfl (by rfl) (by rfl)) ?_
    (try simp only [zP, zN, zA, zB, zC])
    refine pu_ (v := .int .i64 M.length) (y_run (by rfl) (fun W => by go_simp)) ?_
    (try simp only [zP, zN, zA, zB, zC])
    refine pu_ (v := .int .i64 N) (y_move rfl (by rfl) (by rfl)) ?_
    (try simp only [zP, zN, zA, zB, zC])
    refine pu_ (v := .bool false) (y_run (by rfl) (fun W => by have d := HML.out; go_simp)) ?_
    (try simp only [zP, zN, zA, zB, zC])
    refine pu_ (v := .bool false) (y_pick (t := false) (by rfl) rfl (by rfl) (by rfl)) ?_
    (try simp only [zP, zN, zA, zB, zC])
    refine nl_ (hK14 _ _ ?_); clear hK14 K14
    refine wp_cond_false rfl ?_
    refine wp_skip ?_
    refine th_norm (hK7 _ _ ?_); try clear hK7 K7
    refine s_ (fun K15 hK15 => ?_)
    refine pu_ (v := .slice none 0 0) (y_assign rfl (by rfl) (by rfl)) ?_
    (try simp only [zP, zN, zA, zB, zC])
    refine nl_ (hK15 _ _ ?_); clear hK15 K15
    refine s_ (fun K16 hK16 => ?_)
    refine pu_ (v := .bool true) (y_assign rfl (by rfl) (by rfl)) ?_
    (try simp only [zP, zN, zA, zB, zC])
    refine nl_ (hK16 _ _ ?_); clear hK16 K16
    refine sq_ (fun K17 hK17 => ?_)
    refine s_ (fun K18 hK18 => ?_)
    refine pu_ (v := .int .i64 0) (y_assign rfl (by rfl) (by rfl)) ?_
    (try simp only [zP, zN, zA, zB, zC])
    refine nl_ (hK18 _ _ ?_); clear hK18 K18
    refine wp_block ?_
    have OL0 := Lib.hid (show OwnS w6 w.heap.size 49 28 (.slice none 0 0) 0 ((opsN 0).flatMap opC) from OwnS.nil _ _ _ _ _)
    refine loopk_ (fun (kq : Nat) (a' : Act) (w' : World) => ∃ (k : Nat), ∃ (vl : Value), ∃ (r : Bool), ∃ (us : Nat → Value), a' = ⟨#[.int .i64 N, .slice B M.length d, us 2, us 3, .bool false, vl, .bool r, .int .i64 k, us 8, us 9, us 10, us 11, us 12, us 13, us 14, us 15, us 16, us 17, us 18, us 19, us 20, us 21, us 22, us 23, us 24, us 25, us 26, us 27, us 28, us 29, us 30, us 31, us 32, us 33, us 34, us 35, us 36, us 37, us 38, us 39, us 40, us 41, us 42, us 43, us 44, us 45, us 46, us 47, us 48, us 49, us 50, us 51, us 52, us 53, us 54, us 55, us 56, us 57, us 58, us 59, us 60, us 61, us 62, us 63, us 64, us 65, us 66, us 67, us 68, us 69, us 70, us 71, us 72, us 73, us 74], []⟩ ∧ Hid (Ch [] w w') ∧ Hid (SrcIs w' (.slice B M.length d) (M.length) ((M).map (Value.int .i64)) 1) ∧ Hid (OwnS w' w.heap.size 49 28 (vl) (k) ((opsN k).flatMap opC)) ∧ Hid (k ≤ N ∧ kq + k = N) ∧ Hid (r = true ↔ ∀ i, i < k → M[i]? = some (i : Int)) ∧ Hid (∀ k, k ∈ xb (.slice B M.length d) → k ∉ rl vl)) (N) (⟨0, _, true, fun us_ => (#[.int .i64 N, .slice B M.length d, undef, undef, .bool false, .slice none 0 0, .bool true, .int .i64 0, undef, .bool true, .bool false, .int .i64 N, .bool false, .bool false, .int .i64 N, .bool false, .bool false, .bool false, .slice B M.length d, .int .i64 M.length, .int .i64 N, .bool false, .bool false, undef, undef, undef, undef, undef, undef, undef, undef, undef, undef, undef, undef, undef, undef, undef, undef, undef, undef, undef, undef, undef, undef, undef, undef, undef, undef, undef, undef, undef, undef, undef, undef, undef, undef, undef, undef, undef, undef, undef, undef, undef, undef, undef, undef, undef, undef, undef, undef, undef, undef, undef, undef] : Array Value).getD us_ undef, rfl, C0, SM, OL0, Lib.hid ⟨by omega, by omega⟩, Lib.hid ⟨fun _ i hi => absurd hi (by omega), fun _ => rfl⟩, Lib.hid (fun k _ hm => absurd hm (by simp [rl]))⟩) ?_
    rintro kq _ w19 ⟨k, vl, r, us, rfl, C0, SM, OL, hk, hr, hxr⟩ K20 hK20
    refine sq_ (fun K21 hK21 => ?_)
    rcases in_ways hk.out.1 HML.out r with ⟨z, h0, hz0, ⟨hr0, h⟩ | ⟨hr0, h⟩ | hr0⟩ | h
    · have hlt := Lib.hid h0
      clear h0
      have hz := Lib.hid hz0
      clear hz0
      obtain ⟨b, hsm_b⟩ := src_some SM.out (by have := HML.out; have := hlt.out; omega)
      subst hsm_b
      have D25 := Lib.hid (show k < N from hlt.out)
      have Wk := Lib.hid (show IntKind.i64.wrap ((k : Int) + 1) = ((k + 1 : Nat) : Int) by rw [wr64 (by have := hlt.out; have := HN.out; omega)]; omega)
      have W3 := Lib.hid (show IntKind.i64.wrap (3 * (k : Int)) = ((3 * k : Nat) : Int) by rw [wr64 (by have := hlt.out; have := HN.out; omega)]; omega)
      have W31 := Lib.hid (show IntKind.i64.wrap (3 * (k : Int) + 1) = 3 * (k : Int) + 1 from wr64 (by have := hlt.out; have := HN.out; omega))
      have W32 := Lib.hid (show IntKind.i64.wrap (3 * (k : Int) + 2) = 3 * (k : Int) + 2 from wr64 (by have := hlt.out; have := HN.out; omega))
      have W33 := Lib.hid (show IntKind.i64.wrap (3 * (k : Int) + 3) = 3 * (k : Int) + 3 from wr64 (by have := hlt.out; have := HN.out; omega))
      have D47 := Lib.hid (show (k : Int) < (M.length : Int) by have := HML.out; have := hlt.out; omega)
      subst hr0
      have D50 := Lib.hid (show (z == (k : Int)) = true from beq_iff_eq.2 h)
      have hzk := Lib.hid h
      clear h
      refine s_ (fun K22 hK22 => ?_)
      refine pu_ (v := .int .i64 k) (y_move rfl (by rfl) (by rfl)) ?_
      (try simp only [zP, zN, zA, zB, zC])
      refine pu_ (v := .int .i64 N) (y_move rfl (by rfl) (by rfl)) ?_
      (try simp only [zP, zN, zA, zB, zC])
      refine pu_ (v := .bool true) (y_run (by rfl) (fun W => by have d := D25.out; go_simp)) ?_
      (try simp only [zP, zN, zA, zB, zC])
      refine nl_ (hK22 _ _ ?_); clear hK22 K22
      refine wp_cond_true rfl ?_
      refine wp_skip ?_
      refine th_norm (hK21 _ _ ?_); try clear hK21 K21
      refine sq_ (fun K23 hK23 => ?_)
      refine wp_block ?_
      refine s_ (fun K24 hK24 => ?_)
      refine pu_ (v := vl) (y_move rfl (by rfl) (by rfl)) ?_
      (try simp only [zP, zN, zA, zB, zC])
      refine pu_ (v := .int .i64 k) (y_move rfl (by rfl) (by rfl)) ?_
      (try simp only [zP, zN, zA, zB, zC])
      refine pu_ (v := .int .i64 (k + 1 : Nat)) (y_run (by rfl) (fun W => by have d := Wk.out; go_simp)) ?_
      (try simp only [zP, zN, zA, zB, zC])
      refine pu_ (v := .int .i64 k) (y_move rfl (by rfl) (by rfl)) ?_
      (try simp only [zP, zN, zA, zB, zC])
      refine pu_ (v := .int .i64 (3 * k : Nat)) (y_run (by rfl) (fun W => by have d := W3.out; go_simp)) ?_
      (try simp only [zP, zN, zA, zB, zC])
      refine pu_ (v := .int .i64 (3 * k + 1 : Nat)) (y_run (by rfl) (fun W => by have d := W31.out; go_simp)) ?_
      (try simp only [zP, zN, zA, zB, zC])
      refine pu_ (v := .int .i64 k) (y_move rfl (by rfl) (by rfl)) ?_
      (try simp only [zP, zN, zA, zB, zC])
      refine pu_ (v := .int .i64 (3 * k : Nat)) (y_run (by rfl) (fun W => by have d := W3.out; go_simp)) ?_
      (try simp only [zP, zN, zA, zB, zC])
      refine pu_ (v := .int .i64 (3 * k + 2 : Nat)) (y_run (by rfl) (fun W => by have d := W32.out; go_simp)) ?_
      (try simp only [zP, zN, zA, zB, zC])
      refine pu_ (v := .int .i64 k) (y_move rfl (by rfl) (by rfl)) ?_
      (try simp only [zP, zN, zA, zB, zC])
      refine pu_ (v := .int .i64 (3 * k : Nat)) (y_run (by rfl) (fun W => by have d := W3.out; go_simp)) ?_
      (try simp only [zP, zN, zA, zB, zC])
      refine pu_ (v := .int .i64 (3 * k + 3 : Nat)) (y_run (by rfl) (fun W => by have d := W33.out; go_simp)) ?_
      (try simp only [zP, zN, zA, zB, zC])
      refine pu_ (v := .agg #[.int .i64 1, .int .i64 (k + 1 : Nat), .int .i64 (3 * k + 1 : Nat), .int .i64 (3 * k + 2 : Nat), .int .i64 (3 * k + 3 : Nat), .int .i64 0, .int .i64 0, .int .u64 0, .string ⟨#[]⟩, .slice none 0 0, .slice none 0 0, .slice none 0 0, .int .i64 0, .int .i64 0, .int .i64 0, .int .i64 0, .int .i64 0, .int .i64 0, .int .i64 0, .string ⟨#[]⟩, .slice none 0 0, .int .i64 0, .int .i64 0, .int .i64 0, .int .u64 0, .string ⟨#[]⟩, .slice none 0 0, .slice none 0 0]) (y_build (vs := #[(0, .int .i64 1), (1, .int .i64 (k + 1 : Nat)), (2, .int .i64 (3 * k + 1 : Nat)), (3, .int .i64 (3 * k + 2 : Nat)), (4, .int .i64 (3 * k + 3 : Nat))]) (by rfl) rfl (by first | rfl | (simp only [List.map_toArray, List.map_cons, List.map_nil]; first | done | rfl)) (by kernel_rfl)) ?_
      (try simp only [zP, zN, zA, zB, zC])
      refine ef_ (fun K25 hK25 => ?_)
      refine e_buildS (parts := #[(0, .agg #[.int .i64 1, .int .i64 (k + 1 : Nat), .int .i64 (3 * k + 1 : Nat), .int .i64 (3 * k + 2 : Nat), .int .i64 (3 * k + 3 : Nat), .int .i64 0, .int .i64 0, .int .u64 0, .string ⟨#[]⟩, .slice none 0 0, .slice none 0 0, .slice none 0 0, .int .i64 0, .int .i64 0, .int .i64 0, .int .i64 0, .int .i64 0, .int .i64 0, .int .i64 0, .string ⟨#[]⟩, .slice none 0 0, .int .i64 0, .int .i64 0, .int .i64 0, .int .u64 0, .string ⟨#[]⟩, .slice none 0 0, .slice none 0 0])]) (cells := #[.int .i64 1, .int .i64 (k + 1 : Nat), .int .i64 (3 * k + 1 : Nat), .int .i64 (3 * k + 2 : Nat), .int .i64 (3 * k + 3 : Nat), .int .i64 0, .int .i64 0, .int .u64 0, .string ⟨#[]⟩, .slice none 0 0, .slice none 0 0, .slice none 0 0, .int .i64 0, .int .i64 0, .int .i64 0, .int .i64 0, .int .i64 0, .int .i64 0, .int .i64 0, .string ⟨#[]⟩, .slice none 0 0, .int .i64 0, .int .i64 0, .int .i64 0, .int .u64 0, .string ⟨#[]⟩, .slice none 0 0, .slice none 0 0]) (by rfl) rfl rfl (by first | rfl | (simp only [List.map_toArray, List.map_cons, List.map_nil]; first | done | rfl)) Try.underlying45 I49.hi I49.hz I49.hs (by decide) (by decide) (by kernel_rfl) ?_
      rintro g26 w27 HG28 B29 C30
      have nw31 := Lib.hid (show w.heap.size ≤ g26 by have := C0.out.size; have := HG28.out; omega)
      have nx32 := Lib.hid (SM.out.ne_new (by decide) HG28)
      have nr33 := Lib.hid (OL.out.ne_new HG28)
      have C0' := Lib.hid (show Ch [] w w27 from C0.out.trans' C30 (fun x hx => absurd hx (by simp)))
      have SM' := Lib.hid (show SrcIs w27 (.slice (some b) M.length d) (M.length) ((M).map (Value.int .i64)) 1 from SM.out.chx C30 xnin_nil)
      have OL' := Lib.hid (show OwnS w27 w.heap.size 49 28 (vl) (k) ((opsN k).flatMap opC) from OL.out.ch C30 rnin_nil)
      clear C0 SM OL
      have C0 := C0'; clear C0'
      have SM := SM'; clear SM'
      have OL := OL'; clear OL'
      have Fg26 := Lib.hid (show Blk w27 g26 (#[.int .i64 1, .int .i64 (k + 1 : Nat), .int .i64 (3 * k + 1 : Nat), .int .i64 (3 * k + 2 : Nat), .int .i64 (3 * k + 3 : Nat), .int .i64 0, .int .i64 0, .int .u64 0, .string ⟨#[]⟩, .slice none 0 0, .slice none 0 0, .slice none 0 0, .int .i64 0, .int .i64 0, .int .i64 0, .int .i64 0, .int .i64 0, .int .i64 0, .int .i64 0, .string ⟨#[]⟩, .slice none 0 0, .int .i64 0, .int .i64 0, .int .i64 0, .int .u64 0, .string ⟨#[]⟩, .slice none 0 0, .slice none 0 0]) 49 from B29); clear B29 C30
      refine hK25 _ _ ?_; clear hK25 K25
      (try simp only [zP, zN, zA, zB, zC])
      refine ef_ (fun K34 hK34 => ?_)
      refine e_append (by rfl) rfl rfl (w.heap.size) 49 _ _ 28 344 Try.underlying45 I49.hi I49.hz I49.hs I49.hb rfl (by decide) (vl) (k) ((opsN k).flatMap opC) (by rfl) OL.out (.slice (some ⟨g26, 0, none⟩) 1 1) 1 (opC (opN k)) (by rfl) ⟨rfl, .inr ⟨_, _, rfl, CellsAt.blk Fg26.out 0⟩⟩ (opC_one (opN k)) (by have := HN.out; have := hlt.out; unfold maxLen; omega) (by have := HN.out; have := hlt.out; omega) C0.out.size ?_
      rintro v35 w36 O37 C38 R39 -
      have xr41 := Lib.hid (show ∀ k, k ∈ xb (.slice (some b) M.length d) → k ∉ rl v35 from fun k hk hm => (R39 k hm).elim (fun h => hxr.out k hk h) (fun h => by have := SM.out.lt (by decide) k hk; omega))
      have nr42 := Lib.hid (show g26 ∉ rl v35 from fun hk => (R39 _ hk).elim nr33.out (fun h => by have := Fg26.out.lt; omega))
      have C0' := Lib.hid (show Ch [] w w36 from C0.out.trans' C38 (fun x hx => .inr (OL.out.lt x hx).1))
      have SM' := Lib.hid (show SrcIs w36 (.slice (some b) M.length d) (M.length) ((M).map (Value.int .i64)) 1 from SM.out.chx C38 hxr.out)
      have Fg26' := Lib.hid (show Blk w36 g26 (#[.int .i64 1, .int .i64 (k + 1 : Nat), .int .i64 (3 * k + 1 : Nat), .int .i64 (3 * k + 2 : Nat), .int .i64 (3 * k + 3 : Nat), .int .i64 0, .int .i64 0, .int .u64 0, .string ⟨#[]⟩, .slice none 0 0, .slice none 0 0, .slice none 0 0, .int .i64 0, .int .i64 0, .int .i64 0, .int .i64 0, .int .i64 0, .int .i64 0, .int .i64 0, .string ⟨#[]⟩, .slice none 0 0, .int .i64 0, .int .i64 0, .int .i64 0, .int .u64 0, .string ⟨#[]⟩, .slice none 0 0, .slice none 0 0]) 49 from C38.blk Fg26.out nr33.out)
      clear C0 SM Fg26
      have C0 := C0'; clear C0'
      have SM := SM'; clear SM'
      have Fg26 := Fg26'; clear Fg26'
      clear OL
      have OL := Lib.hid (show OwnS w36 w.heap.size 49 28 (v35) (k + 1) ((opsN k).flatMap opC ++ opC (opN k)) from O37); clear O37 C38
      refine hK34 _ _ ?_; clear hK34 K34
      (try simp only [zP, zN, zA, zB, zC])
      refine pu_ (v := v35) (y_assign rfl (by rfl) (by rfl)) ?_
      (try simp only [zP, zN, zA, zB, zC])
      refine nl_ (hK24 _ _ ?_); clear hK24 K24
      refine r_ ?_
      refine pu_ (v := .bool true) (y_move rfl (by rfl) (by rfl)) ?_
      (try simp only [zP, zN, zA, zB, zC])
      refine pu_ (v := .bool true) (y_move rfl (by rfl) (by rfl)) ?_
      (try simp only [zP, zN, zA, zB, zC])
      refine pu_ (v := .slice (some b) M.length d) (y_move rfl (by rfl) (by rfl)) ?_
      (try simp only [zP, zN, zA, zB, zC])
      refine pu_ (v := .int .i64 k) (y_move rfl (by rfl) (by rfl)) ?_
      (try simp only [zP, zN, zA, zB, zC])
      refine pu_ (v := .pointer (some (b.add (k)))) (y_run (by rfl) (fun W => by have d := D47.out; go_simp)) ?_
      (try simp only [zP, zN, zA, zB, zC])
      refine ld_ (v := .int .i64 z) rfl (by rfl) (by rfl) (run_load_one (src_int SM.out hz.out) Try.underlying3 rfl) ?_
      (try simp only [zP, zN, zA, zB, zC])
      refine pu_ (v := .int .i64 k) (y_move rfl (by rfl) (by rfl)) ?_
      (try simp only [zP, zN, zA, zB, zC])
      refine pu_ (v := .bool true) (y_run (by rfl) (fun W => by have d := D50.out; go_simp)) ?_
      (try simp only [zP, zN, zA, zB, zC])
      refine pu_ (v := .bool true) (y_pick (t := true) (by rfl) rfl (by rfl) (by rfl)) ?_
      (try simp only [zP, zN, zA, zB, zC])
      refine pu_ (v := .bool true) (y_assign rfl (by rfl) (by rfl)) ?_
      (try simp only [zP, zN, zA, zB, zC])
      refine nl_ ?_
      refine ib_norm ?_
      refine th_norm (hK23 _ _ ?_); try clear hK23 K23
      refine r_ ?_
      refine pu_ (v := .int .i64 k) (y_move rfl (by rfl) (by rfl)) ?_
      (try simp only [zP, zN, zA, zB, zC])
      refine pu_ (v := .int .i64 (k + 1 : Nat)) (y_run (by rfl) (fun W => by have d := Wk.out; go_simp)) ?_
      (try simp only [zP, zN, zA, zB, zC])
      refine pu_ (v := .int .i64 (k + 1 : Nat)) (y_assign rfl (by rfl) (by rfl)) ?_
      (try simp only [zP, zN, zA, zB, zC])
      refine nl_ ?_
      exact th_norm (hK20 (kq - 1) _ _ (by have := hlt.out; have := hk.out; omega) ⟨k + 1, _, true, fun us_ => (#[.int .i64 N, .slice (some b) M.length d, us 2, us 3, .bool false, v35, .bool true, .int .i64 (k + 1 : Nat), us 8, us 9, us 10, us 11, us 12, us 13, us 14, us 15, us 16, us 17, us 18, us 19, us 20, us 21, us 22, .int .i64 k, .int .i64 N, .bool true, .int .i64 k, .int .i64 (k + 1 : Nat), vl, .int .i64 k, .int .i64 (k + 1 : Nat), .int .i64 k, .int .i64 (3 * k : Nat), .int .i64 (3 * k + 1 : Nat), .int .i64 k, .int .i64 (3 * k : Nat), .int .i64 (3 * k + 2 : Nat), .int .i64 k, .int .i64 (3 * k : Nat), .int .i64 (3 * k + 3 : Nat), .agg #[.int .i64 1, .int .i64 (k + 1 : Nat), .int .i64 (3 * k + 1 : Nat), .int .i64 (3 * k + 2 : Nat), .int .i64 (3 * k + 3 : Nat), .int .i64 0, .int .i64 0, .int .u64 0, .string ⟨#[]⟩, .slice none 0 0, .slice none 0 0, .slice none 0 0, .int .i64 0, .int .i64 0, .int .i64 0, .int .i64 0, .int .i64 0, .int .i64 0, .int .i64 0, .string ⟨#[]⟩, .slice none 0 0, .int .i64 0, .int .i64 0, .int .i64 0, .int .u64 0, .string ⟨#[]⟩, .slice none 0 0, .slice none 0 0], .slice (some ⟨g26, 0, none⟩) 1 1, v35, .bool true, .bool true, .slice (some b) M.length d, .int .i64 k, .pointer (some (b.add (k))), .int .i64 z, .int .i64 k, .bool true, .bool true, us 52, us 53, us 54, us 55, us 56, us 57, us 58, us 59, us 60, us 61, us 62, us 63, us 64, us 65, us 66, us 67, us 68, us 69, us 70, us 71, us 72, us 73, us 74] : Array Value).getD us_ undef, rfl, C0, SM, Lib.hid (by have h := OL.out; rw [opsN_succ, List.flatMap_append]; exact h), Lib.hid ⟨by have := hlt.out; omega, by have := hlt.out; have := hk.out; omega⟩, Lib.hid (⟨fun _ i hi => (Nat.lt_or_ge i k).elim (fun h9 => hr.out.1 rfl i h9) (fun h9 => by obtain rfl : i = k := (by omega); rw [hz.out, hzk.out]), fun _ => rfl⟩), Lib.hid (xr41.out)⟩)
    · have hlt := Lib.hid h0
      clear h0
      have hz := Lib.hid hz0
      clear hz0
      obtain ⟨b, hsm_b⟩ := src_some SM.out (by have := HML.out; have := hlt.out; omega)
      subst hsm_b
      have D25 := Lib.hid (show k < N from hlt.out)
      have Wk := Lib.hid (show IntKind.i64.wrap ((k : Int) + 1) = ((k + 1 : Nat) : Int) by rw [wr64 (by have := hlt.out; have := HN.out; omega)]; omega)
      have W3 := Lib.hid (show IntKind.i64.wrap (3 * (k : Int)) = ((3 * k : Nat) : Int) by rw [wr64 (by have := hlt.out; have := HN.out; omega)]; omega)
      have W31 := Lib.hid (show IntKind.i64.wrap (3 * (k : Int) + 1) = 3 * (k : Int) + 1 from wr64 (by have := hlt.out; have := HN.out; omega))
      have W32 := Lib.hid (show IntKind.i64.wrap (3 * (k : Int) + 2) = 3 * (k : Int) + 2 from wr64 (by have := hlt.out; have := HN.out; omega))
      have W33 := Lib.hid (show IntKind.i64.wrap (3 * (k : Int) + 3) = 3 * (k : Int) + 3 from wr64 (by have := hlt.out; have := HN.out; omega))
      have D47 := Lib.hid (show (k : Int) < (M.length : Int) by have := HML.out; have := hlt.out; omega)
      subst hr0
      have D50 := Lib.hid (show (z == (k : Int)) = false from beq_eq_false_iff_ne.2 h)
      have hzk := Lib.hid h
      clear h
      refine s_ (fun K43 hK43 => ?_)
      refine pu_ (v := .int .i64 k) (y_move rfl (by rfl) (by rfl)) ?_
      (try simp only [zP, zN, zA, zB, zC])
      refine pu_ (v := .int .i64 N) (y_move rfl (by rfl) (by rfl)) ?_
      (try simp only [zP, zN, zA, zB, zC])
      refine pu_ (v := .bool true) (y_run (by rfl) (fun W => by have d := D25.out; go_simp)) ?_
      (try simp only [zP, zN, zA, zB, zC])
      refine nl_ (hK43 _ _ ?_); clear hK43 K43
      refine wp_cond_true rfl ?_
      refine wp_skip ?_
      refine th_norm (hK21 _ _ ?_); try clear hK21 K21
      refine sq_ (fun K44 hK44 => ?_)
      refine wp_block ?_
      refine s_ (fun K45 hK45 => ?_)
      refine pu_ (v := vl) (y_move rfl (by rfl) (by rfl)) ?_
      (try simp only [zP, zN, zA, zB, zC])
      refine pu_ (v := .int .i64 k) (y_move rfl (by rfl) (by rfl)) ?_
      (try simp only [zP, zN, zA, zB, zC])
      refine pu_ (v := .int .i64 (k + 1 : Nat)) (y_run (by rfl) (fun W => by have d := Wk.out; go_simp)) ?_
      (try simp only [zP, zN, zA, zB, zC])
      refine pu_ (v := .int .i64 k) (y_move rfl (by rfl) (by rfl)) ?_
      (try simp only [zP, zN, zA, zB, zC])
      refine pu_ (v := .int .i64 (3 * k : Nat)) (y_run (by rfl) (fun W => by have d := W3.out; go_simp)) ?_
      (try simp only [zP, zN, zA, zB, zC])
      refine pu_ (v := .int .i64 (3 * k + 1 : Nat)) (y_run (by rfl) (fun W => by have d := W31.out; go_simp)) ?_
      (try simp only [zP, zN, zA, zB, zC])
      refine pu_ (v := .int .i64 k) (y_move rfl (by rfl) (by rfl)) ?_
      (try simp only [zP, zN, zA, zB, zC])
      refine pu_ (v := .int .i64 (3 * k : Nat)) (y_run (by rfl) (fun W => by have d := W3.out; go_simp)) ?_
      (try simp only [zP, zN, zA, zB, zC])
      refine pu_ (v := .int .i64 (3 * k + 2 : Nat)) (y_run (by rfl) (fun W => by have d := W32.out; go_simp)) ?_
      (try simp only [zP, zN, zA, zB, zC])
      refine pu_ (v := .int .i64 k) (y_move rfl (by rfl) (by rfl)) ?_
      (try simp only [zP, zN, zA, zB, zC])
      refine pu_ (v := .int .i64 (3 * k : Nat)) (y_run (by rfl) (fun W => by have d := W3.out; go_simp)) ?_
      (try simp only [zP, zN, zA, zB, zC])
      refine pu_ (v := .int .i64 (3 * k + 3 : Nat)) (y_run (by rfl) (fun W => by have d := W33.out; go_simp)) ?_
      (try simp only [zP, zN, zA, zB, zC])
      refine pu_ (v := .agg #[.int .i64 1, .int .i64 (k + 1 : Nat), .int .i64 (3 * k + 1 : Nat), .int .i64 (3 * k + 2 : Nat), .int .i64 (3 * k + 3 : Nat), .int .i64 0, .int .i64 0, .int .u64 0, .string ⟨#[]⟩, .slice none 0 0, .slice none 0 0, .slice none 0 0, .int .i64 0, .int .i64 0, .int .i64 0, .int .i64 0, .int .i64 0, .int .i64 0, .int .i64 0, .string ⟨#[]⟩, .slice none 0 0, .int .i64 0, .int .i64 0, .int .i64 0, .int .u64 0, .string ⟨#[]⟩, .slice none 0 0, .slice none 0 0]) (y_build (vs := #[(0, .int .i64 1), (1, .int .i64 (k + 1 : Nat)), (2, .int .i64 (3 * k + 1 : Nat)), (3, .int .i64 (3 * k + 2 : Nat)), (4, .int .i64 (3 * k + 3 : Nat))]) (by rfl) rfl (by first | rfl | (simp only [List.map_toArray, List.map_cons, List.map_nil]; first | done | rfl)) (by kernel_rfl)) ?_
      (try simp only [zP, zN, zA, zB, zC])
      refine ef_ (fun K46 hK46 => ?_)
      refine e_buildS (parts := #[(0, .agg #[.int .i64 1, .int .i64 (k + 1 : Nat), .int .i64 (3 * k + 1 : Nat), .int .i64 (3 * k + 2 : Nat), .int .i64 (3 * k + 3 : Nat), .int .i64 0, .int .i64 0, .int .u64 0, .string ⟨#[]⟩, .slice none 0 0, .slice none 0 0, .slice none 0 0, .int .i64 0, .int .i64 0, .int .i64 0, .int .i64 0, .int .i64 0, .int .i64 0, .int .i64 0, .string ⟨#[]⟩, .slice none 0 0, .int .i64 0, .int .i64 0, .int .i64 0, .int .u64 0, .string ⟨#[]⟩, .slice none 0 0, .slice none 0 0])]) (cells := #[.int .i64 1, .int .i64 (k + 1 : Nat), .int .i64 (3 * k + 1 : Nat), .int .i64 (3 * k + 2 : Nat), .int .i64 (3 * k + 3 : Nat), .int .i64 0, .int .i64 0, .int .u64 0, .string ⟨#[]⟩, .slice none 0 0, .slice none 0 0, .slice none 0 0, .int .i64 0, .int .i64 0, .int .i64 0, .int .i64 0, .int .i64 0, .int .i64 0, .int .i64 0, .string ⟨#[]⟩, .slice none 0 0, .int .i64 0, .int .i64 0, .int .i64 0, .int .u64 0, .string ⟨#[]⟩, .slice none 0 0, .slice none 0 0]) (by rfl) rfl rfl (by first | rfl | (simp only [List.map_toArray, List.map_cons, List.map_nil]; first | done | rfl)) Try.underlying45 I49.hi I49.hz I49.hs (by decide) (by decide) (by kernel_rfl) ?_
      rintro g47 w48 HG49 B50 C51
      have nw52 := Lib.hid (show w.heap.size ≤ g47 by have := C0.out.size; have := HG49.out; omega)
      have nx53 := Lib.hid (SM.out.ne_new (by decide) HG49)
      have nr54 := Lib.hid (OL.out.ne_new HG49)
      have C0' := Lib.hid (show Ch [] w w48 from C0.out.trans' C51 (fun x hx => absurd hx (by simp)))
      have SM' := Lib.hid (show SrcIs w48 (.slice (some b) M.length d) (M.length) ((M).map (Value.int .i64)) 1 from SM.out.chx C51 xnin_nil)
      have OL' := Lib.hid (show OwnS w48 w.heap.size 49 28 (vl) (k) ((opsN k).flatMap opC) from OL.out.ch C51 rnin_nil)
      clear C0 SM OL
      have C0 := C0'; clear C0'
      have SM := SM'; clear SM'
      have OL := OL'; clear OL'
      have Fg47 := Lib.hid (show Blk w48 g47 (#[.int .i64 1, .int .i64 (k + 1 : Nat), .int .i64 (3 * k + 1 : Nat), .int .i64 (3 * k + 2 : Nat), .int .i64 (3 * k + 3 : Nat), .int .i64 0, .int .i64 0, .int .u64 0, .string ⟨#[]⟩, .slice none 0 0, .slice none 0 0, .slice none 0 0, .int .i64 0, .int .i64 0, .int .i64 0, .int .i64 0, .int .i64 0, .int .i64 0, .int .i64 0, .string ⟨#[]⟩, .slice none 0 0, .int .i64 0, .int .i64 0, .int .i64 0, .int .u64 0, .string ⟨#[]⟩, .slice none 0 0, .slice none 0 0]) 49 from B50); clear B50 C51
      refine hK46 _ _ ?_; clear hK46 K46
      (try simp only [zP, zN, zA, zB, zC])
      refine ef_ (fun K55 hK55 => ?_)
      refine e_append (by rfl) rfl rfl (w.heap.size) 49 _ _ 28 344 Try.underlying45 I49.hi I49.hz I49.hs I49.hb rfl (by decide) (vl) (k) ((opsN k).flatMap opC) (by rfl) OL.out (.slice (some ⟨g47, 0, none⟩) 1 1) 1 (opC (opN k)) (by rfl) ⟨rfl, .inr ⟨_, _, rfl, CellsAt.blk Fg47.out 0⟩⟩ (opC_one (opN k)) (by have := HN.out; have := hlt.out; unfold maxLen; omega) (by have := HN.out; have := hlt.out; omega) C0.out.size ?_
      rintro v56 w57 O58 C59 R60 -
      have xr62 := Lib.hid (show ∀ k, k ∈ xb (.slice (some b) M.length d) → k ∉ rl v56 from fun k hk hm => (R60 k hm).elim (fun h => hxr.out k hk h) (fun h => by have := SM.out.lt (by decide) k hk; omega))
      have nr63 := Lib.hid (show g47 ∉ rl v56 from fun hk => (R60 _ hk).elim nr54.out (fun h => by have := Fg47.out.lt; omega))
      have C0' := Lib.hid (show Ch [] w w57 from C0.out.trans' C59 (fun x hx => .inr (OL.out.lt x hx).1))
      have SM' := Lib.hid (show SrcIs w57 (.slice (some b) M.length d) (M.length) ((M).map (Value.int .i64)) 1 from SM.out.chx C59 hxr.out)
      have Fg47' := Lib.hid (show Blk w57 g47 (#[.int .i64 1, .int .i64 (k + 1 : Nat), .int .i64 (3 * k + 1 : Nat), .int .i64 (3 * k + 2 : Nat), .int .i64 (3 * k + 3 : Nat), .int .i64 0, .int .i64 0, .int .u64 0, .string ⟨#[]⟩, .slice none 0 0, .slice none 0 0, .slice none 0 0, .int .i64 0, .int .i64 0, .int .i64 0, .int .i64 0, .int .i64 0, .int .i64 0, .int .i64 0, .string ⟨#[]⟩, .slice none 0 0, .int .i64 0, .int .i64 0, .int .i64 0, .int .u64 0, .string ⟨#[]⟩, .slice none 0 0, .slice none 0 0]) 49 from C59.blk Fg47.out nr54.out)
      clear C0 SM Fg47
      have C0 := C0'; clear C0'
      have SM := SM'; clear SM'
      have Fg47 := Fg47'; clear Fg47'
      clear OL
      have OL := Lib.hid (show OwnS w57 w.heap.size 49 28 (v56) (k + 1) ((opsN k).flatMap opC ++ opC (opN k)) from O58); clear O58 C59
      refine hK55 _ _ ?_; clear hK55 K55
      (try simp only [zP, zN, zA, zB, zC])
      refine pu_ (v := v56) (y_assign rfl (by rfl) (by rfl)) ?_
      (try simp only [zP, zN, zA, zB, zC])
      refine nl_ (hK45 _ _ ?_); clear hK45 K45
      refine r_ ?_
      refine pu_ (v := .bool true) (y_move rfl (by rfl) (by rfl)) ?_
      (try simp only [zP, zN, zA, zB, zC])
      refine pu_ (v := .bool true) (y_move rfl (by rfl) (by rfl)) ?_
      (try simp only [zP, zN, zA, zB, zC])
      refine pu_ (v := .slice (some b) M.length d) (y_move rfl (by rfl) (by rfl)) ?_
      (try simp only [zP, zN, zA, zB, zC])
      refine pu_ (v := .int .i64 k) (y_move rfl (by rfl) (by rfl)) ?_
      (try simp only [zP, zN, zA, zB, zC])
      refine pu_ (v := .pointer (some (b.add (k)))) (y_run (by rfl) (fun W => by have d := D47.out; go_simp)) ?_
      (try simp only [zP, zN, zA, zB, zC])
      refine ld_ (v := .int .i64 z) rfl (by rfl) (by rfl) (run_load_one (src_int SM.out hz.out) Try.underlying3 rfl) ?_
      (try simp only [zP, zN, zA, zB, zC])
      refine pu_ (v := .int .i64 k) (y_move rfl (by rfl) (by rfl)) ?_
      (try simp only [zP, zN, zA, zB, zC])
      refine pu_ (v := .bool false) (y_run (by rfl) (fun W => by have d := D50.out; go_simp)) ?_
      (try simp only [zP, zN, zA, zB, zC])
      refine pu_ (v := .bool false) (y_pick (t := true) (by rfl) rfl (by rfl) (by rfl)) ?_
      (try simp only [zP, zN, zA, zB, zC])
      refine pu_ (v := .bool false) (y_assign rfl (by rfl) (by rfl)) ?_
      (try simp only [zP, zN, zA, zB, zC])
      refine nl_ ?_
      refine ib_norm ?_
      refine th_norm (hK44 _ _ ?_); try clear hK44 K44
      refine r_ ?_
      refine pu_ (v := .int .i64 k) (y_move rfl (by rfl) (by rfl)) ?_
      (try simp only [zP, zN, zA, zB, zC])
      refine pu_ (v := .int .i64 (k + 1 : Nat)) (y_run (by rfl) (fun W => by have d := Wk.out; go_simp)) ?_
      (try simp only [zP, zN, zA, zB, zC])
      refine pu_ (v := .int .i64 (k + 1 : Nat)) (y_assign rfl (by rfl) (by rfl)) ?_
      (try simp only [zP, zN, zA, zB, zC])
      refine nl_ ?_
      exact th_norm (hK20 (kq - 1) _ _ (by have := hlt.out; have := hk.out; omega) ⟨k + 1, _, false, fun us_ => (#[.int .i64 N, .slice (some b) M.length d, us 2, us 3, .bool false, v56, .bool false, .int .i64 (k + 1 : Nat), us 8, us 9, us 10, us 11, us 12, us 13, us 14, us 15, us 16, us 17, us 18, us 19, us 20, us 21, us 22, .int .i64 k, .int .i64 N, .bool true, .int .i64 k, .int .i64 (k + 1 : Nat), vl, .int .i64 k, .int .i64 (k + 1 : Nat), .int .i64 k, .int .i64 (3 * k : Nat), .int .i64 (3 * k + 1 : Nat), .int .i64 k, .int .i64 (3 * k : Nat), .int .i64 (3 * k + 2 : Nat), .int .i64 k, .int .i64 (3 * k : Nat), .int .i64 (3 * k + 3 : Nat), .agg #[.int .i64 1, .int .i64 (k + 1 : Nat), .int .i64 (3 * k + 1 : Nat), .int .i64 (3 * k + 2 : Nat), .int .i64 (3 * k + 3 : Nat), .int .i64 0, .int .i64 0, .int .u64 0, .string ⟨#[]⟩, .slice none 0 0, .slice none 0 0, .slice none 0 0, .int .i64 0, .int .i64 0, .int .i64 0, .int .i64 0, .int .i64 0, .int .i64 0, .int .i64 0, .string ⟨#[]⟩, .slice none 0 0, .int .i64 0, .int .i64 0, .int .i64 0, .int .u64 0, .string ⟨#[]⟩, .slice none 0 0, .slice none 0 0], .slice (some ⟨g47, 0, none⟩) 1 1, v56, .bool true, .bool true, .slice (some b) M.length d, .int .i64 k, .pointer (some (b.add (k))), .int .i64 z, .int .i64 k, .bool false, .bool false, us 52, us 53, us 54, us 55, us 56, us 57, us 58, us 59, us 60, us 61, us 62, us 63, us 64, us 65, us 66, us 67, us 68, us 69, us 70, us 71, us 72, us 73, us 74] : Array Value).getD us_ undef, rfl, C0, SM, Lib.hid (by have h := OL.out; rw [opsN_succ, List.flatMap_append]; exact h), Lib.hid ⟨by have := hlt.out; omega, by have := hlt.out; have := hk.out; omega⟩, Lib.hid (⟨fun h9 => absurd h9 (by decide), fun h9 => absurd (Option.some.inj (hz.out.symm.trans (h9 k (by omega)))) hzk.out⟩), Lib.hid (xr62.out)⟩)
    · have hlt := Lib.hid h0
      clear h0
      have hz := Lib.hid hz0
      clear hz0
      obtain ⟨b, hsm_b⟩ := src_some SM.out (by have := HML.out; have := hlt.out; omega)
      subst hsm_b
      have D25 := Lib.hid (show k < N from hlt.out)
      have Wk := Lib.hid (show IntKind.i64.wrap ((k : Int) + 1) = ((k + 1 : Nat) : Int) by rw [wr64 (by have := hlt.out; have := HN.out; omega)]; omega)
      have W3 := Lib.hid (show IntKind.i64.wrap (3 * (k : Int)) = ((3 * k : Nat) : Int) by rw [wr64 (by have := hlt.out; have := HN.out; omega)]; omega)
      have W31 := Lib.hid (show IntKind.i64.wrap (3 * (k : Int) + 1) = 3 * (k : Int) + 1 from wr64 (by have := hlt.out; have := HN.out; omega))
      have W32 := Lib.hid (show IntKind.i64.wrap (3 * (k : Int) + 2) = 3 * (k : Int) + 2 from wr64 (by have := hlt.out; have := HN.out; omega))
      have W33 := Lib.hid (show IntKind.i64.wrap (3 * (k : Int) + 3) = 3 * (k : Int) + 3 from wr64 (by have := hlt.out; have := HN.out; omega))
      have D47 := Lib.hid (show (k : Int) < (M.length : Int) by have := HML.out; have := hlt.out; omega)
      subst hr0
      refine s_ (fun K64 hK64 => ?_)
      refine pu_ (v := .int .i64 k) (y_move rfl (by rfl) (by rfl)) ?_
      (try simp only [zP, zN, zA, zB, zC])
      refine pu_ (v := .int .i64 N) (y_move rfl (by rfl) (by rfl)) ?_
      (try simp only [zP, zN, zA, zB, zC])
      refine pu_ (v := .bool true) (y_run (by rfl) (fun W => by have d := D25.out; go_simp)) ?_
      (try simp only [zP, zN, zA, zB, zC])
      refine nl_ (hK64 _ _ ?_); clear hK64 K64
      refine wp_cond_true rfl ?_
      refine wp_skip ?_
      refine th_norm (hK21 _ _ ?_); try clear hK21 K21
      refine sq_ (fun K65 hK65 => ?_)
      refine wp_block ?_
      refine s_ (fun K66 hK66 => ?_)
      refine pu_ (v := vl) (y_move rfl (by rfl) (by rfl)) ?_
      (try simp only [zP, zN, zA, zB, zC])
      refine pu_ (v := .int .i64 k) (y_move rfl (by rfl) (by rfl)) ?_
      (try simp only [zP, zN, zA, zB, zC])
      refine pu_ (v := .int .i64 (k + 1 : Nat)) (y_run (by rfl) (fun W => by have d := Wk.out; go_simp)) ?_
      (try simp only [zP, zN, zA, zB, zC])
      refine pu_ (v := .int .i64 k) (y_move rfl (by rfl) (by rfl)) ?_
      (try simp only [zP, zN, zA, zB, zC])
      refine pu_ (v := .int .i64 (3 * k : Nat)) (y_run (by rfl) (fun W => by have d := W3.out; go_simp)) ?_
      (try simp only [zP, zN, zA, zB, zC])
      refine pu_ (v := .int .i64 (3 * k + 1 : Nat)) (y_run (by rfl) (fun W => by have d := W31.out; go_simp)) ?_
      (try simp only [zP, zN, zA, zB, zC])
      refine pu_ (v := .int .i64 k) (y_move rfl (by rfl) (by rfl)) ?_
      (try simp only [zP, zN, zA, zB, zC])
      refine pu_ (v := .int .i64 (3 * k : Nat)) (y_run (by rfl) (fun W => by have d := W3.out; go_simp)) ?_
      (try simp only [zP, zN, zA, zB, zC])
      refine pu_ (v := .int .i64 (3 * k + 2 : Nat)) (y_run (by rfl) (fun W => by have d := W32.out; go_simp)) ?_
      (try simp only [zP, zN, zA, zB, zC])
      refine pu_ (v := .int .i64 k) (y_move rfl (by rfl) (by rfl)) ?_
      (try simp only [zP, zN, zA, zB, zC])
      refine pu_ (v := .int .i64 (3 * k : Nat)) (y_run (by rfl) (fun W => by have d := W3.out; go_simp)) ?_
      (try simp only [zP, zN, zA, zB, zC])
      refine pu_ (v := .int .i64 (3 * k + 3 : Nat)) (y_run (by rfl) (fun W => by have d := W33.out; go_simp)) ?_
      (try simp only [zP, zN, zA, zB, zC])
      refine pu_ (v := .agg #[.int .i64 1, .int .i64 (k + 1 : Nat), .int .i64 (3 * k + 1 : Nat), .int .i64 (3 * k + 2 : Nat), .int .i64 (3 * k + 3 : Nat), .int .i64 0, .int .i64 0, .int .u64 0, .string ⟨#[]⟩, .slice none 0 0, .slice none 0 0, .slice none 0 0, .int .i64 0, .int .i64 0, .int .i64 0, .int .i64 0, .int .i64 0, .int .i64 0, .int .i64 0, .string ⟨#[]⟩, .slice none 0 0, .int .i64 0, .int .i64 0, .int .i64 0, .int .u64 0, .string ⟨#[]⟩, .slice none 0 0, .slice none 0 0]) (y_build (vs := #[(0, .int .i64 1), (1, .int .i64 (k + 1 : Nat)), (2, .int .i64 (3 * k + 1 : Nat)), (3, .int .i64 (3 * k + 2 : Nat)), (4, .int .i64 (3 * k + 3 : Nat))]) (by rfl) rfl (by first | rfl | (simp only [List.map_toArray, List.map_cons, List.map_nil]; first | done | rfl)) (by kernel_rfl)) ?_
      (try simp only [zP, zN, zA, zB, zC])
      refine ef_ (fun K67 hK67 => ?_)
      refine e_buildS (parts := #[(0, .agg #[.int .i64 1, .int .i64 (k + 1 : Nat), .int .i64 (3 * k + 1 : Nat), .int .i64 (3 * k + 2 : Nat), .int .i64 (3 * k + 3 : Nat), .int .i64 0, .int .i64 0, .int .u64 0, .string ⟨#[]⟩, .slice none 0 0, .slice none 0 0, .slice none 0 0, .int .i64 0, .int .i64 0, .int .i64 0, .int .i64 0, .int .i64 0, .int .i64 0, .int .i64 0, .string ⟨#[]⟩, .slice none 0 0, .int .i64 0, .int .i64 0, .int .i64 0, .int .u64 0, .string ⟨#[]⟩, .slice none 0 0, .slice none 0 0])]) (cells := #[.int .i64 1, .int .i64 (k + 1 : Nat), .int .i64 (3 * k + 1 : Nat), .int .i64 (3 * k + 2 : Nat), .int .i64 (3 * k + 3 : Nat), .int .i64 0, .int .i64 0, .int .u64 0, .string ⟨#[]⟩, .slice none 0 0, .slice none 0 0, .slice none 0 0, .int .i64 0, .int .i64 0, .int .i64 0, .int .i64 0, .int .i64 0, .int .i64 0, .int .i64 0, .string ⟨#[]⟩, .slice none 0 0, .int .i64 0, .int .i64 0, .int .i64 0, .int .u64 0, .string ⟨#[]⟩, .slice none 0 0, .slice none 0 0]) (by rfl) rfl rfl (by first | rfl | (simp only [List.map_toArray, List.map_cons, List.map_nil]; first | done | rfl)) Try.underlying45 I49.hi I49.hz I49.hs (by decide) (by decide) (by kernel_rfl) ?_
      rintro g68 w69 HG70 B71 C72
      have nw73 := Lib.hid (show w.heap.size ≤ g68 by have := C0.out.size; have := HG70.out; omega)
      have nx74 := Lib.hid (SM.out.ne_new (by decide) HG70)
      have nr75 := Lib.hid (OL.out.ne_new HG70)
      have C0' := Lib.hid (show Ch [] w w69 from C0.out.trans' C72 (fun x hx => absurd hx (by simp)))
      have SM' := Lib.hid (show SrcIs w69 (.slice (some b) M.length d) (M.length) ((M).map (Value.int .i64)) 1 from SM.out.chx C72 xnin_nil)
      have OL' := Lib.hid (show OwnS w69 w.heap.size 49 28 (vl) (k) ((opsN k).flatMap opC) from OL.out.ch C72 rnin_nil)
      clear C0 SM OL
      have C0 := C0'; clear C0'
      have SM := SM'; clear SM'
      have OL := OL'; clear OL'
      have Fg68 := Lib.hid (show Blk w69 g68 (#[.int .i64 1, .int .i64 (k + 1 : Nat), .int .i64 (3 * k + 1 : Nat), .int .i64 (3 * k + 2 : Nat), .int .i64 (3 * k + 3 : Nat), .int .i64 0, .int .i64 0, .int .u64 0, .string ⟨#[]⟩, .slice none 0 0, .slice none 0 0, .slice none 0 0, .int .i64 0, .int .i64 0, .int .i64 0, .int .i64 0, .int .i64 0, .int .i64 0, .int .i64 0, .string ⟨#[]⟩, .slice none 0 0, .int .i64 0, .int .i64 0, .int .i64 0, .int .u64 0, .string ⟨#[]⟩, .slice none 0 0, .slice none 0 0]) 49 from B71); clear B71 C72
      refine hK67 _ _ ?_; clear hK67 K67
      (try simp only [zP, zN, zA, zB, zC])
      refine ef_ (fun K76 hK76 => ?_)
      refine e_append (by rfl) rfl rfl (w.heap.size) 49 _ _ 28 344 Try.underlying45 I49.hi I49.hz I49.hs I49.hb rfl (by decide) (vl) (k) ((opsN k).flatMap opC) (by rfl) OL.out (.slice (some ⟨g68, 0, none⟩) 1 1) 1 (opC (opN k)) (by rfl) ⟨rfl, .inr ⟨_, _, rfl, CellsAt.blk Fg68.out 0⟩⟩ (opC_one (opN k)) (by have := HN.out; have := hlt.out; unfold maxLen; omega) (by have := HN.out; have := hlt.out; omega) C0.out.size ?_
      rintro v77 w78 O79 C80 R81 -
      have xr83 := Lib.hid (show ∀ k, k ∈ xb (.slice (some b) M.length d) → k ∉ rl v77 from fun k hk hm => (R81 k hm).elim (fun h => hxr.out k hk h) (fun h => by have := SM.out.lt (by decide) k hk; omega))
      have nr84 := Lib.hid (show g68 ∉ rl v77 from fun hk => (R81 _ hk).elim nr75.out (fun h => by have := Fg68.out.lt; omega))
      have C0' := Lib.hid (show Ch [] w w78 from C0.out.trans' C80 (fun x hx => .inr (OL.out.lt x hx).1))
      have SM' := Lib.hid (show SrcIs w78 (.slice (some b) M.length d) (M.length) ((M).map (Value.int .i64)) 1 from SM.out.chx C80 hxr.out)
      have Fg68' := Lib.hid (show Blk w78 g68 (#[.int .i64 1, .int .i64 (k + 1 : Nat), .int .i64 (3 * k + 1 : Nat), .int .i64 (3 * k + 2 : Nat), .int .i64 (3 * k + 3 : Nat), .int .i64 0, .int .i64 0, .int .u64 0, .string ⟨#[]⟩, .slice none 0 0, .slice none 0 0, .slice none 0 0, .int .i64 0, .int .i64 0, .int .i64 0, .int .i64 0, .int .i64 0, .int .i64 0, .int .i64 0, .string ⟨#[]⟩, .slice none 0 0, .int .i64 0, .int .i64 0, .int .i64 0, .int .u64 0, .string ⟨#[]⟩, .slice none 0 0, .slice none 0 0]) 49 from C80.blk Fg68.out nr75.out)
      clear C0 SM Fg68
      have C0 := C0'; clear C0'
      have SM := SM'; clear SM'
      have Fg68 := Fg68'; clear Fg68'
      clear OL
      have OL := Lib.hid (show OwnS w78 w.heap.size 49 28 (v77) (k + 1) ((opsN k).flatMap opC ++ opC (opN k)) from O79); clear O79 C80
      refine hK76 _ _ ?_; clear hK76 K76
      (try simp only [zP, zN, zA, zB, zC])
      refine pu_ (v := v77) (y_assign rfl (by rfl) (by rfl)) ?_
      (try simp only [zP, zN, zA, zB, zC])
      refine nl_ (hK66 _ _ ?_); clear hK66 K66
      refine r_ ?_
      refine pu_ (v := .bool false) (y_move rfl (by rfl) (by rfl)) ?_
      (try simp only [zP, zN, zA, zB, zC])
      refine pu_ (v := .bool false) (y_move rfl (by rfl) (by rfl)) ?_
      (try simp only [zP, zN, zA, zB, zC])
      refine pu_ (y_off (by rfl)) ?_
      (try simp only [zP, zN, zA, zB, zC])
      refine pu_ (y_off (by rfl)) ?_
      (try simp only [zP, zN, zA, zB, zC])
      refine pu_ (y_off (by rfl)) ?_
      (try simp only [zP, zN, zA, zB, zC])
      refine pu_ (y_off (by rfl)) ?_
      (try simp only [zP, zN, zA, zB, zC])
      refine pu_ (y_off (by rfl)) ?_
      (try simp only [zP, zN, zA, zB, zC])
      refine pu_ (y_off (by rfl)) ?_
      (try simp only [zP, zN, zA, zB, zC])
      refine pu_ (v := .bool false) (y_pick (t := false) (by rfl) rfl (by rfl) (by rfl)) ?_
      (try simp only [zP, zN, zA, zB, zC])
      refine pu_ (v := .bool false) (y_assign rfl (by rfl) (by rfl)) ?_
      (try simp only [zP, zN, zA, zB, zC])
      refine nl_ ?_
      refine ib_norm ?_
      refine th_norm (hK65 _ _ ?_); try clear hK65 K65
      refine r_ ?_
      refine pu_ (v := .int .i64 k) (y_move rfl (by rfl) (by rfl)) ?_
      (try simp only [zP, zN, zA, zB, zC])
      refine pu_ (v := .int .i64 (k + 1 : Nat)) (y_run (by rfl) (fun W => by have d := Wk.out; go_simp)) ?_
      (try simp only [zP, zN, zA, zB, zC])
      refine pu_ (v := .int .i64 (k + 1 : Nat)) (y_assign rfl (by rfl) (by rfl)) ?_
      (try simp only [zP, zN, zA, zB, zC])
      refine nl_ ?_
      exact th_norm (hK20 (kq - 1) _ _ (by have := hlt.out; have := hk.out; omega) ⟨k + 1, _, false, fun us_ => (#[.int .i64 N, .slice (some b) M.length d, us 2, us 3, .bool false, v77, .bool false, .int .i64 (k + 1 : Nat), us 8, us 9, us 10, us 11, us 12, us 13, us 14, us 15, us 16, us 17, us 18, us 19, us 20, us 21, us 22, .int .i64 k, .int .i64 N, .bool true, .int .i64 k, .int .i64 (k + 1 : Nat), vl, .int .i64 k, .int .i64 (k + 1 : Nat), .int .i64 k, .int .i64 (3 * k : Nat), .int .i64 (3 * k + 1 : Nat), .int .i64 k, .int .i64 (3 * k : Nat), .int .i64 (3 * k + 2 : Nat), .int .i64 k, .int .i64 (3 * k : Nat), .int .i64 (3 * k + 3 : Nat), .agg #[.int .i64 1, .int .i64 (k + 1 : Nat), .int .i64 (3 * k + 1 : Nat), .int .i64 (3 * k + 2 : Nat), .int .i64 (3 * k + 3 : Nat), .int .i64 0, .int .i64 0, .int .u64 0, .string ⟨#[]⟩, .slice none 0 0, .slice none 0 0, .slice none 0 0, .int .i64 0, .int .i64 0, .int .i64 0, .int .i64 0, .int .i64 0, .int .i64 0, .int .i64 0, .string ⟨#[]⟩, .slice none 0 0, .int .i64 0, .int .i64 0, .int .i64 0, .int .u64 0, .string ⟨#[]⟩, .slice none 0 0, .slice none 0 0], .slice (some ⟨g68, 0, none⟩) 1 1, v77, .bool false, .bool false, undef, undef, undef, undef, undef, undef, .bool false, us 52, us 53, us 54, us 55, us 56, us 57, us 58, us 59, us 60, us 61, us 62, us 63, us 64, us 65, us 66, us 67, us 68, us 69, us 70, us 71, us 72, us 73, us 74] : Array Value).getD us_ undef, rfl, C0, SM, Lib.hid (by have h := OL.out; rw [opsN_succ, List.flatMap_append]; exact h), Lib.hid ⟨by have := hlt.out; omega, by have := hlt.out; have := hk.out; omega⟩, Lib.hid (⟨fun h9 => absurd h9 (by decide), fun h9 => absurd (hr.out.2 (fun i hi => h9 i (by omega))) (by decide)⟩), Lib.hid (xr83.out)⟩)
    · have D25 := Lib.hid (show ¬ k < N by omega)
      have HE := Lib.hid h
      clear h
      refine s_ (fun K85 hK85 => ?_)
      refine pu_ (v := .int .i64 k) (y_move rfl (by rfl) (by rfl)) ?_
      (try simp only [zP, zN, zA, zB, zC])
      refine pu_ (v := .int .i64 N) (y_move rfl (by rfl) (by rfl)) ?_
      (try simp only [zP, zN, zA, zB, zC])
      refine pu_ (v := .bool false) (y_run (by rfl) (fun W => by have d := D25.out; go_simp)) ?_
      (try simp only [zP, zN, zA, zB, zC])
      refine nl_ (hK85 _ _ ?_); clear hK85 K85
      refine wp_cond_false rfl ?_
      refine wp_exit ?_
      refine th_exit ?_
      refine th_exit ?_
      refine ib_exit ?_
      refine th_norm (hK17 _ _ ?_); try clear hK17 K17
      refine sq_ (fun K86 hK86 => ?_)
      rcases (show r = true ∨ r = false by cases r <;> simp) with hr0 | hr0
      · subst hr0
        have hkN : k = N := HE.out
        subst hkN
        obtain ⟨A, c, hv, -, -⟩ := OL.out.slice
        subst hv
        have HRR := Lib.hid (show respP (opsN k) M from (resp_opsN HML.out).2 (hr.out.1 rfl))
        obtain ⟨m1, hm1⟩ : ∃ m, min k 1 = m := ⟨_, rfl⟩
        have HM1 := Lib.hid hm1
        clear hm1
        have DM1 := Lib.hid (show min (k : Int) 1 = (m1 : Int) by have := HM1.out; omega)
        refine s_ (fun K87 hK87 => ?_)
        refine pu_ (v := .slice A k c) (y_move rfl (by rfl) (by rfl)) ?_
        (try simp only [zP, zN, zA, zB, zC])
        refine ef_ (fun K88 hK88 => ?_)
        refine e_call Try.func28 (by kernel_rfl) rfl #[.slice A k c] (by rfl) rfl rfl (by first | rfl | (simp only [List.map_toArray, List.map_cons, List.map_nil]; first | done | rfl)) ((by have h := width_ (w := w19) (A := A) (c := c) (L := opsN k) (Lib.hid (by rw [opsN_len]; have := HN.out; omega)) (Lib.hid (by simp only [opsN_len]; exact OL.out.src)); rw [opsN_len, wid_opsN, HM1.out] at h; exact h)) ?_
        rintro en w90 ⟨rfl, cc89⟩
        refine ⟨_, rfl, ?_⟩
        have C0' := Lib.hid (show Ch [] w w90 from C0.out.trans' cc89 (fun x hx => absurd hx (by simp)))
        have SM' := Lib.hid (show SrcIs w90 (.slice B M.length d) (M.length) ((M).map (Value.int .i64)) 1 from SM.out.chx cc89 xnin_nil)
        have OL' := Lib.hid (show OwnS w90 w.heap.size 49 28 (.slice A k c) (k) ((opsN k).flatMap opC) from OL.out.ch cc89 rnin_nil)
        clear C0 SM OL
        have C0 := C0'; clear C0'
        have SM := SM'; clear SM'
        have OL := OL'; clear OL'
        clear cc89
        refine hK88 _ _ ?_; clear hK88 K88
        (try simp only [zP, zN, zA, zB, zC])
        refine pu_ (v := .int .i64 k) (y_move rfl (by rfl) (by rfl)) ?_
        (try simp only [zP, zN, zA, zB, zC])
        refine pu_ (v := .int .i64 m1) (y_run (by rfl) (fun W => by have d := DM1.out; have d2 := HM1.out; first | (go_simp; done) | (go_simp; omega) | (go_simp; split <;> omega) | (go_simp; intro h9; omega))) ?_
        (try simp only [zP, zN, zA, zB, zC])
        refine pu_ (v := .bool false) (y_run (by rfl) (fun W => by go_simp)) ?_
        (try simp only [zP, zN, zA, zB, zC])
        refine pu_ (v := .bool false) (y_move rfl (by rfl) (by rfl)) ?_
        (try simp only [zP, zN, zA, zB, zC])
        refine pu_ (v := .slice A k c) (y_move rfl (by rfl) (by rfl)) ?_
        (try simp only [zP, zN, zA, zB, zC])
        refine pu_ (v := .slice B M.length d) (y_move rfl (by rfl) (by rfl)) ?_
        (try simp only [zP, zN, zA, zB, zC])
        refine ef_ (fun K91 hK91 => ?_)
        refine e_call Try.func29 (by kernel_rfl) rfl #[.slice A k c, .slice B M.length d] (by rfl) rfl rfl (by first | rfl | (simp only [List.map_toArray, List.map_cons, List.map_nil]; first | done | rfl)) ((by have h := (ynT (respects_ (w := w90) (A := A) (c := c) (L := opsN k) (Lib.hid (by rw [opsN_len]; have := HN.out; omega)) (Lib.hid (by have := HML.out; have := HN.out; omega)) HD (Lib.hid (by simp only [opsN_len]; exact OL.out.src)) SM) HRR.out); rw [opsN_len] at h; exact h)) ?_
        rintro en w93 ⟨rfl, cc92⟩
        refine ⟨_, rfl, ?_⟩
        have C0' := Lib.hid (show Ch [] w w93 from C0.out.trans' cc92 (fun x hx => absurd hx (by simp)))
        have SM' := Lib.hid (show SrcIs w93 (.slice B M.length d) (M.length) ((M).map (Value.int .i64)) 1 from SM.out.chx cc92 xnin_nil)
        have OL' := Lib.hid (show OwnS w93 w.heap.size 49 28 (.slice A k c) (k) ((opsN k).flatMap opC) from OL.out.ch cc92 rnin_nil)
        clear C0 SM OL
        have C0 := C0'; clear C0'
        have SM := SM'; clear SM'
        have OL := OL'; clear OL'
        clear cc92
        refine hK91 _ _ ?_; clear hK91 K91
        (try simp only [zP, zN, zA, zB, zC])
        refine pu_ (v := .bool true) (y_move rfl (by rfl) (by rfl)) ?_
        (try simp only [zP, zN, zA, zB, zC])
        refine pu_ (v := .bool false) (y_run (by rfl) (fun W => by go_simp)) ?_
        (try simp only [zP, zN, zA, zB, zC])
        refine pu_ (v := .bool false) (y_pick (t := false) (by rfl) rfl (by rfl) (by rfl)) ?_
        (try simp only [zP, zN, zA, zB, zC])
        refine nl_ (hK87 _ _ ?_); clear hK87 K87
        refine wp_cond_false rfl ?_
        refine wp_skip ?_
        refine th_norm (hK86 _ _ ?_); try clear hK86 K86
        refine sq_ (fun K94 hK94 => ?_)
        refine s_ (fun K95 hK95 => ?_)
        refine pu_ (v := .int .i64 0) (y_assign rfl (by rfl) (by rfl)) ?_
        (try simp only [zP, zN, zA, zB, zC])
        refine nl_ (hK95 _ _ ?_); clear hK95 K95
        refine wp_block ?_
        refine loopk_ (fun (jq : Nat) (a' : Act) (w' : World) => ∃ (j : Nat), ∃ (us : Nat → Value), a' = ⟨#[.int .i64 k, us 1, us 2, us 3, .bool false, .slice A k c, us 6, us 7, .int .i64 j, us 9, us 10, us 11, us 12, us 13, us 14, us 15, us 16, us 17, us 18, us 19, us 20, us 21, us 22, us 23, us 24, us 25, us 26, us 27, us 28, us 29, us 30, us 31, us 32, us 33, us 34, us 35, us 36, us 37, us 38, us 39, us 40, us 41, us 42, us 43, us 44, us 45, us 46, us 47, us 48, us 49, us 50, us 51, us 52, us 53, us 54, us 55, us 56, us 57, us 58, us 59, us 60, us 61, us 62, us 63, us 64, us 65, us 66, us 67, us 68, us 69, us 70, us 71, us 72, us 73, us 74], []⟩ ∧ Hid (Ch [] w w') ∧ Hid (OwnS w' w.heap.size 49 28 (.slice A k c) (k) ((opsN k).flatMap opC)) ∧ Hid (j ≤ k ∧ jq + j = k)) (k) (⟨0, fun us_ => (#[.int .i64 k, .slice B M.length d, us 2, us 3, .bool false, .slice A k c, .bool true, .int .i64 k, .int .i64 0, us 9, us 10, us 11, us 12, us 13, us 14, us 15, us 16, us 17, us 18, us 19, us 20, us 21, us 22, .int .i64 k, .int .i64 k, .bool false, us 26, us 27, us 28, us 29, us 30, us 31, us 32, us 33, us 34, us 35, us 36, us 37, us 38, us 39, us 40, us 41, us 42, us 43, us 44, us 45, us 46, us 47, us 48, us 49, us 50, us 51, .slice A k c, .int .i64 m1, .int .i64 k, .int .i64 m1, .bool false, .bool false, .slice A k c, .slice B M.length d, .bool true, .bool true, .bool false, .bool false, us 64, us 65, us 66, us 67, us 68, us 69, us 70, us 71, us 72, us 73, us 74] : Array Value).getD us_ undef, rfl, C0, OL, Lib.hid ⟨by omega, by omega⟩⟩) ?_
        rintro jq _ w96 ⟨j, us, rfl, C0, OL, hj⟩ K97 hK97
        refine sq_ (fun K98 hK98 => ?_)
        rcases Nat.lt_or_ge (j + 1) k with h | h
        · have jlt := Lib.hid h
          clear h
          have Wj := Lib.hid (show IntKind.i64.wrap ((j : Int) + 1) = ((j + 1 : Nat) : Int) by rw [wr64 (by have := HN.out; have := jlt.out; omega)]; omega)
          have D67 := Lib.hid (show ((j + 1 : Nat) : Int) < (k : Int) by have := jlt.out; omega)
          refine s_ (fun K99 hK99 => ?_)
          refine pu_ (v := .int .i64 j) (y_move rfl (by rfl) (by rfl)) ?_
          (try simp only [zP, zN, zA, zB, zC])
          refine pu_ (v := .int .i64 (j + 1 : Nat)) (y_run (by rfl) (fun W => by have d := Wj.out; go_simp)) ?_
          (try simp only [zP, zN, zA, zB, zC])
          refine pu_ (v := .int .i64 k) (y_move rfl (by rfl) (by rfl)) ?_
          (try simp only [zP, zN, zA, zB, zC])
          refine pu_ (v := .bool true) (y_run (by rfl) (fun W => by have d := D67.out; go_simp; omega)) ?_
          (try simp only [zP, zN, zA, zB, zC])
          refine nl_ (hK99 _ _ ?_); clear hK99 K99
          refine wp_cond_true rfl ?_
          refine wp_skip ?_
          refine th_norm (hK98 _ _ ?_); try clear hK98 K98
          refine sq_ (fun K100 hK100 => ?_)
          refine wp_block ?_
          refine s_ (fun K101 hK101 => ?_)
          refine pu_ (v := .slice A k c) (y_move rfl (by rfl) (by rfl)) ?_
          (try simp only [zP, zN, zA, zB, zC])
          refine pu_ (v := .slice A k c) (y_move rfl (by rfl) (by rfl)) ?_
          (try simp only [zP, zN, zA, zB, zC])
          refine ef_ (fun K102 hK102 => ?_)
          refine e_call Try.func31 (by kernel_rfl) rfl #[.slice A k c] (by rfl) rfl rfl (by first | rfl | (simp only [List.map_toArray, List.map_cons, List.map_nil]; first | done | rfl)) ((by have h := order_id (w := w96) (A := A) (c := c) (L := opsN k) (Lib.hid (by rw [opsN_len]; have := HN.out; omega)) (Lib.hid (by rw [opsN_len]; have := HN.out; omega)) (Lib.hid (by rw [opsN_len, done_opsN k k (Nat.le_refl k), List.length_map, List.length_range]; have := jlt.out; omega)) (Lib.hid (sorted_opsN k)) (Lib.hid (by simp only [opsN_len]; exact OL.out.src)); rw [opsN_len, done_opsN k k (Nat.le_refl k)] at h; exact h)) ?_
          rintro en w104 ⟨vo, rfl, OO0, cc103⟩
          refine ⟨_, rfl, ?_⟩
          obtain ⟨Ao, co, hv, ho1, ho2⟩ := OO0.slice
          subst hv
          have C0' := Lib.hid (show Ch [] w w104 from C0.out.trans' cc103 (fun x hx => absurd hx (by simp)))
          have OL' := Lib.hid (show OwnS w104 w.heap.size 49 28 (.slice A k c) (k) ((opsN k).flatMap opC) from OL.out.ch cc103 rnin_nil)
          clear C0 OL
          have C0 := C0'; clear C0'
          have OL := OL'; clear OL'
          clear cc103
          have OO := Lib.hid OO0
          have HO12 := Lib.hid (And.intro ho1 ho2)
          clear OO0 ho1 ho2
          refine hK102 _ _ ?_; clear hK102 K102
          (try simp only [zP, zN, zA, zB, zC])
          refine pu_ (v := .int .i64 j) (y_move rfl (by rfl) (by rfl)) ?_
          (try simp only [zP, zN, zA, zB, zC])
          refine ef_ (fun K105 hK105 => ?_)
          refine e_call Try.func30 (by kernel_rfl) rfl #[.slice A k c, .slice Ao (List.map (fun i : Nat => (i : Int)) (List.range k)).length co, .int .i64 j] (by rfl) rfl rfl (by first | rfl | (simp only [List.map_toArray, List.map_cons, List.map_nil]; first | done | rfl)) ((by have h := swap_no (w := w104) (A := A) (c := c) (L := opsN k) (M := List.map (fun i : Nat => (i : Int)) (List.range k)) (d := co) (B := Ao) (i := j) (y := j) (z := j + 1) (ao := opN j) (bo := opN (j + 1)) (Lib.hid (by rw [opsN_len]; have := HN.out; omega)) (Lib.hid (by rw [xn_len]; have := HN.out; omega)) HO12 (Lib.hid (by rw [xn_len]; exact jlt.out)) (Lib.hid ((resp_opsN (xn_len k)).2 (fun i hi => xn_at hi))) (Lib.hid (xn_at (by have := jlt.out; omega))) (Lib.hid (xn_at jlt.out)) (Lib.hid (opsN_at (by have := jlt.out; omega))) (Lib.hid (opsN_at jlt.out)) (Lib.hid (by rw [may_opN]; exact decide_eq_false (by omega))) (Lib.hid (by simp only [opsN_len]; exact OL.out.src)) (Lib.hid OO.out.src); rw [opsN_len] at h; exact h)) ?_
          rintro en w107 ⟨rfl, cc106⟩
          refine ⟨_, rfl, ?_⟩
          have C0' := Lib.hid (show Ch [] w w107 from C0.out.trans' cc106 (fun x hx => absurd hx (by simp)))
          have OL' := Lib.hid (show OwnS w107 w.heap.size 49 28 (.slice A k c) (k) ((opsN k).flatMap opC) from OL.out.ch cc106 rnin_nil)
          have OO' := Lib.hid (show OwnS w107 w96.heap.size 3 1 (.slice Ao (List.map (fun i : Nat => (i : Int)) (List.range k)).length co) ((List.map (fun i : Nat => (i : Int)) (List.range k)).length) ((List.map (fun i : Nat => (i : Int)) (List.range k)).map (Value.int .i64)) from OO.out.ch cc106 rnin_nil)
          clear C0 OL OO
          have C0 := C0'; clear C0'
          have OL := OL'; clear OL'
          have OO := OO'; clear OO'
          clear cc106
          refine hK105 _ _ ?_; clear hK105 K105
          (try simp only [zP, zN, zA, zB, zC])
          refine nl_ (hK101 _ _ ?_); clear hK101 K101
          refine wp_cond_false rfl ?_
          refine wp_skip ?_
          refine ib_norm ?_
          refine th_norm (hK100 _ _ ?_); try clear hK100 K100
          refine r_ ?_
          refine pu_ (v := .int .i64 j) (y_move rfl (by rfl) (by rfl)) ?_
          (try simp only [zP, zN, zA, zB, zC])
          refine pu_ (v := .int .i64 (j + 1 : Nat)) (y_run (by rfl) (fun W => by have d := Wj.out; go_simp)) ?_
          (try simp only [zP, zN, zA, zB, zC])
          refine pu_ (v := .int .i64 (j + 1 : Nat)) (y_assign rfl (by rfl) (by rfl)) ?_
          (try simp only [zP, zN, zA, zB, zC])
          refine nl_ ?_
          exact th_norm (hK97 (jq - 1) _ _ (by have := jlt.out; have := hj.out; omega) ⟨j + 1, fun us_ => (#[.int .i64 k, us 1, us 2, us 3, .bool false, .slice A k c, us 6, us 7, .int .i64 (j + 1 : Nat), us 9, us 10, us 11, us 12, us 13, us 14, us 15, us 16, us 17, us 18, us 19, us 20, us 21, us 22, us 23, us 24, us 25, us 26, us 27, us 28, us 29, us 30, us 31, us 32, us 33, us 34, us 35, us 36, us 37, us 38, us 39, us 40, us 41, us 42, us 43, us 44, us 45, us 46, us 47, us 48, us 49, us 50, us 51, us 52, us 53, us 54, us 55, us 56, us 57, us 58, us 59, us 60, us 61, us 62, us 63, .int .i64 j, .int .i64 (j + 1 : Nat), .int .i64 k, .bool true, .int .i64 j, .int .i64 (j + 1 : Nat), .slice A k c, .slice A k c, .slice Ao (List.map (fun i : Nat => (i : Int)) (List.range k)).length co, .int .i64 j, .bool false] : Array Value).getD us_ undef, rfl, C0, OL, Lib.hid ⟨by have := jlt.out; omega, by have := jlt.out; have := hj.out; omega⟩⟩)
        · have Wj := Lib.hid (show IntKind.i64.wrap ((j : Int) + 1) = ((j + 1 : Nat) : Int) by rw [wr64 (by have := HN.out; have := hj.out; omega)]; omega)
          have D67 := Lib.hid (show ¬ j + 1 < k by omega)
          clear h
          refine s_ (fun K108 hK108 => ?_)
          refine pu_ (v := .int .i64 j) (y_move rfl (by rfl) (by rfl)) ?_
          (try simp only [zP, zN, zA, zB, zC])
          refine pu_ (v := .int .i64 (j + 1 : Nat)) (y_run (by rfl) (fun W => by have d := Wj.out; go_simp)) ?_
          (try simp only [zP, zN, zA, zB, zC])
          refine pu_ (v := .int .i64 k) (y_move rfl (by rfl) (by rfl)) ?_
          (try simp only [zP, zN, zA, zB, zC])
          refine pu_ (v := .bool false) (y_run (by rfl) (fun W => by have d := D67.out; go_simp; omega)) ?_
          (try simp only [zP, zN, zA, zB, zC])
          refine nl_ (hK108 _ _ ?_); clear hK108 K108
          refine wp_cond_false rfl ?_
          refine wp_exit ?_
          refine th_exit ?_
          refine th_exit ?_
          refine ib_exit ?_
          refine th_norm (hK94 _ _ ?_); try clear hK94 K94
          refine s_ (fun K109 hK109 => ?_)
          refine pu_ (v := .bool true) (y_assign rfl (by rfl) (by rfl)) ?_
          (try simp only [zP, zN, zA, zB, zC])
          refine nl_ (hK109 _ _ ?_); clear hK109 K109
          refine wp_ret ?_
          refine hQ _ _ _ ?_
          refine bodyPost_ret (res1 rfl (rdv_tmp (v := .bool true) (by rfl))) rfl ?_
          exact ⟨rfl, C0.out⟩
      · subst hr0
        have hkN : k = N := HE.out
        subst hkN
        obtain ⟨A, c, hv, -, -⟩ := OL.out.slice
        subst hv
        have HRR := Lib.hid (show ¬ respP (opsN k) M from fun h9 => absurd (hr.out.2 ((resp_opsN HML.out).1 h9)) (by decide))
        obtain ⟨m1, hm1⟩ : ∃ m, min k 1 = m := ⟨_, rfl⟩
        have HM1 := Lib.hid hm1
        clear hm1
        have DM1 := Lib.hid (show min (k : Int) 1 = (m1 : Int) by have := HM1.out; omega)
        refine s_ (fun K110 hK110 => ?_)
        refine pu_ (v := .slice A k c) (y_move rfl (by rfl) (by rfl)) ?_
        (try simp only [zP, zN, zA, zB, zC])
        refine ef_ (fun K111 hK111 => ?_)
        refine e_call Try.func28 (by kernel_rfl) rfl #[.slice A k c] (by rfl) rfl rfl (by first | rfl | (simp only [List.map_toArray, List.map_cons, List.map_nil]; first | done | rfl)) ((by have h := width_ (w := w19) (A := A) (c := c) (L := opsN k) (Lib.hid (by rw [opsN_len]; have := HN.out; omega)) (Lib.hid (by simp only [opsN_len]; exact OL.out.src)); rw [opsN_len, wid_opsN, HM1.out] at h; exact h)) ?_
        rintro en w113 ⟨rfl, cc112⟩
        refine ⟨_, rfl, ?_⟩
        have C0' := Lib.hid (show Ch [] w w113 from C0.out.trans' cc112 (fun x hx => absurd hx (by simp)))
        have SM' := Lib.hid (show SrcIs w113 (.slice B M.length d) (M.length) ((M).map (Value.int .i64)) 1 from SM.out.chx cc112 xnin_nil)
        have OL' := Lib.hid (show OwnS w113 w.heap.size 49 28 (.slice A k c) (k) ((opsN k).flatMap opC) from OL.out.ch cc112 rnin_nil)
        clear C0 SM OL
        have C0 := C0'; clear C0'
        have SM := SM'; clear SM'
        have OL := OL'; clear OL'
        clear cc112
        refine hK111 _ _ ?_; clear hK111 K111
        (try simp only [zP, zN, zA, zB, zC])
        refine pu_ (v := .int .i64 k) (y_move rfl (by rfl) (by rfl)) ?_
        (try simp only [zP, zN, zA, zB, zC])
        refine pu_ (v := .int .i64 m1) (y_run (by rfl) (fun W => by have d := DM1.out; have d2 := HM1.out; first | (go_simp; done) | (go_simp; omega) | (go_simp; split <;> omega) | (go_simp; intro h9; omega))) ?_
        (try simp only [zP, zN, zA, zB, zC])
        refine pu_ (v := .bool false) (y_run (by rfl) (fun W => by go_simp)) ?_
        (try simp only [zP, zN, zA, zB, zC])
        refine pu_ (v := .bool false) (y_move rfl (by rfl) (by rfl)) ?_
        (try simp only [zP, zN, zA, zB, zC])
        refine pu_ (v := .slice A k c) (y_move rfl (by rfl) (by rfl)) ?_
        (try simp only [zP, zN, zA, zB, zC])
        refine pu_ (v := .slice B M.length d) (y_move rfl (by rfl) (by rfl)) ?_
        (try simp only [zP, zN, zA, zB, zC])
        refine ef_ (fun K114 hK114 => ?_)
        refine e_call Try.func29 (by kernel_rfl) rfl #[.slice A k c, .slice B M.length d] (by rfl) rfl rfl (by first | rfl | (simp only [List.map_toArray, List.map_cons, List.map_nil]; first | done | rfl)) ((by have h := (ynF (respects_ (w := w113) (A := A) (c := c) (L := opsN k) (Lib.hid (by rw [opsN_len]; have := HN.out; omega)) (Lib.hid (by have := HML.out; have := HN.out; omega)) HD (Lib.hid (by simp only [opsN_len]; exact OL.out.src)) SM) HRR.out); rw [opsN_len] at h; exact h)) ?_
        rintro en w116 ⟨rfl, cc115⟩
        refine ⟨_, rfl, ?_⟩
        have C0' := Lib.hid (show Ch [] w w116 from C0.out.trans' cc115 (fun x hx => absurd hx (by simp)))
        have SM' := Lib.hid (show SrcIs w116 (.slice B M.length d) (M.length) ((M).map (Value.int .i64)) 1 from SM.out.chx cc115 xnin_nil)
        have OL' := Lib.hid (show OwnS w116 w.heap.size 49 28 (.slice A k c) (k) ((opsN k).flatMap opC) from OL.out.ch cc115 rnin_nil)
        clear C0 SM OL
        have C0 := C0'; clear C0'
        have SM := SM'; clear SM'
        have OL := OL'; clear OL'
        clear cc115
        refine hK114 _ _ ?_; clear hK114 K114
        (try simp only [zP, zN, zA, zB, zC])
        refine pu_ (v := .bool false) (y_move rfl (by rfl) (by rfl)) ?_
        (try simp only [zP, zN, zA, zB, zC])
        refine pu_ (v := .bool false) (y_run (by rfl) (fun W => by go_simp)) ?_
        (try simp only [zP, zN, zA, zB, zC])
        refine pu_ (v := .bool false) (y_pick (t := false) (by rfl) rfl (by rfl) (by rfl)) ?_
        (try simp only [zP, zN, zA, zB, zC])
        refine nl_ (hK110 _ _ ?_); clear hK110 K110
        refine wp_cond_false rfl ?_
        refine wp_skip ?_
        refine th_norm (hK86 _ _ ?_); try clear hK86 K86
        refine sq_ (fun K117 hK117 => ?_)
        refine s_ (fun K118 hK118 => ?_)
        refine pu_ (v := .int .i64 0) (y_assign rfl (by rfl) (by rfl)) ?_
        (try simp only [zP, zN, zA, zB, zC])
        refine nl_ (hK118 _ _ ?_); clear hK118 K118
        refine wp_block ?_
        refine loopk_ (fun (jq : Nat) (a' : Act) (w' : World) => ∃ (j : Nat), ∃ (us : Nat → Value), a' = ⟨#[.int .i64 k, us 1, us 2, us 3, .bool false, .slice A k c, us 6, us 7, .int .i64 j, us 9, us 10, us 11, us 12, us 13, us 14, us 15, us 16, us 17, us 18, us 19, us 20, us 21, us 22, us 23, us 24, us 25, us 26, us 27, us 28, us 29, us 30, us 31, us 32, us 33, us 34, us 35, us 36, us 37, us 38, us 39, us 40, us 41, us 42, us 43, us 44, us 45, us 46, us 47, us 48, us 49, us 50, us 51, us 52, us 53, us 54, us 55, us 56, us 57, us 58, us 59, us 60, us 61, us 62, us 63, us 64, us 65, us 66, us 67, us 68, us 69, us 70, us 71, us 72, us 73, us 74], []⟩ ∧ Hid (Ch [] w w') ∧ Hid (OwnS w' w.heap.size 49 28 (.slice A k c) (k) ((opsN k).flatMap opC)) ∧ Hid (j ≤ k ∧ jq + j = k)) (k) (⟨0, fun us_ => (#[.int .i64 k, .slice B M.length d, us 2, us 3, .bool false, .slice A k c, .bool false, .int .i64 k, .int .i64 0, us 9, us 10, us 11, us 12, us 13, us 14, us 15, us 16, us 17, us 18, us 19, us 20, us 21, us 22, .int .i64 k, .int .i64 k, .bool false, us 26, us 27, us 28, us 29, us 30, us 31, us 32, us 33, us 34, us 35, us 36, us 37, us 38, us 39, us 40, us 41, us 42, us 43, us 44, us 45, us 46, us 47, us 48, us 49, us 50, us 51, .slice A k c, .int .i64 m1, .int .i64 k, .int .i64 m1, .bool false, .bool false, .slice A k c, .slice B M.length d, .bool false, .bool false, .bool false, .bool false, us 64, us 65, us 66, us 67, us 68, us 69, us 70, us 71, us 72, us 73, us 74] : Array Value).getD us_ undef, rfl, C0, OL, Lib.hid ⟨by omega, by omega⟩⟩) ?_
        rintro jq _ w119 ⟨j, us, rfl, C0, OL, hj⟩ K120 hK120
        refine sq_ (fun K121 hK121 => ?_)
        rcases Nat.lt_or_ge (j + 1) k with h | h
        · have jlt := Lib.hid h
          clear h
          have Wj := Lib.hid (show IntKind.i64.wrap ((j : Int) + 1) = ((j + 1 : Nat) : Int) by rw [wr64 (by have := HN.out; have := jlt.out; omega)]; omega)
          have D67 := Lib.hid (show ((j + 1 : Nat) : Int) < (k : Int) by have := jlt.out; omega)
          refine s_ (fun K122 hK122 => ?_)
          refine pu_ (v := .int .i64 j) (y_move rfl (by rfl) (by rfl)) ?_
          (try simp only [zP, zN, zA, zB, zC])
          refine pu_ (v := .int .i64 (j + 1 : Nat)) (y_run (by rfl) (fun W => by have d := Wj.out; go_simp)) ?_
          (try simp only [zP, zN, zA, zB, zC])
          refine pu_ (v := .int .i64 k) (y_move rfl (by rfl) (by rfl)) ?_
          (try simp only [zP, zN, zA, zB, zC])
          refine pu_ (v := .bool true) (y_run (by rfl) (fun W => by have d := D67.out; go_simp; omega)) ?_
          (try simp only [zP, zN, zA, zB, zC])
          refine nl_ (hK122 _ _ ?_); clear hK122 K122
          refine wp_cond_true rfl ?_
          refine wp_skip ?_
          refine th_norm (hK121 _ _ ?_); try clear hK121 K121
          refine sq_ (fun K123 hK123 => ?_)
          refine wp_block ?_
          refine s_ (fun K124 hK124 => ?_)
          refine pu_ (v := .slice A k c) (y_move rfl (by rfl) (by rfl)) ?_
          (try simp only [zP, zN, zA, zB, zC])
          refine pu_ (v := .slice A k c) (y_move rfl (by rfl) (by rfl)) ?_
          (try simp only [zP, zN, zA, zB, zC])
          refine ef_ (fun K125 hK125 => ?_)
          refine e_call Try.func31 (by kernel_rfl) rfl #[.slice A k c] (by rfl) rfl rfl (by first | rfl | (simp only [List.map_toArray, List.map_cons, List.map_nil]; first | done | rfl)) ((by have h := order_id (w := w119) (A := A) (c := c) (L := opsN k) (Lib.hid (by rw [opsN_len]; have := HN.out; omega)) (Lib.hid (by rw [opsN_len]; have := HN.out; omega)) (Lib.hid (by rw [opsN_len, done_opsN k k (Nat.le_refl k), List.length_map, List.length_range]; have := jlt.out; omega)) (Lib.hid (sorted_opsN k)) (Lib.hid (by simp only [opsN_len]; exact OL.out.src)); rw [opsN_len, done_opsN k k (Nat.le_refl k)] at h; exact h)) ?_
          rintro en w127 ⟨vo, rfl, OO0, cc126⟩
          refine ⟨_, rfl, ?_⟩
          obtain ⟨Ao, co, hv, ho1, ho2⟩ := OO0.slice
          subst hv
          have C0' := Lib.hid (show Ch [] w w127 from C0.out.trans' cc126 (fun x hx => absurd hx (by simp)))
          have OL' := Lib.hid (show OwnS w127 w.heap.size 49 28 (.slice A k c) (k) ((opsN k).flatMap opC) from OL.out.ch cc126 rnin_nil)
          clear C0 OL
          have C0 := C0'; clear C0'
          have OL := OL'; clear OL'
          clear cc126
          have OO := Lib.hid OO0
          have HO12 := Lib.hid (And.intro ho1 ho2)
          clear OO0 ho1 ho2
          refine hK125 _ _ ?_; clear hK125 K125
          (try simp only [zP, zN, zA, zB, zC])
          refine pu_ (v := .int .i64 j) (y_move rfl (by rfl) (by rfl)) ?_
          (try simp only [zP, zN, zA, zB, zC])
          refine ef_ (fun K128 hK128 => ?_)
          refine e_call Try.func30 (by kernel_rfl) rfl #[.slice A k c, .slice Ao (List.map (fun i : Nat => (i : Int)) (List.range k)).length co, .int .i64 j] (by rfl) rfl rfl (by first | rfl | (simp only [List.map_toArray, List.map_cons, List.map_nil]; first | done | rfl)) ((by have h := swap_no (w := w127) (A := A) (c := c) (L := opsN k) (M := List.map (fun i : Nat => (i : Int)) (List.range k)) (d := co) (B := Ao) (i := j) (y := j) (z := j + 1) (ao := opN j) (bo := opN (j + 1)) (Lib.hid (by rw [opsN_len]; have := HN.out; omega)) (Lib.hid (by rw [xn_len]; have := HN.out; omega)) HO12 (Lib.hid (by rw [xn_len]; exact jlt.out)) (Lib.hid ((resp_opsN (xn_len k)).2 (fun i hi => xn_at hi))) (Lib.hid (xn_at (by have := jlt.out; omega))) (Lib.hid (xn_at jlt.out)) (Lib.hid (opsN_at (by have := jlt.out; omega))) (Lib.hid (opsN_at jlt.out)) (Lib.hid (by rw [may_opN]; exact decide_eq_false (by omega))) (Lib.hid (by simp only [opsN_len]; exact OL.out.src)) (Lib.hid OO.out.src); rw [opsN_len] at h; exact h)) ?_
          rintro en w130 ⟨rfl, cc129⟩
          refine ⟨_, rfl, ?_⟩
          have C0' := Lib.hid (show Ch [] w w130 from C0.out.trans' cc129 (fun x hx => absurd hx (by simp)))
          have OL' := Lib.hid (show OwnS w130 w.heap.size 49 28 (.slice A k c) (k) ((opsN k).flatMap opC) from OL.out.ch cc129 rnin_nil)
          have OO' := Lib.hid (show OwnS w130 w119.heap.size 3 1 (.slice Ao (List.map (fun i : Nat => (i : Int)) (List.range k)).length co) ((List.map (fun i : Nat => (i : Int)) (List.range k)).length) ((List.map (fun i : Nat => (i : Int)) (List.range k)).map (Value.int .i64)) from OO.out.ch cc129 rnin_nil)
          clear C0 OL OO
          have C0 := C0'; clear C0'
          have OL := OL'; clear OL'
          have OO := OO'; clear OO'
          clear cc129
          refine hK128 _ _ ?_; clear hK128 K128
          (try simp only [zP, zN, zA, zB, zC])
          refine nl_ (hK124 _ _ ?_); clear hK124 K124
          refine wp_cond_false rfl ?_
          refine wp_skip ?_
          refine ib_norm ?_
          refine th_norm (hK123 _ _ ?_); try clear hK123 K123
          refine r_ ?_
          refine pu_ (v := .int .i64 j) (y_move rfl (by rfl) (by rfl)) ?_
          (try simp only [zP, zN, zA, zB, zC])
          refine pu_ (v := .int .i64 (j + 1 : Nat)) (y_run (by rfl) (fun W => by have d := Wj.out; go_simp)) ?_
          (try simp only [zP, zN, zA, zB, zC])
          refine pu_ (v := .int .i64 (j + 1 : Nat)) (y_assign rfl (by rfl) (by rfl)) ?_
          (try simp only [zP, zN, zA, zB, zC])
          refine nl_ ?_
          exact th_norm (hK120 (jq - 1) _ _ (by have := jlt.out; have := hj.out; omega) ⟨j + 1, fun us_ => (#[.int .i64 k, us 1, us 2, us 3, .bool false, .slice A k c, us 6, us 7, .int .i64 (j + 1 : Nat), us 9, us 10, us 11, us 12, us 13, us 14, us 15, us 16, us 17, us 18, us 19, us 20, us 21, us 22, us 23, us 24, us 25, us 26, us 27, us 28, us 29, us 30, us 31, us 32, us 33, us 34, us 35, us 36, us 37, us 38, us 39, us 40, us 41, us 42, us 43, us 44, us 45, us 46, us 47, us 48, us 49, us 50, us 51, us 52, us 53, us 54, us 55, us 56, us 57, us 58, us 59, us 60, us 61, us 62, us 63, .int .i64 j, .int .i64 (j + 1 : Nat), .int .i64 k, .bool true, .int .i64 j, .int .i64 (j + 1 : Nat), .slice A k c, .slice A k c, .slice Ao (List.map (fun i : Nat => (i : Int)) (List.range k)).length co, .int .i64 j, .bool false] : Array Value).getD us_ undef, rfl, C0, OL, Lib.hid ⟨by have := jlt.out; omega, by have := jlt.out; have := hj.out; omega⟩⟩)
        · have Wj := Lib.hid (show IntKind.i64.wrap ((j : Int) + 1) = ((j + 1 : Nat) : Int) by rw [wr64 (by have := HN.out; have := hj.out; omega)]; omega)
          have D67 := Lib.hid (show ¬ j + 1 < k by omega)
          clear h
          refine s_ (fun K131 hK131 => ?_)
          refine pu_ (v := .int .i64 j) (y_move rfl (by rfl) (by rfl)) ?_
          (try simp only [zP, zN, zA, zB, zC])
          refine pu_ (v := .int .i64 (j + 1 : Nat)) (y_run (by rfl) (fun W => by have d := Wj.out; go_simp)) ?_
          (try simp only [zP, zN, zA, zB, zC])
          refine pu_ (v := .int .i64 k) (y_move rfl (by rfl) (by rfl)) ?_
          (try simp only [zP, zN, zA, zB, zC])
          refine pu_ (v := .bool false) (y_run (by rfl) (fun W => by have d := D67.out; go_simp; omega)) ?_
          (try simp only [zP, zN, zA, zB, zC])
          refine nl_ (hK131 _ _ ?_); clear hK131 K131
          refine wp_cond_false rfl ?_
          refine wp_exit ?_
          refine th_exit ?_
          refine th_exit ?_
          refine ib_exit ?_
          refine th_norm (hK117 _ _ ?_); try clear hK117 K117
          refine s_ (fun K132 hK132 => ?_)
          refine pu_ (v := .bool true) (y_assign rfl (by rfl) (by rfl)) ?_
          (try simp only [zP, zN, zA, zB, zC])
          refine nl_ (hK132 _ _ ?_); clear hK132 K132
          refine wp_ret ?_
          refine hQ _ _ _ ?_
          refine bodyPost_ret (res1 rfl (rdv_tmp (v := .bool true) (by rfl))) rfl ?_
          exact ⟨rfl, C0.out⟩
end
end Go.Proofs.Ytggcpbnlblbpjaa.L
