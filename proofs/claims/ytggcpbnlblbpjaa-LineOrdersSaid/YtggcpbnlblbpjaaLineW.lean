/- The walks of the example of package line, and of the law LineOne. -/
import Derived.Test.YtggcpbnlblbpjaaLineA
namespace Go.Proofs.Ytggcpbnlblbpjaa.L
open Go Go.RowKit Go.Proofs.Ytggcpbnlblbpjaa.K Go.Proofs.Ytggcpbnlblbpjaa.H Go.Proofs.YtggcpbnlblbpjaaW.PrintLast
set_option linter.unusedVariables false
set_option linter.unusedSimpArgs false
set_option maxRecDepth 100000
set_option maxHeartbeats 1600000
def wa : HOp := ⟨0, 0, 1, 2, 3, ZC, ZR⟩
def wb : HOp := ⟨0, 0, 5, 6, 0, ZC, ZR⟩
theorem w01 : respP [wa, wb] [0, 1] := by
  refine ⟨⟨by simp, by decide⟩, fun i j h1 h2 y z e1 e2 a b e3 e4 => ?_⟩
  have hj := (List.getElem?_eq_some_iff.1 e2).1
  simp only [List.length_cons, List.length_nil] at hj
  obtain rfl : j = 1 := by omega
  obtain rfl : i = 0 := by omega
  simp at e1 e2
  subst e1 e2
  simp at e3 e4
  subst e3 e4
  rfl
theorem w10 : ¬ respP [wa, wb] [1, 0] := fun h => by
  have := h.2 0 1 (by decide) (by decide) 1 0 rfl rfl wb wa rfl rfl
  exact absurd this (by decide)
section
variable {w : World}
theorem works_   :
    Calls Try.prog 27 #[] w fun en w' => en = .returned (.bool true) ∧ Ch [] w w' := by
  have C0 := Lib.hid (Ch.refl [] w)
  obtain ⟨i3, I3⟩ := Info.of info3
  obtain ⟨i49, I49⟩ := Info.of info49
  go_enter Try.func27, Try.ntmps27
  refine q_ (fun Q hQ hP => ?_)
  refine s_ (fun K1 hK1 => ?_)
  refine pu_ (v := .bool false) (y_assign rfl (by rfl) (by rfl)) ?_
  (try simp only [zP, zN, zA, zB, zC])
  refine nl_ (hK1 _ _ ?_); clear hK1 K1
  refine s_ (fun K2 hK2 => ?_)
  refine pu_ (v := .agg (opC wa).toArray) (y_build (vs := #[(2, .int .i64 1), (3, .int .i64 2), (4, .int .i64 3)]) (by rfl) rfl (by first | rfl | (simp only [List.map_toArray, List.map_cons, List.map_nil]; first | done | rfl)) (by kernel_rfl)) ?_
  (try simp only [zP, zN, zA, zB, zC])
  refine pu_ (v := .agg (opC wb).toArray) (y_build (vs := #[(2, .int .i64 5), (3, .int .i64 6)]) (by rfl) rfl (by first | rfl | (simp only [List.map_toArray, List.map_cons, List.map_nil]; first | done | rfl)) (by kernel_rfl)) ?_
  (try simp only [zP, zN, zA, zB, zC])
  refine ef_ (fun K3 hK3 => ?_)
  refine e_alloc (by rfl) rfl rfl (cs := #[.int .i64 0, .int .i64 0, .int .i64 0, .int .i64 0, .int .i64 0, .int .i64 0, .int .i64 0, .int .u64 0, .string ⟨#[]⟩, .slice none 0 0, .slice none 0 0, .slice none 0 0, .int .i64 0, .int .i64 0, .int .i64 0, .int .i64 0, .int .i64 0, .int .i64 0, .int .i64 0, .string ⟨#[]⟩, .slice none 0 0, .int .i64 0, .int .i64 0, .int .i64 0, .int .u64 0, .string ⟨#[]⟩, .slice none 0 0, .slice none 0 0]) (by kernel_rfl) ?_
  rintro g4 w5 HG6 B7 C8
  have nw9 := Lib.hid (show w.heap.size ≤ g4 by have := C0.out.size; have := HG6.out; omega)
  have C0' := Lib.hid (show Ch [] w w5 from C0.out.trans' C8 (fun x hx => absurd hx (by simp)))
  clear C0
  have C0 := C0'; clear C0'
  have Fg4 := Lib.hid (show Blk w5 g4 (#[.int .i64 0, .int .i64 0, .int .i64 0, .int .i64 0, .int .i64 0, .int .i64 0, .int .i64 0, .int .u64 0, .string ⟨#[]⟩, .slice none 0 0, .slice none 0 0, .slice none 0 0, .int .i64 0, .int .i64 0, .int .i64 0, .int .i64 0, .int .i64 0, .int .i64 0, .int .i64 0, .string ⟨#[]⟩, .slice none 0 0, .int .i64 0, .int .i64 0, .int .i64 0, .int .u64 0, .string ⟨#[]⟩, .slice none 0 0, .slice none 0 0]) 49 from B7); clear B7 C8
  refine hK3 _ _ ?_; clear hK3 K3
  (try simp only [zP, zN, zA, zB, zC])
  refine ef_ (fun K10 hK10 => ?_)
  refine e_alloc (by rfl) rfl rfl (cs := #[.int .i64 0, .int .i64 0, .int .i64 0, .int .i64 0, .int .i64 0, .int .i64 0, .int .i64 0, .int .u64 0, .string ⟨#[]⟩, .slice none 0 0, .slice none 0 0, .slice none 0 0, .int .i64 0, .int .i64 0, .int .i64 0, .int .i64 0, .int .i64 0, .int .i64 0, .int .i64 0, .string ⟨#[]⟩, .slice none 0 0, .int .i64 0, .int .i64 0, .int .i64 0, .int .u64 0, .string ⟨#[]⟩, .slice none 0 0, .slice none 0 0]) (by kernel_rfl) ?_
  rintro g11 w12 HG13 B14 C15
  have nw16 := Lib.hid (show w.heap.size ≤ g11 by have := C0.out.size; have := HG13.out; omega)
  have ne17 := Lib.hid (Fg4.out.ne_new HG13)
  have C0' := Lib.hid (show Ch [] w w12 from C0.out.trans' C15 (fun x hx => absurd hx (by simp)))
  have Fg4' := Lib.hid (show Blk w12 g4 (#[.int .i64 0, .int .i64 0, .int .i64 0, .int .i64 0, .int .i64 0, .int .i64 0, .int .i64 0, .int .u64 0, .string ⟨#[]⟩, .slice none 0 0, .slice none 0 0, .slice none 0 0, .int .i64 0, .int .i64 0, .int .i64 0, .int .i64 0, .int .i64 0, .int .i64 0, .int .i64 0, .string ⟨#[]⟩, .slice none 0 0, .int .i64 0, .int .i64 0, .int .i64 0, .int .u64 0, .string ⟨#[]⟩, .slice none 0 0, .slice none 0 0]) 49 from C15.blk Fg4.out nin_nil)
  clear C0 Fg4
  have C0 := C0'; clear C0'
  have Fg4 := Fg4'; clear Fg4'
  have Fg11 := Lib.hid (show Blk w12 g11 (#[.int .i64 0, .int .i64 0, .int .i64 0, .int .i64 0, .int .i64 0, .int .i64 0, .int .i64 0, .int .u64 0, .string ⟨#[]⟩, .slice none 0 0, .slice none 0 0, .slice none 0 0, .int .i64 0, .int .i64 0, .int .i64 0, .int .i64 0, .int .i64 0, .int .i64 0, .int .i64 0, .string ⟨#[]⟩, .slice none 0 0, .int .i64 0, .int .i64 0, .int .i64 0, .int .u64 0, .string ⟨#[]⟩, .slice none 0 0, .slice none 0 0]) 49 from B14); clear B14 C15
  refine hK10 _ _ ?_; clear hK10 K10
  (try simp only [zP, zN, zA, zB, zC])
  refine ef_ (fun K18 hK18 => ?_)
  refine e_storeN (cells := (opC wa).toArray) (by rfl) rfl rfl (by rfl) (by rfl) Fg4.out (sz49 wa) (by rw [show (opC wa).toArray.size = 28 by rw [List.size_toArray, opC_len]]; rfl) (by simpa using opC_one wa) ?_
  rintro w19 B20 C21
  have C0' := Lib.hid (show Ch [] w w19 from C0.out.trans' C21 (inw_cons (.inr nw9.out) inw_nil))
  have Fg11' := Lib.hid (show Blk w19 g11 (#[.int .i64 0, .int .i64 0, .int .i64 0, .int .i64 0, .int .i64 0, .int .i64 0, .int .i64 0, .int .u64 0, .string ⟨#[]⟩, .slice none 0 0, .slice none 0 0, .slice none 0 0, .int .i64 0, .int .i64 0, .int .i64 0, .int .i64 0, .int .i64 0, .int .i64 0, .int .i64 0, .string ⟨#[]⟩, .slice none 0 0, .int .i64 0, .int .i64 0, .int .i64 0, .int .u64 0, .string ⟨#[]⟩, .slice none 0 0, .slice none 0 0]) 49 from C21.blk Fg11.out (nin_cons (Ne.symm ne17.out) nin_nil))
  clear C0 Fg11
  have C0 := C0'; clear C0'
  have Fg11 := Fg11'; clear Fg11'
  clear Fg4; have Fg4 := Lib.hid (show Blk w19 g4 ((opC wa).toArray) 49 from B20); clear B20 C21
  refine hK18 _ _ ?_; clear hK18 K18
  (try simp only [zP, zN, zA, zB, zC])
  refine ef_ (fun K22 hK22 => ?_)
  refine e_storeN (cells := (opC wb).toArray) (by rfl) rfl rfl (by rfl) (by rfl) Fg11.out (sz49 wb) (by rw [show (opC wb).toArray.size = 28 by rw [List.size_toArray, opC_len]]; rfl) (by simpa using opC_one wb) ?_
  rintro w23 B24 C25
  have C0' := Lib.hid (show Ch [] w w23 from C0.out.trans' C25 (inw_cons (.inr nw16.out) inw_nil))
  have Fg4' := Lib.hid (show Blk w23 g4 ((opC wa).toArray) 49 from C25.blk Fg4.out (nin_cons ne17.out nin_nil))
  clear C0 Fg4
  have C0 := C0'; clear C0'
  have Fg4 := Fg4'; clear Fg4'
  clear Fg11; have Fg11 := Lib.hid (show Blk w23 g11 ((opC wb).toArray) 49 from B24); clear B24 C25
  refine hK22 _ _ ?_; clear hK22 K22
  (try simp only [zP, zN, zA, zB, zC])
  refine nl_ (hK2 _ _ ?_); clear hK2 K2
  refine s_ (fun K26 hK26 => ?_)
  refine ld_ (v := .agg (opC wa).toArray) rfl (by rfl) (by rfl) (run_loadVar_row _ _ 49 49 ((opC wa).toArray) (0, 0) _ Fg4.out Try.underlying49 rfl (sz49 wa)) ?_
  (try simp only [zP, zN, zA, zB, zC])
  refine ld_ (v := .agg (opC wb).toArray) rfl (by rfl) (by rfl) (run_loadVar_row _ _ 49 49 ((opC wb).toArray) (0, 0) _ Fg11.out Try.underlying49 rfl (sz49 wb)) ?_
  (try simp only [zP, zN, zA, zB, zC])
  refine ef_ (fun K27 hK27 => ?_)
  refine e_call Try.func33 (by kernel_rfl) rfl #[.agg (opC wa).toArray, .agg (opC wb).toArray] (by rfl) rfl rfl (by first | rfl | (simp only [List.map_toArray, List.map_cons, List.map_nil]; first | done | rfl)) ((by have h := may_ (w := w23) wa wb; rw [show mayB wa wb = true from by decide] at h; exact h)) ?_
  rintro en w29 ⟨rfl, cc28⟩
  refine ⟨_, rfl, ?_⟩
  have C0' := Lib.hid (show Ch [] w w29 from C0.out.trans' cc28 (fun x hx => absurd hx (by simp)))
  have Fg4' := Lib.hid (show Blk w29 g4 ((opC wa).toArray) 49 from cc28.blk Fg4.out nin_nil)
  have Fg11' := Lib.hid (show Blk w29 g11 ((opC wb).toArray) 49 from cc28.blk Fg11.out nin_nil)
  clear C0 Fg4 Fg11
  have C0 := C0'; clear C0'
  have Fg4 := Fg4'; clear Fg4'
  have Fg11 := Fg11'; clear Fg11'
  clear cc28
  refine hK27 _ _ ?_; clear hK27 K27
  (try simp only [zP, zN, zA, zB, zC])
  refine pu_ (v := .bool true) (y_move rfl (by rfl) (by rfl)) ?_
  (try simp only [zP, zN, zA, zB, zC])
  refine ld_ (v := .agg (opC wb).toArray) rfl (by rfl) (by rfl) (run_loadVar_row _ _ 49 49 ((opC wb).toArray) (0, 0) _ Fg11.out Try.underlying49 rfl (sz49 wb)) ?_
  (try simp only [zP, zN, zA, zB, zC])
  refine ld_ (v := .agg (opC wa).toArray) rfl (by rfl) (by rfl) (run_loadVar_row _ _ 49 49 ((opC wa).toArray) (0, 0) _ Fg4.out Try.underlying49 rfl (sz49 wa)) ?_
  (try simp only [zP, zN, zA, zB, zC])
  refine ef_ (fun K30 hK30 => ?_)
  refine e_call Try.func33 (by kernel_rfl) rfl #[.agg (opC wb).toArray, .agg (opC wa).toArray] (by rfl) rfl rfl (by first | rfl | (simp only [List.map_toArray, List.map_cons, List.map_nil]; first | done | rfl)) ((by have h := may_ (w := w29) wb wa; rw [show mayB wb wa = false from by decide] at h; exact h)) ?_
  rintro en w32 ⟨rfl, cc31⟩
  refine ⟨_, rfl, ?_⟩
  have C0' := Lib.hid (show Ch [] w w32 from C0.out.trans' cc31 (fun x hx => absurd hx (by simp)))
  have Fg4' := Lib.hid (show Blk w32 g4 ((opC wa).toArray) 49 from cc31.blk Fg4.out nin_nil)
  have Fg11' := Lib.hid (show Blk w32 g11 ((opC wb).toArray) 49 from cc31.blk Fg11.out nin_nil)
  clear C0 Fg4 Fg11
  have C0 := C0'; clear C0'
  have Fg4 := Fg4'; clear Fg4'
  have Fg11 := Fg11'; clear Fg11'
  clear cc31
  refine hK30 _ _ ?_; clear hK30 K30
  (try simp only [zP, zN, zA, zB, zC])
  refine pu_ (v := .bool true) (y_run (by rfl) (fun W => by go_simp)) ?_
  (try simp only [zP, zN, zA, zB, zC])
  refine pu_ (v := .bool true) (y_pick (t := true) (by rfl) rfl (by rfl) (by rfl)) ?_
  (try simp only [zP, zN, zA, zB, zC])
  refine pu_ (v := .bool true) (y_move rfl (by rfl) (by rfl)) ?_
  (try simp only [zP, zN, zA, zB, zC])
  refine ld_ (v := .agg (opC wa).toArray) rfl (by rfl) (by rfl) (run_loadVar_row _ _ 49 49 ((opC wa).toArray) (0, 0) _ Fg4.out Try.underlying49 rfl (sz49 wa)) ?_
  (try simp only [zP, zN, zA, zB, zC])
  refine ld_ (v := .agg (opC wb).toArray) rfl (by rfl) (by rfl) (run_loadVar_row _ _ 49 49 ((opC wb).toArray) (0, 0) _ Fg11.out Try.underlying49 rfl (sz49 wb)) ?_
  (try simp only [zP, zN, zA, zB, zC])
  refine ef_ (fun K33 hK33 => ?_)
  refine e_buildS (parts := #[(0, .agg (opC wa).toArray), (1, .agg (opC wb).toArray)]) (cells := (opC wa ++ opC wb).toArray) (by rfl) rfl rfl (by first | rfl | (simp only [List.map_toArray, List.map_cons, List.map_nil]; first | done | rfl)) Try.underlying45 I49.hi I49.hz I49.hs (by decide) (by decide) (by kernel_rfl) ?_
  rintro g38 w34 HG35 B36 C37
  have nw39 := Lib.hid (show w.heap.size ≤ g38 by have := C0.out.size; have := HG35.out; omega)
  have ne40 := Lib.hid (Fg4.out.ne_new HG35)
  have ne41 := Lib.hid (Fg11.out.ne_new HG35)
  have C0' := Lib.hid (show Ch [] w w34 from C0.out.trans' C37 (fun x hx => absurd hx (by simp)))
  have Fg4' := Lib.hid (show Blk w34 g4 ((opC wa).toArray) 49 from C37.blk Fg4.out nin_nil)
  have Fg11' := Lib.hid (show Blk w34 g11 ((opC wb).toArray) 49 from C37.blk Fg11.out nin_nil)
  clear C0 Fg4 Fg11
  have C0 := C0'; clear C0'
  have Fg4 := Fg4'; clear Fg4'
  have Fg11 := Fg11'; clear Fg11'
  have S1 := Lib.hid (show SrcIs w34 (.slice (some ⟨g38, 0, none⟩) 2 2) (2) (([wa, wb]).flatMap opC) 28 from ⟨rfl, .inr ⟨_, _, rfl, CellsAt.blk B36 0⟩⟩); clear B36 C37
  refine hK33 _ _ ?_; clear hK33 K33
  (try simp only [zP, zN, zA, zB, zC])
  refine ef_ (fun K42 hK42 => ?_)
  refine e_buildS (parts := #[(0, .int .i64 0), (1, .int .i64 1)]) (cells := #[.int .i64 0, .int .i64 1]) (by rfl) rfl rfl (by first | rfl | (simp only [List.map_toArray, List.map_cons, List.map_nil]; first | done | rfl)) Try.underlying44 I3.hi I3.hz I3.hs (by decide) (by decide) (by kernel_rfl) ?_
  rintro g43 w44 HG45 B46 C47
  have nw48 := Lib.hid (show w.heap.size ≤ g43 by have := C0.out.size; have := HG45.out; omega)
  have nx49 := Lib.hid (S1.out.ne_new (by decide) HG45)
  have C0' := Lib.hid (show Ch [] w w44 from C0.out.trans' C47 (fun x hx => absurd hx (by simp)))
  have Fg4' := Lib.hid (show Blk w44 g4 ((opC wa).toArray) 49 from C47.blk Fg4.out nin_nil)
  have Fg11' := Lib.hid (show Blk w44 g11 ((opC wb).toArray) 49 from C47.blk Fg11.out nin_nil)
  have S1' := Lib.hid (show SrcIs w44 (.slice (some ⟨g38, 0, none⟩) 2 2) (2) (([wa, wb]).flatMap opC) 28 from S1.out.chx C47 xnin_nil)
  clear C0 Fg4 Fg11 S1
  have C0 := C0'; clear C0'
  have Fg4 := Fg4'; clear Fg4'
  have Fg11 := Fg11'; clear Fg11'
  have S1 := S1'; clear S1'
  have Fg43 := Lib.hid (show Blk w44 g43 (#[.int .i64 0, .int .i64 1]) 3 from B46); clear B46 C47
  refine hK42 _ _ ?_; clear hK42 K42
  (try simp only [zP, zN, zA, zB, zC])
  refine ef_ (fun K50 hK50 => ?_)
  refine e_call Try.func29 (by kernel_rfl) rfl #[.slice (some ⟨g38, 0, none⟩) 2 2, .slice (some ⟨g43, 0, none⟩) 2 2] (by rfl) rfl rfl (by first | rfl | (simp only [List.map_toArray, List.map_cons, List.map_nil]; first | done | rfl)) ((ynT (respects_ (w := w44) (L := [wa, wb]) (M := [0, 1]) (Lib.hid (by decide)) (Lib.hid (by decide)) (Lib.hid ⟨by decide, by decide⟩) S1 (Lib.hid ⟨rfl, .inr ⟨_, _, rfl, CellsAt.blk Fg43.out 0⟩⟩)) w01)) ?_
  rintro en w52 ⟨rfl, cc51⟩
  refine ⟨_, rfl, ?_⟩
  have C0' := Lib.hid (show Ch [] w w52 from C0.out.trans' cc51 (fun x hx => absurd hx (by simp)))
  have Fg4' := Lib.hid (show Blk w52 g4 ((opC wa).toArray) 49 from cc51.blk Fg4.out nin_nil)
  have Fg11' := Lib.hid (show Blk w52 g11 ((opC wb).toArray) 49 from cc51.blk Fg11.out nin_nil)
  have S1' := Lib.hid (show SrcIs w52 (.slice (some ⟨g38, 0, none⟩) 2 2) (2) (([wa, wb]).flatMap opC) 28 from S1.out.chx cc51 xnin_nil)
  have Fg43' := Lib.hid (show Blk w52 g43 (#[.int .i64 0, .int .i64 1]) 3 from cc51.blk Fg43.out nin_nil)
  clear C0 Fg4 Fg11 S1 Fg43
  have C0 := C0'; clear C0'
  have Fg4 := Fg4'; clear Fg4'
  have Fg11 := Fg11'; clear Fg11'
  have S1 := S1'; clear S1'
  have Fg43 := Fg43'; clear Fg43'
  clear cc51
  refine hK50 _ _ ?_; clear hK50 K50
  (try simp only [zP, zN, zA, zB, zC])
  refine pu_ (v := .bool true) (y_pick (t := true) (by rfl) rfl (by rfl) (by rfl)) ?_
  (try simp only [zP, zN, zA, zB, zC])
  refine pu_ (v := .bool true) (y_move rfl (by rfl) (by rfl)) ?_
  (try simp only [zP, zN, zA, zB, zC])
  refine ld_ (v := .agg (opC wa).toArray) rfl (by rfl) (by rfl) (run_loadVar_row _ _ 49 49 ((opC wa).toArray) (0, 0) _ Fg4.out Try.underlying49 rfl (sz49 wa)) ?_
  (try simp only [zP, zN, zA, zB, zC])
  refine ld_ (v := .agg (opC wb).toArray) rfl (by rfl) (by rfl) (run_loadVar_row _ _ 49 49 ((opC wb).toArray) (0, 0) _ Fg11.out Try.underlying49 rfl (sz49 wb)) ?_
  (try simp only [zP, zN, zA, zB, zC])
  refine ef_ (fun K53 hK53 => ?_)
  refine e_buildS (parts := #[(0, .agg (opC wa).toArray), (1, .agg (opC wb).toArray)]) (cells := (opC wa ++ opC wb).toArray) (by rfl) rfl rfl (by first | rfl | (simp only [List.map_toArray, List.map_cons, List.map_nil]; first | done | rfl)) Try.underlying45 I49.hi I49.hz I49.hs (by decide) (by decide) (by kernel_rfl) ?_
  rintro g58 w54 HG55 B56 C57
  have nw59 := Lib.hid (show w.heap.size ≤ g58 by have := C0.out.size; have := HG55.out; omega)
  have ne60 := Lib.hid (Fg4.out.ne_new HG55)
  have ne61 := Lib.hid (Fg11.out.ne_new HG55)
  have nx62 := Lib.hid (S1.out.ne_new (by decide) HG55)
  have C0' := Lib.hid (show Ch [] w w54 from C0.out.trans' C57 (fun x hx => absurd hx (by simp)))
  have Fg4' := Lib.hid (show Blk w54 g4 ((opC wa).toArray) 49 from C57.blk Fg4.out nin_nil)
  have Fg11' := Lib.hid (show Blk w54 g11 ((opC wb).toArray) 49 from C57.blk Fg11.out nin_nil)
  have S1' := Lib.hid (show SrcIs w54 (.slice (some ⟨g38, 0, none⟩) 2 2) (2) (([wa, wb]).flatMap opC) 28 from S1.out.chx C57 xnin_nil)
  have Fg43' := Lib.hid (show Blk w54 g43 (#[.int .i64 0, .int .i64 1]) 3 from C57.blk Fg43.out nin_nil)
  clear C0 Fg4 Fg11 S1 Fg43
  have C0 := C0'; clear C0'
  have Fg4 := Fg4'; clear Fg4'
  have Fg11 := Fg11'; clear Fg11'
  have S1 := S1'; clear S1'
  have Fg43 := Fg43'; clear Fg43'
  have S2 := Lib.hid (show SrcIs w54 (.slice (some ⟨g58, 0, none⟩) 2 2) (2) (([wa, wb]).flatMap opC) 28 from ⟨rfl, .inr ⟨_, _, rfl, CellsAt.blk B56 0⟩⟩); clear B56 C57
  refine hK53 _ _ ?_; clear hK53 K53
  (try simp only [zP, zN, zA, zB, zC])
  refine ef_ (fun K63 hK63 => ?_)
  refine e_buildS (parts := #[(0, .int .i64 1), (1, .int .i64 0)]) (cells := #[.int .i64 1, .int .i64 0]) (by rfl) rfl rfl (by first | rfl | (simp only [List.map_toArray, List.map_cons, List.map_nil]; first | done | rfl)) Try.underlying44 I3.hi I3.hz I3.hs (by decide) (by decide) (by kernel_rfl) ?_
  rintro g64 w65 HG66 B67 C68
  have nw69 := Lib.hid (show w.heap.size ≤ g64 by have := C0.out.size; have := HG66.out; omega)
  have nx70 := Lib.hid (S1.out.ne_new (by decide) HG66)
  have ne71 := Lib.hid (Fg43.out.ne_new HG66)
  have nx72 := Lib.hid (S2.out.ne_new (by decide) HG66)
  have C0' := Lib.hid (show Ch [] w w65 from C0.out.trans' C68 (fun x hx => absurd hx (by simp)))
  have Fg4' := Lib.hid (show Blk w65 g4 ((opC wa).toArray) 49 from C68.blk Fg4.out nin_nil)
  have Fg11' := Lib.hid (show Blk w65 g11 ((opC wb).toArray) 49 from C68.blk Fg11.out nin_nil)
  have S1' := Lib.hid (show SrcIs w65 (.slice (some ⟨g38, 0, none⟩) 2 2) (2) (([wa, wb]).flatMap opC) 28 from S1.out.chx C68 xnin_nil)
  have Fg43' := Lib.hid (show Blk w65 g43 (#[.int .i64 0, .int .i64 1]) 3 from C68.blk Fg43.out nin_nil)
  have S2' := Lib.hid (show SrcIs w65 (.slice (some ⟨g58, 0, none⟩) 2 2) (2) (([wa, wb]).flatMap opC) 28 from S2.out.chx C68 xnin_nil)
  clear C0 Fg4 Fg11 S1 Fg43 S2
  have C0 := C0'; clear C0'
  have Fg4 := Fg4'; clear Fg4'
  have Fg11 := Fg11'; clear Fg11'
  have S1 := S1'; clear S1'
  have Fg43 := Fg43'; clear Fg43'
  have S2 := S2'; clear S2'
  have Fg64 := Lib.hid (show Blk w65 g64 (#[.int .i64 1, .int .i64 0]) 3 from B67); clear B67 C68
  refine hK63 _ _ ?_; clear hK63 K63
  (try simp only [zP, zN, zA, zB, zC])
  refine ef_ (fun K73 hK73 => ?_)
  refine e_call Try.func29 (by kernel_rfl) rfl #[.slice (some ⟨g58, 0, none⟩) 2 2, .slice (some ⟨g64, 0, none⟩) 2 2] (by rfl) rfl rfl (by first | rfl | (simp only [List.map_toArray, List.map_cons, List.map_nil]; first | done | rfl)) ((ynF (respects_ (w := w65) (L := [wa, wb]) (M := [1, 0]) (Lib.hid (by decide)) (Lib.hid (by decide)) (Lib.hid ⟨by decide, by decide⟩) S2 (Lib.hid ⟨rfl, .inr ⟨_, _, rfl, CellsAt.blk Fg64.out 0⟩⟩)) w10)) ?_
  rintro en w75 ⟨rfl, cc74⟩
  refine ⟨_, rfl, ?_⟩
  have C0' := Lib.hid (show Ch [] w w75 from C0.out.trans' cc74 (fun x hx => absurd hx (by simp)))
  have Fg4' := Lib.hid (show Blk w75 g4 ((opC wa).toArray) 49 from cc74.blk Fg4.out nin_nil)
  have Fg11' := Lib.hid (show Blk w75 g11 ((opC wb).toArray) 49 from cc74.blk Fg11.out nin_nil)
  have S1' := Lib.hid (show SrcIs w75 (.slice (some ⟨g38, 0, none⟩) 2 2) (2) (([wa, wb]).flatMap opC) 28 from S1.out.chx cc74 xnin_nil)
  have Fg43' := Lib.hid (show Blk w75 g43 (#[.int .i64 0, .int .i64 1]) 3 from cc74.blk Fg43.out nin_nil)
  have S2' := Lib.hid (show SrcIs w75 (.slice (some ⟨g58, 0, none⟩) 2 2) (2) (([wa, wb]).flatMap opC) 28 from S2.out.chx cc74 xnin_nil)
  have Fg64' := Lib.hid (show Blk w75 g64 (#[.int .i64 1, .int .i64 0]) 3 from cc74.blk Fg64.out nin_nil)
  clear C0 Fg4 Fg11 S1 Fg43 S2 Fg64
  have C0 := C0'; clear C0'
  have Fg4 := Fg4'; clear Fg4'
  have Fg11 := Fg11'; clear Fg11'
  have S1 := S1'; clear S1'
  have Fg43 := Fg43'; clear Fg43'
  have S2 := S2'; clear S2'
  have Fg64 := Fg64'; clear Fg64'
  clear cc74
  refine hK73 _ _ ?_; clear hK73 K73
  (try simp only [zP, zN, zA, zB, zC])
  refine pu_ (v := .bool true) (y_run (by rfl) (fun W => by go_simp)) ?_
  (try simp only [zP, zN, zA, zB, zC])
  refine pu_ (v := .bool true) (y_pick (t := true) (by rfl) rfl (by rfl) (by rfl)) ?_
  (try simp only [zP, zN, zA, zB, zC])
  refine pu_ (v := .bool true) (y_move rfl (by rfl) (by rfl)) ?_
  (try simp only [zP, zN, zA, zB, zC])
  refine ld_ (v := .agg (opC wa).toArray) rfl (by rfl) (by rfl) (run_loadVar_row _ _ 49 49 ((opC wa).toArray) (0, 0) _ Fg4.out Try.underlying49 rfl (sz49 wa)) ?_
  (try simp only [zP, zN, zA, zB, zC])
  refine ld_ (v := .agg (opC wb).toArray) rfl (by rfl) (by rfl) (run_loadVar_row _ _ 49 49 ((opC wb).toArray) (0, 0) _ Fg11.out Try.underlying49 rfl (sz49 wb)) ?_
  (try simp only [zP, zN, zA, zB, zC])
  refine ef_ (fun K76 hK76 => ?_)
  refine e_buildS (parts := #[(0, .agg (opC wa).toArray), (1, .agg (opC wb).toArray)]) (cells := (opC wa ++ opC wb).toArray) (by rfl) rfl rfl (by first | rfl | (simp only [List.map_toArray, List.map_cons, List.map_nil]; first | done | rfl)) Try.underlying45 I49.hi I49.hz I49.hs (by decide) (by decide) (by kernel_rfl) ?_
  rintro g81 w77 HG78 B79 C80
  have nw82 := Lib.hid (show w.heap.size ≤ g81 by have := C0.out.size; have := HG78.out; omega)
  have ne83 := Lib.hid (Fg4.out.ne_new HG78)
  have ne84 := Lib.hid (Fg11.out.ne_new HG78)
  have nx85 := Lib.hid (S1.out.ne_new (by decide) HG78)
  have nx86 := Lib.hid (S2.out.ne_new (by decide) HG78)
  have C0' := Lib.hid (show Ch [] w w77 from C0.out.trans' C80 (fun x hx => absurd hx (by simp)))
  have Fg4' := Lib.hid (show Blk w77 g4 ((opC wa).toArray) 49 from C80.blk Fg4.out nin_nil)
  have Fg11' := Lib.hid (show Blk w77 g11 ((opC wb).toArray) 49 from C80.blk Fg11.out nin_nil)
  have S1' := Lib.hid (show SrcIs w77 (.slice (some ⟨g38, 0, none⟩) 2 2) (2) (([wa, wb]).flatMap opC) 28 from S1.out.chx C80 xnin_nil)
  have Fg43' := Lib.hid (show Blk w77 g43 (#[.int .i64 0, .int .i64 1]) 3 from C80.blk Fg43.out nin_nil)
  have S2' := Lib.hid (show SrcIs w77 (.slice (some ⟨g58, 0, none⟩) 2 2) (2) (([wa, wb]).flatMap opC) 28 from S2.out.chx C80 xnin_nil)
  have Fg64' := Lib.hid (show Blk w77 g64 (#[.int .i64 1, .int .i64 0]) 3 from C80.blk Fg64.out nin_nil)
  clear C0 Fg4 Fg11 S1 Fg43 S2 Fg64
  have C0 := C0'; clear C0'
  have Fg4 := Fg4'; clear Fg4'
  have Fg11 := Fg11'; clear Fg11'
  have S1 := S1'; clear S1'
  have Fg43 := Fg43'; clear Fg43'
  have S2 := S2'; clear S2'
  have Fg64 := Fg64'; clear Fg64'
  have S3 := Lib.hid (show SrcIs w77 (.slice (some ⟨g81, 0, none⟩) 2 2) (2) (([wa, wb]).flatMap opC) 28 from ⟨rfl, .inr ⟨_, _, rfl, CellsAt.blk B79 0⟩⟩); clear B79 C80
  refine hK76 _ _ ?_; clear hK76 K76
  (try simp only [zP, zN, zA, zB, zC])
  refine ef_ (fun K87 hK87 => ?_)
  refine e_call Try.func28 (by kernel_rfl) rfl #[.slice (some ⟨g81, 0, none⟩) 2 2] (by rfl) rfl rfl (by first | rfl | (simp only [List.map_toArray, List.map_cons, List.map_nil]; first | done | rfl)) ((by have h := width_ (w := w77) (L := [wa, wb]) (Lib.hid (by decide)) S3; rw [show widN [wa, wb] [wa, wb] = 1 from by decide] at h; exact h)) ?_
  rintro en w89 ⟨rfl, cc88⟩
  refine ⟨_, rfl, ?_⟩
  have C0' := Lib.hid (show Ch [] w w89 from C0.out.trans' cc88 (fun x hx => absurd hx (by simp)))
  have Fg4' := Lib.hid (show Blk w89 g4 ((opC wa).toArray) 49 from cc88.blk Fg4.out nin_nil)
  have Fg11' := Lib.hid (show Blk w89 g11 ((opC wb).toArray) 49 from cc88.blk Fg11.out nin_nil)
  have S1' := Lib.hid (show SrcIs w89 (.slice (some ⟨g38, 0, none⟩) 2 2) (2) (([wa, wb]).flatMap opC) 28 from S1.out.chx cc88 xnin_nil)
  have Fg43' := Lib.hid (show Blk w89 g43 (#[.int .i64 0, .int .i64 1]) 3 from cc88.blk Fg43.out nin_nil)
  have S2' := Lib.hid (show SrcIs w89 (.slice (some ⟨g58, 0, none⟩) 2 2) (2) (([wa, wb]).flatMap opC) 28 from S2.out.chx cc88 xnin_nil)
  have Fg64' := Lib.hid (show Blk w89 g64 (#[.int .i64 1, .int .i64 0]) 3 from cc88.blk Fg64.out nin_nil)
  have S3' := Lib.hid (show SrcIs w89 (.slice (some ⟨g81, 0, none⟩) 2 2) (2) (([wa, wb]).flatMap opC) 28 from S3.out.chx cc88 xnin_nil)
  clear C0 Fg4 Fg11 S1 Fg43 S2 Fg64 S3
  have C0 := C0'; clear C0'
  have Fg4 := Fg4'; clear Fg4'
  have Fg11 := Fg11'; clear Fg11'
  have S1 := S1'; clear S1'
  have Fg43 := Fg43'; clear Fg43'
  have S2 := S2'; clear S2'
  have Fg64 := Fg64'; clear Fg64'
  have S3 := S3'; clear S3'
  clear cc88
  refine hK87 _ _ ?_; clear hK87 K87
  (try simp only [zP, zN, zA, zB, zC])
  refine pu_ (v := .bool true) (y_run (by rfl) (fun W => by go_simp)) ?_
  (try simp only [zP, zN, zA, zB, zC])
  refine pu_ (v := .bool true) (y_pick (t := true) (by rfl) rfl (by rfl) (by rfl)) ?_
  (try simp only [zP, zN, zA, zB, zC])
  refine pu_ (v := .bool true) (y_assign rfl (by rfl) (by rfl)) ?_
  (try simp only [zP, zN, zA, zB, zC])
  refine nl_ (hK26 _ _ ?_); clear hK26 K26
  refine wp_ret ?_
  refine hQ _ _ _ ?_
  refine bodyPost_ret (res1 rfl (rdv_tmp (v := .bool true) (by rfl))) rfl ?_
  exact ⟨rfl, C0.out⟩
end
end Go.Proofs.Ytggcpbnlblbpjaa.L
