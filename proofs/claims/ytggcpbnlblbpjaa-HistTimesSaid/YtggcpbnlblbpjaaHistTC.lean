/- The law HistTimes, its third part: each operation's times rise, and each time up to the clock is one's. -/
import Derived.Test.YtggcpbnlblbpjaaHistTD
import Derived.Test.YtggcpbnlblbpjaaWeaveM
namespace Go.Proofs.Ytggcpbnlblbpjaa.H
open Go Go.RowKit Go.Proofs.Ytggcpbnlblbpjaa.K Go.Proofs.YtggcpbnlblbpjaaW.PrintLast
set_option linter.unusedVariables false
set_option linter.unusedSimpArgs false
set_option maxRecDepth 100000
set_option maxHeartbeats 3200000
noncomputable def codetimesC : Code := (sndC (sndC (sndC (sndC (sndC (sndC (sndC (sndC (sndC (bodyOf Try.f3.body))))))))))
theorem timesC {w : World}  {Q : Exit → Act → World → Prop} (hQ : ∀ e a w', bodyPost Try.prog Try.f3 (fun en w' => en = .returned (.bool true) ∧ Ch [] w w') e a w' → Q e a w') (hP : ∀ c a d v w, Q (.panic c) (a.put d v) w → Q (.panic c) a w) (a' : Act) (w' : World) (h : (fun (a' : Act) (w' : World) => ∃ (b : Nat), ∃ (hi : Nat), ∃ (S : HB), ∃ (gm : Nat), ∃ (vi : Value), ∃ (bi : Nat), ∃ (us : Nat → Value), a' = ⟨#[us 0, us 1, .bool false, .pointer (some ⟨b, 0, none⟩), us 4, us 5, .slice (some ⟨gm, 0, none⟩) 100 100, us 7, vi, us 9, us 10, us 11, us 12, us 13, us 14, us 15, us 16, us 17, us 18, us 19, us 20, us 21, us 22, us 23, us 24, us 25, us 26, us 27, us 28, us 29, us 30, us 31, us 32, us 33, us 34, us 35, us 36, us 37, us 38, us 39, us 40, us 41, us 42, us 43, us 44, us 45, us 46, us 47, us 48, us 49, us 50, us 51, us 52, us 53, us 54, us 55, us 56, us 57, us 58, us 59, us 60, us 61, us 62, us 63, us 64, us 65, us 66, us 67, us 68, us 69, us 70, us 71, us 72, us 73, us 74, us 75, us 76, us 77, us 78, us 79, us 80, us 81, us 82, us 83, us 84, us 85, us 86, us 87, us 88, us 89, us 90, us 91, us 92, us 93, us 94, us 95, us 96, us 97, us 98, us 99, us 100, us 101, us 102, us 103, us 104, us 105, us 106, us 107, us 108, us 109, us 110, us 111, us 112, us 113, us 114, us 115, us 116, us 117, us 118, us 119, us 120, us 121, us 122, us 123, us 124, us 125, us 126, us 127, us 128, us 129, us 130, us 131, us 132, us 133, us 134, us 135, us 136, us 137, us 138, us 139, us 140, us 141, us 142, us 143, us 144, us 145, us 146, us 147, us 148, us 149, us 150, us 151, us 152, us 153, us 154, us 155, us 156, us 157, us 158, us 159, us 160, us 161, us 162, us 163, us 164, us 165, us 166, us 167, us 168, us 169, us 170, us 171, us 172, us 173, us 174, us 175, us 176, us 177, us 178, us 179, us 180, us 181, us 182, us 183, us 184, us 185, us 186, us 187, us 188, us 189, us 190, us 191, us 192, us 193, us 194, us 195, us 196, us 197, us 198, us 199, us 200], []⟩ ∧ Hid (Ch [] w w') ∧ Hid (BookIs w' w.heap.size hi b (S)) ∧ Hid (hi ≤ w'.heap.size) ∧ Hid (OwnS w' w.heap.size 3 1 (.slice (some ⟨gm, 0, none⟩) 100 100) (100) (cnts (S.L.flatMap tm))) ∧ Hid (OwnS w' bi 3 1 (vi) (S.I.length) ((S.I).map (Value.int .i64))) ∧ Hid (hi ≤ gm) ∧ Hid (S.now ≤ 80) ∧ Hid (S.L.length ≤ S.now ∧ S.I.length ≤ S.now) ∧ Hid (TI S) ∧ Hid (∀ k, k ∈ rl (.slice (some ⟨gm, 0, none⟩) 100 100) → k ∉ rl (vi))) a' w') : codetimesC.wp Try.prog Q a' w' := by
  unfold codetimesC; dsimp only [sndC, fstC, bodyOf, Try.f3]
  obtain ⟨b, hi, S, gm, vi, bi, us, rfl, C0, BF, HI, OM, OI, HGE, HN, HL, TT, HRR⟩ := h
  refine sq_ (fun K1 hK1 => ?_)
  refine s_ (fun K2 hK2 => ?_)
  refine pu_ (v := .int .i64 0) (y_assign rfl (by rfl) (by rfl)) ?_
  (try simp only [zP, zN, zA, zB, zC])
  refine nl_ (hK2 _ _ ?_); clear hK2 K2
  refine wp_block ?_
  obtain ⟨Ai, cAi, hAi, -, -⟩ := OI.out.slice
  subst hAi
  refine loopk_ (fun (kq : Nat) (a' : Act) (w' : World) => ∃ (k : Nat), ∃ (us : Nat → Value), a' = ⟨#[us 0, us 1, .bool false, .pointer (some ⟨b, 0, none⟩), us 4, us 5, .slice (some ⟨gm, 0, none⟩) 100 100, us 7, .slice Ai S.I.length cAi, us 9, us 10, .int .i64 k, us 12, us 13, us 14, us 15, us 16, us 17, us 18, us 19, us 20, us 21, us 22, us 23, us 24, us 25, us 26, us 27, us 28, us 29, us 30, us 31, us 32, us 33, us 34, us 35, us 36, us 37, us 38, us 39, us 40, us 41, us 42, us 43, us 44, us 45, us 46, us 47, us 48, us 49, us 50, us 51, us 52, us 53, us 54, us 55, us 56, us 57, us 58, us 59, us 60, us 61, us 62, us 63, us 64, us 65, us 66, us 67, us 68, us 69, us 70, us 71, us 72, us 73, us 74, us 75, us 76, us 77, us 78, us 79, us 80, us 81, us 82, us 83, us 84, us 85, us 86, us 87, us 88, us 89, us 90, us 91, us 92, us 93, us 94, us 95, us 96, us 97, us 98, us 99, us 100, us 101, us 102, us 103, us 104, us 105, us 106, us 107, us 108, us 109, us 110, us 111, us 112, us 113, us 114, us 115, us 116, us 117, us 118, us 119, us 120, us 121, us 122, us 123, us 124, us 125, us 126, us 127, us 128, us 129, us 130, us 131, us 132, us 133, us 134, us 135, us 136, us 137, us 138, us 139, us 140, us 141, us 142, us 143, us 144, us 145, us 146, us 147, us 148, us 149, us 150, us 151, us 152, us 153, us 154, us 155, us 156, us 157, us 158, us 159, us 160, us 161, us 162, us 163, us 164, us 165, us 166, us 167, us 168, us 169, us 170, us 171, us 172, us 173, us 174, us 175, us 176, us 177, us 178, us 179, us 180, us 181, us 182, us 183, us 184, us 185, us 186, us 187, us 188, us 189, us 190, us 191, us 192, us 193, us 194, us 195, us 196, us 197, us 198, us 199, us 200], []⟩ ∧ Hid (Ch [] w w') ∧ Hid (BookIs w' w.heap.size hi b (S)) ∧ Hid (hi ≤ w'.heap.size) ∧ Hid (OwnS w' w.heap.size 3 1 (.slice (some ⟨gm, 0, none⟩) 100 100) (100) (cnts (S.L.flatMap tm ++ S.I.take k))) ∧ Hid (OwnS w' bi 3 1 (.slice Ai S.I.length cAi) (S.I.length) ((S.I).map (Value.int .i64))) ∧ Hid (k ≤ S.I.length ∧ kq + k = S.I.length)) (S.I.length) (⟨0, fun us_ => (#[us 0, us 1, .bool false, .pointer (some ⟨b, 0, none⟩), us 4, us 5, .slice (some ⟨gm, 0, none⟩) 100 100, us 7, .slice Ai S.I.length cAi, us 9, us 10, .int .i64 0, us 12, us 13, us 14, us 15, us 16, us 17, us 18, us 19, us 20, us 21, us 22, us 23, us 24, us 25, us 26, us 27, us 28, us 29, us 30, us 31, us 32, us 33, us 34, us 35, us 36, us 37, us 38, us 39, us 40, us 41, us 42, us 43, us 44, us 45, us 46, us 47, us 48, us 49, us 50, us 51, us 52, us 53, us 54, us 55, us 56, us 57, us 58, us 59, us 60, us 61, us 62, us 63, us 64, us 65, us 66, us 67, us 68, us 69, us 70, us 71, us 72, us 73, us 74, us 75, us 76, us 77, us 78, us 79, us 80, us 81, us 82, us 83, us 84, us 85, us 86, us 87, us 88, us 89, us 90, us 91, us 92, us 93, us 94, us 95, us 96, us 97, us 98, us 99, us 100, us 101, us 102, us 103, us 104, us 105, us 106, us 107, us 108, us 109, us 110, us 111, us 112, us 113, us 114, us 115, us 116, us 117, us 118, us 119, us 120, us 121, us 122, us 123, us 124, us 125, us 126, us 127, us 128, us 129, us 130, us 131, us 132, us 133, us 134, us 135, us 136, us 137, us 138, us 139, us 140, us 141, us 142, us 143, us 144, us 145, us 146, us 147, us 148, us 149, us 150, us 151, us 152, us 153, us 154, us 155, us 156, us 157, us 158, us 159, us 160, us 161, us 162, us 163, us 164, us 165, us 166, us 167, us 168, us 169, us 170, us 171, us 172, us 173, us 174, us 175, us 176, us 177, us 178, us 179, us 180, us 181, us 182, us 183, us 184, us 185, us 186, us 187, us 188, us 189, us 190, us 191, us 192, us 193, us 194, us 195, us 196, us 197, us 198, us 199, us 200] : Array Value).getD us_ undef, rfl, C0, BF, HI, Lib.hid (by have h := OM.out; rw [List.take_zero, List.append_nil]; exact h), OI, Lib.hid ⟨by omega, by omega⟩⟩) ?_
  rintro kq _ w3 ⟨k, us, rfl, C0, BF, HI, OM, OI, hk⟩ K4 hK4
  refine sq_ (fun K5 hK5 => ?_)
  rcases loop3_ways TT.out hk.out.1 with h | ⟨kx, h2, h1, h⟩
  · have D164 := Lib.hid (show ¬ k < S.I.length by omega)
    have OM' := Lib.hid (show OwnS w3 w.heap.size 3 1 (.slice (some ⟨gm, 0, none⟩) 100 100) (100) (cnts (noted S)) from by have h1 := OM.out; rw [h, List.take_length] at h1; exact h1)
    clear OM h hk; have OM := OM'; clear OM'
    refine s_ (fun K6 hK6 => ?_)
    refine pu_ (v := .int .i64 k) (y_move rfl (by rfl) (by rfl)) ?_
    (try simp only [zP, zN, zA, zB, zC])
    refine pu_ (v := .slice Ai S.I.length cAi) (y_move rfl (by rfl) (by rfl)) ?_
    (try simp only [zP, zN, zA, zB, zC])
    refine pu_ (v := .int .i64 S.I.length) (y_run (by rfl) (fun W => by go_simp)) ?_
    (try simp only [zP, zN, zA, zB, zC])
    refine pu_ (v := .bool false) (y_run (by rfl) (fun W => by have d := D164.out; go_simp)) ?_
    (try simp only [zP, zN, zA, zB, zC])
    refine nl_ (hK6 _ _ ?_); clear hK6 K6
    refine wp_cond_false rfl ?_
    refine wp_exit ?_
    refine th_exit ?_
    refine th_exit ?_
    refine ib_exit ?_
    refine th_norm (hK1 _ _ ?_); try clear hK1 K1
    exact timesD hQ hP _ _ ⟨_, _, _, _, fun us_ => (#[us 0, us 1, .bool false, .pointer (some ⟨b, 0, none⟩), us 4, us 5, .slice (some ⟨gm, 0, none⟩) 100 100, us 7, .slice Ai S.I.length cAi, us 9, us 10, .int .i64 k, us 12, us 13, us 14, us 15, us 16, us 17, us 18, us 19, us 20, us 21, us 22, us 23, us 24, us 25, us 26, us 27, us 28, us 29, us 30, us 31, us 32, us 33, us 34, us 35, us 36, us 37, us 38, us 39, us 40, us 41, us 42, us 43, us 44, us 45, us 46, us 47, us 48, us 49, us 50, us 51, us 52, us 53, us 54, us 55, us 56, us 57, us 58, us 59, us 60, us 61, us 62, us 63, us 64, us 65, us 66, us 67, us 68, us 69, us 70, us 71, us 72, us 73, us 74, us 75, us 76, us 77, us 78, us 79, us 80, us 81, us 82, us 83, us 84, us 85, us 86, us 87, us 88, us 89, us 90, us 91, us 92, us 93, us 94, us 95, us 96, us 97, us 98, us 99, us 100, us 101, us 102, us 103, us 104, us 105, us 106, us 107, us 108, us 109, us 110, us 111, us 112, us 113, us 114, us 115, us 116, us 117, us 118, us 119, us 120, us 121, us 122, us 123, us 124, us 125, us 126, us 127, us 128, us 129, us 130, us 131, us 132, us 133, us 134, us 135, us 136, us 137, us 138, us 139, us 140, us 141, us 142, us 143, us 144, us 145, us 146, us 147, us 148, us 149, us 150, us 151, us 152, us 153, us 154, us 155, us 156, us 157, us 158, us 159, us 160, .int .i64 k, .slice Ai S.I.length cAi, .int .i64 S.I.length, .bool false, us 165, us 166, us 167, us 168, us 169, us 170, us 171, us 172, us 173, us 174, us 175, us 176, us 177, us 178, us 179, us 180, us 181, us 182, us 183, us 184, us 185, us 186, us 187, us 188, us 189, us 190, us 191, us 192, us 193, us 194, us 195, us 196, us 197, us 198, us 199, us 200] : Array Value).getD us_ undef, rfl, C0, BF, HI, OM, HGE, HN, HL, TT⟩
  · have hlt := Lib.hid h1
    have ho := Lib.hid h2
    have hx := Lib.hid h
    clear h h1 h2
    have D164 := Lib.hid (show (k : Int) < (S.I.length : Int) by have := hlt.out; omega)
    obtain ⟨gi, ci, hv, -, -, -, -, -⟩ := OI.out.some_ (by have := hlt.out; omega)
    injection hv with hv1 _ hv3
    subst hv1 hv3
    have WA := Lib.hid (show IntKind.i64.wrap ((k : Int) + 1) = ((k + 1 : Nat) : Int) by rw [wr64 (by have := hlt.out; have := HL.out; have := HN.out; omega)]; omega)
    have DX_kx := Lib.hid (show kx < 100 by have := hx.out; have := HN.out; omega)
    have HML := Lib.hid (show (S.L.flatMap tm ++ S.I.take k).length ≤ 500 by rw [List.length_append, tms_len, List.length_take]; have := HL.out; have := HN.out; omega)
    have D171 := Lib.hid (show decide ((kx : Int) < 1) = false from decide_eq_false (by have := hx.out; omega))
    have D179 := Lib.hid (show kx ≤ S.now from hx.out.2)
    have DB186 := Lib.hid (show (kx : Int) < 100 by have := DX_kx.out; omega)
    obtain ⟨c188, hc188⟩ : ∃ c, (S.L.flatMap tm ++ S.I.take k).count (kx : Int) = c := ⟨_, rfl⟩
    have HC188 := Lib.hid hc188; clear hc188
    have WB188 := Lib.hid (show IntKind.i64.wrap ((c188 : Int) + 1) = ((c188 + 1 : Nat) : Int) by rw [wr64 (by have h8 : c188 ≤ 600 := (by rw [← HC188.out]; exact Nat.le_trans (cnt_le _ _) (by have h9 := HML.out; first | omega | (simp only [List.length_append, List.length_cons, List.length_nil]; omega))); omega)]; omega)
    refine s_ (fun K7 hK7 => ?_)
    refine pu_ (v := .int .i64 k) (y_move rfl (by rfl) (by rfl)) ?_
    (try simp only [zP, zN, zA, zB, zC])
    refine pu_ (v := .slice (some ⟨gi, 0, none⟩) S.I.length cAi) (y_move rfl (by rfl) (by rfl)) ?_
    (try simp only [zP, zN, zA, zB, zC])
    refine pu_ (v := .int .i64 S.I.length) (y_run (by rfl) (fun W => by go_simp)) ?_
    (try simp only [zP, zN, zA, zB, zC])
    refine pu_ (v := .bool true) (y_run (by rfl) (fun W => by have d := D164.out; go_simp)) ?_
    (try simp only [zP, zN, zA, zB, zC])
    refine nl_ (hK7 _ _ ?_); clear hK7 K7
    refine wp_cond_true rfl ?_
    refine wp_skip ?_
    refine th_norm (hK5 _ _ ?_); try clear hK5 K5
    refine sq_ (fun K8 hK8 => ?_)
    refine wp_block ?_
    refine sq_ (fun K9 hK9 => ?_)
    refine sq_ (fun K10 hK10 => ?_)
    refine startk_ (S := fun W => OwnS W bi 3 1 (.slice (some ⟨gi, 0, none⟩) S.I.length cAi) (S.I.length) ((S.I).map (Value.int .i64)) ∧ True) (ds := []) #[false, false, false, false, false, false, false, false, false, false, false, false, false, false] (by kernel_rfl) rfl rfl (fun W c => ⟨OI.out.ch c rnin_nil, trivial⟩) (fun w11 C12 hS13 => ?_)
    have C0' := Lib.hid (show Ch [] w w11 from C0.out.trans' C12 (fun x hx => absurd hx (by simp)))
    have BF' := Lib.hid (show BookIs w11 w.heap.size hi b (S) from BF.out.ch C12 (fun x hx => absurd hx (by simp)))
    have HI' := Lib.hid (show hi ≤ w11.heap.size from Nat.le_trans HI.out C12.size)
    have OM' := Lib.hid (show OwnS w11 w.heap.size 3 1 (.slice (some ⟨gm, 0, none⟩) 100 100) (100) (cnts (S.L.flatMap tm ++ S.I.take k)) from OM.out.ch C12 rnin_nil)
    have OI' := Lib.hid (show OwnS w11 bi 3 1 (.slice (some ⟨gi, 0, none⟩) S.I.length cAi) (S.I.length) ((S.I).map (Value.int .i64)) from OI.out.ch C12 rnin_nil)
    clear C0 BF HI OM OI
    have C0 := C0'; clear C0'
    have BF := BF'; clear BF'
    have HI := HI'; clear HI'
    have OM := OM'; clear OM'
    have OI := OI'; clear OI'
    clear C12
    refine pure_ (i := 0) (N := some 167) (v := .slice (some ⟨gi, 0, none⟩) S.I.length cAi) #[true, false, false, false, false, false, false, false, false, false, false, false, false, false] rfl rfl (by kernel_rfl) (fun c a w h => hP c a _ _ w h) (y_move rfl (by rfl) (by rfl)) rfl ?_
    (try simp only [zP, zN, zA, zB, zC])
    refine pure_ (i := 1) (N := some 168) (v := .int .i64 k) #[true, true, false, false, false, false, false, false, false, false, false, false, false, false] rfl rfl (by kernel_rfl) (fun c a w h => hP c a _ _ w h) (y_move rfl (by rfl) (by rfl)) rfl ?_
    (try simp only [zP, zN, zA, zB, zC])
    refine pure_ (i := 2) (N := some 169) (v := .pointer (some ⟨gi, k, none⟩)) #[true, true, true, false, false, false, false, false, false, false, false, false, false, false] rfl rfl (by kernel_rfl) (fun c a w h => hP c a _ _ w h) (y_run (by rfl) (fun W => by have d := D164.out; go_simp)) rfl ?_
    (try simp only [zP, zN, zA, zB, zC])
    refine take_ (i := 3) (N := some 170) (v := .int .i64 kx) #[true, true, true, true, false, false, false, false, false, false, false, false, false, false] rfl rfl (by kernel_rfl) (fun c a w h => hP c a _ _ w h) (y_load (p := ⟨gi, k, none⟩) rfl (by rfl) (by rfl) (fun W hS => run_load_one (own_cell hS.1 (by rw [List.getElem?_map, ho.out]; rfl)) Try.underlying3 rfl)) hS13 rfl ?_
    (try simp only [zP, zN, zA, zB, zC])
    refine pure_ (i := 4) (N := some 171) (v := .bool false) #[true, true, true, true, true, false, false, false, false, false, false, false, false, false] rfl rfl (by kernel_rfl) (fun c a w h => hP c a _ _ w h) (y_run (by rfl) (fun W => by have d := D171.out; go_simp)) rfl ?_
    (try simp only [zP, zN, zA, zB, zC])
    refine pure_ (i := 5) (N := some 172) (v := .bool false) #[true, true, true, true, true, true, false, false, false, false, false, false, false, false] rfl rfl (by kernel_rfl) (fun c a w h => hP c a _ _ w h) (y_move rfl (by rfl) (by rfl)) rfl ?_
    (try simp only [zP, zN, zA, zB, zC])
    refine pure_ (i := 6) (N := some 173) (v := .slice (some ⟨gi, 0, none⟩) S.I.length cAi) #[true, true, true, true, true, true, true, false, false, false, false, false, false, false] rfl rfl (by kernel_rfl) (fun c a w h => hP c a _ _ w h) (y_move rfl (by rfl) (by rfl)) rfl ?_
    (try simp only [zP, zN, zA, zB, zC])
    refine pure_ (i := 7) (N := some 174) (v := .int .i64 k) #[true, true, true, true, true, true, true, true, false, false, false, false, false, false] rfl rfl (by kernel_rfl) (fun c a w h => hP c a _ _ w h) (y_move rfl (by rfl) (by rfl)) rfl ?_
    (try simp only [zP, zN, zA, zB, zC])
    refine pure_ (i := 8) (N := some 175) (v := .pointer (some ⟨gi, k, none⟩)) #[true, true, true, true, true, true, true, true, true, false, false, false, false, false] rfl rfl (by kernel_rfl) (fun c a w h => hP c a _ _ w h) (y_run (by rfl) (fun W => by have d := D164.out; go_simp)) rfl ?_
    (try simp only [zP, zN, zA, zB, zC])
    refine take_ (i := 9) (N := some 176) (v := .int .i64 kx) #[true, true, true, true, true, true, true, true, true, true, false, false, false, false] rfl rfl (by kernel_rfl) (fun c a w h => hP c a _ _ w h) (y_load (p := ⟨gi, k, none⟩) rfl (by rfl) (by rfl) (fun W hS => run_load_one (own_cell hS.1 (by rw [List.getElem?_map, ho.out]; rfl)) Try.underlying3 rfl)) hS13 rfl ?_
    (try simp only [zP, zN, zA, zB, zC])
    refine pure_ (i := 10) (N := some 177) (v := .pointer (some ⟨b, 0, none⟩)) #[true, true, true, true, true, true, true, true, true, true, true, false, false, false] rfl rfl (by kernel_rfl) (fun c a w h => hP c a _ _ w h) (y_move rfl (by rfl) (by rfl)) rfl ?_
    (try simp only [zP, zN, zA, zB, zC])
    refine one_ (i := 11) (N := some 178) #[true, true, true, true, true, true, true, true, true, true, true, true, false, false] rfl rfl (by kernel_rfl) (by simp) (fun K14 hK14 => ?_)
    refine e_call Try.func14 (by kernel_rfl) rfl #[.pointer (some ⟨b, 0, none⟩)] (by rfl) rfl rfl (by first | rfl | (simp only [List.map_toArray, List.map_cons, List.map_nil]; first | done | rfl)) (now_all BF.out) ?_
    rintro en w16 ⟨rfl, cc15⟩
    refine ⟨_, rfl, ?_⟩
    have C0' := Lib.hid (show Ch [] w w16 from C0.out.trans' cc15 (fun x hx => absurd hx (by simp)))
    have BF' := Lib.hid (show BookIs w16 w.heap.size hi b (S) from BF.out.ch cc15 (fun x hx => absurd hx (by simp)))
    have HI' := Lib.hid (show hi ≤ w16.heap.size from Nat.le_trans HI.out cc15.size)
    have OM' := Lib.hid (show OwnS w16 w.heap.size 3 1 (.slice (some ⟨gm, 0, none⟩) 100 100) (100) (cnts (S.L.flatMap tm ++ S.I.take k)) from OM.out.ch cc15 rnin_nil)
    have OI' := Lib.hid (show OwnS w16 bi 3 1 (.slice (some ⟨gi, 0, none⟩) S.I.length cAi) (S.I.length) ((S.I).map (Value.int .i64)) from OI.out.ch cc15 rnin_nil)
    clear C0 BF HI OM OI
    have C0 := C0'; clear C0'
    have BF := BF'; clear BF'
    have HI := HI'; clear HI'
    have OM := OM'; clear OM'
    have OI := OI'; clear OI'
    clear cc15
    refine hK14.out _ _ ⟨OI.out, trivial⟩ (fun hS17 => ?_); clear hK14 K14
    (try simp only [zP, zN, zA, zB, zC])
    refine pure_ (i := 12) (N := some 179) (v := .bool false) #[true, true, true, true, true, true, true, true, true, true, true, true, true, false] rfl rfl (by kernel_rfl) (fun c a w h => hP c a _ _ w h) (y_run (by rfl) (fun W => by have d := D179.out; go_simp)) rfl ?_
    (try simp only [zP, zN, zA, zB, zC])
    refine pure_ (i := 13) (N := some 180) (v := .bool false) #[true, true, true, true, true, true, true, true, true, true, true, true, true, true] rfl rfl (by kernel_rfl) (fun c a w h => hP c a _ _ w h) (y_pick (t := false) (by rfl) rfl (by rfl) (by rfl)) rfl ?_
    (try simp only [zP, zN, zA, zB, zC])
    refine done_ (by kernel_rfl) (th_norm (hK10 _ _ ?_)); clear hK10 K10
    refine wp_cond_false rfl ?_
    refine wp_skip ?_
    refine th_norm (hK9 _ _ ?_); try clear hK9 K9
    refine r_ ?_
    refine pu_ (v := .slice (some ⟨gm, 0, none⟩) 100 100) (y_move rfl (by rfl) (by rfl)) ?_
    (try simp only [zP, zN, zA, zB, zC])
    refine pu_ (v := .slice (some ⟨gi, 0, none⟩) S.I.length cAi) (y_move rfl (by rfl) (by rfl)) ?_
    (try simp only [zP, zN, zA, zB, zC])
    refine pu_ (v := .int .i64 k) (y_move rfl (by rfl) (by rfl)) ?_
    (try simp only [zP, zN, zA, zB, zC])
    refine pu_ (v := .pointer (some ⟨gi, k, none⟩)) (y_run (by rfl) (fun W => by have d := D164.out; go_simp)) ?_
    (try simp only [zP, zN, zA, zB, zC])
    refine ld_ (v := .int .i64 kx) rfl (by rfl) (by rfl) (run_load_one (own_cell OI.out (by rw [List.getElem?_map, ho.out]; rfl)) Try.underlying3 rfl) ?_
    (try simp only [zP, zN, zA, zB, zC])
    refine pu_ (v := .pointer (some ⟨gm, kx, none⟩)) (y_run (by rfl) (fun W => by have d := DB186.out; go_simp)) ?_
    (try simp only [zP, zN, zA, zB, zC])
    refine ld_ (v := .int .i64 c188) rfl (by rfl) (by rfl) (run_load_one (own_cell OM.out (by rw [cnts_at _ (by have := DB186.out; omega), HC188.out])) Try.underlying3 rfl) ?_
    (try simp only [zP, zN, zA, zB, zC])
    refine pu_ (v := .int .i64 (c188 + 1 : Nat)) (y_run (by rfl) (fun W => by have d := WB188.out; go_simp)) ?_
    (try simp only [zP, zN, zA, zB, zC])
    refine pu_ (v := .pointer (some ⟨gm, kx, none⟩)) (y_run (by rfl) (fun W => by have d := DB186.out; go_simp)) ?_
    (try simp only [zP, zN, zA, zB, zC])
    refine ef_ (fun K18 hK18 => ?_)
    refine e_storeS1 (by rfl) rfl rfl OM.out kx (.int .i64 (c188 + 1 : Nat)) (by rfl) (by rfl) (by kernel_rfl) (by have := DX_kx.out; omega) rfl ?_
    rintro w19 O20 C21
    have RC21 := Lib.hid (show Ch (rl (.slice (some ⟨gm, 0, none⟩) 100 100)) w16 w19 from by rw [rl_some _ _ _ (by decide)]; exact C21)
    have C0' := Lib.hid (show Ch [] w w19 from C0.out.trans' RC21.out (fun x hx => .inr (OM.out.lt x hx).1))
    have BF' := Lib.hid (show BookIs w19 w.heap.size hi b (S) from BF.out.ch RC21.out (fun x hx => .inr (by rw [rl_some _ _ _ (by decide)] at hx; rw [List.mem_singleton.1 hx]; exact HGE.out)))
    have HI' := Lib.hid (show hi ≤ w19.heap.size from Nat.le_trans HI.out RC21.out.size)
    have OI' := Lib.hid (show OwnS w19 bi 3 1 (.slice (some ⟨gi, 0, none⟩) S.I.length cAi) (S.I.length) ((S.I).map (Value.int .i64)) from OI.out.ch RC21.out (fun k hk hm => HRR.out k hm hk))
    clear C0 BF HI OI
    have C0 := C0'; clear C0'
    have BF := BF'; clear BF'
    have HI := HI'; clear HI'
    have OI := OI'; clear OI'
    clear OM
    have OM := Lib.hid (show OwnS w19 w.heap.size 3 1 (.slice (some ⟨gm, 0, none⟩) 100 100) (100) (cnts ((S.L.flatMap tm ++ S.I.take k) ++ [(kx : Int)])) from by have h := O20; rw [← HC188.out, cnts_set] at h; exact h); clear O20 C21 RC21
    refine hK18 _ _ ?_; clear hK18 K18
    (try simp only [zP, zN, zA, zB, zC])
    refine nl_ ?_
    refine ib_norm ?_
    refine th_norm (hK8 _ _ ?_); try clear hK8 K8
    refine r_ ?_
    refine pu_ (v := .int .i64 k) (y_move rfl (by rfl) (by rfl)) ?_
    (try simp only [zP, zN, zA, zB, zC])
    refine pu_ (v := .int .i64 (k + 1 : Nat)) (y_run (by rfl) (fun W => by have d := WA.out; go_simp)) ?_
    (try simp only [zP, zN, zA, zB, zC])
    refine pu_ (v := .int .i64 (k + 1 : Nat)) (y_assign rfl (by rfl) (by rfl)) ?_
    (try simp only [zP, zN, zA, zB, zC])
    refine nl_ ?_
    exact th_norm (hK4 (kq - 1) _ _ (by have := hlt.out; have := hk.out; omega) ⟨k + 1, fun us_ => (#[us 0, us 1, .bool false, .pointer (some ⟨b, 0, none⟩), us 4, us 5, .slice (some ⟨gm, 0, none⟩) 100 100, us 7, .slice (some ⟨gi, 0, none⟩) S.I.length cAi, us 9, us 10, .int .i64 (k + 1 : Nat), us 12, us 13, us 14, us 15, us 16, us 17, us 18, us 19, us 20, us 21, us 22, us 23, us 24, us 25, us 26, us 27, us 28, us 29, us 30, us 31, us 32, us 33, us 34, us 35, us 36, us 37, us 38, us 39, us 40, us 41, us 42, us 43, us 44, us 45, us 46, us 47, us 48, us 49, us 50, us 51, us 52, us 53, us 54, us 55, us 56, us 57, us 58, us 59, us 60, us 61, us 62, us 63, us 64, us 65, us 66, us 67, us 68, us 69, us 70, us 71, us 72, us 73, us 74, us 75, us 76, us 77, us 78, us 79, us 80, us 81, us 82, us 83, us 84, us 85, us 86, us 87, us 88, us 89, us 90, us 91, us 92, us 93, us 94, us 95, us 96, us 97, us 98, us 99, us 100, us 101, us 102, us 103, us 104, us 105, us 106, us 107, us 108, us 109, us 110, us 111, us 112, us 113, us 114, us 115, us 116, us 117, us 118, us 119, us 120, us 121, us 122, us 123, us 124, us 125, us 126, us 127, us 128, us 129, us 130, us 131, us 132, us 133, us 134, us 135, us 136, us 137, us 138, us 139, us 140, us 141, us 142, us 143, us 144, us 145, us 146, us 147, us 148, us 149, us 150, us 151, us 152, us 153, us 154, us 155, us 156, us 157, us 158, us 159, us 160, .int .i64 k, .slice (some ⟨gi, 0, none⟩) S.I.length cAi, .int .i64 S.I.length, .bool true, .int .i64 k, .int .i64 (k + 1 : Nat), .slice (some ⟨gi, 0, none⟩) S.I.length cAi, .int .i64 k, .pointer (some ⟨gi, k, none⟩), .int .i64 kx, .bool false, .bool false, .slice (some ⟨gi, 0, none⟩) S.I.length cAi, .int .i64 k, .pointer (some ⟨gi, k, none⟩), .int .i64 kx, .pointer (some ⟨b, 0, none⟩), .int .i64 S.now, .bool false, .bool false, .slice (some ⟨gm, 0, none⟩) 100 100, .slice (some ⟨gi, 0, none⟩) S.I.length cAi, .int .i64 k, .pointer (some ⟨gi, k, none⟩), .int .i64 kx, .pointer (some ⟨gm, kx, none⟩), .int .i64 c188, .int .i64 (c188 + 1 : Nat), .pointer (some ⟨gm, kx, none⟩), us 190, us 191, us 192, us 193, us 194, us 195, us 196, us 197, us 198, us 199, us 200] : Array Value).getD us_ undef, rfl, C0, BF, HI, Lib.hid (by have h := OM.out; rw [ints_succ ho.out, ← List.append_assoc]; exact h), OI, Lib.hid ⟨by have := hlt.out; omega, by have := hlt.out; have := hk.out; omega⟩⟩)
end Go.Proofs.Ytggcpbnlblbpjaa.H
