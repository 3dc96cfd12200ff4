/- The law HistTimes, its second part: each operation's times rise, and each time up to the clock is one's. -/
import Derived.Test.YtggcpbnlblbpjaaHistTC
import Derived.Test.YtggcpbnlblbpjaaWeaveM
namespace Go.Proofs.Ytggcpbnlblbpjaa.H
open Go Go.RowKit Go.Proofs.Ytggcpbnlblbpjaa.K Go.Proofs.YtggcpbnlblbpjaaW.PrintLast
set_option linter.unusedVariables false
set_option linter.unusedSimpArgs false
set_option maxRecDepth 100000
set_option maxHeartbeats 3200000
noncomputable def codetimesB : Code := (sndC (sndC (sndC (sndC (sndC (sndC (sndC (sndC (bodyOf Try.f3.body)))))))))
theorem timesB {w : World}  {Q : Exit → Act → World → Prop} (hQ : ∀ e a w', bodyPost Try.prog Try.f3 (fun en w' => en = .returned (.bool true) ∧ Ch [] w w') e a w' → Q e a w') (hP : ∀ c a d v w, Q (.panic c) (a.put d v) w → Q (.panic c) a w) (a' : Act) (w' : World) (h : (fun (a' : Act) (w' : World) => ∃ (b : Nat), ∃ (hi : Nat), ∃ (S : HB), ∃ (gm : Nat), ∃ (vo : Value), ∃ (vi : Value), ∃ (bo : Nat), ∃ (bi : Nat), ∃ (us : Nat → Value), a' = ⟨#[us 0, us 1, .bool false, .pointer (some ⟨b, 0, none⟩), us 4, us 5, .slice (some ⟨gm, 0, none⟩) 100 100, vo, vi, us 9, us 10, us 11, us 12, us 13, us 14, us 15, us 16, us 17, us 18, us 19, us 20, us 21, us 22, us 23, us 24, us 25, us 26, us 27, us 28, us 29, us 30, us 31, us 32, us 33, us 34, us 35, us 36, us 37, us 38, us 39, us 40, us 41, us 42, us 43, us 44, us 45, us 46, us 47, us 48, us 49, us 50, us 51, us 52, us 53, us 54, us 55, us 56, us 57, us 58, us 59, us 60, us 61, us 62, us 63, us 64, us 65, us 66, us 67, us 68, us 69, us 70, us 71, us 72, us 73, us 74, us 75, us 76, us 77, us 78, us 79, us 80, us 81, us 82, us 83, us 84, us 85, us 86, us 87, us 88, us 89, us 90, us 91, us 92, us 93, us 94, us 95, us 96, us 97, us 98, us 99, us 100, us 101, us 102, us 103, us 104, us 105, us 106, us 107, us 108, us 109, us 110, us 111, us 112, us 113, us 114, us 115, us 116, us 117, us 118, us 119, us 120, us 121, us 122, us 123, us 124, us 125, us 126, us 127, us 128, us 129, us 130, us 131, us 132, us 133, us 134, us 135, us 136, us 137, us 138, us 139, us 140, us 141, us 142, us 143, us 144, us 145, us 146, us 147, us 148, us 149, us 150, us 151, us 152, us 153, us 154, us 155, us 156, us 157, us 158, us 159, us 160, us 161, us 162, us 163, us 164, us 165, us 166, us 167, us 168, us 169, us 170, us 171, us 172, us 173, us 174, us 175, us 176, us 177, us 178, us 179, us 180, us 181, us 182, us 183, us 184, us 185, us 186, us 187, us 188, us 189, us 190, us 191, us 192, us 193, us 194, us 195, us 196, us 197, us 198, us 199, us 200], []⟩ ∧ Hid (Ch [] w w') ∧ Hid (BookIs w' w.heap.size hi b (S)) ∧ Hid (hi ≤ w'.heap.size) ∧ Hid (OwnS w' w.heap.size 3 1 (.slice (some ⟨gm, 0, none⟩) 100 100) (100) (cnts ((S.L.take 0).flatMap tm))) ∧ Hid (OwnS w' bo 49 28 (vo) (S.L.length) ((S.L).flatMap opC)) ∧ Hid (OwnS w' bi 3 1 (vi) (S.I.length) ((S.I).map (Value.int .i64))) ∧ Hid (hi ≤ gm) ∧ Hid (S.now ≤ 80) ∧ Hid (S.L.length ≤ S.now ∧ S.I.length ≤ S.now) ∧ Hid (TI S) ∧ Hid (∀ k, k ∈ rl (.slice (some ⟨gm, 0, none⟩) 100 100) → k ∉ rl (vi))) a' w') : codetimesB.wp Try.prog Q a' w' := by
  unfold codetimesB; dsimp only [sndC, fstC, bodyOf, Try.f3]
  obtain ⟨b, hi, S, gm, vo, vi, bo, bi, us, rfl, C0, BF, HI, OM, OO, OI, HGE, HN, HL, TT, HRR⟩ := h
  refine sq_ (fun K1 hK1 => ?_)
  refine s_ (fun K2 hK2 => ?_)
  refine pu_ (v := .int .i64 0) (y_assign rfl (by rfl) (by rfl)) ?_
  (try simp only [zP, zN, zA, zB, zC])
  refine nl_ (hK2 _ _ ?_); clear hK2 K2
  refine wp_block ?_
  obtain ⟨Ao, cAo, hAo, -, -⟩ := OO.out.slice
  subst hAo
  obtain ⟨Ai, cAi, hAi, -, -⟩ := OI.out.slice
  subst hAi
  refine loopk_ (fun (kq : Nat) (a' : Act) (w' : World) => ∃ (k : Nat), ∃ (us : Nat → Value), a' = ⟨#[us 0, us 1, .bool false, .pointer (some ⟨b, 0, none⟩), us 4, us 5, .slice (some ⟨gm, 0, none⟩) 100 100, .slice Ao S.L.length cAo, .slice Ai S.I.length cAi, .int .i64 k, us 10, us 11, us 12, us 13, us 14, us 15, us 16, us 17, us 18, us 19, us 20, us 21, us 22, us 23, us 24, us 25, us 26, us 27, us 28, us 29, us 30, us 31, us 32, us 33, us 34, us 35, us 36, us 37, us 38, us 39, us 40, us 41, us 42, us 43, us 44, us 45, us 46, us 47, us 48, us 49, us 50, us 51, us 52, us 53, us 54, us 55, us 56, us 57, us 58, us 59, us 60, us 61, us 62, us 63, us 64, us 65, us 66, us 67, us 68, us 69, us 70, us 71, us 72, us 73, us 74, us 75, us 76, us 77, us 78, us 79, us 80, us 81, us 82, us 83, us 84, us 85, us 86, us 87, us 88, us 89, us 90, us 91, us 92, us 93, us 94, us 95, us 96, us 97, us 98, us 99, us 100, us 101, us 102, us 103, us 104, us 105, us 106, us 107, us 108, us 109, us 110, us 111, us 112, us 113, us 114, us 115, us 116, us 117, us 118, us 119, us 120, us 121, us 122, us 123, us 124, us 125, us 126, us 127, us 128, us 129, us 130, us 131, us 132, us 133, us 134, us 135, us 136, us 137, us 138, us 139, us 140, us 141, us 142, us 143, us 144, us 145, us 146, us 147, us 148, us 149, us 150, us 151, us 152, us 153, us 154, us 155, us 156, us 157, us 158, us 159, us 160, us 161, us 162, us 163, us 164, us 165, us 166, us 167, us 168, us 169, us 170, us 171, us 172, us 173, us 174, us 175, us 176, us 177, us 178, us 179, us 180, us 181, us 182, us 183, us 184, us 185, us 186, us 187, us 188, us 189, us 190, us 191, us 192, us 193, us 194, us 195, us 196, us 197, us 198, us 199, us 200], []⟩ ∧ Hid (Ch [] w w') ∧ Hid (BookIs w' w.heap.size hi b (S)) ∧ Hid (hi ≤ w'.heap.size) ∧ Hid (OwnS w' w.heap.size 3 1 (.slice (some ⟨gm, 0, none⟩) 100 100) (100) (cnts ((S.L.take k).flatMap tm))) ∧ Hid (OwnS w' bo 49 28 (.slice Ao S.L.length cAo) (S.L.length) ((S.L).flatMap opC)) ∧ Hid (OwnS w' bi 3 1 (.slice Ai S.I.length cAi) (S.I.length) ((S.I).map (Value.int .i64))) ∧ Hid (k ≤ S.L.length ∧ kq + k = S.L.length)) (S.L.length) (⟨0, fun us_ => (#[us 0, us 1, .bool false, .pointer (some ⟨b, 0, none⟩), us 4, us 5, .slice (some ⟨gm, 0, none⟩) 100 100, .slice Ao S.L.length cAo, .slice Ai S.I.length cAi, .int .i64 0, us 10, us 11, us 12, us 13, us 14, us 15, us 16, us 17, us 18, us 19, us 20, us 21, us 22, us 23, us 24, us 25, us 26, us 27, us 28, us 29, us 30, us 31, us 32, us 33, us 34, us 35, us 36, us 37, us 38, us 39, us 40, us 41, us 42, us 43, us 44, us 45, us 46, us 47, us 48, us 49, us 50, us 51, us 52, us 53, us 54, us 55, us 56, us 57, us 58, us 59, us 60, us 61, us 62, us 63, us 64, us 65, us 66, us 67, us 68, us 69, us 70, us 71, us 72, us 73, us 74, us 75, us 76, us 77, us 78, us 79, us 80, us 81, us 82, us 83, us 84, us 85, us 86, us 87, us 88, us 89, us 90, us 91, us 92, us 93, us 94, us 95, us 96, us 97, us 98, us 99, us 100, us 101, us 102, us 103, us 104, us 105, us 106, us 107, us 108, us 109, us 110, us 111, us 112, us 113, us 114, us 115, us 116, us 117, us 118, us 119, us 120, us 121, us 122, us 123, us 124, us 125, us 126, us 127, us 128, us 129, us 130, us 131, us 132, us 133, us 134, us 135, us 136, us 137, us 138, us 139, us 140, us 141, us 142, us 143, us 144, us 145, us 146, us 147, us 148, us 149, us 150, us 151, us 152, us 153, us 154, us 155, us 156, us 157, us 158, us 159, us 160, us 161, us 162, us 163, us 164, us 165, us 166, us 167, us 168, us 169, us 170, us 171, us 172, us 173, us 174, us 175, us 176, us 177, us 178, us 179, us 180, us 181, us 182, us 183, us 184, us 185, us 186, us 187, us 188, us 189, us 190, us 191, us 192, us 193, us 194, us 195, us 196, us 197, us 198, us 199, us 200] : Array Value).getD us_ undef, rfl, C0, BF, HI, OM, OO, OI, Lib.hid ⟨by omega, by omega⟩⟩) ?_
  rintro kq _ w3 ⟨k, us, rfl, C0, BF, HI, OM, OO, OI, hk⟩ K4 hK4
  refine sq_ (fun K5 hK5 => ?_)
  rcases loop2_ways TT.out hk.out.1 with h | ⟨o, h2, h1, ka, kd, kt, ea, ed, et, l1, l2, h | h | h⟩
  · have D78 := Lib.hid (show ¬ k < S.L.length by omega)
    have OM' := Lib.hid (show OwnS w3 w.heap.size 3 1 (.slice (some ⟨gm, 0, none⟩) 100 100) (100) (cnts (S.L.flatMap tm)) from by have h1 := OM.out; rw [h, List.take_length] at h1; exact h1)
    clear OM h hk; have OM := OM'; clear OM'
    refine s_ (fun K6 hK6 => ?_)
    refine pu_ (v := .int .i64 k) (y_move rfl (by rfl) (by rfl)) ?_
    (try simp only [zP, zN, zA, zB, zC])
    refine pu_ (v := .slice Ao S.L.length cAo) (y_move rfl (by rfl) (by rfl)) ?_
    (try simp only [zP, zN, zA, zB, zC])
    refine pu_ (v := .int .i64 S.L.length) (y_run (by rfl) (fun W => by go_simp)) ?_
    (try simp only [zP, zN, zA, zB, zC])
    refine pu_ (v := .bool false) (y_run (by rfl) (fun W => by have d := D78.out; go_simp)) ?_
    (try simp only [zP, zN, zA, zB, zC])
    refine nl_ (hK6 _ _ ?_); clear hK6 K6
    refine wp_cond_false rfl ?_
    refine wp_exit ?_
    refine th_exit ?_
    refine th_exit ?_
    refine ib_exit ?_
    refine th_norm (hK1 _ _ ?_); try clear hK1 K1
    exact timesC hQ hP _ _ ⟨_, _, _, _, _, _, fun us_ => (#[us 0, us 1, .bool false, .pointer (some ⟨b, 0, none⟩), us 4, us 5, .slice (some ⟨gm, 0, none⟩) 100 100, .slice Ao S.L.length cAo, .slice Ai S.I.length cAi, .int .i64 k, us 10, us 11, us 12, us 13, us 14, us 15, us 16, us 17, us 18, us 19, us 20, us 21, us 22, us 23, us 24, us 25, us 26, us 27, us 28, us 29, us 30, us 31, us 32, us 33, us 34, us 35, us 36, us 37, us 38, us 39, us 40, us 41, us 42, us 43, us 44, us 45, us 46, us 47, us 48, us 49, us 50, us 51, us 52, us 53, us 54, us 55, us 56, us 57, us 58, us 59, us 60, us 61, us 62, us 63, us 64, us 65, us 66, us 67, us 68, us 69, us 70, us 71, us 72, us 73, us 74, .int .i64 k, .slice Ao S.L.length cAo, .int .i64 S.L.length, .bool false, us 79, us 80, us 81, us 82, us 83, us 84, us 85, us 86, us 87, us 88, us 89, us 90, us 91, us 92, us 93, us 94, us 95, us 96, us 97, us 98, us 99, us 100, us 101, us 102, us 103, us 104, us 105, us 106, us 107, us 108, us 109, us 110, us 111, us 112, us 113, us 114, us 115, us 116, us 117, us 118, us 119, us 120, us 121, us 122, us 123, us 124, us 125, us 126, us 127, us 128, us 129, us 130, us 131, us 132, us 133, us 134, us 135, us 136, us 137, us 138, us 139, us 140, us 141, us 142, us 143, us 144, us 145, us 146, us 147, us 148, us 149, us 150, us 151, us 152, us 153, us 154, us 155, us 156, us 157, us 158, us 159, us 160, us 161, us 162, us 163, us 164, us 165, us 166, us 167, us 168, us 169, us 170, us 171, us 172, us 173, us 174, us 175, us 176, us 177, us 178, us 179, us 180, us 181, us 182, us 183, us 184, us 185, us 186, us 187, us 188, us 189, us 190, us 191, us 192, us 193, us 194, us 195, us 196, us 197, us 198, us 199, us 200] : Array Value).getD us_ undef, rfl, C0, BF, HI, OM, OI, HGE, HN, HL, TT, Lib.hid (HRR.out)⟩
  · have hlt := Lib.hid h1
    have ho := Lib.hid h2
    have ha := Lib.hid ea
    have hd := Lib.hid ed
    have htt := Lib.hid et
    have hka := Lib.hid (And.intro l1 l2)
    have hx := Lib.hid h
    clear h h1 h2 ea ed et l1 l2
    have D78 := Lib.hid (show (k : Int) < (S.L.length : Int) by have := hlt.out; omega)
    obtain ⟨go, co, hv, -, -, -, -, -⟩ := OO.out.some_ (by have := hlt.out; omega)
    injection hv with hv1 _ hv3
    subst hv1 hv3
    have WA := Lib.hid (show IntKind.i64.wrap ((k : Int) + 1) = ((k + 1 : Nat) : Int) by rw [wr64 (by have := hlt.out; have := HL.out; have := HN.out; omega)]; omega)
    have DX_ka := Lib.hid (show ka < 100 by have := hka.out; have := HN.out; omega)
    have DX_kd := Lib.hid (show kd < 100 by have := hx.out; have := HN.out; omega)
    have DX_kt := Lib.hid (show kt < 100 by have := hx.out; have := HN.out; omega)
    have HML := Lib.hid (show ((S.L.take k).flatMap tm).length ≤ 300 by rw [tms_len, List.length_take]; have := HL.out; have := HN.out; omega)
    have D87 := Lib.hid (show decide ((ka : Int) < 1) = false from decide_eq_false (by have := hka.out; omega))
    have D91 := Lib.hid (show kd = 0 by have := hka.out; have := hx.out; omega)
    have D103 := Lib.hid (show kt = 0 by have := hka.out; have := hx.out; omega)
    have D122 := Lib.hid (show kt ≤ S.now by have := hka.out; have := hx.out; omega)
    have D129 := Lib.hid (show kd ≤ S.now by have := hka.out; have := hx.out; omega)
    have D136 := Lib.hid (show ka ≤ S.now by have := hka.out; have := hx.out; omega)
    have DM1 := Lib.hid (show max (kd : Int) 0 = kd by omega)
    have DM2 := Lib.hid (show max (kt : Int) 0 = kt by omega)
    have DB141 := Lib.hid (show (ka : Int) < 100 by have := DX_ka.out; omega)
    obtain ⟨c143, hc143⟩ : ∃ c, ((S.L.take k).flatMap tm).count (ka : Int) = c := ⟨_, rfl⟩
    have HC143 := Lib.hid hc143; clear hc143
    have WB143 := Lib.hid (show IntKind.i64.wrap ((c143 : Int) + 1) = ((c143 + 1 : Nat) : Int) by rw [wr64 (by have h8 : c143 ≤ 600 := (by rw [← HC143.out]; exact Nat.le_trans (cnt_le _ _) (by have h9 := HML.out; first | omega | (simp only [List.length_append, List.length_cons, List.length_nil]; omega))); omega)]; omega)
    have DB149 := Lib.hid (show (kd : Int) < 100 by have := DX_kd.out; omega)
    obtain ⟨c151, hc151⟩ : ∃ c, ((S.L.take k).flatMap tm ++ [(ka : Int)]).count (kd : Int) = c := ⟨_, rfl⟩
    have HC151 := Lib.hid hc151; clear hc151
    have WB151 := Lib.hid (show IntKind.i64.wrap ((c151 : Int) + 1) = ((c151 + 1 : Nat) : Int) by rw [wr64 (by have h8 : c151 ≤ 600 := (by rw [← HC151.out]; exact Nat.le_trans (cnt_le _ _) (by have h9 := HML.out; first | omega | (simp only [List.length_append, List.length_cons, List.length_nil]; omega))); omega)]; omega)
    have DB157 := Lib.hid (show (kt : Int) < 100 by have := DX_kt.out; omega)
    obtain ⟨c159, hc159⟩ : ∃ c, (((S.L.take k).flatMap tm ++ [(ka : Int)]) ++ [(kd : Int)]).count (kt : Int) = c := ⟨_, rfl⟩
    have HC159 := Lib.hid hc159; clear hc159
    have WB159 := Lib.hid (show IntKind.i64.wrap ((c159 : Int) + 1) = ((c159 + 1 : Nat) : Int) by rw [wr64 (by have h8 : c159 ≤ 600 := (by rw [← HC159.out]; exact Nat.le_trans (cnt_le _ _) (by have h9 := HML.out; first | omega | (simp only [List.length_append, List.length_cons, List.length_nil]; omega))); omega)]; omega)
    refine s_ (fun K7 hK7 => ?_)
    refine pu_ (v := .int .i64 k) (y_move rfl (by rfl) (by rfl)) ?_
    (try simp only [zP, zN, zA, zB, zC])
    refine pu_ (v := .slice (some ⟨go, 0, none⟩) S.L.length cAo) (y_move rfl (by rfl) (by rfl)) ?_
    (try simp only [zP, zN, zA, zB, zC])
    refine pu_ (v := .int .i64 S.L.length) (y_run (by rfl) (fun W => by go_simp)) ?_
    (try simp only [zP, zN, zA, zB, zC])
    refine pu_ (v := .bool true) (y_run (by rfl) (fun W => by have d := D78.out; go_simp)) ?_
    (try simp only [zP, zN, zA, zB, zC])
    refine nl_ (hK7 _ _ ?_); clear hK7 K7
    refine wp_cond_true rfl ?_
    refine wp_skip ?_
    refine th_norm (hK5 _ _ ?_); try clear hK5 K5
    refine sq_ (fun K8 hK8 => ?_)
    refine wp_block ?_
    refine s_ (fun K9 hK9 => ?_)
    refine pu_ (v := .slice (some ⟨go, 0, none⟩) S.L.length cAo) (y_move rfl (by rfl) (by rfl)) ?_
    (try simp only [zP, zN, zA, zB, zC])
    refine pu_ (v := .int .i64 k) (y_move rfl (by rfl) (by rfl)) ?_
    (try simp only [zP, zN, zA, zB, zC])
    refine pu_ (v := .pointer (some ⟨go, k * 28, none⟩)) (y_run (by rfl) (fun W => by have d := D78.out; go_simp)) ?_
    (try simp only [zP, zN, zA, zB, zC])
    refine ld_ (v := .agg (opC o).toArray) rfl (by rfl) (by rfl) (run_loadVar_at (op_cells ho.out OO.out) Try.underlying49 rfl (by rw [opC_len]; kernel_rfl)) ?_
    (try simp only [zP, zN, zA, zB, zC])
    refine ef_ (fun K10 hK10 => ?_)
    refine e_alloc (by rfl) rfl rfl (cs := #[.int .i64 0, .int .i64 0, .int .i64 0, .int .i64 0, .int .i64 0, .int .i64 0, .int .i64 0, .int .u64 0, .string ⟨#[]⟩, .slice none 0 0, .slice none 0 0, .slice none 0 0, .int .i64 0, .int .i64 0, .int .i64 0, .int .i64 0, .int .i64 0, .int .i64 0, .int .i64 0, .string ⟨#[]⟩, .slice none 0 0, .int .i64 0, .int .i64 0, .int .i64 0, .int .u64 0, .string ⟨#[]⟩, .slice none 0 0, .slice none 0 0]) (by kernel_rfl) ?_
    rintro g11 w12 HG13 B14 C15
    have nw16 := Lib.hid (show w.heap.size ≤ g11 by have := C0.out.size; have := HG13.out; omega)
    have hg17 := Lib.hid (show hi ≤ g11 by have := HI.out; have := HG13.out; omega)
    have nr18 := Lib.hid (OO.out.ne_new HG13)
    have C0' := Lib.hid (show Ch [] w w12 from C0.out.trans' C15 (fun x hx => absurd hx (by simp)))
    have BF' := Lib.hid (show BookIs w12 w.heap.size hi b (S) from BF.out.ch C15 (fun x hx => absurd hx (by simp)))
    have HI' := Lib.hid (show hi ≤ w12.heap.size from Nat.le_trans HI.out C15.size)
    have OM' := Lib.hid (show OwnS w12 w.heap.size 3 1 (.slice (some ⟨gm, 0, none⟩) 100 100) (100) (cnts ((S.L.take k).flatMap tm)) from OM.out.ch C15 rnin_nil)
    have OO' := Lib.hid (show OwnS w12 bo 49 28 (.slice (some ⟨go, 0, none⟩) S.L.length cAo) (S.L.length) ((S.L).flatMap opC) from OO.out.ch C15 rnin_nil)
    have OI' := Lib.hid (show OwnS w12 bi 3 1 (.slice Ai S.I.length cAi) (S.I.length) ((S.I).map (Value.int .i64)) from OI.out.ch C15 rnin_nil)
    clear C0 BF HI OM OO OI
    have C0 := C0'; clear C0'
    have BF := BF'; clear BF'
    have HI := HI'; clear HI'
    have OM := OM'; clear OM'
    have OO := OO'; clear OO'
    have OI := OI'; clear OI'
    have Fg11 := Lib.hid (show Blk w12 g11 (#[.int .i64 0, .int .i64 0, .int .i64 0, .int .i64 0, .int .i64 0, .int .i64 0, .int .i64 0, .int .u64 0, .string ⟨#[]⟩, .slice none 0 0, .slice none 0 0, .slice none 0 0, .int .i64 0, .int .i64 0, .int .i64 0, .int .i64 0, .int .i64 0, .int .i64 0, .int .i64 0, .string ⟨#[]⟩, .slice none 0 0, .int .i64 0, .int .i64 0, .int .i64 0, .int .u64 0, .string ⟨#[]⟩, .slice none 0 0, .slice none 0 0]) 49 from B14); clear B14 C15
    refine hK10 _ _ ?_; clear hK10 K10
    (try simp only [zP, zN, zA, zB, zC])
    refine ef_ (fun K19 hK19 => ?_)
    refine e_storeN (cells := (opC o).toArray) (by rfl) rfl rfl (by rfl) (by rfl) Fg11.out (sz49 o) (by rw [show (opC o).toArray.size = 28 by rw [List.size_toArray, opC_len]]; rfl) (by simpa using opC_one o) ?_
    rintro w20 B21 C22
    have C0' := Lib.hid (show Ch [] w w20 from C0.out.trans' C22 (inw_cons (.inr nw16.out) inw_nil))
    have BF' := Lib.hid (show BookIs w20 w.heap.size hi b (S) from BF.out.ch C22 (fun x hx => .inr (by rw [List.mem_singleton.1 hx]; exact hg17.out)))
    have HI' := Lib.hid (show hi ≤ w20.heap.size from Nat.le_trans HI.out C22.size)
    have OM' := Lib.hid (show OwnS w20 w.heap.size 3 1 (.slice (some ⟨gm, 0, none⟩) 100 100) (100) (cnts ((S.L.take k).flatMap tm)) from OM.out.ch C22 (rnin_cons (OM.out.ne Fg11.out (by decide)) rnin_nil))
    have OO' := Lib.hid (show OwnS w20 bo 49 28 (.slice (some ⟨go, 0, none⟩) S.L.length cAo) (S.L.length) ((S.L).flatMap opC) from OO.out.ch C22 (rnin_cons nr18.out rnin_nil))
    have OI' := Lib.hid (show OwnS w20 bi 3 1 (.slice Ai S.I.length cAi) (S.I.length) ((S.I).map (Value.int .i64)) from OI.out.ch C22 (rnin_cons (OI.out.ne Fg11.out (by decide)) rnin_nil))
    clear C0 BF HI OM OO OI
    have C0 := C0'; clear C0'
    have BF := BF'; clear BF'
    have HI := HI'; clear HI'
    have OM := OM'; clear OM'
    have OO := OO'; clear OO'
    have OI := OI'; clear OI'
    clear Fg11; have Fg11 := Lib.hid (show Blk w20 g11 ((opC o).toArray) 49 from B21); clear B21 C22
    refine hK19 _ _ ?_; clear hK19 K19
    (try simp only [zP, zN, zA, zB, zC])
    refine nl_ (hK9 _ _ ?_); clear hK9 K9
    refine sq_ (fun K23 hK23 => ?_)
    refine sq_ (fun K24 hK24 => ?_)
    refine startk_ (S := fun W => Blk W g11 ((opC o).toArray) 49 ∧ True) (ds := []) #[false, false, false, false, false, false, false, false, false, false, false, false, false, false, false, false, false, false, false, false, false, false, false, false, false, false, false, false, false, false, false, false, false, false, false, false, false, false, false, false, false, false, false, false, false, false, false, false, false, false, false, false, false] (by kernel_rfl) rfl rfl (fun W c => ⟨c.blk Fg11.out nin_nil, trivial⟩) (fun w25 C26 hS27 => ?_)
    have C0' := Lib.hid (show Ch [] w w25 from C0.out.trans' C26 (fun x hx => absurd hx (by simp)))
    have BF' := Lib.hid (show BookIs w25 w.heap.size hi b (S) from BF.out.ch C26 (fun x hx => absurd hx (by simp)))
    have HI' := Lib.hid (show hi ≤ w25.heap.size from Nat.le_trans HI.out C26.size)
    have OM' := Lib.hid (show OwnS w25 w.heap.size 3 1 (.slice (some ⟨gm, 0, none⟩) 100 100) (100) (cnts ((S.L.take k).flatMap tm)) from OM.out.ch C26 rnin_nil)
    have OO' := Lib.hid (show OwnS w25 bo 49 28 (.slice (some ⟨go, 0, none⟩) S.L.length cAo) (S.L.length) ((S.L).flatMap opC) from OO.out.ch C26 rnin_nil)
    have OI' := Lib.hid (show OwnS w25 bi 3 1 (.slice Ai S.I.length cAi) (S.I.length) ((S.I).map (Value.int .i64)) from OI.out.ch C26 rnin_nil)
    have Fg11' := Lib.hid (show Blk w25 g11 ((opC o).toArray) 49 from C26.blk Fg11.out nin_nil)
    clear C0 BF HI OM OO OI Fg11
    have C0 := C0'; clear C0'
    have BF := BF'; clear BF'
    have HI := HI'; clear HI'
    have OM := OM'; clear OM'
    have OO := OO'; clear OO'
    have OI := OI'; clear OI'
    have Fg11 := Fg11'; clear Fg11'
    clear C26
    refine pure_ (i := 0) (N := some 85) (v := .pointer (some ⟨g11, 2, none⟩)) #[true, false, false, false, false, false, false, false, false, false, false, false, false, false, false, false, false, false, false, false, false, false, false, false, false, false, false, false, false, false, false, false, false, false, false, false, false, false, false, false, false, false, false, false, false, false, false, false, false, false, false, false, false] rfl rfl (by kernel_rfl) (fun c a w h => hP c a _ _ w h) (y_run (by rfl) (fun W => by go_simp)) rfl ?_
    (try simp only [zP, zN, zA, zB, zC])
    refine take_ (i := 1) (N := some 86) (v := .int .i64 ka) #[true, true, false, false, false, false, false, false, false, false, false, false, false, false, false, false, false, false, false, false, false, false, false, false, false, false, false, false, false, false, false, false, false, false, false, false, false, false, false, false, false, false, false, false, false, false, false, false, false, false, false, false, false] rfl rfl (by kernel_rfl) (fun c a w h => hP c a _ _ w h) (y_load (p := ⟨g11, 2, none⟩) rfl (by rfl) (by rfl) (fun W hS => run_load_one ((hS.1.cell 2).trans (by rw [← ha.out]; simp [opC])) Try.underlying3 rfl)) hS27 rfl ?_
    (try simp only [zP, zN, zA, zB, zC])
    refine pure_ (i := 2) (N := some 87) (v := .bool false) #[true, true, true, false, false, false, false, false, false, false, false, false, false, false, false, false, false, false, false, false, false, false, false, false, false, false, false, false, false, false, false, false, false, false, false, false, false, false, false, false, false, false, false, false, false, false, false, false, false, false, false, false, false] rfl rfl (by kernel_rfl) (fun c a w h => hP c a _ _ w h) (y_run (by rfl) (fun W => by have d := D87.out; go_simp)) rfl ?_
    (try simp only [zP, zN, zA, zB, zC])
    refine pure_ (i := 3) (N := some 88) (v := .bool false) #[true, true, true, true, false, false, false, false, false, false, false, false, false, false, false, false, false, false, false, false, false, false, false, false, false, false, false, false, false, false, false, false, false, false, false, false, false, false, false, false, false, false, false, false, false, false, false, false, false, false, false, false, false] rfl rfl (by kernel_rfl) (fun c a w h => hP c a _ _ w h) (y_move rfl (by rfl) (by rfl)) rfl ?_
    (try simp only [zP, zN, zA, zB, zC])
    refine pure_ (i := 4) (N := some 89) (v := .pointer (some ⟨g11, 3, none⟩)) #[true, true, true, true, true, false, false, false, false, false, false, false, false, false, false, false, false, false, false, false, false, false, false, false, false, false, false, false, false, false, false, false, false, false, false, false, false, false, false, false, false, false, false, false, false, false, false, false, false, false, false, false, false] rfl rfl (by kernel_rfl) (fun c a w h => hP c a _ _ w h) (y_run (by rfl) (fun W => by go_simp)) rfl ?_
    (try simp only [zP, zN, zA, zB, zC])
    refine take_ (i := 5) (N := some 90) (v := .int .i64 kd) #[true, true, true, true, true, true, false, false, false, false, false, false, false, false, false, false, false, false, false, false, false, false, false, false, false, false, false, false, false, false, false, false, false, false, false, false, false, false, false, false, false, false, false, false, false, false, false, false, false, false, false, false, false] rfl rfl (by kernel_rfl) (fun c a w h => hP c a _ _ w h) (y_load (p := ⟨g11, 3, none⟩) rfl (by rfl) (by rfl) (fun W hS => run_load_one ((hS.1.cell 3).trans (by rw [← hd.out]; simp [opC])) Try.underlying3 rfl)) hS27 rfl ?_
    (try simp only [zP, zN, zA, zB, zC])
    refine pure_ (i := 6) (N := some 91) (v := .bool false) #[true, true, true, true, true, true, true, false, false, false, false, false, false, false, false, false, false, false, false, false, false, false, false, false, false, false, false, false, false, false, false, false, false, false, false, false, false, false, false, false, false, false, false, false, false, false, false, false, false, false, false, false, false] rfl rfl (by kernel_rfl) (fun c a w h => hP c a _ _ w h) (y_run (by rfl) (fun W => by have d := D91.out; go_simp)) rfl ?_
    (try simp only [zP, zN, zA, zB, zC])
    refine pure_ (i := 7) (N := some 92) (v := .bool false) #[true, true, true, true, true, true, true, true, false, false, false, false, false, false, false, false, false, false, false, false, false, false, false, false, false, false, false, false, false, false, false, false, false, false, false, false, false, false, false, false, false, false, false, false, false, false, false, false, false, false, false, false, false] rfl rfl (by kernel_rfl) (fun c a w h => hP c a _ _ w h) (y_move rfl (by rfl) (by rfl)) rfl ?_
    (try simp only [zP, zN, zA, zB, zC])
    refine pure_ (i := 8) (N := some 93) (v := undef) #[true, true, true, true, true, true, true, true, true, false, false, false, false, false, false, false, false, false, false, false, false, false, false, false, false, false, false, false, false, false, false, false, false, false, false, false, false, false, false, false, false, false, false, false, false, false, false, false, false, false, false, false, false] rfl rfl (by kernel_rfl) (fun c a w h => hP c a _ _ w h) (y_off (by rfl)) rfl ?_
    (try simp only [zP, zN, zA, zB, zC])
    refine pure_ (i := 9) (N := some 94) (v := undef) #[true, true, true, true, true, true, true, true, true, true, false, false, false, false, false, false, false, false, false, false, false, false, false, false, false, false, false, false, false, false, false, false, false, false, false, false, false, false, false, false, false, false, false, false, false, false, false, false, false, false, false, false, false] rfl rfl (by kernel_rfl) (fun c a w h => hP c a _ _ w h) (y_off (by rfl)) rfl ?_
    (try simp only [zP, zN, zA, zB, zC])
    refine pure_ (i := 10) (N := some 95) (v := undef) #[true, true, true, true, true, true, true, true, true, true, true, false, false, false, false, false, false, false, false, false, false, false, false, false, false, false, false, false, false, false, false, false, false, false, false, false, false, false, false, false, false, false, false, false, false, false, false, false, false, false, false, false, false] rfl rfl (by kernel_rfl) (fun c a w h => hP c a _ _ w h) (y_off (by rfl)) rfl ?_
    (try simp only [zP, zN, zA, zB, zC])
    refine pure_ (i := 11) (N := some 96) (v := undef) #[true, true, true, true, true, true, true, true, true, true, true, true, false, false, false, false, false, false, false, false, false, false, false, false, false, false, false, false, false, false, false, false, false, false, false, false, false, false, false, false, false, false, false, false, false, false, false, false, false, false, false, false, false] rfl rfl (by kernel_rfl) (fun c a w h => hP c a _ _ w h) (y_off (by rfl)) rfl ?_
    (try simp only [zP, zN, zA, zB, zC])
    refine pure_ (i := 12) (N := some 97) (v := undef) #[true, true, true, true, true, true, true, true, true, true, true, true, true, false, false, false, false, false, false, false, false, false, false, false, false, false, false, false, false, false, false, false, false, false, false, false, false, false, false, false, false, false, false, false, false, false, false, false, false, false, false, false, false] rfl rfl (by kernel_rfl) (fun c a w h => hP c a _ _ w h) (y_off (by rfl)) rfl ?_
    (try simp only [zP, zN, zA, zB, zC])
    refine pure_ (i := 13) (N := some 98) (v := .bool false) #[true, true, true, true, true, true, true, true, true, true, true, true, true, true, false, false, false, false, false, false, false, false, false, false, false, false, false, false, false, false, false, false, false, false, false, false, false, false, false, false, false, false, false, false, false, false, false, false, false, false, false, false, false] rfl rfl (by kernel_rfl) (fun c a w h => hP c a _ _ w h) (y_pick (t := false) (by rfl) rfl (by rfl) (by rfl)) rfl ?_
    (try simp only [zP, zN, zA, zB, zC])
    refine pure_ (i := 14) (N := some 99) (v := .bool false) #[true, true, true, true, true, true, true, true, true, true, true, true, true, true, true, false, false, false, false, false, false, false, false, false, false, false, false, false, false, false, false, false, false, false, false, false, false, false, false, false, false, false, false, false, false, false, false, false, false, false, false, false, false] rfl rfl (by kernel_rfl) (fun c a w h => hP c a _ _ w h) (y_pick (t := false) (by rfl) rfl (by rfl) (by rfl)) rfl ?_
    (try simp only [zP, zN, zA, zB, zC])
    refine pure_ (i := 15) (N := some 100) (v := .bool false) #[true, true, true, true, true, true, true, true, true, true, true, true, true, true, true, true, false, false, false, false, false, false, false, false, false, false, false, false, false, false, false, false, false, false, false, false, false, false, false, false, false, false, false, false, false, false, false, false, false, false, false, false, false] rfl rfl (by kernel_rfl) (fun c a w h => hP c a _ _ w h) (y_move rfl (by rfl) (by rfl)) rfl ?_
    (try simp only [zP, zN, zA, zB, zC])
    refine pure_ (i := 16) (N := some 101) (v := .pointer (some ⟨g11, 4, none⟩)) #[true, true, true, true, true, true, true, true, true, true, true, true, true, true, true, true, true, false, false, false, false, false, false, false, false, false, false, false, false, false, false, false, false, false, false, false, false, false, false, false, false, false, false, false, false, false, false, false, false, false, false, false, false] rfl rfl (by kernel_rfl) (fun c a w h => hP c a _ _ w h) (y_run (by rfl) (fun W => by go_simp)) rfl ?_
    (try simp only [zP, zN, zA, zB, zC])
    refine take_ (i := 17) (N := some 102) (v := .int .i64 kt) #[true, true, true, true, true, true, true, true, true, true, true, true, true, true, true, true, true, true, false, false, false, false, false, false, false, false, false, false, false, false, false, false, false, false, false, false, false, false, false, false, false, false, false, false, false, false, false, false, false, false, false, false, false] rfl rfl (by kernel_rfl) (fun c a w h => hP c a _ _ w h) (y_load (p := ⟨g11, 4, none⟩) rfl (by rfl) (by rfl) (fun W hS => run_load_one ((hS.1.cell 4).trans (by rw [← htt.out]; simp [opC])) Try.underlying3 rfl)) hS27 rfl ?_
    (try simp only [zP, zN, zA, zB, zC])
    refine pure_ (i := 18) (N := some 103) (v := .bool false) #[true, true, true, true, true, true, true, true, true, true, true, true, true, true, true, true, true, true, true, false, false, false, false, false, false, false, false, false, false, false, false, false, false, false, false, false, false, false, false, false, false, false, false, false, false, false, false, false, false, false, false, false, false] rfl rfl (by kernel_rfl) (fun c a w h => hP c a _ _ w h) (y_run (by rfl) (fun W => by have d := D103.out; go_simp)) rfl ?_
    (try simp only [zP, zN, zA, zB, zC])
    refine pure_ (i := 19) (N := some 104) (v := .bool false) #[true, true, true, true, true, true, true, true, true, true, true, true, true, true, true, true, true, true, true, true, false, false, false, false, false, false, false, false, false, false, false, false, false, false, false, false, false, false, false, false, false, false, false, false, false, false, false, false, false, false, false, false, false] rfl rfl (by kernel_rfl) (fun c a w h => hP c a _ _ w h) (y_move rfl (by rfl) (by rfl)) rfl ?_
    (try simp only [zP, zN, zA, zB, zC])
    refine pure_ (i := 20) (N := some 105) (v := undef) #[true, true, true, true, true, true, true, true, true, true, true, true, true, true, true, true, true, true, true, true, true, false, false, false, false, false, false, false, false, false, false, false, false, false, false, false, false, false, false, false, false, false, false, false, false, false, false, false, false, false, false, false, false] rfl rfl (by kernel_rfl) (fun c a w h => hP c a _ _ w h) (y_off (by rfl)) rfl ?_
    (try simp only [zP, zN, zA, zB, zC])
    refine pure_ (i := 21) (N := some 106) (v := undef) #[true, true, true, true, true, true, true, true, true, true, true, true, true, true, true, true, true, true, true, true, true, true, false, false, false, false, false, false, false, false, false, false, false, false, false, false, false, false, false, false, false, false, false, false, false, false, false, false, false, false, false, false, false] rfl rfl (by kernel_rfl) (fun c a w h => hP c a _ _ w h) (y_off (by rfl)) rfl ?_
    (try simp only [zP, zN, zA, zB, zC])
    refine pure_ (i := 22) (N := some 107) (v := undef) #[true, true, true, true, true, true, true, true, true, true, true, true, true, true, true, true, true, true, true, true, true, true, true, false, false, false, false, false, false, false, false, false, false, false, false, false, false, false, false, false, false, false, false, false, false, false, false, false, false, false, false, false, false] rfl rfl (by kernel_rfl) (fun c a w h => hP c a _ _ w h) (y_off (by rfl)) rfl ?_
    (try simp only [zP, zN, zA, zB, zC])
    refine pure_ (i := 23) (N := some 108) (v := undef) #[true, true, true, true, true, true, true, true, true, true, true, true, true, true, true, true, true, true, true, true, true, true, true, true, false, false, false, false, false, false, false, false, false, false, false, false, false, false, false, false, false, false, false, false, false, false, false, false, false, false, false, false, false] rfl rfl (by kernel_rfl) (fun c a w h => hP c a _ _ w h) (y_off (by rfl)) rfl ?_
    (try simp only [zP, zN, zA, zB, zC])
    refine pure_ (i := 24) (N := some 109) (v := undef) #[true, true, true, true, true, true, true, true, true, true, true, true, true, true, true, true, true, true, true, true, true, true, true, true, true, false, false, false, false, false, false, false, false, false, false, false, false, false, false, false, false, false, false, false, false, false, false, false, false, false, false, false, false] rfl rfl (by kernel_rfl) (fun c a w h => hP c a _ _ w h) (y_off (by rfl)) rfl ?_
    (try simp only [zP, zN, zA, zB, zC])
    refine pure_ (i := 25) (N := some 110) (v := undef) #[true, true, true, true, true, true, true, true, true, true, true, true, true, true, true, true, true, true, true, true, true, true, true, true, true, true, false, false, false, false, false, false, false, false, false, false, false, false, false, false, false, false, false, false, false, false, false, false, false, false, false, false, false] rfl rfl (by kernel_rfl) (fun c a w h => hP c a _ _ w h) (y_off (by rfl)) rfl ?_
    (try simp only [zP, zN, zA, zB, zC])
    refine pure_ (i := 26) (N := some 111) (v := undef) #[true, true, true, true, true, true, true, true, true, true, true, true, true, true, true, true, true, true, true, true, true, true, true, true, true, true, true, false, false, false, false, false, false, false, false, false, false, false, false, false, false, false, false, false, false, false, false, false, false, false, false, false, false] rfl rfl (by kernel_rfl) (fun c a w h => hP c a _ _ w h) (y_off (by rfl)) rfl ?_
    (try simp only [zP, zN, zA, zB, zC])
    refine pure_ (i := 27) (N := some 112) (v := undef) #[true, true, true, true, true, true, true, true, true, true, true, true, true, true, true, true, true, true, true, true, true, true, true, true, true, true, true, true, false, false, false, false, false, false, false, false, false, false, false, false, false, false, false, false, false, false, false, false, false, false, false, false, false] rfl rfl (by kernel_rfl) (fun c a w h => hP c a _ _ w h) (y_off (by rfl)) rfl ?_
    (try simp only [zP, zN, zA, zB, zC])
    refine pure_ (i := 28) (N := some 113) (v := undef) #[true, true, true, true, true, true, true, true, true, true, true, true, true, true, true, true, true, true, true, true, true, true, true, true, true, true, true, true, true, false, false, false, false, false, false, false, false, false, false, false, false, false, false, false, false, false, false, false, false, false, false, false, false] rfl rfl (by kernel_rfl) (fun c a w h => hP c a _ _ w h) (y_off (by rfl)) rfl ?_
    (try simp only [zP, zN, zA, zB, zC])
    refine pure_ (i := 29) (N := some 114) (v := undef) #[true, true, true, true, true, true, true, true, true, true, true, true, true, true, true, true, true, true, true, true, true, true, true, true, true, true, true, true, true, true, false, false, false, false, false, false, false, false, false, false, false, false, false, false, false, false, false, false, false, false, false, false, false] rfl rfl (by kernel_rfl) (fun c a w h => hP c a _ _ w h) (y_off (by rfl)) rfl ?_
    (try simp only [zP, zN, zA, zB, zC])
    refine pure_ (i := 30) (N := some 115) (v := .bool false) #[true, true, true, true, true, true, true, true, true, true, true, true, true, true, true, true, true, true, true, true, true, true, true, true, true, true, true, true, true, true, true, false, false, false, false, false, false, false, false, false, false, false, false, false, false, false, false, false, false, false, false, false, false] rfl rfl (by kernel_rfl) (fun c a w h => hP c a _ _ w h) (y_pick (t := false) (by rfl) rfl (by rfl) (by rfl)) rfl ?_
    (try simp only [zP, zN, zA, zB, zC])
    refine pure_ (i := 31) (N := some 116) (v := .bool false) #[true, true, true, true, true, true, true, true, true, true, true, true, true, true, true, true, true, true, true, true, true, true, true, true, true, true, true, true, true, true, true, true, false, false, false, false, false, false, false, false, false, false, false, false, false, false, false, false, false, false, false, false, false] rfl rfl (by kernel_rfl) (fun c a w h => hP c a _ _ w h) (y_pick (t := false) (by rfl) rfl (by rfl) (by rfl)) rfl ?_
    (try simp only [zP, zN, zA, zB, zC])
    refine pure_ (i := 32) (N := some 117) (v := .bool false) #[true, true, true, true, true, true, true, true, true, true, true, true, true, true, true, true, true, true, true, true, true, true, true, true, true, true, true, true, true, true, true, true, true, false, false, false, false, false, false, false, false, false, false, false, false, false, false, false, false, false, false, false, false] rfl rfl (by kernel_rfl) (fun c a w h => hP c a _ _ w h) (y_move rfl (by rfl) (by rfl)) rfl ?_
    (try simp only [zP, zN, zA, zB, zC])
    refine pure_ (i := 33) (N := some 118) (v := .pointer (some ⟨g11, 4, none⟩)) #[true, true, true, true, true, true, true, true, true, true, true, true, true, true, true, true, true, true, true, true, true, true, true, true, true, true, true, true, true, true, true, true, true, true, false, false, false, false, false, false, false, false, false, false, false, false, false, false, false, false, false, false, false] rfl rfl (by kernel_rfl) (fun c a w h => hP c a _ _ w h) (y_run (by rfl) (fun W => by go_simp)) rfl ?_
    (try simp only [zP, zN, zA, zB, zC])
    refine take_ (i := 34) (N := some 119) (v := .int .i64 kt) #[true, true, true, true, true, true, true, true, true, true, true, true, true, true, true, true, true, true, true, true, true, true, true, true, true, true, true, true, true, true, true, true, true, true, true, false, false, false, false, false, false, false, false, false, false, false, false, false, false, false, false, false, false] rfl rfl (by kernel_rfl) (fun c a w h => hP c a _ _ w h) (y_load (p := ⟨g11, 4, none⟩) rfl (by rfl) (by rfl) (fun W hS => run_load_one ((hS.1.cell 4).trans (by rw [← htt.out]; simp [opC])) Try.underlying3 rfl)) hS27 rfl ?_
    (try simp only [zP, zN, zA, zB, zC])
    refine pure_ (i := 35) (N := some 120) (v := .pointer (some ⟨b, 0, none⟩)) #[true, true, true, true, true, true, true, true, true, true, true, true, true, true, true, true, true, true, true, true, true, true, true, true, true, true, true, true, true, true, true, true, true, true, true, true, false, false, false, false, false, false, false, false, false, false, false, false, false, false, false, false, false] rfl rfl (by kernel_rfl) (fun c a w h => hP c a _ _ w h) (y_move rfl (by rfl) (by rfl)) rfl ?_
    (try simp only [zP, zN, zA, zB, zC])
    refine one_ (i := 36) (N := some 121) #[true, true, true, true, true, true, true, true, true, true, true, true, true, true, true, true, true, true, true, true, true, true, true, true, true, true, true, true, true, true, true, true, true, true, true, true, true, false, false, false, false, false, false, false, false, false, false, false, false, false, false, false, false] rfl rfl (by kernel_rfl) (by simp) (fun K28 hK28 => ?_)
    refine e_call Try.func14 (by kernel_rfl) rfl #[.pointer (some ⟨b, 0, none⟩)] (by rfl) rfl rfl (by first | rfl | (simp only [List.map_toArray, List.map_cons, List.map_nil]; first | done | rfl)) (now_all BF.out) ?_
    rintro en w30 ⟨rfl, cc29⟩
    refine ⟨_, rfl, ?_⟩
    have C0' := Lib.hid (show Ch [] w w30 from C0.out.trans' cc29 (fun x hx => absurd hx (by simp)))
    have BF' := Lib.hid (show BookIs w30 w.heap.size hi b (S) from BF.out.ch cc29 (fun x hx => absurd hx (by simp)))
    have HI' := Lib.hid (show hi ≤ w30.heap.size from Nat.le_trans HI.out cc29.size)
    have OM' := Lib.hid (show OwnS w30 w.heap.size 3 1 (.slice (some ⟨gm, 0, none⟩) 100 100) (100) (cnts ((S.L.take k).flatMap tm)) from OM.out.ch cc29 rnin_nil)
    have OO' := Lib.hid (show OwnS w30 bo 49 28 (.slice (some ⟨go, 0, none⟩) S.L.length cAo) (S.L.length) ((S.L).flatMap opC) from OO.out.ch cc29 rnin_nil)
    have OI' := Lib.hid (show OwnS w30 bi 3 1 (.slice Ai S.I.length cAi) (S.I.length) ((S.I).map (Value.int .i64)) from OI.out.ch cc29 rnin_nil)
    have Fg11' := Lib.hid (show Blk w30 g11 ((opC o).toArray) 49 from cc29.blk Fg11.out nin_nil)
    clear C0 BF HI OM OO OI Fg11
    have C0 := C0'; clear C0'
    have BF := BF'; clear BF'
    have HI := HI'; clear HI'
    have OM := OM'; clear OM'
    have OO := OO'; clear OO'
    have OI := OI'; clear OI'
    have Fg11 := Fg11'; clear Fg11'
    clear cc29
    refine hK28.out _ _ ⟨Fg11.out, trivial⟩ (fun hS31 => ?_); clear hK28 K28
    (try simp only [zP, zN, zA, zB, zC])
    refine pure_ (i := 37) (N := some 122) (v := .bool false) #[true, true, true, true, true, true, true, true, true, true, true, true, true, true, true, true, true, true, true, true, true, true, true, true, true, true, true, true, true, true, true, true, true, true, true, true, true, true, false, false, false, false, false, false, false, false, false, false, false, false, false, false, false] rfl rfl (by kernel_rfl) (fun c a w h => hP c a _ _ w h) (y_run (by rfl) (fun W => by have d := D122.out; go_simp)) rfl ?_
    (try simp only [zP, zN, zA, zB, zC])
    refine pure_ (i := 38) (N := some 123) (v := .bool false) #[true, true, true, true, true, true, true, true, true, true, true, true, true, true, true, true, true, true, true, true, true, true, true, true, true, true, true, true, true, true, true, true, true, true, true, true, true, true, true, false, false, false, false, false, false, false, false, false, false, false, false, false, false] rfl rfl (by kernel_rfl) (fun c a w h => hP c a _ _ w h) (y_pick (t := false) (by rfl) rfl (by rfl) (by rfl)) rfl ?_
    (try simp only [zP, zN, zA, zB, zC])
    refine pure_ (i := 39) (N := some 124) (v := .bool false) #[true, true, true, true, true, true, true, true, true, true, true, true, true, true, true, true, true, true, true, true, true, true, true, true, true, true, true, true, true, true, true, true, true, true, true, true, true, true, true, true, false, false, false, false, false, false, false, false, false, false, false, false, false] rfl rfl (by kernel_rfl) (fun c a w h => hP c a _ _ w h) (y_move rfl (by rfl) (by rfl)) rfl ?_
    (try simp only [zP, zN, zA, zB, zC])
    refine pure_ (i := 40) (N := some 125) (v := .pointer (some ⟨g11, 3, none⟩)) #[true, true, true, true, true, true, true, true, true, true, true, true, true, true, true, true, true, true, true, true, true, true, true, true, true, true, true, true, true, true, true, true, true, true, true, true, true, true, true, true, true, false, false, false, false, false, false, false, false, false, false, false, false] rfl rfl (by kernel_rfl) (fun c a w h => hP c a _ _ w h) (y_run (by rfl) (fun W => by go_simp)) rfl ?_
    (try simp only [zP, zN, zA, zB, zC])
    refine take_ (i := 41) (N := some 126) (v := .int .i64 kd) #[true, true, true, true, true, true, true, true, true, true, true, true, true, true, true, true, true, true, true, true, true, true, true, true, true, true, true, true, true, true, true, true, true, true, true, true, true, true, true, true, true, true, false, false, false, false, false, false, false, false, false, false, false] rfl rfl (by kernel_rfl) (fun c a w h => hP c a _ _ w h) (y_load (p := ⟨g11, 3, none⟩) rfl (by rfl) (by rfl) (fun W hS => run_load_one ((hS.1.cell 3).trans (by rw [← hd.out]; simp [opC])) Try.underlying3 rfl)) hS31 rfl ?_
    (try simp only [zP, zN, zA, zB, zC])
    refine pure_ (i := 42) (N := some 127) (v := .pointer (some ⟨b, 0, none⟩)) #[true, true, true, true, true, true, true, true, true, true, true, true, true, true, true, true, true, true, true, true, true, true, true, true, true, true, true, true, true, true, true, true, true, true, true, true, true, true, true, true, true, true, true, false, false, false, false, false, false, false, false, false, false] rfl rfl (by kernel_rfl) (fun c a w h => hP c a _ _ w h) (y_move rfl (by rfl) (by rfl)) rfl ?_
    (try simp only [zP, zN, zA, zB, zC])
    refine one_ (i := 43) (N := some 128) #[true, true, true, true, true, true, true, true, true, true, true, true, true, true, true, true, true, true, true, true, true, true, true, true, true, true, true, true, true, true, true, true, true, true, true, true, true, true, true, true, true, true, true, true, false, false, false, false, false, false, false, false, false] rfl rfl (by kernel_rfl) (by simp) (fun K32 hK32 => ?_)
    refine e_call Try.func14 (by kernel_rfl) rfl #[.pointer (some ⟨b, 0, none⟩)] (by rfl) rfl rfl (by first | rfl | (simp only [List.map_toArray, List.map_cons, List.map_nil]; first | done | rfl)) (now_all BF.out) ?_
    rintro en w34 ⟨rfl, cc33⟩
    refine ⟨_, rfl, ?_⟩
    have C0' := Lib.hid (show Ch [] w w34 from C0.out.trans' cc33 (fun x hx => absurd hx (by simp)))
    have BF' := Lib.hid (show BookIs w34 w.heap.size hi b (S) from BF.out.ch cc33 (fun x hx => absurd hx (by simp)))
    have HI' := Lib.hid (show hi ≤ w34.heap.size from Nat.le_trans HI.out cc33.size)
    have OM' := Lib.hid (show OwnS w34 w.heap.size 3 1 (.slice (some ⟨gm, 0, none⟩) 100 100) (100) (cnts ((S.L.take k).flatMap tm)) from OM.out.ch cc33 rnin_nil)
    have OO' := Lib.hid (show OwnS w34 bo 49 28 (.slice (some ⟨go, 0, none⟩) S.L.length cAo) (S.L.length) ((S.L).flatMap opC) from OO.out.ch cc33 rnin_nil)
    have OI' := Lib.hid (show OwnS w34 bi 3 1 (.slice Ai S.I.length cAi) (S.I.length) ((S.I).map (Value.int .i64)) from OI.out.ch cc33 rnin_nil)
    have Fg11' := Lib.hid (show Blk w34 g11 ((opC o).toArray) 49 from cc33.blk Fg11.out nin_nil)
    clear C0 BF HI OM OO OI Fg11
    have C0 := C0'; clear C0'
    have BF := BF'; clear BF'
    have HI := HI'; clear HI'
    have OM := OM'; clear OM'
    have OO := OO'; clear OO'
    have OI := OI'; clear OI'
    have Fg11 := Fg11'; clear Fg11'
    clear cc33
    refine hK32.out _ _ ⟨Fg11.out, trivial⟩ (fun hS35 => ?_); clear hK32 K32
    (try simp only [zP, zN, zA, zB, zC])
    refine pure_ (i := 44) (N := some 129) (v := .bool false) #[true, true, true, true, true, true, true, true, true, true, true, true, true, true, true, true, true, true, true, true, true, true, true, true, true, true, true, true, true, true, true, true, true, true, true, true, true, true, true, true, true, true, true, true, true, false, false, false, false, false, false, false, false] rfl rfl (by kernel_rfl) (fun c a w h => hP c a _ _ w h) (y_run (by rfl) (fun W => by have d := D129.out; go_simp)) rfl ?_
    (try simp only [zP, zN, zA, zB, zC])
    refine pure_ (i := 45) (N := some 130) (v := .bool false) #[true, true, true, true, true, true, true, true, true, true, true, true, true, true, true, true, true, true, true, true, true, true, true, true, true, true, true, true, true, true, true, true, true, true, true, true, true, true, true, true, true, true, true, true, true, true, false, false, false, false, false, false, false] rfl rfl (by kernel_rfl) (fun c a w h => hP c a _ _ w h) (y_pick (t := false) (by rfl) rfl (by rfl) (by rfl)) rfl ?_
    (try simp only [zP, zN, zA, zB, zC])
    refine pure_ (i := 46) (N := some 131) (v := .bool false) #[true, true, true, true, true, true, true, true, true, true, true, true, true, true, true, true, true, true, true, true, true, true, true, true, true, true, true, true, true, true, true, true, true, true, true, true, true, true, true, true, true, true, true, true, true, true, true, false, false, false, false, false, false] rfl rfl (by kernel_rfl) (fun c a w h => hP c a _ _ w h) (y_move rfl (by rfl) (by rfl)) rfl ?_
    (try simp only [zP, zN, zA, zB, zC])
    refine pure_ (i := 47) (N := some 132) (v := .pointer (some ⟨g11, 2, none⟩)) #[true, true, true, true, true, true, true, true, true, true, true, true, true, true, true, true, true, true, true, true, true, true, true, true, true, true, true, true, true, true, true, true, true, true, true, true, true, true, true, true, true, true, true, true, true, true, true, true, false, false, false, false, false] rfl rfl (by kernel_rfl) (fun c a w h => hP c a _ _ w h) (y_run (by rfl) (fun W => by go_simp)) rfl ?_
    (try simp only [zP, zN, zA, zB, zC])
    refine take_ (i := 48) (N := some 133) (v := .int .i64 ka) #[true, true, true, true, true, true, true, true, true, true, true, true, true, true, true, true, true, true, true, true, true, true, true, true, true, true, true, true, true, true, true, true, true, true, true, true, true, true, true, true, true, true, true, true, true, true, true, true, true, false, false, false, false] rfl rfl (by kernel_rfl) (fun c a w h => hP c a _ _ w h) (y_load (p := ⟨g11, 2, none⟩) rfl (by rfl) (by rfl) (fun W hS => run_load_one ((hS.1.cell 2).trans (by rw [← ha.out]; simp [opC])) Try.underlying3 rfl)) hS35 rfl ?_
    (try simp only [zP, zN, zA, zB, zC])
    refine pure_ (i := 49) (N := some 134) (v := .pointer (some ⟨b, 0, none⟩)) #[true, true, true, true, true, true, true, true, true, true, true, true, true, true, true, true, true, true, true, true, true, true, true, true, true, true, true, true, true, true, true, true, true, true, true, true, true, true, true, true, true, true, true, true, true, true, true, true, true, true, false, false, false] rfl rfl (by kernel_rfl) (fun c a w h => hP c a _ _ w h) (y_move rfl (by rfl) (by rfl)) rfl ?_
    (try simp only [zP, zN, zA, zB, zC])
    refine one_ (i := 50) (N := some 135) #[true, true, true, true, true, true, true, true, true, true, true, true, true, true, true, true, true, true, true, true, true, true, true, true, true, true, true, true, true, true, true, true, true, true, true, true, true, true, true, true, true, true, true, true, true, true, true, true, true, true, true, false, false] rfl rfl (by kernel_rfl) (by simp) (fun K36 hK36 => ?_)
    refine e_call Try.func14 (by kernel_rfl) rfl #[.pointer (some ⟨b, 0, none⟩)] (by rfl) rfl rfl (by first | rfl | (simp only [List.map_toArray, List.map_cons, List.map_nil]; first | done | rfl)) (now_all BF.out) ?_
    rintro en w38 ⟨rfl, cc37⟩
    refine ⟨_, rfl, ?_⟩
    have C0' := Lib.hid (show Ch [] w w38 from C0.out.trans' cc37 (fun x hx => absurd hx (by simp)))
    have BF' := Lib.hid (show BookIs w38 w.heap.size hi b (S) from BF.out.ch cc37 (fun x hx => absurd hx (by simp)))
    have HI' := Lib.hid (show hi ≤ w38.heap.size from Nat.le_trans HI.out cc37.size)
    have OM' := Lib.hid (show OwnS w38 w.heap.size 3 1 (.slice (some ⟨gm, 0, none⟩) 100 100) (100) (cnts ((S.L.take k).flatMap tm)) from OM.out.ch cc37 rnin_nil)
    have OO' := Lib.hid (show OwnS w38 bo 49 28 (.slice (some ⟨go, 0, none⟩) S.L.length cAo) (S.L.length) ((S.L).flatMap opC) from OO.out.ch cc37 rnin_nil)
    have OI' := Lib.hid (show OwnS w38 bi 3 1 (.slice Ai S.I.length cAi) (S.I.length) ((S.I).map (Value.int .i64)) from OI.out.ch cc37 rnin_nil)
    have Fg11' := Lib.hid (show Blk w38 g11 ((opC o).toArray) 49 from cc37.blk Fg11.out nin_nil)
    clear C0 BF HI OM OO OI Fg11
    have C0 := C0'; clear C0'
    have BF := BF'; clear BF'
    have HI := HI'; clear HI'
    have OM := OM'; clear OM'
    have OO := OO'; clear OO'
    have OI := OI'; clear OI'
    have Fg11 := Fg11'; clear Fg11'
    clear cc37
    refine hK36.out _ _ ⟨Fg11.out, trivial⟩ (fun hS39 => ?_); clear hK36 K36
    (try simp only [zP, zN, zA, zB, zC])
    refine pure_ (i := 51) (N := some 136) (v := .bool false) #[true, true, true, true, true, true, true, true, true, true, true, true, true, true, true, true, true, true, true, true, true, true, true, true, true, true, true, true, true, true, true, true, true, true, true, true, true, true, true, true, true, true, true, true, true, true, true, true, true, true, true, true, false] rfl rfl (by kernel_rfl) (fun c a w h => hP c a _ _ w h) (y_run (by rfl) (fun W => by have d := D136.out; go_simp)) rfl ?_
    (try simp only [zP, zN, zA, zB, zC])
    refine pure_ (i := 52) (N := some 137) (v := .bool false) #[true, true, true, true, true, true, true, true, true, true, true, true, true, true, true, true, true, true, true, true, true, true, true, true, true, true, true, true, true, true, true, true, true, true, true, true, true, true, true, true, true, true, true, true, true, true, true, true, true, true, true, true, true] rfl rfl (by kernel_rfl) (fun c a w h => hP c a _ _ w h) (y_pick (t := false) (by rfl) rfl (by rfl) (by rfl)) rfl ?_
    (try simp only [zP, zN, zA, zB, zC])
    refine done_ (by kernel_rfl) (th_norm (hK24 _ _ ?_)); clear hK24 K24
    refine wp_cond_false rfl ?_
    refine wp_skip ?_
    refine th_norm (hK23 _ _ ?_); try clear hK23 K23
    refine s_ (fun K40 hK40 => ?_)
    refine pu_ (v := .slice (some ⟨gm, 0, none⟩) 100 100) (y_move rfl (by rfl) (by rfl)) ?_
    (try simp only [zP, zN, zA, zB, zC])
    refine pu_ (v := .pointer (some ⟨g11, 2, none⟩)) (y_run (by rfl) (fun W => by go_simp)) ?_
    (try simp only [zP, zN, zA, zB, zC])
    refine ld_ (v := .int .i64 ka) rfl (by rfl) (by rfl) (run_load_one ((Fg11.out.cell 2).trans (by rw [← ha.out]; simp [opC])) Try.underlying3 rfl) ?_
    (try simp only [zP, zN, zA, zB, zC])
    refine pu_ (v := .pointer (some ⟨gm, ka, none⟩)) (y_run (by rfl) (fun W => by have d := DB141.out; go_simp)) ?_
    (try simp only [zP, zN, zA, zB, zC])
    refine ld_ (v := .int .i64 c143) rfl (by rfl) (by rfl) (run_load_one (own_cell OM.out (by rw [cnts_at _ (by have := DB141.out; omega), HC143.out])) Try.underlying3 rfl) ?_
    (try simp only [zP, zN, zA, zB, zC])
    refine pu_ (v := .int .i64 (c143 + 1 : Nat)) (y_run (by rfl) (fun W => by have d := WB143.out; go_simp)) ?_
    (try simp only [zP, zN, zA, zB, zC])
    refine pu_ (v := .pointer (some ⟨gm, ka, none⟩)) (y_run (by rfl) (fun W => by have d := DB141.out; go_simp)) ?_
    (try simp only [zP, zN, zA, zB, zC])
    refine ef_ (fun K41 hK41 => ?_)
    refine e_storeS1 (by rfl) rfl rfl OM.out ka (.int .i64 (c143 + 1 : Nat)) (by rfl) (by rfl) (by kernel_rfl) (by have := DX_ka.out; omega) rfl ?_
    rintro w42 O43 C44
    have RC44 := Lib.hid (show Ch (rl (.slice (some ⟨gm, 0, none⟩) 100 100)) w38 w42 from by rw [rl_some _ _ _ (by decide)]; exact C44)
    have C0' := Lib.hid (show Ch [] w w42 from C0.out.trans' RC44.out (fun x hx => .inr (OM.out.lt x hx).1))
    have BF' := Lib.hid (show BookIs w42 w.heap.size hi b (S) from BF.out.ch RC44.out (fun x hx => .inr (by rw [rl_some _ _ _ (by decide)] at hx; rw [List.mem_singleton.1 hx]; exact HGE.out)))
    have HI' := Lib.hid (show hi ≤ w42.heap.size from Nat.le_trans HI.out RC44.out.size)
    have OO' := Lib.hid (show OwnS w42 bo 49 28 (.slice (some ⟨go, 0, none⟩) S.L.length cAo) (S.L.length) ((S.L).flatMap opC) from OO.out.ch RC44.out (OwnS.rne OO.out OM.out (by decide)))
    have OI' := Lib.hid (show OwnS w42 bi 3 1 (.slice Ai S.I.length cAi) (S.I.length) ((S.I).map (Value.int .i64)) from OI.out.ch RC44.out (fun k hk hm => HRR.out k hm hk))
    have Fg11' := Lib.hid (show Blk w42 g11 ((opC o).toArray) 49 from RC44.out.blk Fg11.out (OM.out.ne Fg11.out (by decide)))
    clear C0 BF HI OO OI Fg11
    have C0 := C0'; clear C0'
    have BF := BF'; clear BF'
    have HI := HI'; clear HI'
    have OO := OO'; clear OO'
    have OI := OI'; clear OI'
    have Fg11 := Fg11'; clear Fg11'
    clear OM
    have OM := Lib.hid (show OwnS w42 w.heap.size 3 1 (.slice (some ⟨gm, 0, none⟩) 100 100) (100) (cnts (((S.L.take k).flatMap tm) ++ [(ka : Int)])) from by have h := O43; rw [← HC143.out, cnts_set] at h; exact h); clear O43 C44 RC44
    refine hK41 _ _ ?_; clear hK41 K41
    (try simp only [zP, zN, zA, zB, zC])
    refine nl_ (hK40 _ _ ?_); clear hK40 K40
    refine s_ (fun K45 hK45 => ?_)
    refine pu_ (v := .slice (some ⟨gm, 0, none⟩) 100 100) (y_move rfl (by rfl) (by rfl)) ?_
    (try simp only [zP, zN, zA, zB, zC])
    refine pu_ (v := .pointer (some ⟨g11, 3, none⟩)) (y_run (by rfl) (fun W => by go_simp)) ?_
    (try simp only [zP, zN, zA, zB, zC])
    refine ld_ (v := .int .i64 kd) rfl (by rfl) (by rfl) (run_load_one ((Fg11.out.cell 3).trans (by rw [← hd.out]; simp [opC])) Try.underlying3 rfl) ?_
    (try simp only [zP, zN, zA, zB, zC])
    refine pu_ (v := .int .i64 kd) (y_run (by rfl) (fun W => by go_simp; intro h9; omega)) ?_
    (try simp only [zP, zN, zA, zB, zC])
    refine pu_ (v := .pointer (some ⟨gm, kd, none⟩)) (y_run (by rfl) (fun W => by have d := DB149.out; go_simp)) ?_
    (try simp only [zP, zN, zA, zB, zC])
    refine ld_ (v := .int .i64 c151) rfl (by rfl) (by rfl) (run_load_one (own_cell OM.out (by rw [cnts_at _ (by have := DB149.out; omega), HC151.out])) Try.underlying3 rfl) ?_
    (try simp only [zP, zN, zA, zB, zC])
    refine pu_ (v := .int .i64 (c151 + 1 : Nat)) (y_run (by rfl) (fun W => by have d := WB151.out; go_simp)) ?_
    (try simp only [zP, zN, zA, zB, zC])
    refine pu_ (v := .pointer (some ⟨gm, kd, none⟩)) (y_run (by rfl) (fun W => by have d := DB149.out; go_simp)) ?_
    (try simp only [zP, zN, zA, zB, zC])
    refine ef_ (fun K46 hK46 => ?_)
    refine e_storeS1 (by rfl) rfl rfl OM.out kd (.int .i64 (c151 + 1 : Nat)) (by rfl) (by rfl) (by kernel_rfl) (by have := DX_kd.out; omega) rfl ?_
    rintro w47 O48 C49
    have RC49 := Lib.hid (show Ch (rl (.slice (some ⟨gm, 0, none⟩) 100 100)) w42 w47 from by rw [rl_some _ _ _ (by decide)]; exact C49)
    have C0' := Lib.hid (show Ch [] w w47 from C0.out.trans' RC49.out (fun x hx => .inr (OM.out.lt x hx).1))
    have BF' := Lib.hid (show BookIs w47 w.heap.size hi b (S) from BF.out.ch RC49.out (fun x hx => .inr (by rw [rl_some _ _ _ (by decide)] at hx; rw [List.mem_singleton.1 hx]; exact HGE.out)))
    have HI' := Lib.hid (show hi ≤ w47.heap.size from Nat.le_trans HI.out RC49.out.size)
    have OO' := Lib.hid (show OwnS w47 bo 49 28 (.slice (some ⟨go, 0, none⟩) S.L.length cAo) (S.L.length) ((S.L).flatMap opC) from OO.out.ch RC49.out (OwnS.rne OO.out OM.out (by decide)))
    have OI' := Lib.hid (show OwnS w47 bi 3 1 (.slice Ai S.I.length cAi) (S.I.length) ((S.I).map (Value.int .i64)) from OI.out.ch RC49.out (fun k hk hm => HRR.out k hm hk))
    have Fg11' := Lib.hid (show Blk w47 g11 ((opC o).toArray) 49 from RC49.out.blk Fg11.out (OM.out.ne Fg11.out (by decide)))
    clear C0 BF HI OO OI Fg11
    have C0 := C0'; clear C0'
    have BF := BF'; clear BF'
    have HI := HI'; clear HI'
    have OO := OO'; clear OO'
    have OI := OI'; clear OI'
    have Fg11 := Fg11'; clear Fg11'
    clear OM
    have OM := Lib.hid (show OwnS w47 w.heap.size 3 1 (.slice (some ⟨gm, 0, none⟩) 100 100) (100) (cnts (((S.L.take k).flatMap tm ++ [(ka : Int)]) ++ [(kd : Int)])) from by have h := O48; rw [← HC151.out, cnts_set] at h; exact h); clear O48 C49 RC49
    refine hK46 _ _ ?_; clear hK46 K46
    (try simp only [zP, zN, zA, zB, zC])
    refine nl_ (hK45 _ _ ?_); clear hK45 K45
    refine r_ ?_
    refine pu_ (v := .slice (some ⟨gm, 0, none⟩) 100 100) (y_move rfl (by rfl) (by rfl)) ?_
    (try simp only [zP, zN, zA, zB, zC])
    refine pu_ (v := .pointer (some ⟨g11, 4, none⟩)) (y_run (by rfl) (fun W => by go_simp)) ?_
    (try simp only [zP, zN, zA, zB, zC])
    refine ld_ (v := .int .i64 kt) rfl (by rfl) (by rfl) (run_load_one ((Fg11.out.cell 4).trans (by rw [← htt.out]; simp [opC])) Try.underlying3 rfl) ?_
    (try simp only [zP, zN, zA, zB, zC])
    refine pu_ (v := .int .i64 kt) (y_run (by rfl) (fun W => by go_simp; intro h9; omega)) ?_
    (try simp only [zP, zN, zA, zB, zC])
    refine pu_ (v := .pointer (some ⟨gm, kt, none⟩)) (y_run (by rfl) (fun W => by have d := DB157.out; go_simp)) ?_
    (try simp only [zP, zN, zA, zB, zC])
    refine ld_ (v := .int .i64 c159) rfl (by rfl) (by rfl) (run_load_one (own_cell OM.out (by rw [cnts_at _ (by have := DB157.out; omega), HC159.out])) Try.underlying3 rfl) ?_
    (try simp only [zP, zN, zA, zB, zC])
    refine pu_ (v := .int .i64 (c159 + 1 : Nat)) (y_run (by rfl) (fun W => by have d := WB159.out; go_simp)) ?_
    (try simp only [zP, zN, zA, zB, zC])
    refine pu_ (v := .pointer (some ⟨gm, kt, none⟩)) (y_run (by rfl) (fun W => by have d := DB157.out; go_simp)) ?_
    (try simp only [zP, zN, zA, zB, zC])
    refine ef_ (fun K50 hK50 => ?_)
    refine e_storeS1 (by rfl) rfl rfl OM.out kt (.int .i64 (c159 + 1 : Nat)) (by rfl) (by rfl) (by kernel_rfl) (by have := DX_kt.out; omega) rfl ?_
    rintro w51 O52 C53
    have RC53 := Lib.hid (show Ch (rl (.slice (some ⟨gm, 0, none⟩) 100 100)) w47 w51 from by rw [rl_some _ _ _ (by decide)]; exact C53)
    have C0' := Lib.hid (show Ch [] w w51 from C0.out.trans' RC53.out (fun x hx => .inr (OM.out.lt x hx).1))
    have BF' := Lib.hid (show BookIs w51 w.heap.size hi b (S) from BF.out.ch RC53.out (fun x hx => .inr (by rw [rl_some _ _ _ (by decide)] at hx; rw [List.mem_singleton.1 hx]; exact HGE.out)))
    have HI' := Lib.hid (show hi ≤ w51.heap.size from Nat.le_trans HI.out RC53.out.size)
    have OO' := Lib.hid (show OwnS w51 bo 49 28 (.slice (some ⟨go, 0, none⟩) S.L.length cAo) (S.L.length) ((S.L).flatMap opC) from OO.out.ch RC53.out (OwnS.rne OO.out OM.out (by decide)))
    have OI' := Lib.hid (show OwnS w51 bi 3 1 (.slice Ai S.I.length cAi) (S.I.length) ((S.I).map (Value.int .i64)) from OI.out.ch RC53.out (fun k hk hm => HRR.out k hm hk))
    have Fg11' := Lib.hid (show Blk w51 g11 ((opC o).toArray) 49 from RC53.out.blk Fg11.out (OM.out.ne Fg11.out (by decide)))
    clear C0 BF HI OO OI Fg11
    have C0 := C0'; clear C0'
    have BF := BF'; clear BF'
    have HI := HI'; clear HI'
    have OO := OO'; clear OO'
    have OI := OI'; clear OI'
    have Fg11 := Fg11'; clear Fg11'
    clear OM
    have OM := Lib.hid (show OwnS w51 w.heap.size 3 1 (.slice (some ⟨gm, 0, none⟩) 100 100) (100) (cnts ((((S.L.take k).flatMap tm ++ [(ka : Int)]) ++ [(kd : Int)]) ++ [(kt : Int)])) from by have h := O52; rw [← HC159.out, cnts_set] at h; exact h); clear O52 C53 RC53
    refine hK50 _ _ ?_; clear hK50 K50
    (try simp only [zP, zN, zA, zB, zC])
    refine nl_ ?_
    refine ib_norm ?_
    refine th_norm (hK8 _ _ ?_); try clear hK8 K8
    refine r_ ?_
    refine pu_ (v := .int .i64 k) (y_move rfl (by rfl) (by rfl)) ?_
    (try simp only [zP, zN, zA, zB, zC])
    refine pu_ (v := .int .i64 (k + 1 : Nat)) (y_run (by rfl) (fun W => by have d := WA.out; go_simp)) ?_
    (try simp only [zP, zN, zA, zB, zC])
    refine pu_ (v := .int .i64 (k + 1 : Nat)) (y_assign rfl (by rfl) (by rfl)) ?_
    (try simp only [zP, zN, zA, zB, zC])
    refine nl_ ?_
    exact th_norm (hK4 (kq - 1) _ _ (by have := hlt.out; have := hk.out; omega) ⟨k + 1, fun us_ => (#[us 0, us 1, .bool false, .pointer (some ⟨b, 0, none⟩), us 4, us 5, .slice (some ⟨gm, 0, none⟩) 100 100, .slice (some ⟨go, 0, none⟩) S.L.length cAo, .slice Ai S.I.length cAi, .int .i64 (k + 1 : Nat), .pointer (some ⟨g11, 0, none⟩), us 11, us 12, us 13, us 14, us 15, us 16, us 17, us 18, us 19, us 20, us 21, us 22, us 23, us 24, us 25, us 26, us 27, us 28, us 29, us 30, us 31, us 32, us 33, us 34, us 35, us 36, us 37, us 38, us 39, us 40, us 41, us 42, us 43, us 44, us 45, us 46, us 47, us 48, us 49, us 50, us 51, us 52, us 53, us 54, us 55, us 56, us 57, us 58, us 59, us 60, us 61, us 62, us 63, us 64, us 65, us 66, us 67, us 68, us 69, us 70, us 71, us 72, us 73, us 74, .int .i64 k, .slice (some ⟨go, 0, none⟩) S.L.length cAo, .int .i64 S.L.length, .bool true, .int .i64 k, .int .i64 (k + 1 : Nat), .slice (some ⟨go, 0, none⟩) S.L.length cAo, .int .i64 k, .pointer (some ⟨go, k * 28, none⟩), .agg (opC o).toArray, .pointer (some ⟨g11, 2, none⟩), .int .i64 ka, .bool false, .bool false, .pointer (some ⟨g11, 3, none⟩), .int .i64 kd, .bool false, .bool false, undef, undef, undef, undef, undef, .bool false, .bool false, .bool false, .pointer (some ⟨g11, 4, none⟩), .int .i64 kt, .bool false, .bool false, undef, undef, undef, undef, undef, undef, undef, undef, undef, undef, .bool false, .bool false, .bool false, .pointer (some ⟨g11, 4, none⟩), .int .i64 kt, .pointer (some ⟨b, 0, none⟩), .int .i64 S.now, .bool false, .bool false, .bool false, .pointer (some ⟨g11, 3, none⟩), .int .i64 kd, .pointer (some ⟨b, 0, none⟩), .int .i64 S.now, .bool false, .bool false, .bool false, .pointer (some ⟨g11, 2, none⟩), .int .i64 ka, .pointer (some ⟨b, 0, none⟩), .int .i64 S.now, .bool false, .bool false, .slice (some ⟨gm, 0, none⟩) 100 100, .pointer (some ⟨g11, 2, none⟩), .int .i64 ka, .pointer (some ⟨gm, ka, none⟩), .int .i64 c143, .int .i64 (c143 + 1 : Nat), .pointer (some ⟨gm, ka, none⟩), .slice (some ⟨gm, 0, none⟩) 100 100, .pointer (some ⟨g11, 3, none⟩), .int .i64 kd, .int .i64 kd, .pointer (some ⟨gm, kd, none⟩), .int .i64 c151, .int .i64 (c151 + 1 : Nat), .pointer (some ⟨gm, kd, none⟩), .slice (some ⟨gm, 0, none⟩) 100 100, .pointer (some ⟨g11, 4, none⟩), .int .i64 kt, .int .i64 kt, .pointer (some ⟨gm, kt, none⟩), .int .i64 c159, .int .i64 (c159 + 1 : Nat), .pointer (some ⟨gm, kt, none⟩), us 161, us 162, us 163, us 164, us 165, us 166, us 167, us 168, us 169, us 170, us 171, us 172, us 173, us 174, us 175, us 176, us 177, us 178, us 179, us 180, us 181, us 182, us 183, us 184, us 185, us 186, us 187, us 188, us 189, us 190, us 191, us 192, us 193, us 194, us 195, us 196, us 197, us 198, us 199, us 200] : Array Value).getD us_ undef, rfl, C0, BF, HI, Lib.hid (by have h := OM.out; rw [tms_succ ho.out, ha.out, hd.out, htt.out]; exact h), OO, OI, Lib.hid ⟨by have := hlt.out; omega, by have := hlt.out; have := hk.out; omega⟩⟩)
  · have hlt := Lib.hid h1
    have ho := Lib.hid h2
    have ha := Lib.hid ea
    have hd := Lib.hid ed
    have htt := Lib.hid et
    have hka := Lib.hid (And.intro l1 l2)
    have hx := Lib.hid h
    clear h h1 h2 ea ed et l1 l2
    have D78 := Lib.hid (show (k : Int) < (S.L.length : Int) by have := hlt.out; omega)
    obtain ⟨go, co, hv, -, -, -, -, -⟩ := OO.out.some_ (by have := hlt.out; omega)
    injection hv with hv1 _ hv3
    subst hv1 hv3
    have WA := Lib.hid (show IntKind.i64.wrap ((k : Int) + 1) = ((k + 1 : Nat) : Int) by rw [wr64 (by have := hlt.out; have := HL.out; have := HN.out; omega)]; omega)
    have DX_ka := Lib.hid (show ka < 100 by have := hka.out; have := HN.out; omega)
    have DX_kd := Lib.hid (show kd < 100 by have := hx.out; have := HN.out; omega)
    have DX_kt := Lib.hid (show kt < 100 by have := hx.out; have := HN.out; omega)
    have HML := Lib.hid (show ((S.L.take k).flatMap tm).length ≤ 300 by rw [tms_len, List.length_take]; have := HL.out; have := HN.out; omega)
    have D87 := Lib.hid (show decide ((ka : Int) < 1) = false from decide_eq_false (by have := hka.out; omega))
    have D91 := Lib.hid (show 0 < kd by have := hka.out; have := hx.out; omega)
    have D97 := Lib.hid (show ka < kd by have := hka.out; have := hx.out; omega)
    have D103 := Lib.hid (show kt = 0 by have := hka.out; have := hx.out; omega)
    have D122 := Lib.hid (show kt ≤ S.now by have := hka.out; have := hx.out; omega)
    have D129 := Lib.hid (show kd ≤ S.now by have := hka.out; have := hx.out; omega)
    have D136 := Lib.hid (show ka ≤ S.now by have := hka.out; have := hx.out; omega)
    have DM1 := Lib.hid (show max (kd : Int) 0 = kd by omega)
    have DM2 := Lib.hid (show max (kt : Int) 0 = kt by omega)
    have DB141 := Lib.hid (show (ka : Int) < 100 by have := DX_ka.out; omega)
    obtain ⟨c143, hc143⟩ : ∃ c, ((S.L.take k).flatMap tm).count (ka : Int) = c := ⟨_, rfl⟩
    have HC143 := Lib.hid hc143; clear hc143
    have WB143 := Lib.hid (show IntKind.i64.wrap ((c143 : Int) + 1) = ((c143 + 1 : Nat) : Int) by rw [wr64 (by have h8 : c143 ≤ 600 := (by rw [← HC143.out]; exact Nat.le_trans (cnt_le _ _) (by have h9 := HML.out; first | omega | (simp only [List.length_append, List.length_cons, List.length_nil]; omega))); omega)]; omega)
    have DB149 := Lib.hid (show (kd : Int) < 100 by have := DX_kd.out; omega)
    obtain ⟨c151, hc151⟩ : ∃ c, ((S.L.take k).flatMap tm ++ [(ka : Int)]).count (kd : Int) = c := ⟨_, rfl⟩
    have HC151 := Lib.hid hc151; clear hc151
    have WB151 := Lib.hid (show IntKind.i64.wrap ((c151 : Int) + 1) = ((c151 + 1 : Nat) : Int) by rw [wr64 (by have h8 : c151 ≤ 600 := (by rw [← HC151.out]; exact Nat.le_trans (cnt_le _ _) (by have h9 := HML.out; first | omega | (simp only [List.length_append, List.length_cons, List.length_nil]; omega))); omega)]; omega)
    have DB157 := Lib.hid (show (kt : Int) < 100 by have := DX_kt.out; omega)
    obtain ⟨c159, hc159⟩ : ∃ c, (((S.L.take k).flatMap tm ++ [(ka : Int)]) ++ [(kd : Int)]).count (kt : Int) = c := ⟨_, rfl⟩
    have HC159 := Lib.hid hc159; clear hc159
    have WB159 := Lib.hid (show IntKind.i64.wrap ((c159 : Int) + 1) = ((c159 + 1 : Nat) : Int) by rw [wr64 (by have h8 : c159 ≤ 600 := (by rw [← HC159.out]; exact Nat.le_trans (cnt_le _ _) (by have h9 := HML.out; first | omega | (simp only [List.length_append, List.length_cons, List.length_nil]; omega))); omega)]; omega)
    refine s_ (fun K54 hK54 => ?_)
    refine pu_ (v := .int .i64 k) (y_move rfl (by rfl) (by rfl)) ?_
    (try simp only [zP, zN, zA, zB, zC])
    refine pu_ (v := .slice (some ⟨go, 0, none⟩) S.L.length cAo) (y_move rfl (by rfl) (by rfl)) ?_
    (try simp only [zP, zN, zA, zB, zC])
    refine pu_ (v := .int .i64 S.L.length) (y_run (by rfl) (fun W => by go_simp)) ?_
    (try simp only [zP, zN, zA, zB, zC])
    refine pu_ (v := .bool true) (y_run (by rfl) (fun W => by have d := D78.out; go_simp)) ?_
    (try simp only [zP, zN, zA, zB, zC])
    refine nl_ (hK54 _ _ ?_); clear hK54 K54
    refine wp_cond_true rfl ?_
    refine wp_skip ?_
    refine th_norm (hK5 _ _ ?_); try clear hK5 K5
    refine sq_ (fun K55 hK55 => ?_)
    refine wp_block ?_
    refine s_ (fun K56 hK56 => ?_)
    refine pu_ (v := .slice (some ⟨go, 0, none⟩) S.L.length cAo) (y_move rfl (by rfl) (by rfl)) ?_
    (try simp only [zP, zN, zA, zB, zC])
    refine pu_ (v := .int .i64 k) (y_move rfl (by rfl) (by rfl)) ?_
    (try simp only [zP, zN, zA, zB, zC])
    refine pu_ (v := .pointer (some ⟨go, k * 28, none⟩)) (y_run (by rfl) (fun W => by have d := D78.out; go_simp)) ?_
    (try simp only [zP, zN, zA, zB, zC])
    refine ld_ (v := .agg (opC o).toArray) rfl (by rfl) (by rfl) (run_loadVar_at (op_cells ho.out OO.out) Try.underlying49 rfl (by rw [opC_len]; kernel_rfl)) ?_
    (try simp only [zP, zN, zA, zB, zC])
    refine ef_ (fun K57 hK57 => ?_)
    refine e_alloc (by rfl) rfl rfl (cs := #[.int .i64 0, .int .i64 0, .int .i64 0, .int .i64 0, .int .i64 0, .int .i64 0, .int .i64 0, .int .u64 0, .string ⟨#[]⟩, .slice none 0 0, .slice none 0 0, .slice none 0 0, .int .i64 0, .int .i64 0, .int .i64 0, .int .i64 0, .int .i64 0, .int .i64 0, .int .i64 0, .string ⟨#[]⟩, .slice none 0 0, .int .i64 0, .int .i64 0, .int .i64 0, .int .u64 0, .string ⟨#[]⟩, .slice none 0 0, .slice none 0 0]) (by kernel_rfl) ?_
    rintro g58 w59 HG60 B61 C62
    have nw63 := Lib.hid (show w.heap.size ≤ g58 by have := C0.out.size; have := HG60.out; omega)
    have hg64 := Lib.hid (show hi ≤ g58 by have := HI.out; have := HG60.out; omega)
    have nr65 := Lib.hid (OO.out.ne_new HG60)
    have C0' := Lib.hid (show Ch [] w w59 from C0.out.trans' C62 (fun x hx => absurd hx (by simp)))
    have BF' := Lib.hid (show BookIs w59 w.heap.size hi b (S) from BF.out.ch C62 (fun x hx => absurd hx (by simp)))
    have HI' := Lib.hid (show hi ≤ w59.heap.size from Nat.le_trans HI.out C62.size)
    have OM' := Lib.hid (show OwnS w59 w.heap.size 3 1 (.slice (some ⟨gm, 0, none⟩) 100 100) (100) (cnts ((S.L.take k).flatMap tm)) from OM.out.ch C62 rnin_nil)
    have OO' := Lib.hid (show OwnS w59 bo 49 28 (.slice (some ⟨go, 0, none⟩) S.L.length cAo) (S.L.length) ((S.L).flatMap opC) from OO.out.ch C62 rnin_nil)
    have OI' := Lib.hid (show OwnS w59 bi 3 1 (.slice Ai S.I.length cAi) (S.I.length) ((S.I).map (Value.int .i64)) from OI.out.ch C62 rnin_nil)
    clear C0 BF HI OM OO OI
    have C0 := C0'; clear C0'
    have BF := BF'; clear BF'
    have HI := HI'; clear HI'
    have OM := OM'; clear OM'
    have OO := OO'; clear OO'
    have OI := OI'; clear OI'
    have Fg58 := Lib.hid (show Blk w59 g58 (#[.int .i64 0, .int .i64 0, .int .i64 0, .int .i64 0, .int .i64 0, .int .i64 0, .int .i64 0, .int .u64 0, .string ⟨#[]⟩, .slice none 0 0, .slice none 0 0, .slice none 0 0, .int .i64 0, .int .i64 0, .int .i64 0, .int .i64 0, .int .i64 0, .int .i64 0, .int .i64 0, .string ⟨#[]⟩, .slice none 0 0, .int .i64 0, .int .i64 0, .int .i64 0, .int .u64 0, .string ⟨#[]⟩, .slice none 0 0, .slice none 0 0]) 49 from B61); clear B61 C62
    refine hK57 _ _ ?_; clear hK57 K57
    (try simp only [zP, zN, zA, zB, zC])
    refine ef_ (fun K66 hK66 => ?_)
    refine e_storeN (cells := (opC o).toArray) (by rfl) rfl rfl (by rfl) (by rfl) Fg58.out (sz49 o) (by rw [show (opC o).toArray.size = 28 by rw [List.size_toArray, opC_len]]; rfl) (by simpa using opC_one o) ?_
    rintro w67 B68 C69
    have C0' := Lib.hid (show Ch [] w w67 from C0.out.trans' C69 (inw_cons (.inr nw63.out) inw_nil))
    have BF' := Lib.hid (show BookIs w67 w.heap.size hi b (S) from BF.out.ch C69 (fun x hx => .inr (by rw [List.mem_singleton.1 hx]; exact hg64.out)))
    have HI' := Lib.hid (show hi ≤ w67.heap.size from Nat.le_trans HI.out C69.size)
    have OM' := Lib.hid (show OwnS w67 w.heap.size 3 1 (.slice (some ⟨gm, 0, none⟩) 100 100) (100) (cnts ((S.L.take k).flatMap tm)) from OM.out.ch C69 (rnin_cons (OM.out.ne Fg58.out (by decide)) rnin_nil))
    have OO' := Lib.hid (show OwnS w67 bo 49 28 (.slice (some ⟨go, 0, none⟩) S.L.length cAo) (S.L.length) ((S.L).flatMap opC) from OO.out.ch C69 (rnin_cons nr65.out rnin_nil))
    have OI' := Lib.hid (show OwnS w67 bi 3 1 (.slice Ai S.I.length cAi) (S.I.length) ((S.I).map (Value.int .i64)) from OI.out.ch C69 (rnin_cons (OI.out.ne Fg58.out (by decide)) rnin_nil))
    clear C0 BF HI OM OO OI
    have C0 := C0'; clear C0'
    have BF := BF'; clear BF'
    have HI := HI'; clear HI'
    have OM := OM'; clear OM'
    have OO := OO'; clear OO'
    have OI := OI'; clear OI'
    clear Fg58; have Fg58 := Lib.hid (show Blk w67 g58 ((opC o).toArray) 49 from B68); clear B68 C69
    refine hK66 _ _ ?_; clear hK66 K66
    (try simp only [zP, zN, zA, zB, zC])
    refine nl_ (hK56 _ _ ?_); clear hK56 K56
    refine sq_ (fun K70 hK70 => ?_)
    refine sq_ (fun K71 hK71 => ?_)
    refine startk_ (S := fun W => Blk W g58 ((opC o).toArray) 49 ∧ True) (ds := []) #[false, false, false, false, false, false, false, false, false, false, false, false, false, false, false, false, false, false, false, false, false, false, false, false, false, false, false, false, false, false, false, false, false, false, false, false, false, false, false, false, false, false, false, false, false, false, false, false, false, false, false, false, false] (by kernel_rfl) rfl rfl (fun W c => ⟨c.blk Fg58.out nin_nil, trivial⟩) (fun w72 C73 hS74 => ?_)
    have C0' := Lib.hid (show Ch [] w w72 from C0.out.trans' C73 (fun x hx => absurd hx (by simp)))
    have BF' := Lib.hid (show BookIs w72 w.heap.size hi b (S) from BF.out.ch C73 (fun x hx => absurd hx (by simp)))
    have HI' := Lib.hid (show hi ≤ w72.heap.size from Nat.le_trans HI.out C73.size)
    have OM' := Lib.hid (show OwnS w72 w.heap.size 3 1 (.slice (some ⟨gm, 0, none⟩) 100 100) (100) (cnts ((S.L.take k).flatMap tm)) from OM.out.ch C73 rnin_nil)
    have OO' := Lib.hid (show OwnS w72 bo 49 28 (.slice (some ⟨go, 0, none⟩) S.L.length cAo) (S.L.length) ((S.L).flatMap opC) from OO.out.ch C73 rnin_nil)
    have OI' := Lib.hid (show OwnS w72 bi 3 1 (.slice Ai S.I.length cAi) (S.I.length) ((S.I).map (Value.int .i64)) from OI.out.ch C73 rnin_nil)
    have Fg58' := Lib.hid (show Blk w72 g58 ((opC o).toArray) 49 from C73.blk Fg58.out nin_nil)
    clear C0 BF HI OM OO OI Fg58
    have C0 := C0'; clear C0'
    have BF := BF'; clear BF'
    have HI := HI'; clear HI'
    have OM := OM'; clear OM'
    have OO := OO'; clear OO'
    have OI := OI'; clear OI'
    have Fg58 := Fg58'; clear Fg58'
    clear C73
    refine pure_ (i := 0) (N := some 85) (v := .pointer (some ⟨g58, 2, none⟩)) #[true, false, false, false, false, false, false, false, false, false, false, false, false, false, false, false, false, false, false, false, false, false, false, false, false, false, false, false, false, false, false, false, false, false, false, false, false, false, false, false, false, false, false, false, false, false, false, false, false, false, false, false, false] rfl rfl (by kernel_rfl) (fun c a w h => hP c a _ _ w h) (y_run (by rfl) (fun W => by go_simp)) rfl ?_
    (try simp only [zP, zN, zA, zB, zC])
    refine take_ (i := 1) (N := some 86) (v := .int .i64 ka) #[true, true, false, false, false, false, false, false, false, false, false, false, false, false, false, false, false, false, false, false, false, false, false, false, false, false, false, false, false, false, false, false, false, false, false, false, false, false, false, false, false, false, false, false, false, false, false, false, false, false, false, false, false] rfl rfl (by kernel_rfl) (fun c a w h => hP c a _ _ w h) (y_load (p := ⟨g58, 2, none⟩) rfl (by rfl) (by rfl) (fun W hS => run_load_one ((hS.1.cell 2).trans (by rw [← ha.out]; simp [opC])) Try.underlying3 rfl)) hS74 rfl ?_
    (try simp only [zP, zN, zA, zB, zC])
    refine pure_ (i := 2) (N := some 87) (v := .bool false) #[true, true, true, false, false, false, false, false, false, false, false, false, false, false, false, false, false, false, false, false, false, false, false, false, false, false, false, false, false, false, false, false, false, false, false, false, false, false, false, false, false, false, false, false, false, false, false, false, false, false, false, false, false] rfl rfl (by kernel_rfl) (fun c a w h => hP c a _ _ w h) (y_run (by rfl) (fun W => by have d := D87.out; go_simp)) rfl ?_
    (try simp only [zP, zN, zA, zB, zC])
    refine pure_ (i := 3) (N := some 88) (v := .bool false) #[true, true, true, true, false, false, false, false, false, false, false, false, false, false, false, false, false, false, false, false, false, false, false, false, false, false, false, false, false, false, false, false, false, false, false, false, false, false, false, false, false, false, false, false, false, false, false, false, false, false, false, false, false] rfl rfl (by kernel_rfl) (fun c a w h => hP c a _ _ w h) (y_move rfl (by rfl) (by rfl)) rfl ?_
    (try simp only [zP, zN, zA, zB, zC])
    refine pure_ (i := 4) (N := some 89) (v := .pointer (some ⟨g58, 3, none⟩)) #[true, true, true, true, true, false, false, false, false, false, false, false, false, false, false, false, false, false, false, false, false, false, false, false, false, false, false, false, false, false, false, false, false, false, false, false, false, false, false, false, false, false, false, false, false, false, false, false, false, false, false, false, false] rfl rfl (by kernel_rfl) (fun c a w h => hP c a _ _ w h) (y_run (by rfl) (fun W => by go_simp)) rfl ?_
    (try simp only [zP, zN, zA, zB, zC])
    refine take_ (i := 5) (N := some 90) (v := .int .i64 kd) #[true, true, true, true, true, true, false, false, false, false, false, false, false, false, false, false, false, false, false, false, false, false, false, false, false, false, false, false, false, false, false, false, false, false, false, false, false, false, false, false, false, false, false, false, false, false, false, false, false, false, false, false, false] rfl rfl (by kernel_rfl) (fun c a w h => hP c a _ _ w h) (y_load (p := ⟨g58, 3, none⟩) rfl (by rfl) (by rfl) (fun W hS => run_load_one ((hS.1.cell 3).trans (by rw [← hd.out]; simp [opC])) Try.underlying3 rfl)) hS74 rfl ?_
    (try simp only [zP, zN, zA, zB, zC])
    refine pure_ (i := 6) (N := some 91) (v := .bool true) #[true, true, true, true, true, true, true, false, false, false, false, false, false, false, false, false, false, false, false, false, false, false, false, false, false, false, false, false, false, false, false, false, false, false, false, false, false, false, false, false, false, false, false, false, false, false, false, false, false, false, false, false, false] rfl rfl (by kernel_rfl) (fun c a w h => hP c a _ _ w h) (y_run (by rfl) (fun W => by have d := D91.out; go_simp)) rfl ?_
    (try simp only [zP, zN, zA, zB, zC])
    refine pure_ (i := 7) (N := some 92) (v := .bool true) #[true, true, true, true, true, true, true, true, false, false, false, false, false, false, false, false, false, false, false, false, false, false, false, false, false, false, false, false, false, false, false, false, false, false, false, false, false, false, false, false, false, false, false, false, false, false, false, false, false, false, false, false, false] rfl rfl (by kernel_rfl) (fun c a w h => hP c a _ _ w h) (y_move rfl (by rfl) (by rfl)) rfl ?_
    (try simp only [zP, zN, zA, zB, zC])
    refine pure_ (i := 8) (N := some 93) (v := .pointer (some ⟨g58, 3, none⟩)) #[true, true, true, true, true, true, true, true, true, false, false, false, false, false, false, false, false, false, false, false, false, false, false, false, false, false, false, false, false, false, false, false, false, false, false, false, false, false, false, false, false, false, false, false, false, false, false, false, false, false, false, false, false] rfl rfl (by kernel_rfl) (fun c a w h => hP c a _ _ w h) (y_run (by rfl) (fun W => by go_simp)) rfl ?_
    (try simp only [zP, zN, zA, zB, zC])
    refine take_ (i := 9) (N := some 94) (v := .int .i64 kd) #[true, true, true, true, true, true, true, true, true, true, false, false, false, false, false, false, false, false, false, false, false, false, false, false, false, false, false, false, false, false, false, false, false, false, false, false, false, false, false, false, false, false, false, false, false, false, false, false, false, false, false, false, false] rfl rfl (by kernel_rfl) (fun c a w h => hP c a _ _ w h) (y_load (p := ⟨g58, 3, none⟩) rfl (by rfl) (by rfl) (fun W hS => run_load_one ((hS.1.cell 3).trans (by rw [← hd.out]; simp [opC])) Try.underlying3 rfl)) hS74 rfl ?_
    (try simp only [zP, zN, zA, zB, zC])
    refine pure_ (i := 10) (N := some 95) (v := .pointer (some ⟨g58, 2, none⟩)) #[true, true, true, true, true, true, true, true, true, true, true, false, false, false, false, false, false, false, false, false, false, false, false, false, false, false, false, false, false, false, false, false, false, false, false, false, false, false, false, false, false, false, false, false, false, false, false, false, false, false, false, false, false] rfl rfl (by kernel_rfl) (fun c a w h => hP c a _ _ w h) (y_run (by rfl) (fun W => by go_simp)) rfl ?_
    (try simp only [zP, zN, zA, zB, zC])
    refine take_ (i := 11) (N := some 96) (v := .int .i64 ka) #[true, true, true, true, true, true, true, true, true, true, true, true, false, false, false, false, false, false, false, false, false, false, false, false, false, false, false, false, false, false, false, false, false, false, false, false, false, false, false, false, false, false, false, false, false, false, false, false, false, false, false, false, false] rfl rfl (by kernel_rfl) (fun c a w h => hP c a _ _ w h) (y_load (p := ⟨g58, 2, none⟩) rfl (by rfl) (by rfl) (fun W hS => run_load_one ((hS.1.cell 2).trans (by rw [← ha.out]; simp [opC])) Try.underlying3 rfl)) hS74 rfl ?_
    (try simp only [zP, zN, zA, zB, zC])
    refine pure_ (i := 12) (N := some 97) (v := .bool false) #[true, true, true, true, true, true, true, true, true, true, true, true, true, false, false, false, false, false, false, false, false, false, false, false, false, false, false, false, false, false, false, false, false, false, false, false, false, false, false, false, false, false, false, false, false, false, false, false, false, false, false, false, false] rfl rfl (by kernel_rfl) (fun c a w h => hP c a _ _ w h) (y_run (by rfl) (fun W => by have d := D97.out; go_simp)) rfl ?_
    (try simp only [zP, zN, zA, zB, zC])
    refine pure_ (i := 13) (N := some 98) (v := .bool false) #[true, true, true, true, true, true, true, true, true, true, true, true, true, true, false, false, false, false, false, false, false, false, false, false, false, false, false, false, false, false, false, false, false, false, false, false, false, false, false, false, false, false, false, false, false, false, false, false, false, false, false, false, false] rfl rfl (by kernel_rfl) (fun c a w h => hP c a _ _ w h) (y_pick (t := true) (by rfl) rfl (by rfl) (by rfl)) rfl ?_
    (try simp only [zP, zN, zA, zB, zC])
    refine pure_ (i := 14) (N := some 99) (v := .bool false) #[true, true, true, true, true, true, true, true, true, true, true, true, true, true, true, false, false, false, false, false, false, false, false, false, false, false, false, false, false, false, false, false, false, false, false, false, false, false, false, false, false, false, false, false, false, false, false, false, false, false, false, false, false] rfl rfl (by kernel_rfl) (fun c a w h => hP c a _ _ w h) (y_pick (t := false) (by rfl) rfl (by rfl) (by rfl)) rfl ?_
    (try simp only [zP, zN, zA, zB, zC])
    refine pure_ (i := 15) (N := some 100) (v := .bool false) #[true, true, true, true, true, true, true, true, true, true, true, true, true, true, true, true, false, false, false, false, false, false, false, false, false, false, false, false, false, false, false, false, false, false, false, false, false, false, false, false, false, false, false, false, false, false, false, false, false, false, false, false, false] rfl rfl (by kernel_rfl) (fun c a w h => hP c a _ _ w h) (y_move rfl (by rfl) (by rfl)) rfl ?_
    (try simp only [zP, zN, zA, zB, zC])
    refine pure_ (i := 16) (N := some 101) (v := .pointer (some ⟨g58, 4, none⟩)) #[true, true, true, true, true, true, true, true, true, true, true, true, true, true, true, true, true, false, false, false, false, false, false, false, false, false, false, false, false, false, false, false, false, false, false, false, false, false, false, false, false, false, false, false, false, false, false, false, false, false, false, false, false] rfl rfl (by kernel_rfl) (fun c a w h => hP c a _ _ w h) (y_run (by rfl) (fun W => by go_simp)) rfl ?_
    (try simp only [zP, zN, zA, zB, zC])
    refine take_ (i := 17) (N := some 102) (v := .int .i64 kt) #[true, true, true, true, true, true, true, true, true, true, true, true, true, true, true, true, true, true, false, false, false, false, false, false, false, false, false, false, false, false, false, false, false, false, false, false, false, false, false, false, false, false, false, false, false, false, false, false, false, false, false, false, false] rfl rfl (by kernel_rfl) (fun c a w h => hP c a _ _ w h) (y_load (p := ⟨g58, 4, none⟩) rfl (by rfl) (by rfl) (fun W hS => run_load_one ((hS.1.cell 4).trans (by rw [← htt.out]; simp [opC])) Try.underlying3 rfl)) hS74 rfl ?_
    (try simp only [zP, zN, zA, zB, zC])
    refine pure_ (i := 18) (N := some 103) (v := .bool false) #[true, true, true, true, true, true, true, true, true, true, true, true, true, true, true, true, true, true, true, false, false, false, false, false, false, false, false, false, false, false, false, false, false, false, false, false, false, false, false, false, false, false, false, false, false, false, false, false, false, false, false, false, false] rfl rfl (by kernel_rfl) (fun c a w h => hP c a _ _ w h) (y_run (by rfl) (fun W => by have d := D103.out; go_simp)) rfl ?_
    (try simp only [zP, zN, zA, zB, zC])
    refine pure_ (i := 19) (N := some 104) (v := .bool false) #[true, true, true, true, true, true, true, true, true, true, true, true, true, true, true, true, true, true, true, true, false, false, false, false, false, false, false, false, false, false, false, false, false, false, false, false, false, false, false, false, false, false, false, false, false, false, false, false, false, false, false, false, false] rfl rfl (by kernel_rfl) (fun c a w h => hP c a _ _ w h) (y_move rfl (by rfl) (by rfl)) rfl ?_
    (try simp only [zP, zN, zA, zB, zC])
    refine pure_ (i := 20) (N := some 105) (v := undef) #[true, true, true, true, true, true, true, true, true, true, true, true, true, true, true, true, true, true, true, true, true, false, false, false, false, false, false, false, false, false, false, false, false, false, false, false, false, false, false, false, false, false, false, false, false, false, false, false, false, false, false, false, false] rfl rfl (by kernel_rfl) (fun c a w h => hP c a _ _ w h) (y_off (by rfl)) rfl ?_
    (try simp only [zP, zN, zA, zB, zC])
    refine pure_ (i := 21) (N := some 106) (v := undef) #[true, true, true, true, true, true, true, true, true, true, true, true, true, true, true, true, true, true, true, true, true, true, false, false, false, false, false, false, false, false, false, false, false, false, false, false, false, false, false, false, false, false, false, false, false, false, false, false, false, false, false, false, false] rfl rfl (by kernel_rfl) (fun c a w h => hP c a _ _ w h) (y_off (by rfl)) rfl ?_
    (try simp only [zP, zN, zA, zB, zC])
    refine pure_ (i := 22) (N := some 107) (v := undef) #[true, true, true, true, true, true, true, true, true, true, true, true, true, true, true, true, true, true, true, true, true, true, true, false, false, false, false, false, false, false, false, false, false, false, false, false, false, false, false, false, false, false, false, false, false, false, false, false, false, false, false, false, false] rfl rfl (by kernel_rfl) (fun c a w h => hP c a _ _ w h) (y_off (by rfl)) rfl ?_
    (try simp only [zP, zN, zA, zB, zC])
    refine pure_ (i := 23) (N := some 108) (v := undef) #[true, true, true, true, true, true, true, true, true, true, true, true, true, true, true, true, true, true, true, true, true, true, true, true, false, false, false, false, false, false, false, false, false, false, false, false, false, false, false, false, false, false, false, false, false, false, false, false, false, false, false, false, false] rfl rfl (by kernel_rfl) (fun c a w h => hP c a _ _ w h) (y_off (by rfl)) rfl ?_
    (try simp only [zP, zN, zA, zB, zC])
    refine pure_ (i := 24) (N := some 109) (v := undef) #[true, true, true, true, true, true, true, true, true, true, true, true, true, true, true, true, true, true, true, true, true, true, true, true, true, false, false, false, false, false, false, false, false, false, false, false, false, false, false, false, false, false, false, false, false, false, false, false, false, false, false, false, false] rfl rfl (by kernel_rfl) (fun c a w h => hP c a _ _ w h) (y_off (by rfl)) rfl ?_
    (try simp only [zP, zN, zA, zB, zC])
    refine pure_ (i := 25) (N := some 110) (v := undef) #[true, true, true, true, true, true, true, true, true, true, true, true, true, true, true, true, true, true, true, true, true, true, true, true, true, true, false, false, false, false, false, false, false, false, false, false, false, false, false, false, false, false, false, false, false, false, false, false, false, false, false, false, false] rfl rfl (by kernel_rfl) (fun c a w h => hP c a _ _ w h) (y_off (by rfl)) rfl ?_
    (try simp only [zP, zN, zA, zB, zC])
    refine pure_ (i := 26) (N := some 111) (v := undef) #[true, true, true, true, true, true, true, true, true, true, true, true, true, true, true, true, true, true, true, true, true, true, true, true, true, true, true, false, false, false, false, false, false, false, false, false, false, false, false, false, false, false, false, false, false, false, false, false, false, false, false, false, false] rfl rfl (by kernel_rfl) (fun c a w h => hP c a _ _ w h) (y_off (by rfl)) rfl ?_
    (try simp only [zP, zN, zA, zB, zC])
    refine pure_ (i := 27) (N := some 112) (v := undef) #[true, true, true, true, true, true, true, true, true, true, true, true, true, true, true, true, true, true, true, true, true, true, true, true, true, true, true, true, false, false, false, false, false, false, false, false, false, false, false, false, false, false, false, false, false, false, false, false, false, false, false, false, false] rfl rfl (by kernel_rfl) (fun c a w h => hP c a _ _ w h) (y_off (by rfl)) rfl ?_
    (try simp only [zP, zN, zA, zB, zC])
    refine pure_ (i := 28) (N := some 113) (v := undef) #[true, true, true, true, true, true, true, true, true, true, true, true, true, true, true, true, true, true, true, true, true, true, true, true, true, true, true, true, true, false, false, false, false, false, false, false, false, false, false, false, false, false, false, false, false, false, false, false, false, false, false, false, false] rfl rfl (by kernel_rfl) (fun c a w h => hP c a _ _ w h) (y_off (by rfl)) rfl ?_
    (try simp only [zP, zN, zA, zB, zC])
    refine pure_ (i := 29) (N := some 114) (v := undef) #[true, true, true, true, true, true, true, true, true, true, true, true, true, true, true, true, true, true, true, true, true, true, true, true, true, true, true, true, true, true, false, false, false, false, false, false, false, false, false, false, false, false, false, false, false, false, false, false, false, false, false, false, false] rfl rfl (by kernel_rfl) (fun c a w h => hP c a _ _ w h) (y_off (by rfl)) rfl ?_
    (try simp only [zP, zN, zA, zB, zC])
    refine pure_ (i := 30) (N := some 115) (v := .bool false) #[true, true, true, true, true, true, true, true, true, true, true, true, true, true, true, true, true, true, true, true, true, true, true, true, true, true, true, true, true, true, true, false, false, false, false, false, false, false, false, false, false, false, false, false, false, false, false, false, false, false, false, false, false] rfl rfl (by kernel_rfl) (fun c a w h => hP c a _ _ w h) (y_pick (t := false) (by rfl) rfl (by rfl) (by rfl)) rfl ?_
    (try simp only [zP, zN, zA, zB, zC])
    refine pure_ (i := 31) (N := some 116) (v := .bool false) #[true, true, true, true, true, true, true, true, true, true, true, true, true, true, true, true, true, true, true, true, true, true, true, true, true, true, true, true, true, true, true, true, false, false, false, false, false, false, false, false, false, false, false, false, false, false, false, false, false, false, false, false, false] rfl rfl (by kernel_rfl) (fun c a w h => hP c a _ _ w h) (y_pick (t := false) (by rfl) rfl (by rfl) (by rfl)) rfl ?_
    (try simp only [zP, zN, zA, zB, zC])
    refine pure_ (i := 32) (N := some 117) (v := .bool false) #[true, true, true, true, true, true, true, true, true, true, true, true, true, true, true, true, true, true, true, true, true, true, true, true, true, true, true, true, true, true, true, true, true, false, false, false, false, false, false, false, false, false, false, false, false, false, false, false, false, false, false, false, false] rfl rfl (by kernel_rfl) (fun c a w h => hP c a _ _ w h) (y_move rfl (by rfl) (by rfl)) rfl ?_
    (try simp only [zP, zN, zA, zB, zC])
    refine pure_ (i := 33) (N := some 118) (v := .pointer (some ⟨g58, 4, none⟩)) #[true, true, true, true, true, true, true, true, true, true, true, true, true, true, true, true, true, true, true, true, true, true, true, true, true, true, true, true, true, true, true, true, true, true, false, false, false, false, false, false, false, false, false, false, false, false, false, false, false, false, false, false, false] rfl rfl (by kernel_rfl) (fun c a w h => hP c a _ _ w h) (y_run (by rfl) (fun W => by go_simp)) rfl ?_
    (try simp only [zP, zN, zA, zB, zC])
    refine take_ (i := 34) (N := some 119) (v := .int .i64 kt) #[true, true, true, true, true, true, true, true, true, true, true, true, true, true, true, true, true, true, true, true, true, true, true, true, true, true, true, true, true, true, true, true, true, true, true, false, false, false, false, false, false, false, false, false, false, false, false, false, false, false, false, false, false] rfl rfl (by kernel_rfl) (fun c a w h => hP c a _ _ w h) (y_load (p := ⟨g58, 4, none⟩) rfl (by rfl) (by rfl) (fun W hS => run_load_one ((hS.1.cell 4).trans (by rw [← htt.out]; simp [opC])) Try.underlying3 rfl)) hS74 rfl ?_
    (try simp only [zP, zN, zA, zB, zC])
    refine pure_ (i := 35) (N := some 120) (v := .pointer (some ⟨b, 0, none⟩)) #[true, true, true, true, true, true, true, true, true, true, true, true, true, true, true, true, true, true, true, true, true, true, true, true, true, true, true, true, true, true, true, true, true, true, true, true, false, false, false, false, false, false, false, false, false, false, false, false, false, false, false, false, false] rfl rfl (by kernel_rfl) (fun c a w h => hP c a _ _ w h) (y_move rfl (by rfl) (by rfl)) rfl ?_
    (try simp only [zP, zN, zA, zB, zC])
    refine one_ (i := 36) (N := some 121) #[true, true, true, true, true, true, true, true, true, true, true, true, true, true, true, true, true, true, true, true, true, true, true, true, true, true, true, true, true, true, true, true, true, true, true, true, true, false, false, false, false, false, false, false, false, false, false, false, false, false, false, false, false] rfl rfl (by kernel_rfl) (by simp) (fun K75 hK75 => ?_)
    refine e_call Try.func14 (by kernel_rfl) rfl #[.pointer (some ⟨b, 0, none⟩)] (by rfl) rfl rfl (by first | rfl | (simp only [List.map_toArray, List.map_cons, List.map_nil]; first | done | rfl)) (now_all BF.out) ?_
    rintro en w77 ⟨rfl, cc76⟩
    refine ⟨_, rfl, ?_⟩
    have C0' := Lib.hid (show Ch [] w w77 from C0.out.trans' cc76 (fun x hx => absurd hx (by simp)))
    have BF' := Lib.hid (show BookIs w77 w.heap.size hi b (S) from BF.out.ch cc76 (fun x hx => absurd hx (by simp)))
    have HI' := Lib.hid (show hi ≤ w77.heap.size from Nat.le_trans HI.out cc76.size)
    have OM' := Lib.hid (show OwnS w77 w.heap.size 3 1 (.slice (some ⟨gm, 0, none⟩) 100 100) (100) (cnts ((S.L.take k).flatMap tm)) from OM.out.ch cc76 rnin_nil)
    have OO' := Lib.hid (show OwnS w77 bo 49 28 (.slice (some ⟨go, 0, none⟩) S.L.length cAo) (S.L.length) ((S.L).flatMap opC) from OO.out.ch cc76 rnin_nil)
    have OI' := Lib.hid (show OwnS w77 bi 3 1 (.slice Ai S.I.length cAi) (S.I.length) ((S.I).map (Value.int .i64)) from OI.out.ch cc76 rnin_nil)
    have Fg58' := Lib.hid (show Blk w77 g58 ((opC o).toArray) 49 from cc76.blk Fg58.out nin_nil)
    clear C0 BF HI OM OO OI Fg58
    have C0 := C0'; clear C0'
    have BF := BF'; clear BF'
    have HI := HI'; clear HI'
    have OM := OM'; clear OM'
    have OO := OO'; clear OO'
    have OI := OI'; clear OI'
    have Fg58 := Fg58'; clear Fg58'
    clear cc76
    refine hK75.out _ _ ⟨Fg58.out, trivial⟩ (fun hS78 => ?_); clear hK75 K75
    (try simp only [zP, zN, zA, zB, zC])
    refine pure_ (i := 37) (N := some 122) (v := .bool false) #[true, true, true, true, true, true, true, true, true, true, true, true, true, true, true, true, true, true, true, true, true, true, true, true, true, true, true, true, true, true, true, true, true, true, true, true, true, true, false, false, false, false, false, false, false, false, false, false, false, false, false, false, false] rfl rfl (by kernel_rfl) (fun c a w h => hP c a _ _ w h) (y_run (by rfl) (fun W => by have d := D122.out; go_simp)) rfl ?_
    (try simp only [zP, zN, zA, zB, zC])
    refine pure_ (i := 38) (N := some 123) (v := .bool false) #[true, true, true, true, true, true, true, true, true, true, true, true, true, true, true, true, true, true, true, true, true, true, true, true, true, true, true, true, true, true, true, true, true, true, true, true, true, true, true, false, false, false, false, false, false, false, false, false, false, false, false, false, false] rfl rfl (by kernel_rfl) (fun c a w h => hP c a _ _ w h) (y_pick (t := false) (by rfl) rfl (by rfl) (by rfl)) rfl ?_
    (try simp only [zP, zN, zA, zB, zC])
    refine pure_ (i := 39) (N := some 124) (v := .bool false) #[true, true, true, true, true, true, true, true, true, true, true, true, true, true, true, true, true, true, true, true, true, true, true, true, true, true, true, true, true, true, true, true, true, true, true, true, true, true, true, true, false, false, false, false, false, false, false, false, false, false, false, false, false] rfl rfl (by kernel_rfl) (fun c a w h => hP c a _ _ w h) (y_move rfl (by rfl) (by rfl)) rfl ?_
    (try simp only [zP, zN, zA, zB, zC])
    refine pure_ (i := 40) (N := some 125) (v := .pointer (some ⟨g58, 3, none⟩)) #[true, true, true, true, true, true, true, true, true, true, true, true, true, true, true, true, true, true, true, true, true, true, true, true, true, true, true, true, true, true, true, true, true, true, true, true, true, true, true, true, true, false, false, false, false, false, false, false, false, false, false, false, false] rfl rfl (by kernel_rfl) (fun c a w h => hP c a _ _ w h) (y_run (by rfl) (fun W => by go_simp)) rfl ?_
    (try simp only [zP, zN, zA, zB, zC])
    refine take_ (i := 41) (N := some 126) (v := .int .i64 kd) #[true, true, true, true, true, true, true, true, true, true, true, true, true, true, true, true, true, true, true, true, true, true, true, true, true, true, true, true, true, true, true, true, true, true, true, true, true, true, true, true, true, true, false, false, false, false, false, false, false, false, false, false, false] rfl rfl (by kernel_rfl) (fun c a w h => hP c a _ _ w h) (y_load (p := ⟨g58, 3, none⟩) rfl (by rfl) (by rfl) (fun W hS => run_load_one ((hS.1.cell 3).trans (by rw [← hd.out]; simp [opC])) Try.underlying3 rfl)) hS78 rfl ?_
    (try simp only [zP, zN, zA, zB, zC])
    refine pure_ (i := 42) (N := some 127) (v := .pointer (some ⟨b, 0, none⟩)) #[true, true, true, true, true, true, true, true, true, true, true, true, true, true, true, true, true, true, true, true, true, true, true, true, true, true, true, true, true, true, true, true, true, true, true, true, true, true, true, true, true, true, true, false, false, false, false, false, false, false, false, false, false] rfl rfl (by kernel_rfl) (fun c a w h => hP c a _ _ w h) (y_move rfl (by rfl) (by rfl)) rfl ?_
    (try simp only [zP, zN, zA, zB, zC])
    refine one_ (i := 43) (N := some 128) #[true, true, true, true, true, true, true, true, true, true, true, true, true, true, true, true, true, true, true, true, true, true, true, true, true, true, true, true, true, true, true, true, true, true, true, true, true, true, true, true, true, true, true, true, false, false, false, false, false, false, false, false, false] rfl rfl (by kernel_rfl) (by simp) (fun K79 hK79 => ?_)
    refine e_call Try.func14 (by kernel_rfl) rfl #[.pointer (some ⟨b, 0, none⟩)] (by rfl) rfl rfl (by first | rfl | (simp only [List.map_toArray, List.map_cons, List.map_nil]; first | done | rfl)) (now_all BF.out) ?_
    rintro en w81 ⟨rfl, cc80⟩
    refine ⟨_, rfl, ?_⟩
    have C0' := Lib.hid (show Ch [] w w81 from C0.out.trans' cc80 (fun x hx => absurd hx (by simp)))
    have BF' := Lib.hid (show BookIs w81 w.heap.size hi b (S) from BF.out.ch cc80 (fun x hx => absurd hx (by simp)))
    have HI' := Lib.hid (show hi ≤ w81.heap.size from Nat.le_trans HI.out cc80.size)
    have OM' := Lib.hid (show OwnS w81 w.heap.size 3 1 (.slice (some ⟨gm, 0, none⟩) 100 100) (100) (cnts ((S.L.take k).flatMap tm)) from OM.out.ch cc80 rnin_nil)
    have OO' := Lib.hid (show OwnS w81 bo 49 28 (.slice (some ⟨go, 0, none⟩) S.L.length cAo) (S.L.length) ((S.L).flatMap opC) from OO.out.ch cc80 rnin_nil)
    have OI' := Lib.hid (show OwnS w81 bi 3 1 (.slice Ai S.I.length cAi) (S.I.length) ((S.I).map (Value.int .i64)) from OI.out.ch cc80 rnin_nil)
    have Fg58' := Lib.hid (show Blk w81 g58 ((opC o).toArray) 49 from cc80.blk Fg58.out nin_nil)
    clear C0 BF HI OM OO OI Fg58
    have C0 := C0'; clear C0'
    have BF := BF'; clear BF'
    have HI := HI'; clear HI'
    have OM := OM'; clear OM'
    have OO := OO'; clear OO'
    have OI := OI'; clear OI'
    have Fg58 := Fg58'; clear Fg58'
    clear cc80
    refine hK79.out _ _ ⟨Fg58.out, trivial⟩ (fun hS82 => ?_); clear hK79 K79
    (try simp only [zP, zN, zA, zB, zC])
    refine pure_ (i := 44) (N := some 129) (v := .bool false) #[true, true, true, true, true, true, true, true, true, true, true, true, true, true, true, true, true, true, true, true, true, true, true, true, true, true, true, true, true, true, true, true, true, true, true, true, true, true, true, true, true, true, true, true, true, false, false, false, false, false, false, false, false] rfl rfl (by kernel_rfl) (fun c a w h => hP c a _ _ w h) (y_run (by rfl) (fun W => by have d := D129.out; go_simp)) rfl ?_
    (try simp only [zP, zN, zA, zB, zC])
    refine pure_ (i := 45) (N := some 130) (v := .bool false) #[true, true, true, true, true, true, true, true, true, true, true, true, true, true, true, true, true, true, true, true, true, true, true, true, true, true, true, true, true, true, true, true, true, true, true, true, true, true, true, true, true, true, true, true, true, true, false, false, false, false, false, false, false] rfl rfl (by kernel_rfl) (fun c a w h => hP c a _ _ w h) (y_pick (t := false) (by rfl) rfl (by rfl) (by rfl)) rfl ?_
    (try simp only [zP, zN, zA, zB, zC])
    refine pure_ (i := 46) (N := some 131) (v := .bool false) #[true, true, true, true, true, true, true, true, true, true, true, true, true, true, true, true, true, true, true, true, true, true, true, true, true, true, true, true, true, true, true, true, true, true, true, true, true, true, true, true, true, true, true, true, true, true, true, false, false, false, false, false, false] rfl rfl (by kernel_rfl) (fun c a w h => hP c a _ _ w h) (y_move rfl (by rfl) (by rfl)) rfl ?_
    (try simp only [zP, zN, zA, zB, zC])
    refine pure_ (i := 47) (N := some 132) (v := .pointer (some ⟨g58, 2, none⟩)) #[true, true, true, true, true, true, true, true, true, true, true, true, true, true, true, true, true, true, true, true, true, true, true, true, true, true, true, true, true, true, true, true, true, true, true, true, true, true, true, true, true, true, true, true, true, true, true, true, false, false, false, false, false] rfl rfl (by kernel_rfl) (fun c a w h => hP c a _ _ w h) (y_run (by rfl) (fun W => by go_simp)) rfl ?_
    (try simp only [zP, zN, zA, zB, zC])
    refine take_ (i := 48) (N := some 133) (v := .int .i64 ka) #[true, true, true, true, true, true, true, true, true, true, true, true, true, true, true, true, true, true, true, true, true, true, true, true, true, true, true, true, true, true, true, true, true, true, true, true, true, true, true, true, true, true, true, true, true, true, true, true, true, false, false, false, false] rfl rfl (by kernel_rfl) (fun c a w h => hP c a _ _ w h) (y_load (p := ⟨g58, 2, none⟩) rfl (by rfl) (by rfl) (fun W hS => run_load_one ((hS.1.cell 2).trans (by rw [← ha.out]; simp [opC])) Try.underlying3 rfl)) hS82 rfl ?_
    (try simp only [zP, zN, zA, zB, zC])
    refine pure_ (i := 49) (N := some 134) (v := .pointer (some ⟨b, 0, none⟩)) #[true, true, true, true, true, true, true, true, true, true, true, true, true, true, true, true, true, true, true, true, true, true, true, true, true, true, true, true, true, true, true, true, true, true, true, true, true, true, true, true, true, true, true, true, true, true, true, true, true, true, false, false, false] rfl rfl (by kernel_rfl) (fun c a w h => hP c a _ _ w h) (y_move rfl (by rfl) (by rfl)) rfl ?_
    (try simp only [zP, zN, zA, zB, zC])
    refine one_ (i := 50) (N := some 135) #[true, true, true, true, true, true, true, true, true, true, true, true, true, true, true, true, true, true, true, true, true, true, true, true, true, true, true, true, true, true, true, true, true, true, true, true, true, true, true, true, true, true, true, true, true, true, true, true, true, true, true, false, false] rfl rfl (by kernel_rfl) (by simp) (fun K83 hK83 => ?_)
    refine e_call Try.func14 (by kernel_rfl) rfl #[.pointer (some ⟨b, 0, none⟩)] (by rfl) rfl rfl (by first | rfl | (simp only [List.map_toArray, List.map_cons, List.map_nil]; first | done | rfl)) (now_all BF.out) ?_
    rintro en w85 ⟨rfl, cc84⟩
    refine ⟨_, rfl, ?_⟩
    have C0' := Lib.hid (show Ch [] w w85 from C0.out.trans' cc84 (fun x hx => absurd hx (by simp)))
    have BF' := Lib.hid (show BookIs w85 w.heap.size hi b (S) from BF.out.ch cc84 (fun x hx => absurd hx (by simp)))
    have HI' := Lib.hid (show hi ≤ w85.heap.size from Nat.le_trans HI.out cc84.size)
    have OM' := Lib.hid (show OwnS w85 w.heap.size 3 1 (.slice (some ⟨gm, 0, none⟩) 100 100) (100) (cnts ((S.L.take k).flatMap tm)) from OM.out.ch cc84 rnin_nil)
    have OO' := Lib.hid (show OwnS w85 bo 49 28 (.slice (some ⟨go, 0, none⟩) S.L.length cAo) (S.L.length) ((S.L).flatMap opC) from OO.out.ch cc84 rnin_nil)
    have OI' := Lib.hid (show OwnS w85 bi 3 1 (.slice Ai S.I.length cAi) (S.I.length) ((S.I).map (Value.int .i64)) from OI.out.ch cc84 rnin_nil)
    have Fg58' := Lib.hid (show Blk w85 g58 ((opC o).toArray) 49 from cc84.blk Fg58.out nin_nil)
    clear C0 BF HI OM OO OI Fg58
    have C0 := C0'; clear C0'
    have BF := BF'; clear BF'
    have HI := HI'; clear HI'
    have OM := OM'; clear OM'
    have OO := OO'; clear OO'
    have OI := OI'; clear OI'
    have Fg58 := Fg58'; clear Fg58'
    clear cc84
    refine hK83.out _ _ ⟨Fg58.out, trivial⟩ (fun hS86 => ?_); clear hK83 K83
    (try simp only [zP, zN, zA, zB, zC])
    refine pure_ (i := 51) (N := some 136) (v := .bool false) #[true, true, true, true, true, true, true, true, true, true, true, true, true, true, true, true, true, true, true, true, true, true, true, true, true, true, true, true, true, true, true, true, true, true, true, true, true, true, true, true, true, true, true, true, true, true, true, true, true, true, true, true, false] rfl rfl (by kernel_rfl) (fun c a w h => hP c a _ _ w h) (y_run (by rfl) (fun W => by have d := D136.out; go_simp)) rfl ?_
    (try simp only [zP, zN, zA, zB, zC])
    refine pure_ (i := 52) (N := some 137) (v := .bool false) #[true, true, true, true, true, true, true, true, true, true, true, true, true, true, true, true, true, true, true, true, true, true, true, true, true, true, true, true, true, true, true, true, true, true, true, true, true, true, true, true, true, true, true, true, true, true, true, true, true, true, true, true, true] rfl rfl (by kernel_rfl) (fun c a w h => hP c a _ _ w h) (y_pick (t := false) (by rfl) rfl (by rfl) (by rfl)) rfl ?_
    (try simp only [zP, zN, zA, zB, zC])
    refine done_ (by kernel_rfl) (th_norm (hK71 _ _ ?_)); clear hK71 K71
    refine wp_cond_false rfl ?_
    refine wp_skip ?_
    refine th_norm (hK70 _ _ ?_); try clear hK70 K70
    refine s_ (fun K87 hK87 => ?_)
    refine pu_ (v := .slice (some ⟨gm, 0, none⟩) 100 100) (y_move rfl (by rfl) (by rfl)) ?_
    (try simp only [zP, zN, zA, zB, zC])
    refine pu_ (v := .pointer (some ⟨g58, 2, none⟩)) (y_run (by rfl) (fun W => by go_simp)) ?_
    (try simp only [zP, zN, zA, zB, zC])
    refine ld_ (v := .int .i64 ka) rfl (by rfl) (by rfl) (run_load_one ((Fg58.out.cell 2).trans (by rw [← ha.out]; simp [opC])) Try.underlying3 rfl) ?_
    (try simp only [zP, zN, zA, zB, zC])
    refine pu_ (v := .pointer (some ⟨gm, ka, none⟩)) (y_run (by rfl) (fun W => by have d := DB141.out; go_simp)) ?_
    (try simp only [zP, zN, zA, zB, zC])
    refine ld_ (v := .int .i64 c143) rfl (by rfl) (by rfl) (run_load_one (own_cell OM.out (by rw [cnts_at _ (by have := DB141.out; omega), HC143.out])) Try.underlying3 rfl) ?_
    (try simp only [zP, zN, zA, zB, zC])
    refine pu_ (v := .int .i64 (c143 + 1 : Nat)) (y_run (by rfl) (fun W => by have d := WB143.out; go_simp)) ?_
    (try simp only [zP, zN, zA, zB, zC])
    refine pu_ (v := .pointer (some ⟨gm, ka, none⟩)) (y_run (by rfl) (fun W => by have d := DB141.out; go_simp)) ?_
    (try simp only [zP, zN, zA, zB, zC])
    refine ef_ (fun K88 hK88 => ?_)
    refine e_storeS1 (by rfl) rfl rfl OM.out ka (.int .i64 (c143 + 1 : Nat)) (by rfl) (by rfl) (by kernel_rfl) (by have := DX_ka.out; omega) rfl ?_
    rintro w89 O90 C91
    have RC91 := Lib.hid (show Ch (rl (.slice (some ⟨gm, 0, none⟩) 100 100)) w85 w89 from by rw [rl_some _ _ _ (by decide)]; exact C91)
    have C0' := Lib.hid (show Ch [] w w89 from C0.out.trans' RC91.out (fun x hx => .inr (OM.out.lt x hx).1))
    have BF' := Lib.hid (show BookIs w89 w.heap.size hi b (S) from BF.out.ch RC91.out (fun x hx => .inr (by rw [rl_some _ _ _ (by decide)] at hx; rw [List.mem_singleton.1 hx]; exact HGE.out)))
    have HI' := Lib.hid (show hi ≤ w89.heap.size from Nat.le_trans HI.out RC91.out.size)
    have OO' := Lib.hid (show OwnS w89 bo 49 28 (.slice (some ⟨go, 0, none⟩) S.L.length cAo) (S.L.length) ((S.L).flatMap opC) from OO.out.ch RC91.out (OwnS.rne OO.out OM.out (by decide)))
    have OI' := Lib.hid (show OwnS w89 bi 3 1 (.slice Ai S.I.length cAi) (S.I.length) ((S.I).map (Value.int .i64)) from OI.out.ch RC91.out (fun k hk hm => HRR.out k hm hk))
    have Fg58' := Lib.hid (show Blk w89 g58 ((opC o).toArray) 49 from RC91.out.blk Fg58.out (OM.out.ne Fg58.out (by decide)))
    clear C0 BF HI OO OI Fg58
    have C0 := C0'; clear C0'
    have BF := BF'; clear BF'
    have HI := HI'; clear HI'
    have OO := OO'; clear OO'
    have OI := OI'; clear OI'
    have Fg58 := Fg58'; clear Fg58'
    clear OM
    have OM := Lib.hid (show OwnS w89 w.heap.size 3 1 (.slice (some ⟨gm, 0, none⟩) 100 100) (100) (cnts (((S.L.take k).flatMap tm) ++ [(ka : Int)])) from by have h := O90; rw [← HC143.out, cnts_set] at h; exact h); clear O90 C91 RC91
    refine hK88 _ _ ?_; clear hK88 K88
    (try simp only [zP, zN, zA, zB, zC])
    refine nl_ (hK87 _ _ ?_); clear hK87 K87
    refine s_ (fun K92 hK92 => ?_)
    refine pu_ (v := .slice (some ⟨gm, 0, none⟩) 100 100) (y_move rfl (by rfl) (by rfl)) ?_
    (try simp only [zP, zN, zA, zB, zC])
    refine pu_ (v := .pointer (some ⟨g58, 3, none⟩)) (y_run (by rfl) (fun W => by go_simp)) ?_
    (try simp only [zP, zN, zA, zB, zC])
    refine ld_ (v := .int .i64 kd) rfl (by rfl) (by rfl) (run_load_one ((Fg58.out.cell 3).trans (by rw [← hd.out]; simp [opC])) Try.underlying3 rfl) ?_
    (try simp only [zP, zN, zA, zB, zC])
    refine pu_ (v := .int .i64 kd) (y_run (by rfl) (fun W => by go_simp; intro h9; omega)) ?_
    (try simp only [zP, zN, zA, zB, zC])
    refine pu_ (v := .pointer (some ⟨gm, kd, none⟩)) (y_run (by rfl) (fun W => by have d := DB149.out; go_simp)) ?_
    (try simp only [zP, zN, zA, zB, zC])
    refine ld_ (v := .int .i64 c151) rfl (by rfl) (by rfl) (run_load_one (own_cell OM.out (by rw [cnts_at _ (by have := DB149.out; omega), HC151.out])) Try.underlying3 rfl) ?_
    (try simp only [zP, zN, zA, zB, zC])
    refine pu_ (v := .int .i64 (c151 + 1 : Nat)) (y_run (by rfl) (fun W => by have d := WB151.out; go_simp)) ?_
    (try simp only [zP, zN, zA, zB, zC])
    refine pu_ (v := .pointer (some ⟨gm, kd, none⟩)) (y_run (by rfl) (fun W => by have d := DB149.out; go_simp)) ?_
    (try simp only [zP, zN, zA, zB, zC])
    refine ef_ (fun K93 hK93 => ?_)
    refine e_storeS1 (by rfl) rfl rfl OM.out kd (.int .i64 (c151 + 1 : Nat)) (by rfl) (by rfl) (by kernel_rfl) (by have := DX_kd.out; omega) rfl ?_
    rintro w94 O95 C96
    have RC96 := Lib.hid (show Ch (rl (.slice (some ⟨gm, 0, none⟩) 100 100)) w89 w94 from by rw [rl_some _ _ _ (by decide)]; exact C96)
    have C0' := Lib.hid (show Ch [] w w94 from C0.out.trans' RC96.out (fun x hx => .inr (OM.out.lt x hx).1))
    have BF' := Lib.hid (show BookIs w94 w.heap.size hi b (S) from BF.out.ch RC96.out (fun x hx => .inr (by rw [rl_some _ _ _ (by decide)] at hx; rw [List.mem_singleton.1 hx]; exact HGE.out)))
    have HI' := Lib.hid (show hi ≤ w94.heap.size from Nat.le_trans HI.out RC96.out.size)
    have OO' := Lib.hid (show OwnS w94 bo 49 28 (.slice (some ⟨go, 0, none⟩) S.L.length cAo) (S.L.length) ((S.L).flatMap opC) from OO.out.ch RC96.out (OwnS.rne OO.out OM.out (by decide)))
    have OI' := Lib.hid (show OwnS w94 bi 3 1 (.slice Ai S.I.length cAi) (S.I.length) ((S.I).map (Value.int .i64)) from OI.out.ch RC96.out (fun k hk hm => HRR.out k hm hk))
    have Fg58' := Lib.hid (show Blk w94 g58 ((opC o).toArray) 49 from RC96.out.blk Fg58.out (OM.out.ne Fg58.out (by decide)))
    clear C0 BF HI OO OI Fg58
    have C0 := C0'; clear C0'
    have BF := BF'; clear BF'
    have HI := HI'; clear HI'
    have OO := OO'; clear OO'
    have OI := OI'; clear OI'
    have Fg58 := Fg58'; clear Fg58'
    clear OM
    have OM := Lib.hid (show OwnS w94 w.heap.size 3 1 (.slice (some ⟨gm, 0, none⟩) 100 100) (100) (cnts (((S.L.take k).flatMap tm ++ [(ka : Int)]) ++ [(kd : Int)])) from by have h := O95; rw [← HC151.out, cnts_set] at h; exact h); clear O95 C96 RC96
    refine hK93 _ _ ?_; clear hK93 K93
    (try simp only [zP, zN, zA, zB, zC])
    refine nl_ (hK92 _ _ ?_); clear hK92 K92
    refine r_ ?_
    refine pu_ (v := .slice (some ⟨gm, 0, none⟩) 100 100) (y_move rfl (by rfl) (by rfl)) ?_
    (try simp only [zP, zN, zA, zB, zC])
    refine pu_ (v := .pointer (some ⟨g58, 4, none⟩)) (y_run (by rfl) (fun W => by go_simp)) ?_
    (try simp only [zP, zN, zA, zB, zC])
    refine ld_ (v := .int .i64 kt) rfl (by rfl) (by rfl) (run_load_one ((Fg58.out.cell 4).trans (by rw [← htt.out]; simp [opC])) Try.underlying3 rfl) ?_
    (try simp only [zP, zN, zA, zB, zC])
    refine pu_ (v := .int .i64 kt) (y_run (by rfl) (fun W => by go_simp; intro h9; omega)) ?_
    (try simp only [zP, zN, zA, zB, zC])
    refine pu_ (v := .pointer (some ⟨gm, kt, none⟩)) (y_run (by rfl) (fun W => by have d := DB157.out; go_simp)) ?_
    (try simp only [zP, zN, zA, zB, zC])
    refine ld_ (v := .int .i64 c159) rfl (by rfl) (by rfl) (run_load_one (own_cell OM.out (by rw [cnts_at _ (by have := DB157.out; omega), HC159.out])) Try.underlying3 rfl) ?_
    (try simp only [zP, zN, zA, zB, zC])
    refine pu_ (v := .int .i64 (c159 + 1 : Nat)) (y_run (by rfl) (fun W => by have d := WB159.out; go_simp)) ?_
    (try simp only [zP, zN, zA, zB, zC])
    refine pu_ (v := .pointer (some ⟨gm, kt, none⟩)) (y_run (by rfl) (fun W => by have d := DB157.out; go_simp)) ?_
    (try simp only [zP, zN, zA, zB, zC])
    refine ef_ (fun K97 hK97 => ?_)
    refine e_storeS1 (by rfl) rfl rfl OM.out kt (.int .i64 (c159 + 1 : Nat)) (by rfl) (by rfl) (by kernel_rfl) (by have := DX_kt.out; omega) rfl ?_
    rintro w98 O99 C100
    have RC100 := Lib.hid (show Ch (rl (.slice (some ⟨gm, 0, none⟩) 100 100)) w94 w98 from by rw [rl_some _ _ _ (by decide)]; exact C100)
    have C0' := Lib.hid (show Ch [] w w98 from C0.out.trans' RC100.out (fun x hx => .inr (OM.out.lt x hx).1))
    have BF' := Lib.hid (show BookIs w98 w.heap.size hi b (S) from BF.out.ch RC100.out (fun x hx => .inr (by rw [rl_some _ _ _ (by decide)] at hx; rw [List.mem_singleton.1 hx]; exact HGE.out)))
    have HI' := Lib.hid (show hi ≤ w98.heap.size from Nat.le_trans HI.out RC100.out.size)
    have OO' := Lib.hid (show OwnS w98 bo 49 28 (.slice (some ⟨go, 0, none⟩) S.L.length cAo) (S.L.length) ((S.L).flatMap opC) from OO.out.ch RC100.out (OwnS.rne OO.out OM.out (by decide)))
    have OI' := Lib.hid (show OwnS w98 bi 3 1 (.slice Ai S.I.length cAi) (S.I.length) ((S.I).map (Value.int .i64)) from OI.out.ch RC100.out (fun k hk hm => HRR.out k hm hk))
    have Fg58' := Lib.hid (show Blk w98 g58 ((opC o).toArray) 49 from RC100.out.blk Fg58.out (OM.out.ne Fg58.out (by decide)))
    clear C0 BF HI OO OI Fg58
    have C0 := C0'; clear C0'
    have BF := BF'; clear BF'
    have HI := HI'; clear HI'
    have OO := OO'; clear OO'
    have OI := OI'; clear OI'
    have Fg58 := Fg58'; clear Fg58'
    clear OM
    have OM := Lib.hid (show OwnS w98 w.heap.size 3 1 (.slice (some ⟨gm, 0, none⟩) 100 100) (100) (cnts ((((S.L.take k).flatMap tm ++ [(ka : Int)]) ++ [(kd : Int)]) ++ [(kt : Int)])) from by have h := O99; rw [← HC159.out, cnts_set] at h; exact h); clear O99 C100 RC100
    refine hK97 _ _ ?_; clear hK97 K97
    (try simp only [zP, zN, zA, zB, zC])
    refine nl_ ?_
    refine ib_norm ?_
    refine th_norm (hK55 _ _ ?_); try clear hK55 K55
    refine r_ ?_
    refine pu_ (v := .int .i64 k) (y_move rfl (by rfl) (by rfl)) ?_
    (try simp only [zP, zN, zA, zB, zC])
    refine pu_ (v := .int .i64 (k + 1 : Nat)) (y_run (by rfl) (fun W => by have d := WA.out; go_simp)) ?_
    (try simp only [zP, zN, zA, zB, zC])
    refine pu_ (v := .int .i64 (k + 1 : Nat)) (y_assign rfl (by rfl) (by rfl)) ?_
    (try simp only [zP, zN, zA, zB, zC])
    refine nl_ ?_
    exact th_norm (hK4 (kq - 1) _ _ (by have := hlt.out; have := hk.out; omega) ⟨k + 1, fun us_ => (#[us 0, us 1, .bool false, .pointer (some ⟨b, 0, none⟩), us 4, us 5, .slice (some ⟨gm, 0, none⟩) 100 100, .slice (some ⟨go, 0, none⟩) S.L.length cAo, .slice Ai S.I.length cAi, .int .i64 (k + 1 : Nat), .pointer (some ⟨g58, 0, none⟩), us 11, us 12, us 13, us 14, us 15, us 16, us 17, us 18, us 19, us 20, us 21, us 22, us 23, us 24, us 25, us 26, us 27, us 28, us 29, us 30, us 31, us 32, us 33, us 34, us 35, us 36, us 37, us 38, us 39, us 40, us 41, us 42, us 43, us 44, us 45, us 46, us 47, us 48, us 49, us 50, us 51, us 52, us 53, us 54, us 55, us 56, us 57, us 58, us 59, us 60, us 61, us 62, us 63, us 64, us 65, us 66, us 67, us 68, us 69, us 70, us 71, us 72, us 73, us 74, .int .i64 k, .slice (some ⟨go, 0, none⟩) S.L.length cAo, .int .i64 S.L.length, .bool true, .int .i64 k, .int .i64 (k + 1 : Nat), .slice (some ⟨go, 0, none⟩) S.L.length cAo, .int .i64 k, .pointer (some ⟨go, k * 28, none⟩), .agg (opC o).toArray, .pointer (some ⟨g58, 2, none⟩), .int .i64 ka, .bool false, .bool false, .pointer (some ⟨g58, 3, none⟩), .int .i64 kd, .bool true, .bool true, .pointer (some ⟨g58, 3, none⟩), .int .i64 kd, .pointer (some ⟨g58, 2, none⟩), .int .i64 ka, .bool false, .bool false, .bool false, .bool false, .pointer (some ⟨g58, 4, none⟩), .int .i64 kt, .bool false, .bool false, undef, undef, undef, undef, undef, undef, undef, undef, undef, undef, .bool false, .bool false, .bool false, .pointer (some ⟨g58, 4, none⟩), .int .i64 kt, .pointer (some ⟨b, 0, none⟩), .int .i64 S.now, .bool false, .bool false, .bool false, .pointer (some ⟨g58, 3, none⟩), .int .i64 kd, .pointer (some ⟨b, 0, none⟩), .int .i64 S.now, .bool false, .bool false, .bool false, .pointer (some ⟨g58, 2, none⟩), .int .i64 ka, .pointer (some ⟨b, 0, none⟩), .int .i64 S.now, .bool false, .bool false, .slice (some ⟨gm, 0, none⟩) 100 100, .pointer (some ⟨g58, 2, none⟩), .int .i64 ka, .pointer (some ⟨gm, ka, none⟩), .int .i64 c143, .int .i64 (c143 + 1 : Nat), .pointer (some ⟨gm, ka, none⟩), .slice (some ⟨gm, 0, none⟩) 100 100, .pointer (some ⟨g58, 3, none⟩), .int .i64 kd, .int .i64 kd, .pointer (some ⟨gm, kd, none⟩), .int .i64 c151, .int .i64 (c151 + 1 : Nat), .pointer (some ⟨gm, kd, none⟩), .slice (some ⟨gm, 0, none⟩) 100 100, .pointer (some ⟨g58, 4, none⟩), .int .i64 kt, .int .i64 kt, .pointer (some ⟨gm, kt, none⟩), .int .i64 c159, .int .i64 (c159 + 1 : Nat), .pointer (some ⟨gm, kt, none⟩), us 161, us 162, us 163, us 164, us 165, us 166, us 167, us 168, us 169, us 170, us 171, us 172, us 173, us 174, us 175, us 176, us 177, us 178, us 179, us 180, us 181, us 182, us 183, us 184, us 185, us 186, us 187, us 188, us 189, us 190, us 191, us 192, us 193, us 194, us 195, us 196, us 197, us 198, us 199, us 200] : Array Value).getD us_ undef, rfl, C0, BF, HI, Lib.hid (by have h := OM.out; rw [tms_succ ho.out, ha.out, hd.out, htt.out]; exact h), OO, OI, Lib.hid ⟨by have := hlt.out; omega, by have := hlt.out; have := hk.out; omega⟩⟩)
  · have hlt := Lib.hid h1
    have ho := Lib.hid h2
    have ha := Lib.hid ea
    have hd := Lib.hid ed
    have htt := Lib.hid et
    have hka := Lib.hid (And.intro l1 l2)
    have hx := Lib.hid h
    clear h h1 h2 ea ed et l1 l2
    have D78 := Lib.hid (show (k : Int) < (S.L.length : Int) by have := hlt.out; omega)
    obtain ⟨go, co, hv, -, -, -, -, -⟩ := OO.out.some_ (by have := hlt.out; omega)
    injection hv with hv1 _ hv3
    subst hv1 hv3
    have WA := Lib.hid (show IntKind.i64.wrap ((k : Int) + 1) = ((k + 1 : Nat) : Int) by rw [wr64 (by have := hlt.out; have := HL.out; have := HN.out; omega)]; omega)
    have DX_ka := Lib.hid (show ka < 100 by have := hka.out; have := HN.out; omega)
    have DX_kd := Lib.hid (show kd < 100 by have := hx.out; have := HN.out; omega)
    have DX_kt := Lib.hid (show kt < 100 by have := hx.out; have := HN.out; omega)
    have HML := Lib.hid (show ((S.L.take k).flatMap tm).length ≤ 300 by rw [tms_len, List.length_take]; have := HL.out; have := HN.out; omega)
    have D87 := Lib.hid (show decide ((ka : Int) < 1) = false from decide_eq_false (by have := hka.out; omega))
    have D91 := Lib.hid (show 0 < kd by have := hka.out; have := hx.out; omega)
    have D97 := Lib.hid (show ka < kd by have := hka.out; have := hx.out; omega)
    have D103 := Lib.hid (show 0 < kt by have := hka.out; have := hx.out; omega)
    have D107 := Lib.hid (show ¬ kd = 0 by have := hka.out; have := hx.out; omega)
    have D113 := Lib.hid (show kd < kt by have := hka.out; have := hx.out; omega)
    have D122 := Lib.hid (show kt ≤ S.now by have := hka.out; have := hx.out; omega)
    have D129 := Lib.hid (show kd ≤ S.now by have := hka.out; have := hx.out; omega)
    have D136 := Lib.hid (show ka ≤ S.now by have := hka.out; have := hx.out; omega)
    have DM1 := Lib.hid (show max (kd : Int) 0 = kd by omega)
    have DM2 := Lib.hid (show max (kt : Int) 0 = kt by omega)
    have DB141 := Lib.hid (show (ka : Int) < 100 by have := DX_ka.out; omega)
    obtain ⟨c143, hc143⟩ : ∃ c, ((S.L.take k).flatMap tm).count (ka : Int) = c := ⟨_, rfl⟩
    have HC143 := Lib.hid hc143; clear hc143
    have WB143 := Lib.hid (show IntKind.i64.wrap ((c143 : Int) + 1) = ((c143 + 1 : Nat) : Int) by rw [wr64 (by have h8 : c143 ≤ 600 := (by rw [← HC143.out]; exact Nat.le_trans (cnt_le _ _) (by have h9 := HML.out; first | omega | (simp only [List.length_append, List.length_cons, List.length_nil]; omega))); omega)]; omega)
    have DB149 := Lib.hid (show (kd : Int) < 100 by have := DX_kd.out; omega)
    obtain ⟨c151, hc151⟩ : ∃ c, ((S.L.take k).flatMap tm ++ [(ka : Int)]).count (kd : Int) = c := ⟨_, rfl⟩
    have HC151 := Lib.hid hc151; clear hc151
    have WB151 := Lib.hid (show IntKind.i64.wrap ((c151 : Int) + 1) = ((c151 + 1 : Nat) : Int) by rw [wr64 (by have h8 : c151 ≤ 600 := (by rw [← HC151.out]; exact Nat.le_trans (cnt_le _ _) (by have h9 := HML.out; first | omega | (simp only [List.length_append, List.length_cons, List.length_nil]; omega))); omega)]; omega)
    have DB157 := Lib.hid (show (kt : Int) < 100 by have := DX_kt.out; omega)
    obtain ⟨c159, hc159⟩ : ∃ c, (((S.L.take k).flatMap tm ++ [(ka : Int)]) ++ [(kd : Int)]).count (kt : Int) = c := ⟨_, rfl⟩
    have HC159 := Lib.hid hc159; clear hc159
    have WB159 := Lib.hid (show IntKind.i64.wrap ((c159 : Int) + 1) = ((c159 + 1 : Nat) : Int) by rw [wr64 (by have h8 : c159 ≤ 600 := (by rw [← HC159.out]; exact Nat.le_trans (cnt_le _ _) (by have h9 := HML.out; first | omega | (simp only [List.length_append, List.length_cons, List.length_nil]; omega))); omega)]; omega)
    refine s_ (fun K101 hK101 => ?_)
    refine pu_ (v := .int .i64 k) (y_move rfl (by rfl) (by rfl)) ?_
    (try simp only [zP, zN, zA, zB, zC])
    refine pu_ (v := .slice (some ⟨go, 0, none⟩) S.L.length cAo) (y_move rfl (by rfl) (by rfl)) ?_
    (try simp only [zP, zN, zA, zB, zC])
    refine pu_ (v := .int .i64 S.L.length) (y_run (by rfl) (fun W => by go_simp)) ?_
    (try simp only [zP, zN, zA, zB, zC])
    refine pu_ (v := .bool true) (y_run (by rfl) (fun W => by have d := D78.out; go_simp)) ?_
    (try simp only [zP, zN, zA, zB, zC])
    refine nl_ (hK101 _ _ ?_); clear hK101 K101
    refine wp_cond_true rfl ?_
    refine wp_skip ?_
    refine th_norm (hK5 _ _ ?_); try clear hK5 K5
    refine sq_ (fun K102 hK102 => ?_)
    refine wp_block ?_
    refine s_ (fun K103 hK103 => ?_)
    refine pu_ (v := .slice (some ⟨go, 0, none⟩) S.L.length cAo) (y_move rfl (by rfl) (by rfl)) ?_
    (try simp only [zP, zN, zA, zB, zC])
    refine pu_ (v := .int .i64 k) (y_move rfl (by rfl) (by rfl)) ?_
    (try simp only [zP, zN, zA, zB, zC])
    refine pu_ (v := .pointer (some ⟨go, k * 28, none⟩)) (y_run (by rfl) (fun W => by have d := D78.out; go_simp)) ?_
    (try simp only [zP, zN, zA, zB, zC])
    refine ld_ (v := .agg (opC o).toArray) rfl (by rfl) (by rfl) (run_loadVar_at (op_cells ho.out OO.out) Try.underlying49 rfl (by rw [opC_len]; kernel_rfl)) ?_
    (try simp only [zP, zN, zA, zB, zC])
    refine ef_ (fun K104 hK104 => ?_)
    refine e_alloc (by rfl) rfl rfl (cs := #[.int .i64 0, .int .i64 0, .int .i64 0, .int .i64 0, .int .i64 0, .int .i64 0, .int .i64 0, .int .u64 0, .string ⟨#[]⟩, .slice none 0 0, .slice none 0 0, .slice none 0 0, .int .i64 0, .int .i64 0, .int .i64 0, .int .i64 0, .int .i64 0, .int .i64 0, .int .i64 0, .string ⟨#[]⟩, .slice none 0 0, .int .i64 0, .int .i64 0, .int .i64 0, .int .u64 0, .string ⟨#[]⟩, .slice none 0 0, .slice none 0 0]) (by kernel_rfl) ?_
    rintro g105 w106 HG107 B108 C109
    have nw110 := Lib.hid (show w.heap.size ≤ g105 by have := C0.out.size; have := HG107.out; omega)
    have hg111 := Lib.hid (show hi ≤ g105 by have := HI.out; have := HG107.out; omega)
    have nr112 := Lib.hid (OO.out.ne_new HG107)
    have C0' := Lib.hid (show Ch [] w w106 from C0.out.trans' C109 (fun x hx => absurd hx (by simp)))
    have BF' := Lib.hid (show BookIs w106 w.heap.size hi b (S) from BF.out.ch C109 (fun x hx => absurd hx (by simp)))
    have HI' := Lib.hid (show hi ≤ w106.heap.size from Nat.le_trans HI.out C109.size)
    have OM' := Lib.hid (show OwnS w106 w.heap.size 3 1 (.slice (some ⟨gm, 0, none⟩) 100 100) (100) (cnts ((S.L.take k).flatMap tm)) from OM.out.ch C109 rnin_nil)
    have OO' := Lib.hid (show OwnS w106 bo 49 28 (.slice (some ⟨go, 0, none⟩) S.L.length cAo) (S.L.length) ((S.L).flatMap opC) from OO.out.ch C109 rnin_nil)
    have OI' := Lib.hid (show OwnS w106 bi 3 1 (.slice Ai S.I.length cAi) (S.I.length) ((S.I).map (Value.int .i64)) from OI.out.ch C109 rnin_nil)
    clear C0 BF HI OM OO OI
    have C0 := C0'; clear C0'
    have BF := BF'; clear BF'
    have HI := HI'; clear HI'
    have OM := OM'; clear OM'
    have OO := OO'; clear OO'
    have OI := OI'; clear OI'
    have Fg105 := Lib.hid (show Blk w106 g105 (#[.int .i64 0, .int .i64 0, .int .i64 0, .int .i64 0, .int .i64 0, .int .i64 0, .int .i64 0, .int .u64 0, .string ⟨#[]⟩, .slice none 0 0, .slice none 0 0, .slice none 0 0, .int .i64 0, .int .i64 0, .int .i64 0, .int .i64 0, .int .i64 0, .int .i64 0, .int .i64 0, .string ⟨#[]⟩, .slice none 0 0, .int .i64 0, .int .i64 0, .int .i64 0, .int .u64 0, .string ⟨#[]⟩, .slice none 0 0, .slice none 0 0]) 49 from B108); clear B108 C109
    refine hK104 _ _ ?_; clear hK104 K104
    (try simp only [zP, zN, zA, zB, zC])
    refine ef_ (fun K113 hK113 => ?_)
    refine e_storeN (cells := (opC o).toArray) (by rfl) rfl rfl (by rfl) (by rfl) Fg105.out (sz49 o) (by rw [show (opC o).toArray.size = 28 by rw [List.size_toArray, opC_len]]; rfl) (by simpa using opC_one o) ?_
    rintro w114 B115 C116
    have C0' := Lib.hid (show Ch [] w w114 from C0.out.trans' C116 (inw_cons (.inr nw110.out) inw_nil))
    have BF' := Lib.hid (show BookIs w114 w.heap.size hi b (S) from BF.out.ch C116 (fun x hx => .inr (by rw [List.mem_singleton.1 hx]; exact hg111.out)))
    have HI' := Lib.hid (show hi ≤ w114.heap.size from Nat.le_trans HI.out C116.size)
    have OM' := Lib.hid (show OwnS w114 w.heap.size 3 1 (.slice (some ⟨gm, 0, none⟩) 100 100) (100) (cnts ((S.L.take k).flatMap tm)) from OM.out.ch C116 (rnin_cons (OM.out.ne Fg105.out (by decide)) rnin_nil))
    have OO' := Lib.hid (show OwnS w114 bo 49 28 (.slice (some ⟨go, 0, none⟩) S.L.length cAo) (S.L.length) ((S.L).flatMap opC) from OO.out.ch C116 (rnin_cons nr112.out rnin_nil))
    have OI' := Lib.hid (show OwnS w114 bi 3 1 (.slice Ai S.I.length cAi) (S.I.length) ((S.I).map (Value.int .i64)) from OI.out.ch C116 (rnin_cons (OI.out.ne Fg105.out (by decide)) rnin_nil))
    clear C0 BF HI OM OO OI
    have C0 := C0'; clear C0'
    have BF := BF'; clear BF'
    have HI := HI'; clear HI'
    have OM := OM'; clear OM'
    have OO := OO'; clear OO'
    have OI := OI'; clear OI'
    clear Fg105; have Fg105 := Lib.hid (show Blk w114 g105 ((opC o).toArray) 49 from B115); clear B115 C116
    refine hK113 _ _ ?_; clear hK113 K113
    (try simp only [zP, zN, zA, zB, zC])
    refine nl_ (hK103 _ _ ?_); clear hK103 K103
    refine sq_ (fun K117 hK117 => ?_)
    refine sq_ (fun K118 hK118 => ?_)
    refine startk_ (S := fun W => Blk W g105 ((opC o).toArray) 49 ∧ True) (ds := []) #[false, false, false, false, false, false, false, false, false, false, false, false, false, false, false, false, false, false, false, false, false, false, false, false, false, false, false, false, false, false, false, false, false, false, false, false, false, false, false, false, false, false, false, false, false, false, false, false, false, false, false, false, false] (by kernel_rfl) rfl rfl (fun W c => ⟨c.blk Fg105.out nin_nil, trivial⟩) (fun w119 C120 hS121 => ?_)
    have C0' := Lib.hid (show Ch [] w w119 from C0.out.trans' C120 (fun x hx => absurd hx (by simp)))
    have BF' := Lib.hid (show BookIs w119 w.heap.size hi b (S) from BF.out.ch C120 (fun x hx => absurd hx (by simp)))
    have HI' := Lib.hid (show hi ≤ w119.heap.size from Nat.le_trans HI.out C120.size)
    have OM' := Lib.hid (show OwnS w119 w.heap.size 3 1 (.slice (some ⟨gm, 0, none⟩) 100 100) (100) (cnts ((S.L.take k).flatMap tm)) from OM.out.ch C120 rnin_nil)
    have OO' := Lib.hid (show OwnS w119 bo 49 28 (.slice (some ⟨go, 0, none⟩) S.L.length cAo) (S.L.length) ((S.L).flatMap opC) from OO.out.ch C120 rnin_nil)
    have OI' := Lib.hid (show OwnS w119 bi 3 1 (.slice Ai S.I.length cAi) (S.I.length) ((S.I).map (Value.int .i64)) from OI.out.ch C120 rnin_nil)
    have Fg105' := Lib.hid (show Blk w119 g105 ((opC o).toArray) 49 from C120.blk Fg105.out nin_nil)
    clear C0 BF HI OM OO OI Fg105
    have C0 := C0'; clear C0'
    have BF := BF'; clear BF'
    have HI := HI'; clear HI'
    have OM := OM'; clear OM'
    have OO := OO'; clear OO'
    have OI := OI'; clear OI'
    have Fg105 := Fg105'; clear Fg105'
    clear C120
    refine pure_ (i := 0) (N := some 85) (v := .pointer (some ⟨g105, 2, none⟩)) #[true, false, false, false, false, false, false, false, false, false, false, false, false, false, false, false, false, false, false, false, false, false, false, false, false, false, false, false, false, false, false, false, false, false, false, false, false, false, false, false, false, false, false, false, false, false, false, false, false, false, false, false, false] rfl rfl (by kernel_rfl) (fun c a w h => hP c a _ _ w h) (y_run (by rfl) (fun W => by go_simp)) rfl ?_
    (try simp only [zP, zN, zA, zB, zC])
    refine take_ (i := 1) (N := some 86) (v := .int .i64 ka) #[true, true, false, false, false, false, false, false, false, false, false, false, false, false, false, false, false, false, false, false, false, false, false, false, false, false, false, false, false, false, false, false, false, false, false, false, false, false, false, false, false, false, false, false, false, false, false, false, false, false, false, false, false] rfl rfl (by kernel_rfl) (fun c a w h => hP c a _ _ w h) (y_load (p := ⟨g105, 2, none⟩) rfl (by rfl) (by rfl) (fun W hS => run_load_one ((hS.1.cell 2).trans (by rw [← ha.out]; simp [opC])) Try.underlying3 rfl)) hS121 rfl ?_
    (try simp only [zP, zN, zA, zB, zC])
    refine pure_ (i := 2) (N := some 87) (v := .bool false) #[true, true, true, false, false, false, false, false, false, false, false, false, false, false, false, false, false, false, false, false, false, false, false, false, false, false, false, false, false, false, false, false, false, false, false, false, false, false, false, false, false, false, false, false, false, false, false, false, false, false, false, false, false] rfl rfl (by kernel_rfl) (fun c a w h => hP c a _ _ w h) (y_run (by rfl) (fun W => by have d := D87.out; go_simp)) rfl ?_
    (try simp only [zP, zN, zA, zB, zC])
    refine pure_ (i := 3) (N := some 88) (v := .bool false) #[true, true, true, true, false, false, false, false, false, false, false, false, false, false, false, false, false, false, false, false, false, false, false, false, false, false, false, false, false, false, false, false, false, false, false, false, false, false, false, false, false, false, false, false, false, false, false, false, false, false, false, false, false] rfl rfl (by kernel_rfl) (fun c a w h => hP c a _ _ w h) (y_move rfl (by rfl) (by rfl)) rfl ?_
    (try simp only [zP, zN, zA, zB, zC])
    refine pure_ (i := 4) (N := some 89) (v := .pointer (some ⟨g105, 3, none⟩)) #[true, true, true, true, true, false, false, false, false, false, false, false, false, false, false, false, false, false, false, false, false, false, false, false, false, false, false, false, false, false, false, false, false, false, false, false, false, false, false, false, false, false, false, false, false, false, false, false, false, false, false, false, false] rfl rfl (by kernel_rfl) (fun c a w h => hP c a _ _ w h) (y_run (by rfl) (fun W => by go_simp)) rfl ?_
    (try simp only [zP, zN, zA, zB, zC])
    refine take_ (i := 5) (N := some 90) (v := .int .i64 kd) #[true, true, true, true, true, true, false, false, false, false, false, false, false, false, false, false, false, false, false, false, false, false, false, false, false, false, false, false, false, false, false, false, false, false, false, false, false, false, false, false, false, false, false, false, false, false, false, false, false, false, false, false, false] rfl rfl (by kernel_rfl) (fun c a w h => hP c a _ _ w h) (y_load (p := ⟨g105, 3, none⟩) rfl (by rfl) (by rfl) (fun W hS => run_load_one ((hS.1.cell 3).trans (by rw [← hd.out]; simp [opC])) Try.underlying3 rfl)) hS121 rfl ?_
    (try simp only [zP, zN, zA, zB, zC])
    refine pure_ (i := 6) (N := some 91) (v := .bool true) #[true, true, true, true, true, true, true, false, false, false, false, false, false, false, false, false, false, false, false, false, false, false, false, false, false, false, false, false, false, false, false, false, false, false, false, false, false, false, false, false, false, false, false, false, false, false, false, false, false, false, false, false, false] rfl rfl (by kernel_rfl) (fun c a w h => hP c a _ _ w h) (y_run (by rfl) (fun W => by have d := D91.out; go_simp)) rfl ?_
    (try simp only [zP, zN, zA, zB, zC])
    refine pure_ (i := 7) (N := some 92) (v := .bool true) #[true, true, true, true, true, true, true, true, false, false, false, false, false, false, false, false, false, false, false, false, false, false, false, false, false, false, false, false, false, false, false, false, false, false, false, false, false, false, false, false, false, false, false, false, false, false, false, false, false, false, false, false, false] rfl rfl (by kernel_rfl) (fun c a w h => hP c a _ _ w h) (y_move rfl (by rfl) (by rfl)) rfl ?_
    (try simp only [zP, zN, zA, zB, zC])
    refine pure_ (i := 8) (N := some 93) (v := .pointer (some ⟨g105, 3, none⟩)) #[true, true, true, true, true, true, true, true, true, false, false, false, false, false, false, false, false, false, false, false, false, false, false, false, false, false, false, false, false, false, false, false, false, false, false, false, false, false, false, false, false, false, false, false, false, false, false, false, false, false, false, false, false] rfl rfl (by kernel_rfl) (fun c a w h => hP c a _ _ w h) (y_run (by rfl) (fun W => by go_simp)) rfl ?_
    (try simp only [zP, zN, zA, zB, zC])
    refine take_ (i := 9) (N := some 94) (v := .int .i64 kd) #[true, true, true, true, true, true, true, true, true, true, false, false, false, false, false, false, false, false, false, false, false, false, false, false, false, false, false, false, false, false, false, false, false, false, false, false, false, false, false, false, false, false, false, false, false, false, false, false, false, false, false, false, false] rfl rfl (by kernel_rfl) (fun c a w h => hP c a _ _ w h) (y_load (p := ⟨g105, 3, none⟩) rfl (by rfl) (by rfl) (fun W hS => run_load_one ((hS.1.cell 3).trans (by rw [← hd.out]; simp [opC])) Try.underlying3 rfl)) hS121 rfl ?_
    (try simp only [zP, zN, zA, zB, zC])
    refine pure_ (i := 10) (N := some 95) (v := .pointer (some ⟨g105, 2, none⟩)) #[true, true, true, true, true, true, true, true, true, true, true, false, false, false, false, false, false, false, false, false, false, false, false, false, false, false, false, false, false, false, false, false, false, false, false, false, false, false, false, false, false, false, false, false, false, false, false, false, false, false, false, false, false] rfl rfl (by kernel_rfl) (fun c a w h => hP c a _ _ w h) (y_run (by rfl) (fun W => by go_simp)) rfl ?_
    (try simp only [zP, zN, zA, zB, zC])
    refine take_ (i := 11) (N := some 96) (v := .int .i64 ka) #[true, true, true, true, true, true, true, true, true, true, true, true, false, false, false, false, false, false, false, false, false, false, false, false, false, false, false, false, false, false, false, false, false, false, false, false, false, false, false, false, false, false, false, false, false, false, false, false, false, false, false, false, false] rfl rfl (by kernel_rfl) (fun c a w h => hP c a _ _ w h) (y_load (p := ⟨g105, 2, none⟩) rfl (by rfl) (by rfl) (fun W hS => run_load_one ((hS.1.cell 2).trans (by rw [← ha.out]; simp [opC])) Try.underlying3 rfl)) hS121 rfl ?_
    (try simp only [zP, zN, zA, zB, zC])
    refine pure_ (i := 12) (N := some 97) (v := .bool false) #[true, true, true, true, true, true, true, true, true, true, true, true, true, false, false, false, false, false, false, false, false, false, false, false, false, false, false, false, false, false, false, false, false, false, false, false, false, false, false, false, false, false, false, false, false, false, false, false, false, false, false, false, false] rfl rfl (by kernel_rfl) (fun c a w h => hP c a _ _ w h) (y_run (by rfl) (fun W => by have d := D97.out; go_simp)) rfl ?_
    (try simp only [zP, zN, zA, zB, zC])
    refine pure_ (i := 13) (N := some 98) (v := .bool false) #[true, true, true, true, true, true, true, true, true, true, true, true, true, true, false, false, false, false, false, false, false, false, false, false, false, false, false, false, false, false, false, false, false, false, false, false, false, false, false, false, false, false, false, false, false, false, false, false, false, false, false, false, false] rfl rfl (by kernel_rfl) (fun c a w h => hP c a _ _ w h) (y_pick (t := true) (by rfl) rfl (by rfl) (by rfl)) rfl ?_
    (try simp only [zP, zN, zA, zB, zC])
    refine pure_ (i := 14) (N := some 99) (v := .bool false) #[true, true, true, true, true, true, true, true, true, true, true, true, true, true, true, false, false, false, false, false, false, false, false, false, false, false, false, false, false, false, false, false, false, false, false, false, false, false, false, false, false, false, false, false, false, false, false, false, false, false, false, false, false] rfl rfl (by kernel_rfl) (fun c a w h => hP c a _ _ w h) (y_pick (t := false) (by rfl) rfl (by rfl) (by rfl)) rfl ?_
    (try simp only [zP, zN, zA, zB, zC])
    refine pure_ (i := 15) (N := some 100) (v := .bool false) #[true, true, true, true, true, true, true, true, true, true, true, true, true, true, true, true, false, false, false, false, false, false, false, false, false, false, false, false, false, false, false, false, false, false, false, false, false, false, false, false, false, false, false, false, false, false, false, false, false, false, false, false, false] rfl rfl (by kernel_rfl) (fun c a w h => hP c a _ _ w h) (y_move rfl (by rfl) (by rfl)) rfl ?_
    (try simp only [zP, zN, zA, zB, zC])
    refine pure_ (i := 16) (N := some 101) (v := .pointer (some ⟨g105, 4, none⟩)) #[true, true, true, true, true, true, true, true, true, true, true, true, true, true, true, true, true, false, false, false, false, false, false, false, false, false, false, false, false, false, false, false, false, false, false, false, false, false, false, false, false, false, false, false, false, false, false, false, false, false, false, false, false] rfl rfl (by kernel_rfl) (fun c a w h => hP c a _ _ w h) (y_run (by rfl) (fun W => by go_simp)) rfl ?_
    (try simp only [zP, zN, zA, zB, zC])
    refine take_ (i := 17) (N := some 102) (v := .int .i64 kt) #[true, true, true, true, true, true, true, true, true, true, true, true, true, true, true, true, true, true, false, false, false, false, false, false, false, false, false, false, false, false, false, false, false, false, false, false, false, false, false, false, false, false, false, false, false, false, false, false, false, false, false, false, false] rfl rfl (by kernel_rfl) (fun c a w h => hP c a _ _ w h) (y_load (p := ⟨g105, 4, none⟩) rfl (by rfl) (by rfl) (fun W hS => run_load_one ((hS.1.cell 4).trans (by rw [← htt.out]; simp [opC])) Try.underlying3 rfl)) hS121 rfl ?_
    (try simp only [zP, zN, zA, zB, zC])
    refine pure_ (i := 18) (N := some 103) (v := .bool true) #[true, true, true, true, true, true, true, true, true, true, true, true, true, true, true, true, true, true, true, false, false, false, false, false, false, false, false, false, false, false, false, false, false, false, false, false, false, false, false, false, false, false, false, false, false, false, false, false, false, false, false, false, false] rfl rfl (by kernel_rfl) (fun c a w h => hP c a _ _ w h) (y_run (by rfl) (fun W => by have d := D103.out; go_simp)) rfl ?_
    (try simp only [zP, zN, zA, zB, zC])
    refine pure_ (i := 19) (N := some 104) (v := .bool true) #[true, true, true, true, true, true, true, true, true, true, true, true, true, true, true, true, true, true, true, true, false, false, false, false, false, false, false, false, false, false, false, false, false, false, false, false, false, false, false, false, false, false, false, false, false, false, false, false, false, false, false, false, false] rfl rfl (by kernel_rfl) (fun c a w h => hP c a _ _ w h) (y_move rfl (by rfl) (by rfl)) rfl ?_
    (try simp only [zP, zN, zA, zB, zC])
    refine pure_ (i := 20) (N := some 105) (v := .pointer (some ⟨g105, 3, none⟩)) #[true, true, true, true, true, true, true, true, true, true, true, true, true, true, true, true, true, true, true, true, true, false, false, false, false, false, false, false, false, false, false, false, false, false, false, false, false, false, false, false, false, false, false, false, false, false, false, false, false, false, false, false, false] rfl rfl (by kernel_rfl) (fun c a w h => hP c a _ _ w h) (y_run (by rfl) (fun W => by go_simp)) rfl ?_
    (try simp only [zP, zN, zA, zB, zC])
    refine take_ (i := 21) (N := some 106) (v := .int .i64 kd) #[true, true, true, true, true, true, true, true, true, true, true, true, true, true, true, true, true, true, true, true, true, true, false, false, false, false, false, false, false, false, false, false, false, false, false, false, false, false, false, false, false, false, false, false, false, false, false, false, false, false, false, false, false] rfl rfl (by kernel_rfl) (fun c a w h => hP c a _ _ w h) (y_load (p := ⟨g105, 3, none⟩) rfl (by rfl) (by rfl) (fun W hS => run_load_one ((hS.1.cell 3).trans (by rw [← hd.out]; simp [opC])) Try.underlying3 rfl)) hS121 rfl ?_
    (try simp only [zP, zN, zA, zB, zC])
    refine pure_ (i := 22) (N := some 107) (v := .bool false) #[true, true, true, true, true, true, true, true, true, true, true, true, true, true, true, true, true, true, true, true, true, true, true, false, false, false, false, false, false, false, false, false, false, false, false, false, false, false, false, false, false, false, false, false, false, false, false, false, false, false, false, false, false] rfl rfl (by kernel_rfl) (fun c a w h => hP c a _ _ w h) (y_run (by rfl) (fun W => by have d := D107.out; go_simp)) rfl ?_
    (try simp only [zP, zN, zA, zB, zC])
    refine pure_ (i := 23) (N := some 108) (v := .bool false) #[true, true, true, true, true, true, true, true, true, true, true, true, true, true, true, true, true, true, true, true, true, true, true, true, false, false, false, false, false, false, false, false, false, false, false, false, false, false, false, false, false, false, false, false, false, false, false, false, false, false, false, false, false] rfl rfl (by kernel_rfl) (fun c a w h => hP c a _ _ w h) (y_move rfl (by rfl) (by rfl)) rfl ?_
    (try simp only [zP, zN, zA, zB, zC])
    refine pure_ (i := 24) (N := some 109) (v := .pointer (some ⟨g105, 4, none⟩)) #[true, true, true, true, true, true, true, true, true, true, true, true, true, true, true, true, true, true, true, true, true, true, true, true, true, false, false, false, false, false, false, false, false, false, false, false, false, false, false, false, false, false, false, false, false, false, false, false, false, false, false, false, false] rfl rfl (by kernel_rfl) (fun c a w h => hP c a _ _ w h) (y_run (by rfl) (fun W => by go_simp)) rfl ?_
    (try simp only [zP, zN, zA, zB, zC])
    refine take_ (i := 25) (N := some 110) (v := .int .i64 kt) #[true, true, true, true, true, true, true, true, true, true, true, true, true, true, true, true, true, true, true, true, true, true, true, true, true, true, false, false, false, false, false, false, false, false, false, false, false, false, false, false, false, false, false, false, false, false, false, false, false, false, false, false, false] rfl rfl (by kernel_rfl) (fun c a w h => hP c a _ _ w h) (y_load (p := ⟨g105, 4, none⟩) rfl (by rfl) (by rfl) (fun W hS => run_load_one ((hS.1.cell 4).trans (by rw [← htt.out]; simp [opC])) Try.underlying3 rfl)) hS121 rfl ?_
    (try simp only [zP, zN, zA, zB, zC])
    refine pure_ (i := 26) (N := some 111) (v := .pointer (some ⟨g105, 3, none⟩)) #[true, true, true, true, true, true, true, true, true, true, true, true, true, true, true, true, true, true, true, true, true, true, true, true, true, true, true, false, false, false, false, false, false, false, false, false, false, false, false, false, false, false, false, false, false, false, false, false, false, false, false, false, false] rfl rfl (by kernel_rfl) (fun c a w h => hP c a _ _ w h) (y_run (by rfl) (fun W => by go_simp)) rfl ?_
    (try simp only [zP, zN, zA, zB, zC])
    refine take_ (i := 27) (N := some 112) (v := .int .i64 kd) #[true, true, true, true, true, true, true, true, true, true, true, true, true, true, true, true, true, true, true, true, true, true, true, true, true, true, true, true, false, false, false, false, false, false, false, false, false, false, false, false, false, false, false, false, false, false, false, false, false, false, false, false, false] rfl rfl (by kernel_rfl) (fun c a w h => hP c a _ _ w h) (y_load (p := ⟨g105, 3, none⟩) rfl (by rfl) (by rfl) (fun W hS => run_load_one ((hS.1.cell 3).trans (by rw [← hd.out]; simp [opC])) Try.underlying3 rfl)) hS121 rfl ?_
    (try simp only [zP, zN, zA, zB, zC])
    refine pure_ (i := 28) (N := some 113) (v := .bool false) #[true, true, true, true, true, true, true, true, true, true, true, true, true, true, true, true, true, true, true, true, true, true, true, true, true, true, true, true, true, false, false, false, false, false, false, false, false, false, false, false, false, false, false, false, false, false, false, false, false, false, false, false, false] rfl rfl (by kernel_rfl) (fun c a w h => hP c a _ _ w h) (y_run (by rfl) (fun W => by have d := D113.out; go_simp)) rfl ?_
    (try simp only [zP, zN, zA, zB, zC])
    refine pure_ (i := 29) (N := some 114) (v := .bool false) #[true, true, true, true, true, true, true, true, true, true, true, true, true, true, true, true, true, true, true, true, true, true, true, true, true, true, true, true, true, true, false, false, false, false, false, false, false, false, false, false, false, false, false, false, false, false, false, false, false, false, false, false, false] rfl rfl (by kernel_rfl) (fun c a w h => hP c a _ _ w h) (y_pick (t := false) (by rfl) rfl (by rfl) (by rfl)) rfl ?_
    (try simp only [zP, zN, zA, zB, zC])
    refine pure_ (i := 30) (N := some 115) (v := .bool false) #[true, true, true, true, true, true, true, true, true, true, true, true, true, true, true, true, true, true, true, true, true, true, true, true, true, true, true, true, true, true, true, false, false, false, false, false, false, false, false, false, false, false, false, false, false, false, false, false, false, false, false, false, false] rfl rfl (by kernel_rfl) (fun c a w h => hP c a _ _ w h) (y_pick (t := true) (by rfl) rfl (by rfl) (by rfl)) rfl ?_
    (try simp only [zP, zN, zA, zB, zC])
    refine pure_ (i := 31) (N := some 116) (v := .bool false) #[true, true, true, true, true, true, true, true, true, true, true, true, true, true, true, true, true, true, true, true, true, true, true, true, true, true, true, true, true, true, true, true, false, false, false, false, false, false, false, false, false, false, false, false, false, false, false, false, false, false, false, false, false] rfl rfl (by kernel_rfl) (fun c a w h => hP c a _ _ w h) (y_pick (t := false) (by rfl) rfl (by rfl) (by rfl)) rfl ?_
    (try simp only [zP, zN, zA, zB, zC])
    refine pure_ (i := 32) (N := some 117) (v := .bool false) #[true, true, true, true, true, true, true, true, true, true, true, true, true, true, true, true, true, true, true, true, true, true, true, true, true, true, true, true, true, true, true, true, true, false, false, false, false, false, false, false, false, false, false, false, false, false, false, false, false, false, false, false, false] rfl rfl (by kernel_rfl) (fun c a w h => hP c a _ _ w h) (y_move rfl (by rfl) (by rfl)) rfl ?_
    (try simp only [zP, zN, zA, zB, zC])
    refine pure_ (i := 33) (N := some 118) (v := .pointer (some ⟨g105, 4, none⟩)) #[true, true, true, true, true, true, true, true, true, true, true, true, true, true, true, true, true, true, true, true, true, true, true, true, true, true, true, true, true, true, true, true, true, true, false, false, false, false, false, false, false, false, false, false, false, false, false, false, false, false, false, false, false] rfl rfl (by kernel_rfl) (fun c a w h => hP c a _ _ w h) (y_run (by rfl) (fun W => by go_simp)) rfl ?_
    (try simp only [zP, zN, zA, zB, zC])
    refine take_ (i := 34) (N := some 119) (v := .int .i64 kt) #[true, true, true, true, true, true, true, true, true, true, true, true, true, true, true, true, true, true, true, true, true, true, true, true, true, true, true, true, true, true, true, true, true, true, true, false, false, false, false, false, false, false, false, false, false, false, false, false, false, false, false, false, false] rfl rfl (by kernel_rfl) (fun c a w h => hP c a _ _ w h) (y_load (p := ⟨g105, 4, none⟩) rfl (by rfl) (by rfl) (fun W hS => run_load_one ((hS.1.cell 4).trans (by rw [← htt.out]; simp [opC])) Try.underlying3 rfl)) hS121 rfl ?_
    (try simp only [zP, zN, zA, zB, zC])
    refine pure_ (i := 35) (N := some 120) (v := .pointer (some ⟨b, 0, none⟩)) #[true, true, true, true, true, true, true, true, true, true, true, true, true, true, true, true, true, true, true, true, true, true, true, true, true, true, true, true, true, true, true, true, true, true, true, true, false, false, false, false, false, false, false, false, false, false, false, false, false, false, false, false, false] rfl rfl (by kernel_rfl) (fun c a w h => hP c a _ _ w h) (y_move rfl (by rfl) (by rfl)) rfl ?_
    (try simp only [zP, zN, zA, zB, zC])
    refine one_ (i := 36) (N := some 121) #[true, true, true, true, true, true, true, true, true, true, true, true, true, true, true, true, true, true, true, true, true, true, true, true, true, true, true, true, true, true, true, true, true, true, true, true, true, false, false, false, false, false, false, false, false, false, false, false, false, false, false, false, false] rfl rfl (by kernel_rfl) (by simp) (fun K122 hK122 => ?_)
    refine e_call Try.func14 (by kernel_rfl) rfl #[.pointer (some ⟨b, 0, none⟩)] (by rfl) rfl rfl (by first | rfl | (simp only [List.map_toArray, List.map_cons, List.map_nil]; first | done | rfl)) (now_all BF.out) ?_
    rintro en w124 ⟨rfl, cc123⟩
    refine ⟨_, rfl, ?_⟩
    have C0' := Lib.hid (show Ch [] w w124 from C0.out.trans' cc123 (fun x hx => absurd hx (by simp)))
    have BF' := Lib.hid (show BookIs w124 w.heap.size hi b (S) from BF.out.ch cc123 (fun x hx => absurd hx (by simp)))
    have HI' := Lib.hid (show hi ≤ w124.heap.size from Nat.le_trans HI.out cc123.size)
    have OM' := Lib.hid (show OwnS w124 w.heap.size 3 1 (.slice (some ⟨gm, 0, none⟩) 100 100) (100) (cnts ((S.L.take k).flatMap tm)) from OM.out.ch cc123 rnin_nil)
    have OO' := Lib.hid (show OwnS w124 bo 49 28 (.slice (some ⟨go, 0, none⟩) S.L.length cAo) (S.L.length) ((S.L).flatMap opC) from OO.out.ch cc123 rnin_nil)
    have OI' := Lib.hid (show OwnS w124 bi 3 1 (.slice Ai S.I.length cAi) (S.I.length) ((S.I).map (Value.int .i64)) from OI.out.ch cc123 rnin_nil)
    have Fg105' := Lib.hid (show Blk w124 g105 ((opC o).toArray) 49 from cc123.blk Fg105.out nin_nil)
    clear C0 BF HI OM OO OI Fg105
    have C0 := C0'; clear C0'
    have BF := BF'; clear BF'
    have HI := HI'; clear HI'
    have OM := OM'; clear OM'
    have OO := OO'; clear OO'
    have OI := OI'; clear OI'
    have Fg105 := Fg105'; clear Fg105'
    clear cc123
    refine hK122.out _ _ ⟨Fg105.out, trivial⟩ (fun hS125 => ?_); clear hK122 K122
    (try simp only [zP, zN, zA, zB, zC])
    refine pure_ (i := 37) (N := some 122) (v := .bool false) #[true, true, true, true, true, true, true, true, true, true, true, true, true, true, true, true, true, true, true, true, true, true, true, true, true, true, true, true, true, true, true, true, true, true, true, true, true, true, false, false, false, false, false, false, false, false, false, false, false, false, false, false, false] rfl rfl (by kernel_rfl) (fun c a w h => hP c a _ _ w h) (y_run (by rfl) (fun W => by have d := D122.out; go_simp)) rfl ?_
    (try simp only [zP, zN, zA, zB, zC])
    refine pure_ (i := 38) (N := some 123) (v := .bool false) #[true, true, true, true, true, true, true, true, true, true, true, true, true, true, true, true, true, true, true, true, true, true, true, true, true, true, true, true, true, true, true, true, true, true, true, true, true, true, true, false, false, false, false, false, false, false, false, false, false, false, false, false, false] rfl rfl (by kernel_rfl) (fun c a w h => hP c a _ _ w h) (y_pick (t := false) (by rfl) rfl (by rfl) (by rfl)) rfl ?_
    (try simp only [zP, zN, zA, zB, zC])
    refine pure_ (i := 39) (N := some 124) (v := .bool false) #[true, true, true, true, true, true, true, true, true, true, true, true, true, true, true, true, true, true, true, true, true, true, true, true, true, true, true, true, true, true, true, true, true, true, true, true, true, true, true, true, false, false, false, false, false, false, false, false, false, false, false, false, false] rfl rfl (by kernel_rfl) (fun c a w h => hP c a _ _ w h) (y_move rfl (by rfl) (by rfl)) rfl ?_
    (try simp only [zP, zN, zA, zB, zC])
    refine pure_ (i := 40) (N := some 125) (v := .pointer (some ⟨g105, 3, none⟩)) #[true, true, true, true, true, true, true, true, true, true, true, true, true, true, true, true, true, true, true, true, true, true, true, true, true, true, true, true, true, true, true, true, true, true, true, true, true, true, true, true, true, false, false, false, false, false, false, false, false, false, false, false, false] rfl rfl (by kernel_rfl) (fun c a w h => hP c a _ _ w h) (y_run (by rfl) (fun W => by go_simp)) rfl ?_
    (try simp only [zP, zN, zA, zB, zC])
    refine take_ (i := 41) (N := some 126) (v := .int .i64 kd) #[true, true, true, true, true, true, true, true, true, true, true, true, true, true, true, true, true, true, true, true, true, true, true, true, true, true, true, true, true, true, true, true, true, true, true, true, true, true, true, true, true, true, false, false, false, false, false, false, false, false, false, false, false] rfl rfl (by kernel_rfl) (fun c a w h => hP c a _ _ w h) (y_load (p := ⟨g105, 3, none⟩) rfl (by rfl) (by rfl) (fun W hS => run_load_one ((hS.1.cell 3).trans (by rw [← hd.out]; simp [opC])) Try.underlying3 rfl)) hS125 rfl ?_
    (try simp only [zP, zN, zA, zB, zC])
    refine pure_ (i := 42) (N := some 127) (v := .pointer (some ⟨b, 0, none⟩)) #[true, true, true, true, true, true, true, true, true, true, true, true, true, true, true, true, true, true, true, true, true, true, true, true, true, true, true, true, true, true, true, true, true, true, true, true, true, true, true, true, true, true, true, false, false, false, false, false, false, false, false, false, false] rfl rfl (by kernel_rfl) (fun c a w h => hP c a _ _ w h) (y_move rfl (by rfl) (by rfl)) rfl ?_
    (try simp only [zP, zN, zA, zB, zC])
    refine one_ (i := 43) (N := some 128) #[true, true, true, true, true, true, true, true, true, true, true, true, true, true, true, true, true, true, true, true, true, true, true, true, true, true, true, true, true, true, true, true, true, true, true, true, true, true, true, true, true, true, true, true, false, false, false, false, false, false, false, false, false] rfl rfl (by kernel_rfl) (by simp) (fun K126 hK126 => ?_)
    refine e_call Try.func14 (by kernel_rfl) rfl #[.pointer (some ⟨b, 0, none⟩)] (by rfl) rfl rfl (by first | rfl | (simp only [List.map_toArray, List.map_cons, List.map_nil]; first | done | rfl)) (now_all BF.out) ?_
    rintro en w128 ⟨rfl, cc127⟩
    refine ⟨_, rfl, ?_⟩
    have C0' := Lib.hid (show Ch [] w w128 from C0.out.trans' cc127 (fun x hx => absurd hx (by simp)))
    have BF' := Lib.hid (show BookIs w128 w.heap.size hi b (S) from BF.out.ch cc127 (fun x hx => absurd hx (by simp)))
    have HI' := Lib.hid (show hi ≤ w128.heap.size from Nat.le_trans HI.out cc127.size)
    have OM' := Lib.hid (show OwnS w128 w.heap.size 3 1 (.slice (some ⟨gm, 0, none⟩) 100 100) (100) (cnts ((S.L.take k).flatMap tm)) from OM.out.ch cc127 rnin_nil)
    have OO' := Lib.hid (show OwnS w128 bo 49 28 (.slice (some ⟨go, 0, none⟩) S.L.length cAo) (S.L.length) ((S.L).flatMap opC) from OO.out.ch cc127 rnin_nil)
    have OI' := Lib.hid (show OwnS w128 bi 3 1 (.slice Ai S.I.length cAi) (S.I.length) ((S.I).map (Value.int .i64)) from OI.out.ch cc127 rnin_nil)
    have Fg105' := Lib.hid (show Blk w128 g105 ((opC o).toArray) 49 from cc127.blk Fg105.out nin_nil)
    clear C0 BF HI OM OO OI Fg105
    have C0 := C0'; clear C0'
    have BF := BF'; clear BF'
    have HI := HI'; clear HI'
    have OM := OM'; clear OM'
    have OO := OO'; clear OO'
    have OI := OI'; clear OI'
    have Fg105 := Fg105'; clear Fg105'
    clear cc127
    refine hK126.out _ _ ⟨Fg105.out, trivial⟩ (fun hS129 => ?_); clear hK126 K126
    (try simp only [zP, zN, zA, zB, zC])
    refine pure_ (i := 44) (N := some 129) (v := .bool false) #[true, true, true, true, true, true, true, true, true, true, true, true, true, true, true, true, true, true, true, true, true, true, true, true, true, true, true, true, true, true, true, true, true, true, true, true, true, true, true, true, true, true, true, true, true, false, false, false, false, false, false, false, false] rfl rfl (by kernel_rfl) (fun c a w h => hP c a _ _ w h) (y_run (by rfl) (fun W => by have d := D129.out; go_simp)) rfl ?_
    (try simp only [zP, zN, zA, zB, zC])
    refine pure_ (i := 45) (N := some 130) (v := .bool false) #[true, true, true, true, true, true, true, true, true, true, true, true, true, true, true, true, true, true, true, true, true, true, true, true, true, true, true, true, true, true, true, true, true, true, true, true, true, true, true, true, true, true, true, true, true, true, false, false, false, false, false, false, false] rfl rfl (by kernel_rfl) (fun c a w h => hP c a _ _ w h) (y_pick (t := false) (by rfl) rfl (by rfl) (by rfl)) rfl ?_
    (try simp only [zP, zN, zA, zB, zC])
    refine pure_ (i := 46) (N := some 131) (v := .bool false) #[true, true, true, true, true, true, true, true, true, true, true, true, true, true, true, true, true, true, true, true, true, true, true, true, true, true, true, true, true, true, true, true, true, true, true, true, true, true, true, true, true, true, true, true, true, true, true, false, false, false, false, false, false] rfl rfl (by kernel_rfl) (fun c a w h => hP c a _ _ w h) (y_move rfl (by rfl) (by rfl)) rfl ?_
    (try simp only [zP, zN, zA, zB, zC])
    refine pure_ (i := 47) (N := some 132) (v := .pointer (some ⟨g105, 2, none⟩)) #[true, true, true, true, true, true, true, true, true, true, true, true, true, true, true, true, true, true, true, true, true, true, true, true, true, true, true, true, true, true, true, true, true, true, true, true, true, true, true, true, true, true, true, true, true, true, true, true, false, false, false, false, false] rfl rfl (by kernel_rfl) (fun c a w h => hP c a _ _ w h) (y_run (by rfl) (fun W => by go_simp)) rfl ?_
    (try simp only [zP, zN, zA, zB, zC])
    refine take_ (i := 48) (N := some 133) (v := .int .i64 ka) #[true, true, true, true, true, true, true, true, true, true, true, true, true, true, true, true, true, true, true, true, true, true, true, true, true, true, true, true, true, true, true, true, true, true, true, true, true, true, true, true, true, true, true, true, true, true, true, true, true, false, false, false, false] rfl rfl (by kernel_rfl) (fun c a w h => hP c a _ _ w h) (y_load (p := ⟨g105, 2, none⟩) rfl (by rfl) (by rfl) (fun W hS => run_load_one ((hS.1.cell 2).trans (by rw [← ha.out]; simp [opC])) Try.underlying3 rfl)) hS129 rfl ?_
    (try simp only [zP, zN, zA, zB, zC])
    refine pure_ (i := 49) (N := some 134) (v := .pointer (some ⟨b, 0, none⟩)) #[true, true, true, true, true, true, true, true, true, true, true, true, true, true, true, true, true, true, true, true, true, true, true, true, true, true, true, true, true, true, true, true, true, true, true, true, true, true, true, true, true, true, true, true, true, true, true, true, true, true, false, false, false] rfl rfl (by kernel_rfl) (fun c a w h => hP c a _ _ w h) (y_move rfl (by rfl) (by rfl)) rfl ?_
    (try simp only [zP, zN, zA, zB, zC])
    refine one_ (i := 50) (N := some 135) #[true, true, true, true, true, true, true, true, true, true, true, true, true, true, true, true, true, true, true, true, true, true, true, true, true, true, true, true, true, true, true, true, true, true, true, true, true, true, true, true, true, true, true, true, true, true, true, true, true, true, true, false, false] rfl rfl (by kernel_rfl) (by simp) (fun K130 hK130 => ?_)
    refine e_call Try.func14 (by kernel_rfl) rfl #[.pointer (some ⟨b, 0, none⟩)] (by rfl) rfl rfl (by first | rfl | (simp only [List.map_toArray, List.map_cons, List.map_nil]; first | done | rfl)) (now_all BF.out) ?_
    rintro en w132 ⟨rfl, cc131⟩
    refine ⟨_, rfl, ?_⟩
    have C0' := Lib.hid (show Ch [] w w132 from C0.out.trans' cc131 (fun x hx => absurd hx (by simp)))
    have BF' := Lib.hid (show BookIs w132 w.heap.size hi b (S) from BF.out.ch cc131 (fun x hx => absurd hx (by simp)))
    have HI' := Lib.hid (show hi ≤ w132.heap.size from Nat.le_trans HI.out cc131.size)
    have OM' := Lib.hid (show OwnS w132 w.heap.size 3 1 (.slice (some ⟨gm, 0, none⟩) 100 100) (100) (cnts ((S.L.take k).flatMap tm)) from OM.out.ch cc131 rnin_nil)
    have OO' := Lib.hid (show OwnS w132 bo 49 28 (.slice (some ⟨go, 0, none⟩) S.L.length cAo) (S.L.length) ((S.L).flatMap opC) from OO.out.ch cc131 rnin_nil)
    have OI' := Lib.hid (show OwnS w132 bi 3 1 (.slice Ai S.I.length cAi) (S.I.length) ((S.I).map (Value.int .i64)) from OI.out.ch cc131 rnin_nil)
    have Fg105' := Lib.hid (show Blk w132 g105 ((opC o).toArray) 49 from cc131.blk Fg105.out nin_nil)
    clear C0 BF HI OM OO OI Fg105
    have C0 := C0'; clear C0'
    have BF := BF'; clear BF'
    have HI := HI'; clear HI'
    have OM := OM'; clear OM'
    have OO := OO'; clear OO'
    have OI := OI'; clear OI'
    have Fg105 := Fg105'; clear Fg105'
    clear cc131
    refine hK130.out _ _ ⟨Fg105.out, trivial⟩ (fun hS133 => ?_); clear hK130 K130
    (try simp only [zP, zN, zA, zB, zC])
    refine pure_ (i := 51) (N := some 136) (v := .bool false) #[true, true, true, true, true, true, true, true, true, true, true, true, true, true, true, true, true, true, true, true, true, true, true, true, true, true, true, true, true, true, true, true, true, true, true, true, true, true, true, true, true, true, true, true, true, true, true, true, true, true, true, true, false] rfl rfl (by kernel_rfl) (fun c a w h => hP c a _ _ w h) (y_run (by rfl) (fun W => by have d := D136.out; go_simp)) rfl ?_
    (try simp only [zP, zN, zA, zB, zC])
    refine pure_ (i := 52) (N := some 137) (v := .bool false) #[true, true, true, true, true, true, true, true, true, true, true, true, true, true, true, true, true, true, true, true, true, true, true, true, true, true, true, true, true, true, true, true, true, true, true, true, true, true, true, true, true, true, true, true, true, true, true, true, true, true, true, true, true] rfl rfl (by kernel_rfl) (fun c a w h => hP c a _ _ w h) (y_pick (t := false) (by rfl) rfl (by rfl) (by rfl)) rfl ?_
    (try simp only [zP, zN, zA, zB, zC])
    refine done_ (by kernel_rfl) (th_norm (hK118 _ _ ?_)); clear hK118 K118
    refine wp_cond_false rfl ?_
    refine wp_skip ?_
    refine th_norm (hK117 _ _ ?_); try clear hK117 K117
    refine s_ (fun K134 hK134 => ?_)
    refine pu_ (v := .slice (some ⟨gm, 0, none⟩) 100 100) (y_move rfl (by rfl) (by rfl)) ?_
    (try simp only [zP, zN, zA, zB, zC])
    refine pu_ (v := .pointer (some ⟨g105, 2, none⟩)) (y_run (by rfl) (fun W => by go_simp)) ?_
    (try simp only [zP, zN, zA, zB, zC])
    refine ld_ (v := .int .i64 ka) rfl (by rfl) (by rfl) (run_load_one ((Fg105.out.cell 2).trans (by rw [← ha.out]; simp [opC])) Try.underlying3 rfl) ?_
    (try simp only [zP, zN, zA, zB, zC])
    refine pu_ (v := .pointer (some ⟨gm, ka, none⟩)) (y_run (by rfl) (fun W => by have d := DB141.out; go_simp)) ?_
    (try simp only [zP, zN, zA, zB, zC])
    refine ld_ (v := .int .i64 c143) rfl (by rfl) (by rfl) (run_load_one (own_cell OM.out (by rw [cnts_at _ (by have := DB141.out; omega), HC143.out])) Try.underlying3 rfl) ?_
    (try simp only [zP, zN, zA, zB, zC])
    refine pu_ (v := .int .i64 (c143 + 1 : Nat)) (y_run (by rfl) (fun W => by have d := WB143.out; go_simp)) ?_
    (try simp only [zP, zN, zA, zB, zC])
    refine pu_ (v := .pointer (some ⟨gm, ka, none⟩)) (y_run (by rfl) (fun W => by have d := DB141.out; go_simp)) ?_
    (try simp only [zP, zN, zA, zB, zC])
    refine ef_ (fun K135 hK135 => ?_)
    refine e_storeS1 (by rfl) rfl rfl OM.out ka (.int .i64 (c143 + 1 : Nat)) (by rfl) (by rfl) (by kernel_rfl) (by have := DX_ka.out; omega) rfl ?_
    rintro w136 O137 C138
    have RC138 := Lib.hid (show Ch (rl (.slice (some ⟨gm, 0, none⟩) 100 100)) w132 w136 from by rw [rl_some _ _ _ (by decide)]; exact C138)
    have C0' := Lib.hid (show Ch [] w w136 from C0.out.trans' RC138.out (fun x hx => .inr (OM.out.lt x hx).1))
    have BF' := Lib.hid (show BookIs w136 w.heap.size hi b (S) from BF.out.ch RC138.out (fun x hx => .inr (by rw [rl_some _ _ _ (by decide)] at hx; rw [List.mem_singleton.1 hx]; exact HGE.out)))
    have HI' := Lib.hid (show hi ≤ w136.heap.size from Nat.le_trans HI.out RC138.out.size)
    have OO' := Lib.hid (show OwnS w136 bo 49 28 (.slice (some ⟨go, 0, none⟩) S.L.length cAo) (S.L.length) ((S.L).flatMap opC) from OO.out.ch RC138.out (OwnS.rne OO.out OM.out (by decide)))
    have OI' := Lib.hid (show OwnS w136 bi 3 1 (.slice Ai S.I.length cAi) (S.I.length) ((S.I).map (Value.int .i64)) from OI.out.ch RC138.out (fun k hk hm => HRR.out k hm hk))
    have Fg105' := Lib.hid (show Blk w136 g105 ((opC o).toArray) 49 from RC138.out.blk Fg105.out (OM.out.ne Fg105.out (by decide)))
    clear C0 BF HI OO OI Fg105
    have C0 := C0'; clear C0'
    have BF := BF'; clear BF'
    have HI := HI'; clear HI'
    have OO := OO'; clear OO'
    have OI := OI'; clear OI'
    have Fg105 := Fg105'; clear Fg105'
    clear OM
    have OM := Lib.hid (show OwnS w136 w.heap.size 3 1 (.slice (some ⟨gm, 0, none⟩) 100 100) (100) (cnts (((S.L.take k).flatMap tm) ++ [(ka : Int)])) from by have h := O137; rw [← HC143.out, cnts_set] at h; exact h); clear O137 C138 RC138
    refine hK135 _ _ ?_; clear hK135 K135
    (try simp only [zP, zN, zA, zB, zC])
    refine nl_ (hK134 _ _ ?_); clear hK134 K134
    refine s_ (fun K139 hK139 => ?_)
    refine pu_ (v := .slice (some ⟨gm, 0, none⟩) 100 100) (y_move rfl (by rfl) (by rfl)) ?_
    (try simp only [zP, zN, zA, zB, zC])
    refine pu_ (v := .pointer (some ⟨g105, 3, none⟩)) (y_run (by rfl) (fun W => by go_simp)) ?_
    (try simp only [zP, zN, zA, zB, zC])
    refine ld_ (v := .int .i64 kd) rfl (by rfl) (by rfl) (run_load_one ((Fg105.out.cell 3).trans (by rw [← hd.out]; simp [opC])) Try.underlying3 rfl) ?_
    (try simp only [zP, zN, zA, zB, zC])
    refine pu_ (v := .int .i64 kd) (y_run (by rfl) (fun W => by go_simp; intro h9; omega)) ?_
    (try simp only [zP, zN, zA, zB, zC])
    refine pu_ (v := .pointer (some ⟨gm, kd, none⟩)) (y_run (by rfl) (fun W => by have d := DB149.out; go_simp)) ?_
    (try simp only [zP, zN, zA, zB, zC])
    refine ld_ (v := .int .i64 c151) rfl (by rfl) (by rfl) (run_load_one (own_cell OM.out (by rw [cnts_at _ (by have := DB149.out; omega), HC151.out])) Try.underlying3 rfl) ?_
    (try simp only [zP, zN, zA, zB, zC])
    refine pu_ (v := .int .i64 (c151 + 1 : Nat)) (y_run (by rfl) (fun W => by have d := WB151.out; go_simp)) ?_
    (try simp only [zP, zN, zA, zB, zC])
    refine pu_ (v := .pointer (some ⟨gm, kd, none⟩)) (y_run (by rfl) (fun W => by have d := DB149.out; go_simp)) ?_
    (try simp only [zP, zN, zA, zB, zC])
    refine ef_ (fun K140 hK140 => ?_)
    refine e_storeS1 (by rfl) rfl rfl OM.out kd (.int .i64 (c151 + 1 : Nat)) (by rfl) (by rfl) (by kernel_rfl) (by have := DX_kd.out; omega) rfl ?_
    rintro w141 O142 C143
    have RC143 := Lib.hid (show Ch (rl (.slice (some ⟨gm, 0, none⟩) 100 100)) w136 w141 from by rw [rl_some _ _ _ (by decide)]; exact C143)
    have C0' := Lib.hid (show Ch [] w w141 from C0.out.trans' RC143.out (fun x hx => .inr (OM.out.lt x hx).1))
    have BF' := Lib.hid (show BookIs w141 w.heap.size hi b (S) from BF.out.ch RC143.out (fun x hx => .inr (by rw [rl_some _ _ _ (by decide)] at hx; rw [List.mem_singleton.1 hx]; exact HGE.out)))
    have HI' := Lib.hid (show hi ≤ w141.heap.size from Nat.le_trans HI.out RC143.out.size)
    have OO' := Lib.hid (show OwnS w141 bo 49 28 (.slice (some ⟨go, 0, none⟩) S.L.length cAo) (S.L.length) ((S.L).flatMap opC) from OO.out.ch RC143.out (OwnS.rne OO.out OM.out (by decide)))
    have OI' := Lib.hid (show OwnS w141 bi 3 1 (.slice Ai S.I.length cAi) (S.I.length) ((S.I).map (Value.int .i64)) from OI.out.ch RC143.out (fun k hk hm => HRR.out k hm hk))
    have Fg105' := Lib.hid (show Blk w141 g105 ((opC o).toArray) 49 from RC143.out.blk Fg105.out (OM.out.ne Fg105.out (by decide)))
    clear C0 BF HI OO OI Fg105
    have C0 := C0'; clear C0'
    have BF := BF'; clear BF'
    have HI := HI'; clear HI'
    have OO := OO'; clear OO'
    have OI := OI'; clear OI'
    have Fg105 := Fg105'; clear Fg105'
    clear OM
    have OM := Lib.hid (show OwnS w141 w.heap.size 3 1 (.slice (some ⟨gm, 0, none⟩) 100 100) (100) (cnts (((S.L.take k).flatMap tm ++ [(ka : Int)]) ++ [(kd : Int)])) from by have h := O142; rw [← HC151.out, cnts_set] at h; exact h); clear O142 C143 RC143
    refine hK140 _ _ ?_; clear hK140 K140
    (try simp only [zP, zN, zA, zB, zC])
    refine nl_ (hK139 _ _ ?_); clear hK139 K139
    refine r_ ?_
    refine pu_ (v := .slice (some ⟨gm, 0, none⟩) 100 100) (y_move rfl (by rfl) (by rfl)) ?_
    (try simp only [zP, zN, zA, zB, zC])
    refine pu_ (v := .pointer (some ⟨g105, 4, none⟩)) (y_run (by rfl) (fun W => by go_simp)) ?_
    (try simp only [zP, zN, zA, zB, zC])
    refine ld_ (v := .int .i64 kt) rfl (by rfl) (by rfl) (run_load_one ((Fg105.out.cell 4).trans (by rw [← htt.out]; simp [opC])) Try.underlying3 rfl) ?_
    (try simp only [zP, zN, zA, zB, zC])
    refine pu_ (v := .int .i64 kt) (y_run (by rfl) (fun W => by go_simp; intro h9; omega)) ?_
    (try simp only [zP, zN, zA, zB, zC])
    refine pu_ (v := .pointer (some ⟨gm, kt, none⟩)) (y_run (by rfl) (fun W => by have d := DB157.out; go_simp)) ?_
    (try simp only [zP, zN, zA, zB, zC])
    refine ld_ (v := .int .i64 c159) rfl (by rfl) (by rfl) (run_load_one (own_cell OM.out (by rw [cnts_at _ (by have := DB157.out; omega), HC159.out])) Try.underlying3 rfl) ?_
    (try simp only [zP, zN, zA, zB, zC])
    refine pu_ (v := .int .i64 (c159 + 1 : Nat)) (y_run (by rfl) (fun W => by have d := WB159.out; go_simp)) ?_
    (try simp only [zP, zN, zA, zB, zC])
    refine pu_ (v := .pointer (some ⟨gm, kt, none⟩)) (y_run (by rfl) (fun W => by have d := DB157.out; go_simp)) ?_
    (try simp only [zP, zN, zA, zB, zC])
    refine ef_ (fun K144 hK144 => ?_)
    refine e_storeS1 (by rfl) rfl rfl OM.out kt (.int .i64 (c159 + 1 : Nat)) (by rfl) (by rfl) (by kernel_rfl) (by have := DX_kt.out; omega) rfl ?_
    rintro w145 O146 C147
    have RC147 := Lib.hid (show Ch (rl (.slice (some ⟨gm, 0, none⟩) 100 100)) w141 w145 from by rw [rl_some _ _ _ (by decide)]; exact C147)
    have C0' := Lib.hid (show Ch [] w w145 from C0.out.trans' RC147.out (fun x hx => .inr (OM.out.lt x hx).1))
    have BF' := Lib.hid (show BookIs w145 w.heap.size hi b (S) from BF.out.ch RC147.out (fun x hx => .inr (by rw [rl_some _ _ _ (by decide)] at hx; rw [List.mem_singleton.1 hx]; exact HGE.out)))
    have HI' := Lib.hid (show hi ≤ w145.heap.size from Nat.le_trans HI.out RC147.out.size)
    have OO' := Lib.hid (show OwnS w145 bo 49 28 (.slice (some ⟨go, 0, none⟩) S.L.length cAo) (S.L.length) ((S.L).flatMap opC) from OO.out.ch RC147.out (OwnS.rne OO.out OM.out (by decide)))
    have OI' := Lib.hid (show OwnS w145 bi 3 1 (.slice Ai S.I.length cAi) (S.I.length) ((S.I).map (Value.int .i64)) from OI.out.ch RC147.out (fun k hk hm => HRR.out k hm hk))
    have Fg105' := Lib.hid (show Blk w145 g105 ((opC o).toArray) 49 from RC147.out.blk Fg105.out (OM.out.ne Fg105.out (by decide)))
    clear C0 BF HI OO OI Fg105
    have C0 := C0'; clear C0'
    have BF := BF'; clear BF'
    have HI := HI'; clear HI'
    have OO := OO'; clear OO'
    have OI := OI'; clear OI'
    have Fg105 := Fg105'; clear Fg105'
    clear OM
    have OM := Lib.hid (show OwnS w145 w.heap.size 3 1 (.slice (some ⟨gm, 0, none⟩) 100 100) (100) (cnts ((((S.L.take k).flatMap tm ++ [(ka : Int)]) ++ [(kd : Int)]) ++ [(kt : Int)])) from by have h := O146; rw [← HC159.out, cnts_set] at h; exact h); clear O146 C147 RC147
    refine hK144 _ _ ?_; clear hK144 K144
    (try simp only [zP, zN, zA, zB, zC])
    refine nl_ ?_
    refine ib_norm ?_
    refine th_norm (hK102 _ _ ?_); try clear hK102 K102
    refine r_ ?_
    refine pu_ (v := .int .i64 k) (y_move rfl (by rfl) (by rfl)) ?_
    (try simp only [zP, zN, zA, zB, zC])
    refine pu_ (v := .int .i64 (k + 1 : Nat)) (y_run (by rfl) (fun W => by have d := WA.out; go_simp)) ?_
    (try simp only [zP, zN, zA, zB, zC])
    refine pu_ (v := .int .i64 (k + 1 : Nat)) (y_assign rfl (by rfl) (by rfl)) ?_
    (try simp only [zP, zN, zA, zB, zC])
    refine nl_ ?_
    exact th_norm (hK4 (kq - 1) _ _ (by have := hlt.out; have := hk.out; omega) ⟨k + 1, fun us_ => (#[us 0, us 1, .bool false, .pointer (some ⟨b, 0, none⟩), us 4, us 5, .slice (some ⟨gm, 0, none⟩) 100 100, .slice (some ⟨go, 0, none⟩) S.L.length cAo, .slice Ai S.I.length cAi, .int .i64 (k + 1 : Nat), .pointer (some ⟨g105, 0, none⟩), us 11, us 12, us 13, us 14, us 15, us 16, us 17, us 18, us 19, us 20, us 21, us 22, us 23, us 24, us 25, us 26, us 27, us 28, us 29, us 30, us 31, us 32, us 33, us 34, us 35, us 36, us 37, us 38, us 39, us 40, us 41, us 42, us 43, us 44, us 45, us 46, us 47, us 48, us 49, us 50, us 51, us 52, us 53, us 54, us 55, us 56, us 57, us 58, us 59, us 60, us 61, us 62, us 63, us 64, us 65, us 66, us 67, us 68, us 69, us 70, us 71, us 72, us 73, us 74, .int .i64 k, .slice (some ⟨go, 0, none⟩) S.L.length cAo, .int .i64 S.L.length, .bool true, .int .i64 k, .int .i64 (k + 1 : Nat), .slice (some ⟨go, 0, none⟩) S.L.length cAo, .int .i64 k, .pointer (some ⟨go, k * 28, none⟩), .agg (opC o).toArray, .pointer (some ⟨g105, 2, none⟩), .int .i64 ka, .bool false, .bool false, .pointer (some ⟨g105, 3, none⟩), .int .i64 kd, .bool true, .bool true, .pointer (some ⟨g105, 3, none⟩), .int .i64 kd, .pointer (some ⟨g105, 2, none⟩), .int .i64 ka, .bool false, .bool false, .bool false, .bool false, .pointer (some ⟨g105, 4, none⟩), .int .i64 kt, .bool true, .bool true, .pointer (some ⟨g105, 3, none⟩), .int .i64 kd, .bool false, .bool false, .pointer (some ⟨g105, 4, none⟩), .int .i64 kt, .pointer (some ⟨g105, 3, none⟩), .int .i64 kd, .bool false, .bool false, .bool false, .bool false, .bool false, .pointer (some ⟨g105, 4, none⟩), .int .i64 kt, .pointer (some ⟨b, 0, none⟩), .int .i64 S.now, .bool false, .bool false, .bool false, .pointer (some ⟨g105, 3, none⟩), .int .i64 kd, .pointer (some ⟨b, 0, none⟩), .int .i64 S.now, .bool false, .bool false, .bool false, .pointer (some ⟨g105, 2, none⟩), .int .i64 ka, .pointer (some ⟨b, 0, none⟩), .int .i64 S.now, .bool false, .bool false, .slice (some ⟨gm, 0, none⟩) 100 100, .pointer (some ⟨g105, 2, none⟩), .int .i64 ka, .pointer (some ⟨gm, ka, none⟩), .int .i64 c143, .int .i64 (c143 + 1 : Nat), .pointer (some ⟨gm, ka, none⟩), .slice (some ⟨gm, 0, none⟩) 100 100, .pointer (some ⟨g105, 3, none⟩), .int .i64 kd, .int .i64 kd, .pointer (some ⟨gm, kd, none⟩), .int .i64 c151, .int .i64 (c151 + 1 : Nat), .pointer (some ⟨gm, kd, none⟩), .slice (some ⟨gm, 0, none⟩) 100 100, .pointer (some ⟨g105, 4, none⟩), .int .i64 kt, .int .i64 kt, .pointer (some ⟨gm, kt, none⟩), .int .i64 c159, .int .i64 (c159 + 1 : Nat), .pointer (some ⟨gm, kt, none⟩), us 161, us 162, us 163, us 164, us 165, us 166, us 167, us 168, us 169, us 170, us 171, us 172, us 173, us 174, us 175, us 176, us 177, us 178, us 179, us 180, us 181, us 182, us 183, us 184, us 185, us 186, us 187, us 188, us 189, us 190, us 191, us 192, us 193, us 194, us 195, us 196, us 197, us 198, us 199, us 200] : Array Value).getD us_ undef, rfl, C0, BF, HI, Lib.hid (by have h := OM.out; rw [tms_succ ho.out, ha.out, hd.out, htt.out]; exact h), OO, OI, Lib.hid ⟨by have := hlt.out; omega, by have := hlt.out; have := hk.out; omega⟩⟩)
end Go.Proofs.Ytggcpbnlblbpjaa.H
