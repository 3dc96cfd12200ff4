/- The law HistTimes, its last part: each operation's times rise, and each time up to the clock is one's. -/
import Derived.Test.YtggcpbnlblbpjaaHistT0
import Derived.Test.YtggcpbnlblbpjaaWeaveM
namespace Go.Proofs.Ytggcpbnlblbpjaa.H
open Go Go.RowKit Go.Proofs.Ytggcpbnlblbpjaa.K Go.Proofs.YtggcpbnlblbpjaaW.PrintLast
set_option linter.unusedVariables false
set_option linter.unusedSimpArgs false
set_option maxRecDepth 100000
set_option maxHeartbeats 3200000
noncomputable def codetimesD : Code := (sndC (sndC (sndC (sndC (sndC (sndC (sndC (sndC (sndC (sndC (bodyOf Try.f3.body)))))))))))
theorem timesD {w : World}  {Q : Exit → Act → World → Prop} (hQ : ∀ e a w', bodyPost Try.prog Try.f3 (fun en w' => en = .returned (.bool true) ∧ Ch [] w w') e a w' → Q e a w') (hP : ∀ c a d v w, Q (.panic c) (a.put d v) w → Q (.panic c) a w) (a' : Act) (w' : World) (h : (fun (a' : Act) (w' : World) => ∃ (b : Nat), ∃ (hi : Nat), ∃ (S : HB), ∃ (gm : Nat), ∃ (us : Nat → Value), a' = ⟨#[us 0, us 1, .bool false, .pointer (some ⟨b, 0, none⟩), us 4, us 5, .slice (some ⟨gm, 0, none⟩) 100 100, us 7, us 8, us 9, us 10, us 11, us 12, us 13, us 14, us 15, us 16, us 17, us 18, us 19, us 20, us 21, us 22, us 23, us 24, us 25, us 26, us 27, us 28, us 29, us 30, us 31, us 32, us 33, us 34, us 35, us 36, us 37, us 38, us 39, us 40, us 41, us 42, us 43, us 44, us 45, us 46, us 47, us 48, us 49, us 50, us 51, us 52, us 53, us 54, us 55, us 56, us 57, us 58, us 59, us 60, us 61, us 62, us 63, us 64, us 65, us 66, us 67, us 68, us 69, us 70, us 71, us 72, us 73, us 74, us 75, us 76, us 77, us 78, us 79, us 80, us 81, us 82, us 83, us 84, us 85, us 86, us 87, us 88, us 89, us 90, us 91, us 92, us 93, us 94, us 95, us 96, us 97, us 98, us 99, us 100, us 101, us 102, us 103, us 104, us 105, us 106, us 107, us 108, us 109, us 110, us 111, us 112, us 113, us 114, us 115, us 116, us 117, us 118, us 119, us 120, us 121, us 122, us 123, us 124, us 125, us 126, us 127, us 128, us 129, us 130, us 131, us 132, us 133, us 134, us 135, us 136, us 137, us 138, us 139, us 140, us 141, us 142, us 143, us 144, us 145, us 146, us 147, us 148, us 149, us 150, us 151, us 152, us 153, us 154, us 155, us 156, us 157, us 158, us 159, us 160, us 161, us 162, us 163, us 164, us 165, us 166, us 167, us 168, us 169, us 170, us 171, us 172, us 173, us 174, us 175, us 176, us 177, us 178, us 179, us 180, us 181, us 182, us 183, us 184, us 185, us 186, us 187, us 188, us 189, us 190, us 191, us 192, us 193, us 194, us 195, us 196, us 197, us 198, us 199, us 200], []⟩ ∧ Hid (Ch [] w w') ∧ Hid (BookIs w' w.heap.size hi b (S)) ∧ Hid (hi ≤ w'.heap.size) ∧ Hid (OwnS w' w.heap.size 3 1 (.slice (some ⟨gm, 0, none⟩) 100 100) (100) (cnts (noted S))) ∧ Hid (hi ≤ gm) ∧ Hid (S.now ≤ 80) ∧ Hid (S.L.length ≤ S.now ∧ S.I.length ≤ S.now) ∧ Hid (TI S)) a' w') : codetimesD.wp Try.prog Q a' w' := by
  unfold codetimesD; dsimp only [sndC, fstC, bodyOf, Try.f3]
  obtain ⟨b, hi, S, gm, us, rfl, C0, BF, HI, OM, HGE, HN, HL, TT⟩ := h
  refine sq_ (fun K1 hK1 => ?_)
  refine s_ (fun K2 hK2 => ?_)
  refine pu_ (v := .int .i64 1) (y_assign rfl (by rfl) (by rfl)) ?_
  (try simp only [zP, zN, zA, zB, zC])
  refine nl_ (hK2 _ _ ?_); clear hK2 K2
  refine wp_block ?_
  refine loopk_ (fun (kq : Nat) (a' : Act) (w' : World) => ∃ (k : Nat), ∃ (us : Nat → Value), a' = ⟨#[us 0, us 1, .bool false, .pointer (some ⟨b, 0, none⟩), us 4, us 5, .slice (some ⟨gm, 0, none⟩) 100 100, us 7, us 8, us 9, us 10, us 11, .int .i64 k, us 13, us 14, us 15, us 16, us 17, us 18, us 19, us 20, us 21, us 22, us 23, us 24, us 25, us 26, us 27, us 28, us 29, us 30, us 31, us 32, us 33, us 34, us 35, us 36, us 37, us 38, us 39, us 40, us 41, us 42, us 43, us 44, us 45, us 46, us 47, us 48, us 49, us 50, us 51, us 52, us 53, us 54, us 55, us 56, us 57, us 58, us 59, us 60, us 61, us 62, us 63, us 64, us 65, us 66, us 67, us 68, us 69, us 70, us 71, us 72, us 73, us 74, us 75, us 76, us 77, us 78, us 79, us 80, us 81, us 82, us 83, us 84, us 85, us 86, us 87, us 88, us 89, us 90, us 91, us 92, us 93, us 94, us 95, us 96, us 97, us 98, us 99, us 100, us 101, us 102, us 103, us 104, us 105, us 106, us 107, us 108, us 109, us 110, us 111, us 112, us 113, us 114, us 115, us 116, us 117, us 118, us 119, us 120, us 121, us 122, us 123, us 124, us 125, us 126, us 127, us 128, us 129, us 130, us 131, us 132, us 133, us 134, us 135, us 136, us 137, us 138, us 139, us 140, us 141, us 142, us 143, us 144, us 145, us 146, us 147, us 148, us 149, us 150, us 151, us 152, us 153, us 154, us 155, us 156, us 157, us 158, us 159, us 160, us 161, us 162, us 163, us 164, us 165, us 166, us 167, us 168, us 169, us 170, us 171, us 172, us 173, us 174, us 175, us 176, us 177, us 178, us 179, us 180, us 181, us 182, us 183, us 184, us 185, us 186, us 187, us 188, us 189, us 190, us 191, us 192, us 193, us 194, us 195, us 196, us 197, us 198, us 199, us 200], []⟩ ∧ Hid (Ch [] w w') ∧ Hid (BookIs w' w.heap.size hi b (S)) ∧ Hid (hi ≤ w'.heap.size) ∧ Hid (OwnS w' w.heap.size 3 1 (.slice (some ⟨gm, 0, none⟩) 100 100) (100) (cnts (noted S))) ∧ Hid (1 ≤ k ∧ k ≤ S.now + 1 ∧ kq + k = S.now + 1)) (S.now) (⟨1, fun us_ => (#[us 0, us 1, .bool false, .pointer (some ⟨b, 0, none⟩), us 4, us 5, .slice (some ⟨gm, 0, none⟩) 100 100, us 7, us 8, us 9, us 10, us 11, .int .i64 1, us 13, us 14, us 15, us 16, us 17, us 18, us 19, us 20, us 21, us 22, us 23, us 24, us 25, us 26, us 27, us 28, us 29, us 30, us 31, us 32, us 33, us 34, us 35, us 36, us 37, us 38, us 39, us 40, us 41, us 42, us 43, us 44, us 45, us 46, us 47, us 48, us 49, us 50, us 51, us 52, us 53, us 54, us 55, us 56, us 57, us 58, us 59, us 60, us 61, us 62, us 63, us 64, us 65, us 66, us 67, us 68, us 69, us 70, us 71, us 72, us 73, us 74, us 75, us 76, us 77, us 78, us 79, us 80, us 81, us 82, us 83, us 84, us 85, us 86, us 87, us 88, us 89, us 90, us 91, us 92, us 93, us 94, us 95, us 96, us 97, us 98, us 99, us 100, us 101, us 102, us 103, us 104, us 105, us 106, us 107, us 108, us 109, us 110, us 111, us 112, us 113, us 114, us 115, us 116, us 117, us 118, us 119, us 120, us 121, us 122, us 123, us 124, us 125, us 126, us 127, us 128, us 129, us 130, us 131, us 132, us 133, us 134, us 135, us 136, us 137, us 138, us 139, us 140, us 141, us 142, us 143, us 144, us 145, us 146, us 147, us 148, us 149, us 150, us 151, us 152, us 153, us 154, us 155, us 156, us 157, us 158, us 159, us 160, us 161, us 162, us 163, us 164, us 165, us 166, us 167, us 168, us 169, us 170, us 171, us 172, us 173, us 174, us 175, us 176, us 177, us 178, us 179, us 180, us 181, us 182, us 183, us 184, us 185, us 186, us 187, us 188, us 189, us 190, us 191, us 192, us 193, us 194, us 195, us 196, us 197, us 198, us 199, us 200] : Array Value).getD us_ undef, rfl, C0, BF, HI, OM, Lib.hid ⟨by omega, by omega, rfl⟩⟩) ?_
  rintro kq _ w3 ⟨k, us, rfl, C0, BF, HI, OM, hk⟩ K4 hK4
  refine sq_ (fun K5 hK5 => ?_)
  rcases (show k ≤ S.now ∨ k = S.now + 1 by have := hk.out; omega) with h | h
  · have hlt := Lib.hid h
    clear h
    have D193 := Lib.hid (show k ≤ S.now from hlt.out)
    have WA := Lib.hid (show IntKind.i64.wrap ((k : Int) + 1) = ((k + 1 : Nat) : Int) by rw [wr64 (by have := hlt.out; have := HN.out; omega)]; omega)
    have D198 := Lib.hid (show (k : Int) < 100 by have := hlt.out; have := HN.out; omega)
    have HC1 := Lib.hid (show (noted S).count (k : Int) = 1 by rw [TT.out.cnt k (by have := hk.out; omega), if_pos (by have := hlt.out; omega)])
    refine s_ (fun K6 hK6 => ?_)
    refine pu_ (v := .int .i64 k) (y_move rfl (by rfl) (by rfl)) ?_
    (try simp only [zP, zN, zA, zB, zC])
    refine pu_ (v := .pointer (some ⟨b, 0, none⟩)) (y_move rfl (by rfl) (by rfl)) ?_
    (try simp only [zP, zN, zA, zB, zC])
    refine ef_ (fun K7 hK7 => ?_)
    refine e_call Try.func14 (by kernel_rfl) rfl #[.pointer (some ⟨b, 0, none⟩)] (by rfl) rfl rfl (by first | rfl | (simp only [List.map_toArray, List.map_cons, List.map_nil]; first | done | rfl)) (now_all BF.out) ?_
    rintro en w9 ⟨rfl, cc8⟩
    refine ⟨_, rfl, ?_⟩
    have C0' := Lib.hid (show Ch [] w w9 from C0.out.trans' cc8 (fun x hx => absurd hx (by simp)))
    have BF' := Lib.hid (show BookIs w9 w.heap.size hi b (S) from BF.out.ch cc8 (fun x hx => absurd hx (by simp)))
    have HI' := Lib.hid (show hi ≤ w9.heap.size from Nat.le_trans HI.out cc8.size)
    have OM' := Lib.hid (show OwnS w9 w.heap.size 3 1 (.slice (some ⟨gm, 0, none⟩) 100 100) (100) (cnts (noted S)) from OM.out.ch cc8 rnin_nil)
    clear C0 BF HI OM
    have C0 := C0'; clear C0'
    have BF := BF'; clear BF'
    have HI := HI'; clear HI'
    have OM := OM'; clear OM'
    clear cc8
    refine hK7 _ _ ?_; clear hK7 K7
    (try simp only [zP, zN, zA, zB, zC])
    refine pu_ (v := .bool true) (y_run (by rfl) (fun W => by have d := D193.out; go_simp)) ?_
    (try simp only [zP, zN, zA, zB, zC])
    refine nl_ (hK6 _ _ ?_); clear hK6 K6
    refine wp_cond_true rfl ?_
    refine wp_skip ?_
    refine th_norm (hK5 _ _ ?_); try clear hK5 K5
    refine sq_ (fun K10 hK10 => ?_)
    refine wp_block ?_
    refine s_ (fun K11 hK11 => ?_)
    refine pu_ (v := .slice (some ⟨gm, 0, none⟩) 100 100) (y_move rfl (by rfl) (by rfl)) ?_
    (try simp only [zP, zN, zA, zB, zC])
    refine pu_ (v := .int .i64 k) (y_move rfl (by rfl) (by rfl)) ?_
    (try simp only [zP, zN, zA, zB, zC])
    refine pu_ (v := .pointer (some ⟨gm, k, none⟩)) (y_run (by rfl) (fun W => by have d := D198.out; go_simp)) ?_
    (try simp only [zP, zN, zA, zB, zC])
    refine ld_ (v := .int .i64 1) rfl (by rfl) (by rfl) (run_load_one (own_cell OM.out (by rw [cnts_at _ (by have := D198.out; omega), HC1.out]; rfl)) Try.underlying3 rfl) ?_
    (try simp only [zP, zN, zA, zB, zC])
    refine pu_ (v := .bool false) (y_run (by rfl) (fun W => by go_simp)) ?_
    (try simp only [zP, zN, zA, zB, zC])
    refine nl_ (hK11 _ _ ?_); clear hK11 K11
    refine wp_cond_false rfl ?_
    refine wp_skip ?_
    refine ib_norm ?_
    refine th_norm (hK10 _ _ ?_); try clear hK10 K10
    refine r_ ?_
    refine pu_ (v := .int .i64 k) (y_move rfl (by rfl) (by rfl)) ?_
    (try simp only [zP, zN, zA, zB, zC])
    refine pu_ (v := .int .i64 (k + 1 : Nat)) (y_run (by rfl) (fun W => by have d := WA.out; go_simp)) ?_
    (try simp only [zP, zN, zA, zB, zC])
    refine pu_ (v := .int .i64 (k + 1 : Nat)) (y_assign rfl (by rfl) (by rfl)) ?_
    (try simp only [zP, zN, zA, zB, zC])
    refine nl_ ?_
    exact th_norm (hK4 (kq - 1) _ _ (by have := hlt.out; have := hk.out; omega) ⟨k + 1, fun us_ => (#[us 0, us 1, .bool false, .pointer (some ⟨b, 0, none⟩), us 4, us 5, .slice (some ⟨gm, 0, none⟩) 100 100, us 7, us 8, us 9, us 10, us 11, .int .i64 (k + 1 : Nat), us 13, us 14, us 15, us 16, us 17, us 18, us 19, us 20, us 21, us 22, us 23, us 24, us 25, us 26, us 27, us 28, us 29, us 30, us 31, us 32, us 33, us 34, us 35, us 36, us 37, us 38, us 39, us 40, us 41, us 42, us 43, us 44, us 45, us 46, us 47, us 48, us 49, us 50, us 51, us 52, us 53, us 54, us 55, us 56, us 57, us 58, us 59, us 60, us 61, us 62, us 63, us 64, us 65, us 66, us 67, us 68, us 69, us 70, us 71, us 72, us 73, us 74, us 75, us 76, us 77, us 78, us 79, us 80, us 81, us 82, us 83, us 84, us 85, us 86, us 87, us 88, us 89, us 90, us 91, us 92, us 93, us 94, us 95, us 96, us 97, us 98, us 99, us 100, us 101, us 102, us 103, us 104, us 105, us 106, us 107, us 108, us 109, us 110, us 111, us 112, us 113, us 114, us 115, us 116, us 117, us 118, us 119, us 120, us 121, us 122, us 123, us 124, us 125, us 126, us 127, us 128, us 129, us 130, us 131, us 132, us 133, us 134, us 135, us 136, us 137, us 138, us 139, us 140, us 141, us 142, us 143, us 144, us 145, us 146, us 147, us 148, us 149, us 150, us 151, us 152, us 153, us 154, us 155, us 156, us 157, us 158, us 159, us 160, us 161, us 162, us 163, us 164, us 165, us 166, us 167, us 168, us 169, us 170, us 171, us 172, us 173, us 174, us 175, us 176, us 177, us 178, us 179, us 180, us 181, us 182, us 183, us 184, us 185, us 186, us 187, us 188, us 189, .int .i64 k, .pointer (some ⟨b, 0, none⟩), .int .i64 S.now, .bool true, .int .i64 k, .int .i64 (k + 1 : Nat), .slice (some ⟨gm, 0, none⟩) 100 100, .int .i64 k, .pointer (some ⟨gm, k, none⟩), .int .i64 1, .bool false] : Array Value).getD us_ undef, rfl, C0, BF, HI, OM, Lib.hid ⟨by omega, by have := hlt.out; omega, by have := hlt.out; have := hk.out; omega⟩⟩)
  · have D193 := Lib.hid (show S.now < k by omega)
    clear h
    refine s_ (fun K12 hK12 => ?_)
    refine pu_ (v := .int .i64 k) (y_move rfl (by rfl) (by rfl)) ?_
    (try simp only [zP, zN, zA, zB, zC])
    refine pu_ (v := .pointer (some ⟨b, 0, none⟩)) (y_move rfl (by rfl) (by rfl)) ?_
    (try simp only [zP, zN, zA, zB, zC])
    refine ef_ (fun K13 hK13 => ?_)
    refine e_call Try.func14 (by kernel_rfl) rfl #[.pointer (some ⟨b, 0, none⟩)] (by rfl) rfl rfl (by first | rfl | (simp only [List.map_toArray, List.map_cons, List.map_nil]; first | done | rfl)) (now_all BF.out) ?_
    rintro en w15 ⟨rfl, cc14⟩
    refine ⟨_, rfl, ?_⟩
    have C0' := Lib.hid (show Ch [] w w15 from C0.out.trans' cc14 (fun x hx => absurd hx (by simp)))
    have BF' := Lib.hid (show BookIs w15 w.heap.size hi b (S) from BF.out.ch cc14 (fun x hx => absurd hx (by simp)))
    have HI' := Lib.hid (show hi ≤ w15.heap.size from Nat.le_trans HI.out cc14.size)
    have OM' := Lib.hid (show OwnS w15 w.heap.size 3 1 (.slice (some ⟨gm, 0, none⟩) 100 100) (100) (cnts (noted S)) from OM.out.ch cc14 rnin_nil)
    clear C0 BF HI OM
    have C0 := C0'; clear C0'
    have BF := BF'; clear BF'
    have HI := HI'; clear HI'
    have OM := OM'; clear OM'
    clear cc14
    refine hK13 _ _ ?_; clear hK13 K13
    (try simp only [zP, zN, zA, zB, zC])
    refine pu_ (v := .bool false) (y_run (by rfl) (fun W => by have d := D193.out; go_simp)) ?_
    (try simp only [zP, zN, zA, zB, zC])
    refine nl_ (hK12 _ _ ?_); clear hK12 K12
    refine wp_cond_false rfl ?_
    refine wp_exit ?_
    refine th_exit ?_
    refine th_exit ?_
    refine ib_exit ?_
    refine th_norm (hK1 _ _ ?_); try clear hK1 K1
    refine s_ (fun K16 hK16 => ?_)
    refine pu_ (v := .bool true) (y_assign rfl (by rfl) (by rfl)) ?_
    (try simp only [zP, zN, zA, zB, zC])
    refine nl_ (hK16 _ _ ?_); clear hK16 K16
    refine wp_ret ?_
    refine hQ _ _ _ ?_
    refine bodyPost_ret (res1 rfl (rdv_tmp (v := .bool true) (by rfl))) rfl ?_
    exact ⟨rfl, C0.out⟩
end Go.Proofs.Ytggcpbnlblbpjaa.H
