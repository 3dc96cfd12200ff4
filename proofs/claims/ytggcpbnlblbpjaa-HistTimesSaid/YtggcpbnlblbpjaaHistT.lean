/- The walk of the law HistTimes: each operation's times rise, and each time up to the clock is one's. -/
import Derived.Test.YtggcpbnlblbpjaaHistTB
import Derived.Test.YtggcpbnlblbpjaaWeaveM
namespace Go.Proofs.Ytggcpbnlblbpjaa.H
open Go Go.RowKit Go.Proofs.Ytggcpbnlblbpjaa.K Go.Proofs.YtggcpbnlblbpjaaW.PrintLast
set_option linter.unusedVariables false
set_option linter.unusedSimpArgs false
set_option maxRecDepth 100000
set_option maxHeartbeats 3200000
theorem times (w : World) (a0 : Option Addr) (len0 cap0 : Nat) (hA : Acts w a0 len0) : Calls Try.prog 3 #[.slice a0 len0 cap0] w fun en w' => en = .returned (.bool true) ∧ Ch [] w w' := by
  have C0 := Lib.hid (Ch.refl [] w)
  have HA := Lib.hid hA
  obtain ⟨i3, I3⟩ := Info.of info3
  clear hA
  go_enter Try.func3, Try.ntmps3
  refine q_ (fun Q hQ hP => ?_)
  refine s_ (fun K1 hK1 => ?_)
  refine pu_ (v := .bool false) (y_assign rfl (by rfl) (by rfl)) ?_
  (try simp only [zP, zN, zA, zB, zC])
  refine nl_ (hK1 _ _ ?_); clear hK1 K1
  refine sq_ (fun K2 hK2 => ?_)
  refine s_ (fun K3 hK3 => ?_)
  refine ef_ (fun K4 hK4 => ?_)
  refine e_call Try.func8 (by kernel_rfl) rfl #[] (by rfl) rfl rfl (by first | rfl | (simp only [List.map_toArray, List.map_cons, List.map_nil]; first | done | rfl)) (works8 _) ?_
  rintro en w6 ⟨rfl, cc5⟩
  refine ⟨_, rfl, ?_⟩
  have C0' := Lib.hid (show Ch [] w w6 from C0.out.trans' cc5 (fun x hx => absurd hx (by simp)))
  clear C0
  have C0 := C0'; clear C0'
  clear cc5
  refine hK4 _ _ ?_; clear hK4 K4
  (try simp only [zP, zN, zA, zB, zC])
  refine pu_ (v := .bool false) (y_run (by rfl) (fun W => by go_simp)) ?_
  (try simp only [zP, zN, zA, zB, zC])
  refine nl_ (hK3 _ _ ?_); clear hK3 K3
  refine wp_cond_false rfl ?_
  refine wp_skip ?_
  refine th_norm (hK2 _ _ ?_); try clear hK2 K2
  refine s_ (fun K7 hK7 => ?_)
  refine ef_ (fun K8 hK8 => ?_)
  refine e_call Try.func9 (by kernel_rfl) rfl #[] (by rfl) rfl rfl (by first | rfl | (simp only [List.map_toArray, List.map_cons, List.map_nil]; first | done | rfl)) ((new_all (lo := w.heap.size) C0.out.size)) ?_
  rintro en w9 ⟨b, rfl, bk2, cc, _⟩
  refine ⟨_, rfl, ?_⟩
  have C0' := Lib.hid (show Ch [] w w9 from C0.out.trans' cc (fun x hx => absurd hx (by simp)))
  clear C0
  have C0 := C0'; clear C0'
  have BF := Lib.hid (show BookIs w9 w.heap.size w9.heap.size b (⟨0, [], []⟩) from bk2)
  have HI := Lib.hid (show w9.heap.size ≤ w9.heap.size from Nat.le_refl _)
  clear bk2 cc
  refine hK8 _ _ ?_; clear hK8 K8
  (try simp only [zP, zN, zA, zB, zC])
  refine pu_ (v := .pointer (some ⟨b, 0, none⟩)) (y_assign rfl (by rfl) (by rfl)) ?_
  (try simp only [zP, zN, zA, zB, zC])
  refine nl_ (hK7 _ _ ?_); clear hK7 K7
  refine sq_ (fun K10 hK10 => ?_)
  refine s_ (fun K11 hK11 => ?_)
  refine pu_ (v := .pointer (some ⟨b, 0, none⟩)) (y_move rfl (by rfl) (by rfl)) ?_
  (try simp only [zP, zN, zA, zB, zC])
  refine pu_ (v := .bool false) (y_run (by rfl) (fun W => by go_simp)) ?_
  (try simp only [zP, zN, zA, zB, zC])
  refine nl_ (hK11 _ _ ?_); clear hK11 K11
  refine wp_cond_false rfl ?_
  refine wp_skip ?_
  refine th_norm (hK10 _ _ ?_); try clear hK10 K10
  refine sq_ (fun K12 hK12 => ?_)
  refine s_ (fun K13 hK13 => ?_)
  refine pu_ (v := .int .i64 0) (y_assign rfl (by rfl) (by rfl)) ?_
  (try simp only [zP, zN, zA, zB, zC])
  refine nl_ (hK13 _ _ ?_); clear hK13 K13
  refine wp_block ?_
  refine loopk_ (fun (kq : Nat) (a' : Act) (w' : World) => ∃ (k : Nat), ∃ (hi : Nat), ∃ (S : HB), ∃ (us : Nat → Value), a' = ⟨#[.slice a0 len0 cap0, us 1, .bool false, .pointer (some ⟨b, 0, none⟩), .int .i64 k, us 5, us 6, us 7, us 8, us 9, us 10, us 11, us 12, us 13, us 14, us 15, us 16, us 17, us 18, us 19, us 20, us 21, us 22, us 23, us 24, us 25, us 26, us 27, us 28, us 29, us 30, us 31, us 32, us 33, us 34, us 35, us 36, us 37, us 38, us 39, us 40, us 41, us 42, us 43, us 44, us 45, us 46, us 47, us 48, us 49, us 50, us 51, us 52, us 53, us 54, us 55, us 56, us 57, us 58, us 59, us 60, us 61, us 62, us 63, us 64, us 65, us 66, us 67, us 68, us 69, us 70, us 71, us 72, us 73, us 74, us 75, us 76, us 77, us 78, us 79, us 80, us 81, us 82, us 83, us 84, us 85, us 86, us 87, us 88, us 89, us 90, us 91, us 92, us 93, us 94, us 95, us 96, us 97, us 98, us 99, us 100, us 101, us 102, us 103, us 104, us 105, us 106, us 107, us 108, us 109, us 110, us 111, us 112, us 113, us 114, us 115, us 116, us 117, us 118, us 119, us 120, us 121, us 122, us 123, us 124, us 125, us 126, us 127, us 128, us 129, us 130, us 131, us 132, us 133, us 134, us 135, us 136, us 137, us 138, us 139, us 140, us 141, us 142, us 143, us 144, us 145, us 146, us 147, us 148, us 149, us 150, us 151, us 152, us 153, us 154, us 155, us 156, us 157, us 158, us 159, us 160, us 161, us 162, us 163, us 164, us 165, us 166, us 167, us 168, us 169, us 170, us 171, us 172, us 173, us 174, us 175, us 176, us 177, us 178, us 179, us 180, us 181, us 182, us 183, us 184, us 185, us 186, us 187, us 188, us 189, us 190, us 191, us 192, us 193, us 194, us 195, us 196, us 197, us 198, us 199, us 200], []⟩ ∧ Hid (Ch [] w w') ∧ Hid (BookIs w' w.heap.size hi b (S)) ∧ Hid (hi ≤ w'.heap.size) ∧ Hid (k ≤ 80 ∧ k ≤ len0 ∧ kq + k = 80) ∧ Hid (TI S ∧ S.now ≤ k)) (80) (⟨0, w9.heap.size, ⟨0, [], []⟩, fun us_ => (#[.slice a0 len0 cap0, undef, .bool false, .pointer (some ⟨b, 0, none⟩), .int .i64 0, undef, undef, undef, undef, undef, undef, undef, undef, .bool true, .bool false, .pointer (some ⟨b, 0, none⟩), .pointer (some ⟨b, 0, none⟩), .bool false, undef, undef, undef, undef, undef, undef, undef, undef, undef, undef, undef, undef, undef, undef, undef, undef, undef, undef, undef, undef, undef, undef, undef, undef, undef, undef, undef, undef, undef, undef, undef, undef, undef, undef, undef, undef, undef, undef, undef, undef, undef, undef, undef, undef, undef, undef, undef, undef, undef, undef, undef, undef, undef, undef, undef, undef, undef, undef, undef, undef, undef, undef, undef, undef, undef, undef, undef, undef, undef, undef, undef, undef, undef, undef, undef, undef, undef, undef, undef, undef, undef, undef, undef, undef, undef, undef, undef, undef, undef, undef, undef, undef, undef, undef, undef, undef, undef, undef, undef, undef, undef, undef, undef, undef, undef, undef, undef, undef, undef, undef, undef, undef, undef, undef, undef, undef, undef, undef, undef, undef, undef, undef, undef, undef, undef, undef, undef, undef, undef, undef, undef, undef, undef, undef, undef, undef, undef, undef, undef, undef, undef, undef, undef, undef, undef, undef, undef, undef, undef, undef, undef, undef, undef, undef, undef, undef, undef, undef, undef, undef, undef, undef, undef, undef, undef, undef, undef, undef, undef, undef, undef, undef, undef, undef, undef, undef, undef, undef, undef, undef, undef, undef, undef] : Array Value).getD us_ undef, rfl, C0, BF, HI, Lib.hid ⟨by omega, by omega, rfl⟩, Lib.hid ⟨ti_new, Nat.le_refl _⟩⟩) ?_
  rintro kq _ w14 ⟨k, hi, S, us, rfl, C0, BF, HI, hk, ht⟩ K15 hK15
  refine sq_ (fun K16 hK16 => ?_)
  rcases (show (k < len0 ∧ k < 80) ∨ (k < len0 ∧ k = 80) ∨ k = len0 by have := hk.out; omega) with h | h | h
  · have hlt := Lib.hid h
    have D21 := Lib.hid (show k < len0 by omega)
    have D24 := Lib.hid (show decide ((k : Int) < 80) = true from decide_eq_true (by omega))
    have WA := Lib.hid (show IntKind.i64.wrap ((k : Int) + 1) = ((k + 1 : Nat) : Int) by rw [wr64 (by omega)]; omega)
    obtain ⟨A, kz, cz, nz, mz, cl, hab, hact, hok⟩ := acts_at HA.out h.1
    subst hab
    have HACT := Lib.hid (hact.ch C0.out (by simp))
    have HOK := Lib.hid hok
    have D35 := Lib.hid (show (k : Int) < (len0 : Int) by omega)
    have HS := Lib.hid (show S.now ≤ 1000 ∧ S.L.length ≤ 1000 by have := ht.out.1.len; have := ht.out.2; omega)
    have HSI := Lib.hid (show S.now ≤ 1000 ∧ S.I.length ≤ 1000 by have := ht.out.1.len; have := ht.out.2; omega)
    clear h hact hok
    refine s_ (fun K17 hK17 => ?_)
    refine pu_ (v := .int .i64 k) (y_move rfl (by rfl) (by rfl)) ?_
    (try simp only [zP, zN, zA, zB, zC])
    refine pu_ (v := .slice (some A) len0 cap0) (y_move rfl (by rfl) (by rfl)) ?_
    (try simp only [zP, zN, zA, zB, zC])
    refine pu_ (v := .int .i64 len0) (y_run (by rfl) (fun W => by go_simp)) ?_
    (try simp only [zP, zN, zA, zB, zC])
    refine pu_ (v := .bool true) (y_run (by rfl) (fun W => by have d := D21.out; go_simp)) ?_
    (try simp only [zP, zN, zA, zB, zC])
    refine pu_ (v := .bool true) (y_move rfl (by rfl) (by rfl)) ?_
    (try simp only [zP, zN, zA, zB, zC])
    refine pu_ (v := .int .i64 k) (y_move rfl (by rfl) (by rfl)) ?_
    (try simp only [zP, zN, zA, zB, zC])
    refine pu_ (v := .bool true) (y_run (by rfl) (fun W => by have d := D24.out; go_simp)) ?_
    (try simp only [zP, zN, zA, zB, zC])
    refine pu_ (v := .bool true) (y_pick (t := true) (by rfl) rfl (by rfl) (by rfl)) ?_
    (try simp only [zP, zN, zA, zB, zC])
    refine nl_ (hK17 _ _ ?_); clear hK17 K17
    refine wp_cond_true rfl ?_
    refine wp_skip ?_
    refine th_norm (hK16 _ _ ?_); try clear hK16 K16
    refine sq_ (fun K18 hK18 => ?_)
    refine wp_block ?_
    refine s_ (fun K19 hK19 => ?_)
    refine pu_ (v := .slice (some A) len0 cap0) (y_move rfl (by rfl) (by rfl)) ?_
    (try simp only [zP, zN, zA, zB, zC])
    refine pu_ (v := .int .i64 k) (y_move rfl (by rfl) (by rfl)) ?_
    (try simp only [zP, zN, zA, zB, zC])
    refine pu_ (v := .pointer (some (A.add (k * 20)))) (y_run (by rfl) (fun W => by have d := D35.out; go_simp)) ?_
    (try simp only [zP, zN, zA, zB, zC])
    refine ld_ (v := .agg (actA kz cz nz mz cl)) rfl (by rfl) (by rfl) (run_loadVar_at HACT.out Try.underlying34 rfl (by rw [List.length_cons, List.length_cons, List.length_cons, List.length_cons, cl.2.1]; kernel_rfl)) ?_
    (try simp only [zP, zN, zA, zB, zC])
    refine ef_ (fun K20 hK20 => ?_)
    refine e_alloc (by rfl) rfl rfl (cs := #[.int .i64 0, .int .i64 0, .int .i64 0, .int .i64 0, .int .i64 0, .int .i64 0, .int .u64 0, .string ⟨#[]⟩, .slice none 0 0, .slice none 0 0, .slice none 0 0, .int .i64 0, .int .i64 0, .int .i64 0, .int .i64 0, .int .i64 0, .int .i64 0, .int .i64 0, .string ⟨#[]⟩, .slice none 0 0]) (by kernel_rfl) ?_
    rintro g21 w22 HG23 B24 C25
    have nw26 := Lib.hid (show w.heap.size ≤ g21 by have := C0.out.size; have := HG23.out; omega)
    have hg27 := Lib.hid (show hi ≤ g21 by have := HI.out; have := HG23.out; omega)
    have C0' := Lib.hid (show Ch [] w w22 from C0.out.trans' C25 (fun x hx => absurd hx (by simp)))
    have BF' := Lib.hid (show BookIs w22 w.heap.size hi b (S) from BF.out.ch C25 (fun x hx => absurd hx (by simp)))
    have HI' := Lib.hid (show hi ≤ w22.heap.size from Nat.le_trans HI.out C25.size)
    clear C0 BF HI
    have C0 := C0'; clear C0'
    have BF := BF'; clear BF'
    have HI := HI'; clear HI'
    have Fg21 := Lib.hid (show Blk w22 g21 (#[.int .i64 0, .int .i64 0, .int .i64 0, .int .i64 0, .int .i64 0, .int .i64 0, .int .u64 0, .string ⟨#[]⟩, .slice none 0 0, .slice none 0 0, .slice none 0 0, .int .i64 0, .int .i64 0, .int .i64 0, .int .i64 0, .int .i64 0, .int .i64 0, .int .i64 0, .string ⟨#[]⟩, .slice none 0 0]) 34 from B24); clear B24 C25
    refine hK20 _ _ ?_; clear hK20 K20
    (try simp only [zP, zN, zA, zB, zC])
    refine ef_ (fun K28 hK28 => ?_)
    refine e_storeN (cells := actA kz cz nz mz cl) (by rfl) rfl rfl (by rfl) (by rfl) Fg21.out (sz34 kz cz nz mz cl) (by rw [actA_size]; rfl) (actA_one kz cz nz mz cl) ?_
    rintro w29 B30 C31
    have C0' := Lib.hid (show Ch [] w w29 from C0.out.trans' C31 (inw_cons (.inr nw26.out) inw_nil))
    have BF' := Lib.hid (show BookIs w29 w.heap.size hi b (S) from BF.out.ch C31 (fun x hx => .inr (by rw [List.mem_singleton.1 hx]; exact hg27.out)))
    have HI' := Lib.hid (show hi ≤ w29.heap.size from Nat.le_trans HI.out C31.size)
    clear C0 BF HI
    have C0 := C0'; clear C0'
    have BF := BF'; clear BF'
    have HI := HI'; clear HI'
    clear Fg21; have Fg21 := Lib.hid (show Blk w29 g21 (actA kz cz nz mz cl) 34 from B30); clear B30 C31
    refine hK28 _ _ ?_; clear hK28 K28
    (try simp only [zP, zN, zA, zB, zC])
    refine nl_ (hK19 _ _ ?_); clear hK19 K19
    refine s_ (fun K32 hK32 => ?_)
    refine pu_ (v := .pointer (some ⟨g21, 0, none⟩)) (y_run (by rfl) (fun W => by go_simp)) ?_
    (try simp only [zP, zN, zA, zB, zC])
    refine ld_ (v := .int .i64 kz) rfl (by rfl) (by rfl) (run_load_one ((Fg21.out.cell 0).trans (by simp [actA])) Try.underlying3 rfl) ?_
    (try simp only [zP, zN, zA, zB, zC])
    refine nl_ (hK32 _ _ ?_); clear hK32 K32
    refine wp_block ?_
    rcases kinds4 kz with h | h | h | h
    · have hz := h; subst hz
      skip
      have D37 := Lib.hid (show ((0 : Int) == 0) = true from by rfl)
      have HT2 := Lib.hid (show TI (askS S cz nz) ∧ (askS S cz nz).now ≤ k + 1 from ⟨ti_ask ht.out.1 cz nz, Nat.le_trans (now_ask S cz nz) (Nat.succ_le_succ ht.out.2)⟩)
      refine s_ (fun K33 hK33 => ?_)
      refine pu_ (v := .bool true) (y_run (by rfl) (fun W => by have d := D37.out; go_simp)) ?_
      (try simp only [zP, zN, zA, zB, zC])
      refine pu_ (v := .bool true) (y_assign rfl (by rfl) (by rfl)) ?_
      (try simp only [zP, zN, zA, zB, zC])
      refine nl_ (hK33 _ _ ?_); clear hK33 K33
      refine wp_cond_true rfl ?_
      refine r_ ?_
      refine pu_ (v := .pointer (some ⟨b, 0, none⟩)) (y_move rfl (by rfl) (by rfl)) ?_
      (try simp only [zP, zN, zA, zB, zC])
      refine pu_ (v := .pointer (some ⟨g21, 1, none⟩)) (y_run (by rfl) (fun W => by go_simp)) ?_
      (try simp only [zP, zN, zA, zB, zC])
      refine ld_ (v := .int .i64 cz) rfl (by rfl) (by rfl) (run_load_one ((Fg21.out.cell 1).trans (by simp [actA])) Try.underlying3 rfl) ?_
      (try simp only [zP, zN, zA, zB, zC])
      refine pu_ (v := .pointer (some ⟨g21, 2, none⟩)) (y_run (by rfl) (fun W => by go_simp)) ?_
      (try simp only [zP, zN, zA, zB, zC])
      refine ld_ (v := .int .i64 nz) rfl (by rfl) (by rfl) (run_load_one ((Fg21.out.cell 2).trans (by simp [actA])) Try.underlying3 rfl) ?_
      (try simp only [zP, zN, zA, zB, zC])
      refine ef_ (fun K34 hK34 => ?_)
      refine e_call Try.func10 (by kernel_rfl) rfl #[.pointer (some ⟨b, 0, none⟩), .int .i64 cz, .int .i64 nz] (by rfl) rfl rfl (by first | rfl | (simp only [List.map_toArray, List.map_cons, List.map_nil]; first | done | rfl)) ((ask_all (c := cz) (n := nz) BF.out HOK.out HS.out C0.out.size HI.out)) ?_
      rintro en w35 ⟨rfl, bk2, bel⟩
      refine ⟨_, rfl, ?_⟩
      have C1 := Lib.hid (chB (C0.out.below0.trans bel))
      clear C0 bel BF HI
      have C0 := C1
      clear C1
      have BF := Lib.hid (show BookIs w35 w.heap.size w35.heap.size b (askS S cz nz) from bk2)
      clear bk2
      have HI := Lib.hid (show w35.heap.size ≤ w35.heap.size from Nat.le_refl _)
      refine hK34 _ _ ?_; clear hK34 K34
      (try simp only [zP, zN, zA, zB, zC])
      refine nl_ ?_
      refine ib_norm ?_
      refine ib_norm ?_
      refine th_norm (hK18 _ _ ?_); try clear hK18 K18
      refine r_ ?_
      refine pu_ (v := .int .i64 k) (y_move rfl (by rfl) (by rfl)) ?_
      (try simp only [zP, zN, zA, zB, zC])
      refine pu_ (v := .int .i64 (k + 1 : Nat)) (y_run (by rfl) (fun W => by have d := WA.out; go_simp)) ?_
      (try simp only [zP, zN, zA, zB, zC])
      refine pu_ (v := .int .i64 (k + 1 : Nat)) (y_assign rfl (by rfl) (by rfl)) ?_
      (try simp only [zP, zN, zA, zB, zC])
      refine nl_ ?_
      exact th_norm (hK15 (kq - 1) _ _ (by have := hlt.out; have := hk.out; omega) ⟨k + 1, _, _, fun us_ => (#[.slice (some A) len0 cap0, us 1, .bool false, .pointer (some ⟨b, 0, none⟩), .int .i64 (k + 1 : Nat), .pointer (some ⟨g21, 0, none⟩), us 6, us 7, us 8, us 9, us 10, us 11, us 12, us 13, us 14, us 15, us 16, us 17, .int .i64 k, .slice (some A) len0 cap0, .int .i64 len0, .bool true, .bool true, .int .i64 k, .bool true, .bool true, .int .i64 k, .int .i64 (k + 1 : Nat), .slice (some A) len0 cap0, .int .i64 k, .pointer (some (A.add (k * 20))), .agg (actA ((0 : Int)) cz nz mz cl), .pointer (some ⟨g21, 0, none⟩), .int .i64 ((0 : Int)), us 34, us 35, .bool true, .bool true, .pointer (some ⟨b, 0, none⟩), .pointer (some ⟨g21, 1, none⟩), .int .i64 cz, .pointer (some ⟨g21, 2, none⟩), .int .i64 nz, .tuple #[.int .i64 (askR S cz nz).1, .int .i64 (askR S cz nz).2], us 44, us 45, us 46, us 47, us 48, us 49, us 50, us 51, us 52, us 53, us 54, us 55, us 56, us 57, us 58, us 59, us 60, us 61, us 62, us 63, us 64, us 65, us 66, us 67, us 68, us 69, us 70, us 71, us 72, us 73, us 74, us 75, us 76, us 77, us 78, us 79, us 80, us 81, us 82, us 83, us 84, us 85, us 86, us 87, us 88, us 89, us 90, us 91, us 92, us 93, us 94, us 95, us 96, us 97, us 98, us 99, us 100, us 101, us 102, us 103, us 104, us 105, us 106, us 107, us 108, us 109, us 110, us 111, us 112, us 113, us 114, us 115, us 116, us 117, us 118, us 119, us 120, us 121, us 122, us 123, us 124, us 125, us 126, us 127, us 128, us 129, us 130, us 131, us 132, us 133, us 134, us 135, us 136, us 137, us 138, us 139, us 140, us 141, us 142, us 143, us 144, us 145, us 146, us 147, us 148, us 149, us 150, us 151, us 152, us 153, us 154, us 155, us 156, us 157, us 158, us 159, us 160, us 161, us 162, us 163, us 164, us 165, us 166, us 167, us 168, us 169, us 170, us 171, us 172, us 173, us 174, us 175, us 176, us 177, us 178, us 179, us 180, us 181, us 182, us 183, us 184, us 185, us 186, us 187, us 188, us 189, us 190, us 191, us 192, us 193, us 194, us 195, us 196, us 197, us 198, us 199, us 200] : Array Value).getD us_ undef, rfl, C0, BF, HI, Lib.hid ⟨by have := hlt.out; omega, by have := hlt.out; omega, by have := hlt.out; have := hk.out; omega⟩, HT2⟩)
    · have hz := h; subst hz
      skip
      have D37 := Lib.hid (show ((1 : Int) == 0) = false from by rfl)
      have D45 := Lib.hid (show ((1 : Int) == 1) = true from by rfl)
      have HT2 := Lib.hid (show TI (doS S cz nz ZC ZR) ∧ (doS S cz nz ZC ZR).now ≤ k + 1 from ⟨ti_do ht.out.1 cz nz ZC ZR, Nat.le_trans (now_do S cz nz ZC ZR) (Nat.succ_le_succ ht.out.2)⟩)
      refine s_ (fun K36 hK36 => ?_)
      refine pu_ (v := .bool false) (y_run (by rfl) (fun W => by have d := D37.out; go_simp)) ?_
      (try simp only [zP, zN, zA, zB, zC])
      refine pu_ (v := .bool false) (y_assign rfl (by rfl) (by rfl)) ?_
      (try simp only [zP, zN, zA, zB, zC])
      refine nl_ (hK36 _ _ ?_); clear hK36 K36
      refine wp_cond_false rfl ?_
      refine s_ (fun K37 hK37 => ?_)
      refine pu_ (v := .bool true) (y_run (by rfl) (fun W => by have d := D45.out; go_simp)) ?_
      (try simp only [zP, zN, zA, zB, zC])
      refine pu_ (v := .bool true) (y_assign rfl (by rfl) (by rfl)) ?_
      (try simp only [zP, zN, zA, zB, zC])
      refine nl_ (hK37 _ _ ?_); clear hK37 K37
      refine wp_cond_true rfl ?_
      refine r_ ?_
      refine pu_ (v := .pointer (some ⟨b, 0, none⟩)) (y_move rfl (by rfl) (by rfl)) ?_
      (try simp only [zP, zN, zA, zB, zC])
      refine pu_ (v := .pointer (some ⟨g21, 1, none⟩)) (y_run (by rfl) (fun W => by go_simp)) ?_
      (try simp only [zP, zN, zA, zB, zC])
      refine ld_ (v := .int .i64 cz) rfl (by rfl) (by rfl) (run_load_one ((Fg21.out.cell 1).trans (by simp [actA])) Try.underlying3 rfl) ?_
      (try simp only [zP, zN, zA, zB, zC])
      refine pu_ (v := .pointer (some ⟨g21, 2, none⟩)) (y_run (by rfl) (fun W => by go_simp)) ?_
      (try simp only [zP, zN, zA, zB, zC])
      refine ld_ (v := .int .i64 nz) rfl (by rfl) (by rfl) (run_load_one ((Fg21.out.cell 2).trans (by simp [actA])) Try.underlying3 rfl) ?_
      (try simp only [zP, zN, zA, zB, zC])
      refine pu_ (v := .agg #[.int .i64 0, .int .i64 0, .int .u64 0, .string ⟨#[]⟩, .slice none 0 0, .slice none 0 0, .slice none 0 0, .int .i64 0, .int .i64 0, .int .i64 0, .int .i64 0, .int .i64 0, .int .i64 0, .int .i64 0, .string ⟨#[]⟩, .slice none 0 0]) (y_build (vs := #[]) (by rfl) rfl (by first | rfl | (simp only [List.map_toArray, List.map_cons, List.map_nil]; first | done | rfl)) (by kernel_rfl)) ?_
      (try simp only [zP, zN, zA, zB, zC])
      refine pu_ (v := .agg #[.int .i64 0, .int .i64 0, .int .i64 0, .int .u64 0, .string ⟨#[]⟩, .slice none 0 0, .slice none 0 0]) (y_build (vs := #[]) (by rfl) rfl (by first | rfl | (simp only [List.map_toArray, List.map_cons, List.map_nil]; first | done | rfl)) (by kernel_rfl)) ?_
      (try simp only [zP, zN, zA, zB, zC])
      refine ef_ (fun K38 hK38 => ?_)
      refine e_call Try.func11 (by kernel_rfl) rfl #[.pointer (some ⟨b, 0, none⟩), .int .i64 cz, .int .i64 nz, .agg #[.int .i64 0, .int .i64 0, .int .u64 0, .string ⟨#[]⟩, .slice none 0 0, .slice none 0 0, .slice none 0 0, .int .i64 0, .int .i64 0, .int .i64 0, .int .i64 0, .int .i64 0, .int .i64 0, .int .i64 0, .string ⟨#[]⟩, .slice none 0 0], .agg #[.int .i64 0, .int .i64 0, .int .i64 0, .int .u64 0, .string ⟨#[]⟩, .slice none 0 0, .slice none 0 0]] (by rfl) rfl rfl (by first | rfl | (simp only [List.map_toArray, List.map_cons, List.map_nil]; first | done | rfl)) ((do_all (c := cz) (n := nz) (CA := ZC) (RA := ZR) BF.out HOK.out HS.out C0.out.size HI.out)) ?_
      rintro en w39 ⟨rfl, bk2, bel⟩
      refine ⟨_, rfl, ?_⟩
      have C1 := Lib.hid (chB (C0.out.below0.trans bel))
      clear C0 bel BF HI
      have C0 := C1
      clear C1
      have BF := Lib.hid (show BookIs w39 w.heap.size w39.heap.size b (doS S cz nz ZC ZR) from bk2)
      clear bk2
      have HI := Lib.hid (show w39.heap.size ≤ w39.heap.size from Nat.le_refl _)
      refine hK38 _ _ ?_; clear hK38 K38
      (try simp only [zP, zN, zA, zB, zC])
      refine nl_ ?_
      refine ib_norm ?_
      refine ib_norm ?_
      refine th_norm (hK18 _ _ ?_); try clear hK18 K18
      refine r_ ?_
      refine pu_ (v := .int .i64 k) (y_move rfl (by rfl) (by rfl)) ?_
      (try simp only [zP, zN, zA, zB, zC])
      refine pu_ (v := .int .i64 (k + 1 : Nat)) (y_run (by rfl) (fun W => by have d := WA.out; go_simp)) ?_
      (try simp only [zP, zN, zA, zB, zC])
      refine pu_ (v := .int .i64 (k + 1 : Nat)) (y_assign rfl (by rfl) (by rfl)) ?_
      (try simp only [zP, zN, zA, zB, zC])
      refine nl_ ?_
      exact th_norm (hK15 (kq - 1) _ _ (by have := hlt.out; have := hk.out; omega) ⟨k + 1, _, _, fun us_ => (#[.slice (some A) len0 cap0, us 1, .bool false, .pointer (some ⟨b, 0, none⟩), .int .i64 (k + 1 : Nat), .pointer (some ⟨g21, 0, none⟩), us 6, us 7, us 8, us 9, us 10, us 11, us 12, us 13, us 14, us 15, us 16, us 17, .int .i64 k, .slice (some A) len0 cap0, .int .i64 len0, .bool true, .bool true, .int .i64 k, .bool true, .bool true, .int .i64 k, .int .i64 (k + 1 : Nat), .slice (some A) len0 cap0, .int .i64 k, .pointer (some (A.add (k * 20))), .agg (actA ((1 : Int)) cz nz mz cl), .pointer (some ⟨g21, 0, none⟩), .int .i64 ((1 : Int)), us 34, us 35, .bool false, .bool false, us 38, us 39, us 40, us 41, us 42, us 43, .bool true, .bool true, .pointer (some ⟨b, 0, none⟩), .pointer (some ⟨g21, 1, none⟩), .int .i64 cz, .pointer (some ⟨g21, 2, none⟩), .int .i64 nz, .agg #[.int .i64 0, .int .i64 0, .int .u64 0, .string ⟨#[]⟩, .slice none 0 0, .slice none 0 0, .slice none 0 0, .int .i64 0, .int .i64 0, .int .i64 0, .int .i64 0, .int .i64 0, .int .i64 0, .int .i64 0, .string ⟨#[]⟩, .slice none 0 0], .agg #[.int .i64 0, .int .i64 0, .int .i64 0, .int .u64 0, .string ⟨#[]⟩, .slice none 0 0, .slice none 0 0], .tuple #[.int .i64 (doR S cz nz).1, .int .i64 (doR S cz nz).2], us 54, us 55, us 56, us 57, us 58, us 59, us 60, us 61, us 62, us 63, us 64, us 65, us 66, us 67, us 68, us 69, us 70, us 71, us 72, us 73, us 74, us 75, us 76, us 77, us 78, us 79, us 80, us 81, us 82, us 83, us 84, us 85, us 86, us 87, us 88, us 89, us 90, us 91, us 92, us 93, us 94, us 95, us 96, us 97, us 98, us 99, us 100, us 101, us 102, us 103, us 104, us 105, us 106, us 107, us 108, us 109, us 110, us 111, us 112, us 113, us 114, us 115, us 116, us 117, us 118, us 119, us 120, us 121, us 122, us 123, us 124, us 125, us 126, us 127, us 128, us 129, us 130, us 131, us 132, us 133, us 134, us 135, us 136, us 137, us 138, us 139, us 140, us 141, us 142, us 143, us 144, us 145, us 146, us 147, us 148, us 149, us 150, us 151, us 152, us 153, us 154, us 155, us 156, us 157, us 158, us 159, us 160, us 161, us 162, us 163, us 164, us 165, us 166, us 167, us 168, us 169, us 170, us 171, us 172, us 173, us 174, us 175, us 176, us 177, us 178, us 179, us 180, us 181, us 182, us 183, us 184, us 185, us 186, us 187, us 188, us 189, us 190, us 191, us 192, us 193, us 194, us 195, us 196, us 197, us 198, us 199, us 200] : Array Value).getD us_ undef, rfl, C0, BF, HI, Lib.hid ⟨by have := hlt.out; omega, by have := hlt.out; omega, by have := hlt.out; have := hk.out; omega⟩, HT2⟩)
    · have hz := h; subst hz
      skip
      have D37 := Lib.hid (show ((2 : Int) == 0) = false from by rfl)
      have D45 := Lib.hid (show ((2 : Int) == 1) = false from by rfl)
      have D55 := Lib.hid (show ((2 : Int) == 2) = true from by rfl)
      have HT2 := Lib.hid (show TI (tellS S cz nz) ∧ (tellS S cz nz).now ≤ k + 1 from ⟨ti_tell ht.out.1 cz nz, Nat.le_trans (now_tell S cz nz) (Nat.succ_le_succ ht.out.2)⟩)
      refine s_ (fun K40 hK40 => ?_)
      refine pu_ (v := .bool false) (y_run (by rfl) (fun W => by have d := D37.out; go_simp)) ?_
      (try simp only [zP, zN, zA, zB, zC])
      refine pu_ (v := .bool false) (y_assign rfl (by rfl) (by rfl)) ?_
      (try simp only [zP, zN, zA, zB, zC])
      refine nl_ (hK40 _ _ ?_); clear hK40 K40
      refine wp_cond_false rfl ?_
      refine s_ (fun K41 hK41 => ?_)
      refine pu_ (v := .bool false) (y_run (by rfl) (fun W => by have d := D45.out; go_simp)) ?_
      (try simp only [zP, zN, zA, zB, zC])
      refine pu_ (v := .bool false) (y_assign rfl (by rfl) (by rfl)) ?_
      (try simp only [zP, zN, zA, zB, zC])
      refine nl_ (hK41 _ _ ?_); clear hK41 K41
      refine wp_cond_false rfl ?_
      refine s_ (fun K42 hK42 => ?_)
      refine pu_ (v := .bool true) (y_run (by rfl) (fun W => by have d := D55.out; go_simp)) ?_
      (try simp only [zP, zN, zA, zB, zC])
      refine pu_ (v := .bool true) (y_assign rfl (by rfl) (by rfl)) ?_
      (try simp only [zP, zN, zA, zB, zC])
      refine nl_ (hK42 _ _ ?_); clear hK42 K42
      refine wp_cond_true rfl ?_
      refine r_ ?_
      refine pu_ (v := .pointer (some ⟨b, 0, none⟩)) (y_move rfl (by rfl) (by rfl)) ?_
      (try simp only [zP, zN, zA, zB, zC])
      refine pu_ (v := .pointer (some ⟨g21, 1, none⟩)) (y_run (by rfl) (fun W => by go_simp)) ?_
      (try simp only [zP, zN, zA, zB, zC])
      refine ld_ (v := .int .i64 cz) rfl (by rfl) (by rfl) (run_load_one ((Fg21.out.cell 1).trans (by simp [actA])) Try.underlying3 rfl) ?_
      (try simp only [zP, zN, zA, zB, zC])
      refine pu_ (v := .pointer (some ⟨g21, 2, none⟩)) (y_run (by rfl) (fun W => by go_simp)) ?_
      (try simp only [zP, zN, zA, zB, zC])
      refine ld_ (v := .int .i64 nz) rfl (by rfl) (by rfl) (run_load_one ((Fg21.out.cell 2).trans (by simp [actA])) Try.underlying3 rfl) ?_
      (try simp only [zP, zN, zA, zB, zC])
      refine ef_ (fun K43 hK43 => ?_)
      refine e_call Try.func12 (by kernel_rfl) rfl #[.pointer (some ⟨b, 0, none⟩), .int .i64 cz, .int .i64 nz] (by rfl) rfl rfl (by first | rfl | (simp only [List.map_toArray, List.map_cons, List.map_nil]; first | done | rfl)) ((tell_all (c := cz) (n := nz) BF.out HOK.out HS.out C0.out.size HI.out)) ?_
      rintro en w44 ⟨rfl, bk2, bel⟩
      refine ⟨_, rfl, ?_⟩
      have C1 := Lib.hid (chB (C0.out.below0.trans bel))
      clear C0 bel BF HI
      have C0 := C1
      clear C1
      have BF := Lib.hid (show BookIs w44 w.heap.size w44.heap.size b (tellS S cz nz) from bk2)
      clear bk2
      have HI := Lib.hid (show w44.heap.size ≤ w44.heap.size from Nat.le_refl _)
      refine hK43 _ _ ?_; clear hK43 K43
      (try simp only [zP, zN, zA, zB, zC])
      refine nl_ ?_
      refine ib_norm ?_
      refine ib_norm ?_
      refine th_norm (hK18 _ _ ?_); try clear hK18 K18
      refine r_ ?_
      refine pu_ (v := .int .i64 k) (y_move rfl (by rfl) (by rfl)) ?_
      (try simp only [zP, zN, zA, zB, zC])
      refine pu_ (v := .int .i64 (k + 1 : Nat)) (y_run (by rfl) (fun W => by have d := WA.out; go_simp)) ?_
      (try simp only [zP, zN, zA, zB, zC])
      refine pu_ (v := .int .i64 (k + 1 : Nat)) (y_assign rfl (by rfl) (by rfl)) ?_
      (try simp only [zP, zN, zA, zB, zC])
      refine nl_ ?_
      exact th_norm (hK15 (kq - 1) _ _ (by have := hlt.out; have := hk.out; omega) ⟨k + 1, _, _, fun us_ => (#[.slice (some A) len0 cap0, us 1, .bool false, .pointer (some ⟨b, 0, none⟩), .int .i64 (k + 1 : Nat), .pointer (some ⟨g21, 0, none⟩), us 6, us 7, us 8, us 9, us 10, us 11, us 12, us 13, us 14, us 15, us 16, us 17, .int .i64 k, .slice (some A) len0 cap0, .int .i64 len0, .bool true, .bool true, .int .i64 k, .bool true, .bool true, .int .i64 k, .int .i64 (k + 1 : Nat), .slice (some A) len0 cap0, .int .i64 k, .pointer (some (A.add (k * 20))), .agg (actA ((2 : Int)) cz nz mz cl), .pointer (some ⟨g21, 0, none⟩), .int .i64 ((2 : Int)), us 34, us 35, .bool false, .bool false, us 38, us 39, us 40, us 41, us 42, us 43, .bool false, .bool false, us 46, us 47, us 48, us 49, us 50, us 51, us 52, us 53, .bool true, .bool true, .pointer (some ⟨b, 0, none⟩), .pointer (some ⟨g21, 1, none⟩), .int .i64 cz, .pointer (some ⟨g21, 2, none⟩), .int .i64 nz, .tuple #[.int .i64 (tellR S cz nz).1, .int .i64 (tellR S cz nz).2], us 62, us 63, us 64, us 65, us 66, us 67, us 68, us 69, us 70, us 71, us 72, us 73, us 74, us 75, us 76, us 77, us 78, us 79, us 80, us 81, us 82, us 83, us 84, us 85, us 86, us 87, us 88, us 89, us 90, us 91, us 92, us 93, us 94, us 95, us 96, us 97, us 98, us 99, us 100, us 101, us 102, us 103, us 104, us 105, us 106, us 107, us 108, us 109, us 110, us 111, us 112, us 113, us 114, us 115, us 116, us 117, us 118, us 119, us 120, us 121, us 122, us 123, us 124, us 125, us 126, us 127, us 128, us 129, us 130, us 131, us 132, us 133, us 134, us 135, us 136, us 137, us 138, us 139, us 140, us 141, us 142, us 143, us 144, us 145, us 146, us 147, us 148, us 149, us 150, us 151, us 152, us 153, us 154, us 155, us 156, us 157, us 158, us 159, us 160, us 161, us 162, us 163, us 164, us 165, us 166, us 167, us 168, us 169, us 170, us 171, us 172, us 173, us 174, us 175, us 176, us 177, us 178, us 179, us 180, us 181, us 182, us 183, us 184, us 185, us 186, us 187, us 188, us 189, us 190, us 191, us 192, us 193, us 194, us 195, us 196, us 197, us 198, us 199, us 200] : Array Value).getD us_ undef, rfl, C0, BF, HI, Lib.hid ⟨by have := hlt.out; omega, by have := hlt.out; omega, by have := hlt.out; have := hk.out; omega⟩, HT2⟩)
    · skip
      have D37 := Lib.hid (show (kz == 0) = false from by exact beq_eq_false_iff_ne.2 h.1)
      have D45 := Lib.hid (show (kz == 1) = false from by exact beq_eq_false_iff_ne.2 h.2.1)
      have D55 := Lib.hid (show (kz == 2) = false from by exact beq_eq_false_iff_ne.2 h.2.2)
      have HT2 := Lib.hid (show TI ((⟨S.now + 1, S.L, S.I ++ [((S.now + 1 : Nat) : Int)]⟩ : HB)) ∧ ((⟨S.now + 1, S.L, S.I ++ [((S.now + 1 : Nat) : Int)]⟩ : HB)).now ≤ k + 1 from ⟨ti_inner ht.out.1, Nat.le_trans (Nat.le_refl _) (Nat.succ_le_succ ht.out.2)⟩)
      refine s_ (fun K45 hK45 => ?_)
      refine pu_ (v := .bool false) (y_run (by rfl) (fun W => by have d := D37.out; go_simp)) ?_
      (try simp only [zP, zN, zA, zB, zC])
      refine pu_ (v := .bool false) (y_assign rfl (by rfl) (by rfl)) ?_
      (try simp only [zP, zN, zA, zB, zC])
      refine nl_ (hK45 _ _ ?_); clear hK45 K45
      refine wp_cond_false rfl ?_
      refine s_ (fun K46 hK46 => ?_)
      refine pu_ (v := .bool false) (y_run (by rfl) (fun W => by have d := D45.out; go_simp)) ?_
      (try simp only [zP, zN, zA, zB, zC])
      refine pu_ (v := .bool false) (y_assign rfl (by rfl) (by rfl)) ?_
      (try simp only [zP, zN, zA, zB, zC])
      refine nl_ (hK46 _ _ ?_); clear hK46 K46
      refine wp_cond_false rfl ?_
      refine s_ (fun K47 hK47 => ?_)
      refine pu_ (v := .bool false) (y_run (by rfl) (fun W => by have d := D55.out; go_simp)) ?_
      (try simp only [zP, zN, zA, zB, zC])
      refine pu_ (v := .bool false) (y_assign rfl (by rfl) (by rfl)) ?_
      (try simp only [zP, zN, zA, zB, zC])
      refine nl_ (hK47 _ _ ?_); clear hK47 K47
      refine wp_cond_false rfl ?_
      refine r_ ?_
      refine pu_ (v := .pointer (some ⟨b, 0, none⟩)) (y_move rfl (by rfl) (by rfl)) ?_
      (try simp only [zP, zN, zA, zB, zC])
      refine ef_ (fun K48 hK48 => ?_)
      refine e_call Try.func13 (by kernel_rfl) rfl #[.pointer (some ⟨b, 0, none⟩)] (by rfl) rfl rfl (by first | rfl | (simp only [List.map_toArray, List.map_cons, List.map_nil]; first | done | rfl)) ((inner_all BF.out HSI.out C0.out.size HI.out)) ?_
      rintro en w49 ⟨rfl, bk2, bel⟩
      refine ⟨_, rfl, ?_⟩
      have C1 := Lib.hid (chB (C0.out.below0.trans bel))
      clear C0 bel BF HI
      have C0 := C1
      clear C1
      have BF := Lib.hid (show BookIs w49 w.heap.size w49.heap.size b ((⟨S.now + 1, S.L, S.I ++ [((S.now + 1 : Nat) : Int)]⟩ : HB)) from bk2)
      clear bk2
      have HI := Lib.hid (show w49.heap.size ≤ w49.heap.size from Nat.le_refl _)
      refine hK48 _ _ ?_; clear hK48 K48
      (try simp only [zP, zN, zA, zB, zC])
      refine nl_ ?_
      refine ib_norm ?_
      refine ib_norm ?_
      refine th_norm (hK18 _ _ ?_); try clear hK18 K18
      refine r_ ?_
      refine pu_ (v := .int .i64 k) (y_move rfl (by rfl) (by rfl)) ?_
      (try simp only [zP, zN, zA, zB, zC])
      refine pu_ (v := .int .i64 (k + 1 : Nat)) (y_run (by rfl) (fun W => by have d := WA.out; go_simp)) ?_
      (try simp only [zP, zN, zA, zB, zC])
      refine pu_ (v := .int .i64 (k + 1 : Nat)) (y_assign rfl (by rfl) (by rfl)) ?_
      (try simp only [zP, zN, zA, zB, zC])
      refine nl_ ?_
      exact th_norm (hK15 (kq - 1) _ _ (by have := hlt.out; have := hk.out; omega) ⟨k + 1, _, _, fun us_ => (#[.slice (some A) len0 cap0, us 1, .bool false, .pointer (some ⟨b, 0, none⟩), .int .i64 (k + 1 : Nat), .pointer (some ⟨g21, 0, none⟩), us 6, us 7, us 8, us 9, us 10, us 11, us 12, us 13, us 14, us 15, us 16, us 17, .int .i64 k, .slice (some A) len0 cap0, .int .i64 len0, .bool true, .bool true, .int .i64 k, .bool true, .bool true, .int .i64 k, .int .i64 (k + 1 : Nat), .slice (some A) len0 cap0, .int .i64 k, .pointer (some (A.add (k * 20))), .agg (actA kz cz nz mz cl), .pointer (some ⟨g21, 0, none⟩), .int .i64 kz, .pointer (some ⟨b, 0, none⟩), .int .i64 (S.now + 1 : Nat), .bool false, .bool false, us 38, us 39, us 40, us 41, us 42, us 43, .bool false, .bool false, us 46, us 47, us 48, us 49, us 50, us 51, us 52, us 53, .bool false, .bool false, us 56, us 57, us 58, us 59, us 60, us 61, us 62, us 63, us 64, us 65, us 66, us 67, us 68, us 69, us 70, us 71, us 72, us 73, us 74, us 75, us 76, us 77, us 78, us 79, us 80, us 81, us 82, us 83, us 84, us 85, us 86, us 87, us 88, us 89, us 90, us 91, us 92, us 93, us 94, us 95, us 96, us 97, us 98, us 99, us 100, us 101, us 102, us 103, us 104, us 105, us 106, us 107, us 108, us 109, us 110, us 111, us 112, us 113, us 114, us 115, us 116, us 117, us 118, us 119, us 120, us 121, us 122, us 123, us 124, us 125, us 126, us 127, us 128, us 129, us 130, us 131, us 132, us 133, us 134, us 135, us 136, us 137, us 138, us 139, us 140, us 141, us 142, us 143, us 144, us 145, us 146, us 147, us 148, us 149, us 150, us 151, us 152, us 153, us 154, us 155, us 156, us 157, us 158, us 159, us 160, us 161, us 162, us 163, us 164, us 165, us 166, us 167, us 168, us 169, us 170, us 171, us 172, us 173, us 174, us 175, us 176, us 177, us 178, us 179, us 180, us 181, us 182, us 183, us 184, us 185, us 186, us 187, us 188, us 189, us 190, us 191, us 192, us 193, us 194, us 195, us 196, us 197, us 198, us 199, us 200] : Array Value).getD us_ undef, rfl, C0, BF, HI, Lib.hid ⟨by have := hlt.out; omega, by have := hlt.out; omega, by have := hlt.out; have := hk.out; omega⟩, HT2⟩)
  · have D21 := Lib.hid (show k < len0 by omega)
    have D24 := Lib.hid (show decide ((k : Int) < 80) = false from decide_eq_false (by omega))
    clear h
    refine s_ (fun K50 hK50 => ?_)
    refine pu_ (v := .int .i64 k) (y_move rfl (by rfl) (by rfl)) ?_
    (try simp only [zP, zN, zA, zB, zC])
    refine pu_ (v := .slice a0 len0 cap0) (y_move rfl (by rfl) (by rfl)) ?_
    (try simp only [zP, zN, zA, zB, zC])
    refine pu_ (v := .int .i64 len0) (y_run (by rfl) (fun W => by go_simp)) ?_
    (try simp only [zP, zN, zA, zB, zC])
    refine pu_ (v := .bool true) (y_run (by rfl) (fun W => by have d := D21.out; go_simp)) ?_
    (try simp only [zP, zN, zA, zB, zC])
    refine pu_ (v := .bool true) (y_move rfl (by rfl) (by rfl)) ?_
    (try simp only [zP, zN, zA, zB, zC])
    refine pu_ (v := .int .i64 k) (y_move rfl (by rfl) (by rfl)) ?_
    (try simp only [zP, zN, zA, zB, zC])
    refine pu_ (v := .bool false) (y_run (by rfl) (fun W => by have d := D24.out; go_simp)) ?_
    (try simp only [zP, zN, zA, zB, zC])
    refine pu_ (v := .bool false) (y_pick (t := true) (by rfl) rfl (by rfl) (by rfl)) ?_
    (try simp only [zP, zN, zA, zB, zC])
    refine nl_ (hK50 _ _ ?_); clear hK50 K50
    refine wp_cond_false rfl ?_
    refine wp_exit ?_
    refine th_exit ?_
    refine th_exit ?_
    refine ib_exit ?_
    refine th_norm (hK12 _ _ ?_); try clear hK12 K12
    refine sq_ (fun K51 hK51 => ?_)
    skip
    · have HN := Lib.hid (show S.now ≤ 80 by have := ht.out.2; have := hk.out; omega)
      have HL := Lib.hid ht.out.1.len
      have TT := Lib.hid ht.out.1
      have D64 := Lib.hid (show decide ((S.now : Int) > 80) = false from decide_eq_false (by have := HN.out; omega))
      have D68 := Lib.hid (show decide ((S.now : Int) < 0) = false from decide_eq_false (by omega))
      refine s_ (fun K52 hK52 => ?_)
      refine pu_ (v := .pointer (some ⟨b, 0, none⟩)) (y_move rfl (by rfl) (by rfl)) ?_
      (try simp only [zP, zN, zA, zB, zC])
      refine ef_ (fun K53 hK53 => ?_)
      refine e_call Try.func14 (by kernel_rfl) rfl #[.pointer (some ⟨b, 0, none⟩)] (by rfl) rfl rfl (by first | rfl | (simp only [List.map_toArray, List.map_cons, List.map_nil]; first | done | rfl)) (now_all BF.out) ?_
      rintro en w55 ⟨rfl, cc54⟩
      refine ⟨_, rfl, ?_⟩
      have C0' := Lib.hid (show Ch [] w w55 from C0.out.trans' cc54 (fun x hx => absurd hx (by simp)))
      have BF' := Lib.hid (show BookIs w55 w.heap.size hi b (S) from BF.out.ch cc54 (fun x hx => absurd hx (by simp)))
      have HI' := Lib.hid (show hi ≤ w55.heap.size from Nat.le_trans HI.out cc54.size)
      clear C0 BF HI
      have C0 := C0'; clear C0'
      have BF := BF'; clear BF'
      have HI := HI'; clear HI'
      clear cc54
      refine hK53 _ _ ?_; clear hK53 K53
      (try simp only [zP, zN, zA, zB, zC])
      refine pu_ (v := .bool false) (y_run (by rfl) (fun W => by have d := D64.out; go_simp)) ?_
      (try simp only [zP, zN, zA, zB, zC])
      refine pu_ (v := .bool false) (y_move rfl (by rfl) (by rfl)) ?_
      (try simp only [zP, zN, zA, zB, zC])
      refine pu_ (v := .pointer (some ⟨b, 0, none⟩)) (y_move rfl (by rfl) (by rfl)) ?_
      (try simp only [zP, zN, zA, zB, zC])
      refine ef_ (fun K56 hK56 => ?_)
      refine e_call Try.func14 (by kernel_rfl) rfl #[.pointer (some ⟨b, 0, none⟩)] (by rfl) rfl rfl (by first | rfl | (simp only [List.map_toArray, List.map_cons, List.map_nil]; first | done | rfl)) (now_all BF.out) ?_
      rintro en w58 ⟨rfl, cc57⟩
      refine ⟨_, rfl, ?_⟩
      have C0' := Lib.hid (show Ch [] w w58 from C0.out.trans' cc57 (fun x hx => absurd hx (by simp)))
      have BF' := Lib.hid (show BookIs w58 w.heap.size hi b (S) from BF.out.ch cc57 (fun x hx => absurd hx (by simp)))
      have HI' := Lib.hid (show hi ≤ w58.heap.size from Nat.le_trans HI.out cc57.size)
      clear C0 BF HI
      have C0 := C0'; clear C0'
      have BF := BF'; clear BF'
      have HI := HI'; clear HI'
      clear cc57
      refine hK56 _ _ ?_; clear hK56 K56
      (try simp only [zP, zN, zA, zB, zC])
      refine pu_ (v := .bool false) (y_run (by rfl) (fun W => by have d := D68.out; go_simp)) ?_
      (try simp only [zP, zN, zA, zB, zC])
      refine pu_ (v := .bool false) (y_pick (t := false) (by rfl) rfl (by rfl) (by rfl)) ?_
      (try simp only [zP, zN, zA, zB, zC])
      refine nl_ (hK52 _ _ ?_); clear hK52 K52
      refine wp_cond_false rfl ?_
      refine wp_skip ?_
      refine th_norm (hK51 _ _ ?_); try clear hK51 K51
      refine s_ (fun K59 hK59 => ?_)
      refine ef_ (fun K60 hK60 => ?_)
      refine e_make1 (by rfl) rfl rfl Try.underlying44 I3 rfl w.heap.size 100 (by rfl) (by rfl) C0.out.size (by decide) (by decide) ?_
      rintro gm w61 HGM O62 C63
      have nw64 := Lib.hid (show w.heap.size ≤ gm by have := C0.out.size; have := HGM.out; omega)
      have hg65 := Lib.hid (show hi ≤ gm by have := HI.out; have := HGM.out; omega)
      have C0' := Lib.hid (show Ch [] w w61 from C0.out.trans' C63 (fun x hx => absurd hx (by simp)))
      have BF' := Lib.hid (show BookIs w61 w.heap.size hi b (S) from BF.out.ch C63 (fun x hx => absurd hx (by simp)))
      have HI' := Lib.hid (show hi ≤ w61.heap.size from Nat.le_trans HI.out C63.size)
      clear C0 BF HI
      have C0 := C0'; clear C0'
      have BF := BF'; clear BF'
      have HI := HI'; clear HI'
      clear C63
      have OM := Lib.hid (show OwnS w61 w.heap.size 3 1 (.slice (some ⟨gm, 0, none⟩) 100 100) (100) (cnts ((S.L.take 0).flatMap tm)) from by rw [← cnts_nil] at O62; exact O62); clear O62
      refine hK60 _ _ ?_; clear hK60 K60
      (try simp only [zP, zN, zA, zB, zC])
      refine pu_ (v := .slice (some ⟨gm, 0, none⟩) 100 100) (y_assign rfl (by rfl) (by rfl)) ?_
      (try simp only [zP, zN, zA, zB, zC])
      refine nl_ (hK59 _ _ ?_); clear hK59 K59
      refine s_ (fun K66 hK66 => ?_)
      refine pu_ (v := .pointer (some ⟨b, 0, none⟩)) (y_move rfl (by rfl) (by rfl)) ?_
      (try simp only [zP, zN, zA, zB, zC])
      refine ef_ (fun K67 hK67 => ?_)
      refine e_call Try.func15 (by kernel_rfl) rfl #[.pointer (some ⟨b, 0, none⟩)] (by rfl) rfl rfl (by first | rfl | (simp only [List.map_toArray, List.map_cons, List.map_nil]; first | done | rfl)) (ops_all BF.out (by have := HL.out; have := HN.out; omega)) ?_
      rintro en w70 ⟨vo, rfl, OO0, cc69⟩
      refine ⟨_, rfl, ?_⟩
      have hr68 := OO0.lt
      have rw71 := Lib.hid (show ∀ x, x ∈ rl vo → x ∈ [] ∨ w.heap.size ≤ x from fun x hx => .inr (by have := (fun k hk => (hr68 k hk).1) x hx; have := C0.out.size; omega))
      have C0' := Lib.hid (show Ch [] w w70 from C0.out.trans' cc69 (fun x hx => absurd hx (by simp)))
      have BF' := Lib.hid (show BookIs w70 w.heap.size hi b (S) from BF.out.ch cc69 (fun x hx => absurd hx (by simp)))
      have HI' := Lib.hid (show hi ≤ w70.heap.size from Nat.le_trans HI.out cc69.size)
      have OM' := Lib.hid (show OwnS w70 w.heap.size 3 1 (.slice (some ⟨gm, 0, none⟩) 100 100) (100) (cnts ((S.L.take 0).flatMap tm)) from OM.out.ch cc69 rnin_nil)
      clear C0 BF HI OM
      have C0 := C0'; clear C0'
      have BF := BF'; clear BF'
      have HI := HI'; clear HI'
      have OM := OM'; clear OM'
      clear cc69
      have OO := Lib.hid (show OwnS w70 w61.heap.size 49 28 (vo) (S.L.length) ((S.L).flatMap opC) from OO0)
      refine hK67 _ _ ?_; clear hK67 K67
      (try simp only [zP, zN, zA, zB, zC])
      refine pu_ (v := .pointer (some ⟨b, 0, none⟩)) (y_move rfl (by rfl) (by rfl)) ?_
      (try simp only [zP, zN, zA, zB, zC])
      refine ef_ (fun K72 hK72 => ?_)
      refine e_call Try.func16 (by kernel_rfl) rfl #[.pointer (some ⟨b, 0, none⟩)] (by rfl) rfl rfl (by first | rfl | (simp only [List.map_toArray, List.map_cons, List.map_nil]; first | done | rfl)) (inners_all BF.out (by have := HL.out; have := HN.out; omega)) ?_
      rintro en w75 ⟨vi, rfl, OI0, cc74⟩
      refine ⟨_, rfl, ?_⟩
      have hr73 := OI0.lt
      have rw76 := Lib.hid (show ∀ x, x ∈ rl vi → x ∈ [] ∨ w.heap.size ≤ x from fun x hx => .inr (by have := (fun k hk => (hr73 k hk).1) x hx; have := C0.out.size; omega))
      have rr77 := Lib.hid (show ∀ k, k ∈ rl (.slice (some ⟨gm, 0, none⟩) 100 100) → k ∉ rl vi from fun k hk hm => by have := (fun k hk => (hr73 k hk).1) k hm; have := (OM.out.lt k hk).2; omega)
      have C0' := Lib.hid (show Ch [] w w75 from C0.out.trans' cc74 (fun x hx => absurd hx (by simp)))
      have BF' := Lib.hid (show BookIs w75 w.heap.size hi b (S) from BF.out.ch cc74 (fun x hx => absurd hx (by simp)))
      have HI' := Lib.hid (show hi ≤ w75.heap.size from Nat.le_trans HI.out cc74.size)
      have OM' := Lib.hid (show OwnS w75 w.heap.size 3 1 (.slice (some ⟨gm, 0, none⟩) 100 100) (100) (cnts ((S.L.take 0).flatMap tm)) from OM.out.ch cc74 rnin_nil)
      have OO' := Lib.hid (show OwnS w75 w61.heap.size 49 28 (vo) (S.L.length) ((S.L).flatMap opC) from OO.out.ch cc74 rnin_nil)
      clear C0 BF HI OM OO
      have C0 := C0'; clear C0'
      have BF := BF'; clear BF'
      have HI := HI'; clear HI'
      have OM := OM'; clear OM'
      have OO := OO'; clear OO'
      clear cc74
      have OI := Lib.hid (show OwnS w75 w70.heap.size 3 1 (vi) (S.I.length) ((S.I).map (Value.int .i64)) from OI0)
      refine hK72 _ _ ?_; clear hK72 K72
      (try simp only [zP, zN, zA, zB, zC])
      refine pu_ (v := vo) (y_assign rfl (by rfl) (by rfl)) ?_
      (try simp only [zP, zN, zA, zB, zC])
      refine pu_ (v := vi) (y_assign rfl (by rfl) (by rfl)) ?_
      (try simp only [zP, zN, zA, zB, zC])
      refine nl_ (hK66 _ _ ?_); clear hK66 K66
      exact timesB hQ hP _ _ ⟨_, _, _, _, _, _, _, _, fun us_ => (#[.slice a0 len0 cap0, us 1, .bool false, .pointer (some ⟨b, 0, none⟩), .int .i64 k, us 5, .slice (some ⟨gm, 0, none⟩) 100 100, vo, vi, us 9, us 10, us 11, us 12, us 13, us 14, us 15, us 16, us 17, .int .i64 k, .slice a0 len0 cap0, .int .i64 len0, .bool true, .bool true, .int .i64 k, .bool false, .bool false, us 26, us 27, us 28, us 29, us 30, us 31, us 32, us 33, us 34, us 35, us 36, us 37, us 38, us 39, us 40, us 41, us 42, us 43, us 44, us 45, us 46, us 47, us 48, us 49, us 50, us 51, us 52, us 53, us 54, us 55, us 56, us 57, us 58, us 59, us 60, us 61, .pointer (some ⟨b, 0, none⟩), .int .i64 S.now, .bool false, .bool false, .pointer (some ⟨b, 0, none⟩), .int .i64 S.now, .bool false, .bool false, .slice (some ⟨gm, 0, none⟩) 100 100, .pointer (some ⟨b, 0, none⟩), vo, .pointer (some ⟨b, 0, none⟩), vi, us 75, us 76, us 77, us 78, us 79, us 80, us 81, us 82, us 83, us 84, us 85, us 86, us 87, us 88, us 89, us 90, us 91, us 92, us 93, us 94, us 95, us 96, us 97, us 98, us 99, us 100, us 101, us 102, us 103, us 104, us 105, us 106, us 107, us 108, us 109, us 110, us 111, us 112, us 113, us 114, us 115, us 116, us 117, us 118, us 119, us 120, us 121, us 122, us 123, us 124, us 125, us 126, us 127, us 128, us 129, us 130, us 131, us 132, us 133, us 134, us 135, us 136, us 137, us 138, us 139, us 140, us 141, us 142, us 143, us 144, us 145, us 146, us 147, us 148, us 149, us 150, us 151, us 152, us 153, us 154, us 155, us 156, us 157, us 158, us 159, us 160, us 161, us 162, us 163, us 164, us 165, us 166, us 167, us 168, us 169, us 170, us 171, us 172, us 173, us 174, us 175, us 176, us 177, us 178, us 179, us 180, us 181, us 182, us 183, us 184, us 185, us 186, us 187, us 188, us 189, us 190, us 191, us 192, us 193, us 194, us 195, us 196, us 197, us 198, us 199, us 200] : Array Value).getD us_ undef, rfl, C0, BF, HI, OM, OO, OI, hg65, HN, HL, TT, Lib.hid (rr77.out)⟩
  · have D21 := Lib.hid (show ¬ k < len0 by omega)
    clear h
    refine s_ (fun K78 hK78 => ?_)
    refine pu_ (v := .int .i64 k) (y_move rfl (by rfl) (by rfl)) ?_
    (try simp only [zP, zN, zA, zB, zC])
    refine pu_ (v := .slice a0 len0 cap0) (y_move rfl (by rfl) (by rfl)) ?_
    (try simp only [zP, zN, zA, zB, zC])
    refine pu_ (v := .int .i64 len0) (y_run (by rfl) (fun W => by go_simp)) ?_
    (try simp only [zP, zN, zA, zB, zC])
    refine pu_ (v := .bool false) (y_run (by rfl) (fun W => by have d := D21.out; go_simp)) ?_
    (try simp only [zP, zN, zA, zB, zC])
    refine pu_ (v := .bool false) (y_move rfl (by rfl) (by rfl)) ?_
    (try simp only [zP, zN, zA, zB, zC])
    refine pu_ (y_off (by rfl)) ?_
    (try simp only [zP, zN, zA, zB, zC])
    refine pu_ (y_off (by rfl)) ?_
    (try simp only [zP, zN, zA, zB, zC])
    refine pu_ (v := .bool false) (y_pick (t := false) (by rfl) rfl (by rfl) (by rfl)) ?_
    (try simp only [zP, zN, zA, zB, zC])
    refine nl_ (hK78 _ _ ?_); clear hK78 K78
    refine wp_cond_false rfl ?_
    refine wp_exit ?_
    refine th_exit ?_
    refine th_exit ?_
    refine ib_exit ?_
    refine th_norm (hK12 _ _ ?_); try clear hK12 K12
    refine sq_ (fun K79 hK79 => ?_)
    skip
    · have HN := Lib.hid (show S.now ≤ 80 by have := ht.out.2; have := hk.out; omega)
      have HL := Lib.hid ht.out.1.len
      have TT := Lib.hid ht.out.1
      have D64 := Lib.hid (show decide ((S.now : Int) > 80) = false from decide_eq_false (by have := HN.out; omega))
      have D68 := Lib.hid (show decide ((S.now : Int) < 0) = false from decide_eq_false (by omega))
      refine s_ (fun K80 hK80 => ?_)
      refine pu_ (v := .pointer (some ⟨b, 0, none⟩)) (y_move rfl (by rfl) (by rfl)) ?_
      (try simp only [zP, zN, zA, zB, zC])
      refine ef_ (fun K81 hK81 => ?_)
      refine e_call Try.func14 (by kernel_rfl) rfl #[.pointer (some ⟨b, 0, none⟩)] (by rfl) rfl rfl (by first | rfl | (simp only [List.map_toArray, List.map_cons, List.map_nil]; first | done | rfl)) (now_all BF.out) ?_
      rintro en w83 ⟨rfl, cc82⟩
      refine ⟨_, rfl, ?_⟩
      have C0' := Lib.hid (show Ch [] w w83 from C0.out.trans' cc82 (fun x hx => absurd hx (by simp)))
      have BF' := Lib.hid (show BookIs w83 w.heap.size hi b (S) from BF.out.ch cc82 (fun x hx => absurd hx (by simp)))
      have HI' := Lib.hid (show hi ≤ w83.heap.size from Nat.le_trans HI.out cc82.size)
      clear C0 BF HI
      have C0 := C0'; clear C0'
      have BF := BF'; clear BF'
      have HI := HI'; clear HI'
      clear cc82
      refine hK81 _ _ ?_; clear hK81 K81
      (try simp only [zP, zN, zA, zB, zC])
      refine pu_ (v := .bool false) (y_run (by rfl) (fun W => by have d := D64.out; go_simp)) ?_
      (try simp only [zP, zN, zA, zB, zC])
      refine pu_ (v := .bool false) (y_move rfl (by rfl) (by rfl)) ?_
      (try simp only [zP, zN, zA, zB, zC])
      refine pu_ (v := .pointer (some ⟨b, 0, none⟩)) (y_move rfl (by rfl) (by rfl)) ?_
      (try simp only [zP, zN, zA, zB, zC])
      refine ef_ (fun K84 hK84 => ?_)
      refine e_call Try.func14 (by kernel_rfl) rfl #[.pointer (some ⟨b, 0, none⟩)] (by rfl) rfl rfl (by first | rfl | (simp only [List.map_toArray, List.map_cons, List.map_nil]; first | done | rfl)) (now_all BF.out) ?_
      rintro en w86 ⟨rfl, cc85⟩
      refine ⟨_, rfl, ?_⟩
      have C0' := Lib.hid (show Ch [] w w86 from C0.out.trans' cc85 (fun x hx => absurd hx (by simp)))
      have BF' := Lib.hid (show BookIs w86 w.heap.size hi b (S) from BF.out.ch cc85 (fun x hx => absurd hx (by simp)))
      have HI' := Lib.hid (show hi ≤ w86.heap.size from Nat.le_trans HI.out cc85.size)
      clear C0 BF HI
      have C0 := C0'; clear C0'
      have BF := BF'; clear BF'
      have HI := HI'; clear HI'
      clear cc85
      refine hK84 _ _ ?_; clear hK84 K84
      (try simp only [zP, zN, zA, zB, zC])
      refine pu_ (v := .bool false) (y_run (by rfl) (fun W => by have d := D68.out; go_simp)) ?_
      (try simp only [zP, zN, zA, zB, zC])
      refine pu_ (v := .bool false) (y_pick (t := false) (by rfl) rfl (by rfl) (by rfl)) ?_
      (try simp only [zP, zN, zA, zB, zC])
      refine nl_ (hK80 _ _ ?_); clear hK80 K80
      refine wp_cond_false rfl ?_
      refine wp_skip ?_
      refine th_norm (hK79 _ _ ?_); try clear hK79 K79
      refine s_ (fun K87 hK87 => ?_)
      refine ef_ (fun K88 hK88 => ?_)
      refine e_make1 (by rfl) rfl rfl Try.underlying44 I3 rfl w.heap.size 100 (by rfl) (by rfl) C0.out.size (by decide) (by decide) ?_
      rintro gm w89 HGM O90 C91
      have nw92 := Lib.hid (show w.heap.size ≤ gm by have := C0.out.size; have := HGM.out; omega)
      have hg93 := Lib.hid (show hi ≤ gm by have := HI.out; have := HGM.out; omega)
      have C0' := Lib.hid (show Ch [] w w89 from C0.out.trans' C91 (fun x hx => absurd hx (by simp)))
      have BF' := Lib.hid (show BookIs w89 w.heap.size hi b (S) from BF.out.ch C91 (fun x hx => absurd hx (by simp)))
      have HI' := Lib.hid (show hi ≤ w89.heap.size from Nat.le_trans HI.out C91.size)
      clear C0 BF HI
      have C0 := C0'; clear C0'
      have BF := BF'; clear BF'
      have HI := HI'; clear HI'
      clear C91
      have OM := Lib.hid (show OwnS w89 w.heap.size 3 1 (.slice (some ⟨gm, 0, none⟩) 100 100) (100) (cnts ((S.L.take 0).flatMap tm)) from by rw [← cnts_nil] at O90; exact O90); clear O90
      refine hK88 _ _ ?_; clear hK88 K88
      (try simp only [zP, zN, zA, zB, zC])
      refine pu_ (v := .slice (some ⟨gm, 0, none⟩) 100 100) (y_assign rfl (by rfl) (by rfl)) ?_
      (try simp only [zP, zN, zA, zB, zC])
      refine nl_ (hK87 _ _ ?_); clear hK87 K87
      refine s_ (fun K94 hK94 => ?_)
      refine pu_ (v := .pointer (some ⟨b, 0, none⟩)) (y_move rfl (by rfl) (by rfl)) ?_
      (try simp only [zP, zN, zA, zB, zC])
      refine ef_ (fun K95 hK95 => ?_)
      refine e_call Try.func15 (by kernel_rfl) rfl #[.pointer (some ⟨b, 0, none⟩)] (by rfl) rfl rfl (by first | rfl | (simp only [List.map_toArray, List.map_cons, List.map_nil]; first | done | rfl)) (ops_all BF.out (by have := HL.out; have := HN.out; omega)) ?_
      rintro en w98 ⟨vo, rfl, OO0, cc97⟩
      refine ⟨_, rfl, ?_⟩
      have hr96 := OO0.lt
      have rw99 := Lib.hid (show ∀ x, x ∈ rl vo → x ∈ [] ∨ w.heap.size ≤ x from fun x hx => .inr (by have := (fun k hk => (hr96 k hk).1) x hx; have := C0.out.size; omega))
      have C0' := Lib.hid (show Ch [] w w98 from C0.out.trans' cc97 (fun x hx => absurd hx (by simp)))
      have BF' := Lib.hid (show BookIs w98 w.heap.size hi b (S) from BF.out.ch cc97 (fun x hx => absurd hx (by simp)))
      have HI' := Lib.hid (show hi ≤ w98.heap.size from Nat.le_trans HI.out cc97.size)
      have OM' := Lib.hid (show OwnS w98 w.heap.size 3 1 (.slice (some ⟨gm, 0, none⟩) 100 100) (100) (cnts ((S.L.take 0).flatMap tm)) from OM.out.ch cc97 rnin_nil)
      clear C0 BF HI OM
      have C0 := C0'; clear C0'
      have BF := BF'; clear BF'
      have HI := HI'; clear HI'
      have OM := OM'; clear OM'
      clear cc97
      have OO := Lib.hid (show OwnS w98 w89.heap.size 49 28 (vo) (S.L.length) ((S.L).flatMap opC) from OO0)
      refine hK95 _ _ ?_; clear hK95 K95
      (try simp only [zP, zN, zA, zB, zC])
      refine pu_ (v := .pointer (some ⟨b, 0, none⟩)) (y_move rfl (by rfl) (by rfl)) ?_
      (try simp only [zP, zN, zA, zB, zC])
      refine ef_ (fun K100 hK100 => ?_)
      refine e_call Try.func16 (by kernel_rfl) rfl #[.pointer (some ⟨b, 0, none⟩)] (by rfl) rfl rfl (by first | rfl | (simp only [List.map_toArray, List.map_cons, List.map_nil]; first | done | rfl)) (inners_all BF.out (by have := HL.out; have := HN.out; omega)) ?_
      rintro en w103 ⟨vi, rfl, OI0, cc102⟩
      refine ⟨_, rfl, ?_⟩
      have hr101 := OI0.lt
      have rw104 := Lib.hid (show ∀ x, x ∈ rl vi → x ∈ [] ∨ w.heap.size ≤ x from fun x hx => .inr (by have := (fun k hk => (hr101 k hk).1) x hx; have := C0.out.size; omega))
      have rr105 := Lib.hid (show ∀ k, k ∈ rl (.slice (some ⟨gm, 0, none⟩) 100 100) → k ∉ rl vi from fun k hk hm => by have := (fun k hk => (hr101 k hk).1) k hm; have := (OM.out.lt k hk).2; omega)
      have C0' := Lib.hid (show Ch [] w w103 from C0.out.trans' cc102 (fun x hx => absurd hx (by simp)))
      have BF' := Lib.hid (show BookIs w103 w.heap.size hi b (S) from BF.out.ch cc102 (fun x hx => absurd hx (by simp)))
      have HI' := Lib.hid (show hi ≤ w103.heap.size from Nat.le_trans HI.out cc102.size)
      have OM' := Lib.hid (show OwnS w103 w.heap.size 3 1 (.slice (some ⟨gm, 0, none⟩) 100 100) (100) (cnts ((S.L.take 0).flatMap tm)) from OM.out.ch cc102 rnin_nil)
      have OO' := Lib.hid (show OwnS w103 w89.heap.size 49 28 (vo) (S.L.length) ((S.L).flatMap opC) from OO.out.ch cc102 rnin_nil)
      clear C0 BF HI OM OO
      have C0 := C0'; clear C0'
      have BF := BF'; clear BF'
      have HI := HI'; clear HI'
      have OM := OM'; clear OM'
      have OO := OO'; clear OO'
      clear cc102
      have OI := Lib.hid (show OwnS w103 w98.heap.size 3 1 (vi) (S.I.length) ((S.I).map (Value.int .i64)) from OI0)
      refine hK100 _ _ ?_; clear hK100 K100
      (try simp only [zP, zN, zA, zB, zC])
      refine pu_ (v := vo) (y_assign rfl (by rfl) (by rfl)) ?_
      (try simp only [zP, zN, zA, zB, zC])
      refine pu_ (v := vi) (y_assign rfl (by rfl) (by rfl)) ?_
      (try simp only [zP, zN, zA, zB, zC])
      refine nl_ (hK94 _ _ ?_); clear hK94 K94
      exact timesB hQ hP _ _ ⟨_, _, _, _, _, _, _, _, fun us_ => (#[.slice a0 len0 cap0, us 1, .bool false, .pointer (some ⟨b, 0, none⟩), .int .i64 k, us 5, .slice (some ⟨gm, 0, none⟩) 100 100, vo, vi, us 9, us 10, us 11, us 12, us 13, us 14, us 15, us 16, us 17, .int .i64 k, .slice a0 len0 cap0, .int .i64 len0, .bool false, .bool false, undef, undef, .bool false, us 26, us 27, us 28, us 29, us 30, us 31, us 32, us 33, us 34, us 35, us 36, us 37, us 38, us 39, us 40, us 41, us 42, us 43, us 44, us 45, us 46, us 47, us 48, us 49, us 50, us 51, us 52, us 53, us 54, us 55, us 56, us 57, us 58, us 59, us 60, us 61, .pointer (some ⟨b, 0, none⟩), .int .i64 S.now, .bool false, .bool false, .pointer (some ⟨b, 0, none⟩), .int .i64 S.now, .bool false, .bool false, .slice (some ⟨gm, 0, none⟩) 100 100, .pointer (some ⟨b, 0, none⟩), vo, .pointer (some ⟨b, 0, none⟩), vi, us 75, us 76, us 77, us 78, us 79, us 80, us 81, us 82, us 83, us 84, us 85, us 86, us 87, us 88, us 89, us 90, us 91, us 92, us 93, us 94, us 95, us 96, us 97, us 98, us 99, us 100, us 101, us 102, us 103, us 104, us 105, us 106, us 107, us 108, us 109, us 110, us 111, us 112, us 113, us 114, us 115, us 116, us 117, us 118, us 119, us 120, us 121, us 122, us 123, us 124, us 125, us 126, us 127, us 128, us 129, us 130, us 131, us 132, us 133, us 134, us 135, us 136, us 137, us 138, us 139, us 140, us 141, us 142, us 143, us 144, us 145, us 146, us 147, us 148, us 149, us 150, us 151, us 152, us 153, us 154, us 155, us 156, us 157, us 158, us 159, us 160, us 161, us 162, us 163, us 164, us 165, us 166, us 167, us 168, us 169, us 170, us 171, us 172, us 173, us 174, us 175, us 176, us 177, us 178, us 179, us 180, us 181, us 182, us 183, us 184, us 185, us 186, us 187, us 188, us 189, us 190, us 191, us 192, us 193, us 194, us 195, us 196, us 197, us 198, us 199, us 200] : Array Value).getD us_ undef, rfl, C0, BF, HI, OM, OO, OI, hg93, HN, HL, TT, Lib.hid (rr105.out)⟩
end Go.Proofs.Ytggcpbnlblbpjaa.H
