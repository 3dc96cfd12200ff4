/- The walk of the law WindowPlays: the window and the document's answer alike. -/
import Derived.Test.YtanlbnipbbjheaaWinL
namespace Go.Proofs.Ytanlbnipbbjheaa.V
open Go Go.RowKit Go.Proofs.Ytanlbnipbbjheaa.K Go.Proofs.YtanlbnipbbjheaaW.PrintLast
set_option linter.unusedVariables false
set_option linter.unusedSimpArgs false
set_option maxRecDepth 100000
set_option maxHeartbeats 1600000

theorem plays (w : World) (a0 : Option Addr) (len0 cap0 : Nat) (hA : Acts w a0 len0) : Calls Try.prog 5 #[.slice a0 len0 cap0] w fun en w' => en = .returned (.bool true) ∧ Ch [] w w' := by
 have C0 := Lib.hid (Ch.refl [] w)
 have HA := Lib.hid hA
 clear hA
 go_enter Try.func5, Try.ntmps5
 refine q_ (fun Q hQ hP => ?_)
 refine s_ (fun K1 hK1 => ?_)
 refine pu_ (v := .bool false) (y_assign rfl (by rfl) (by rfl)) ?_
 (try simp only [zP, zN, zA, zB, zC])
 refine nl_ (hK1 _ _ ?_); clear hK1 K1
 refine s_ (fun K2 hK2 => ?_)
 refine ef_ (fun K3 hK3 => ?_)
 refine e_call Try.func15 (by kernel_rfl) rfl #[] (by rfl) rfl rfl (by first | rfl | (simp only [List.map_toArray, List.map_cons, List.map_nil]; first | done | rfl)) (new_all _) ?_
 rintro en w4 ⟨b, rfl, hw, hb, cc⟩
 refine ⟨_, rfl, ?_⟩
 have HBN := Lib.hid (show w.heap.size ≤ b by have := C0.out.size; omega); clear hb
 have C0' := Lib.hid (show Ch [] w w4 from C0.out.trans' cc (fun x hx => absurd hx (by simp)))
 clear C0
 have C0 := C0'; clear C0'
 clear cc
 have PW := Lib.hid (show WinIs w4 (w.heap.size) b (⟨[], 0, false, false⟩) (.slice none 0 0) from hw)
 refine hK3 _ _ ?_; clear hK3 K3
 (try simp only [zP, zN, zA, zB, zC])
 refine pu_ (v := .pointer (some ⟨b, 0, none⟩)) (y_assign rfl (by rfl) (by rfl)) ?_
 (try simp only [zP, zN, zA, zB, zC])
 refine nl_ (hK2 _ _ ?_); clear hK2 K2
 refine sq_ (fun K5 hK5 => ?_)
 refine s_ (fun K6 hK6 => ?_)
 refine pu_ (v := .pointer (some ⟨b, 0, none⟩)) (y_move rfl (by rfl) (by rfl)) ?_
 (try simp only [zP, zN, zA, zB, zC])
 refine pu_ (v := .bool false) (y_run (by rfl) (fun W => by go_simp)) ?_
 (try simp only [zP, zN, zA, zB, zC])
 refine nl_ (hK6 _ _ ?_); clear hK6 K6
 refine wp_cond_false rfl ?_
 refine wp_skip ?_
 refine th_norm (hK5 _ _ ?_); try clear hK5 K5
 refine s_ (fun K7 hK7 => ?_)
 refine pu_ (v := .agg #[.slice none 0 0, .int .u64 0, .bool false, .bool false]) (y_build (vs := #[]) (by rfl) rfl (by first | rfl | (simp only [List.map_toArray, List.map_cons, List.map_nil]; first | done | rfl)) (by kernel_rfl)) ?_
 (try simp only [zP, zN, zA, zB, zC])
 refine ef_ (fun K8 hK8 => ?_)
 refine e_alloc (by rfl) rfl rfl (cs := #[.slice none 0 0, .int .u64 0, .bool false, .bool false]) (by kernel_rfl) ?_
 rintro g4 w9 HG10 B11 C12
 have nw13 := Lib.hid (show w.heap.size ≤ g4 by have := C0.out.size; have := HG10.out; omega)
 have ne14 := Lib.hid (show b ≠ g4 by have := PW.out.1.lt; have := HG10.out; omega)
 have nr15 := Lib.hid (PW.out.2.ne_new HG10)
 have C0' := Lib.hid (show Ch [] w w9 from C0.out.trans' C12 (fun x hx => absurd hx (by simp)))
 have PW' := Lib.hid (show WinIs w9 (w.heap.size) b (⟨[], 0, false, false⟩) (.slice none 0 0) from PW.out.ch C12 nin_nil (fun k hk => absurd hk (by simp [rl])))
 clear C0 PW
 have C0 := C0'; clear C0'
 have PW := PW'; clear PW'
 have Fg4 := Lib.hid (show Blk w9 g4 (#[.slice none 0 0, .int .u64 0, .bool false, .bool false]) 44 from B11); clear B11 C12
 refine hK8 _ _ ?_; clear hK8 K8
 (try simp only [zP, zN, zA, zB, zC])
 refine ef_ (fun K16 hK16 => ?_)
 refine e_storeN (cells := #[.slice none 0 0, .int .u64 0, .bool false, .bool false]) (by rfl) rfl rfl (by rfl) (by rfl) Fg4.out (by kernel_rfl) (by rfl) (ones_cons rfl (ones_cons rfl (ones_cons rfl (ones_cons rfl ones_nil)))) ?_
 rintro w17 B18 C19
 have C0' := Lib.hid (show Ch [] w w17 from C0.out.trans' C19 (inw_cons (.inr nw13.out) inw_nil))
 have PW' := Lib.hid (show WinIs w17 (w.heap.size) b (⟨[], 0, false, false⟩) (.slice none 0 0) from PW.out.ch C19 (nin_cons ne14.out nin_nil) (fun k hk => absurd hk (by simp [rl])))
 clear C0 PW
 have C0 := C0'; clear C0'
 have PW := PW'; clear PW'
 clear Fg4; have Fg4 := Lib.hid (show Blk w17 g4 (#[.slice none 0 0, .int .u64 0, .bool false, .bool false]) 44 from B18); clear B18 C19
 refine hK16 _ _ ?_; clear hK16 K16
 (try simp only [zP, zN, zA, zB, zC])
 refine nl_ (hK7 _ _ ?_); clear hK7 K7
 refine sq_ (fun K20 hK20 => ?_)
 refine s_ (fun K21 hK21 => ?_)
 refine pu_ (v := .int .i64 0) (y_assign rfl (by rfl) (by rfl)) ?_
 (try simp only [zP, zN, zA, zB, zC])
 refine nl_ (hK21 _ _ ?_); clear hK21 K21
 refine wp_block ?_
 have RQ0 := Lib.hid (show RefIs w17 ⟨[], 0, false, false⟩ (.slice none 0 0) from ⟨⟨rfl, .inl ⟨rfl, rfl⟩⟩, none, 0, rfl, by simp, by simp⟩)
 refine loopk_ (fun (kq : Nat) (a' : Act) (w' : World) => ∃ (k : Nat), ∃ (s : Win), ∃ (v : Value), ∃ (x : Value), ∃ (us : Nat → Value), a' = ⟨#[.slice a0 len0 cap0, us 1, .bool false, .pointer (some ⟨b, 0, none⟩), .pointer (some ⟨g4, 0, none⟩), .int .i64 k, us 6, us 7, us 8, us 9, us 10, us 11, us 12, us 13, us 14, us 15, us 16, us 17, us 18, us 19, us 20, us 21, us 22, us 23, us 24, us 25, us 26, us 27, us 28, us 29, us 30, us 31, us 32, us 33, us 34, us 35, us 36, us 37, us 38, us 39, us 40, us 41, us 42, us 43, us 44, us 45, us 46, us 47, us 48, us 49, us 50, us 51, us 52, us 53, us 54, us 55, us 56, us 57, us 58, us 59, us 60, us 61, us 62, us 63, us 64, us 65, us 66, us 67, us 68, us 69, us 70, us 71, us 72, us 73, us 74, us 75, us 76, us 77, us 78, us 79, us 80, us 81, us 82, us 83, us 84, us 85, us 86, us 87, us 88, us 89, us 90, us 91, us 92, us 93, us 94, us 95, us 96, us 97, us 98, us 99, us 100, us 101, us 102, us 103, us 104, us 105, us 106, us 107, us 108, us 109, us 110, us 111, us 112, us 113, us 114, us 115, us 116, us 117, us 118, us 119, us 120, us 121, us 122, us 123, us 124, us 125, us 126, us 127, us 128, us 129, us 130, us 131, us 132, us 133, us 134, us 135, us 136, us 137, us 138, us 139, us 140, us 141, us 142, us 143, us 144, us 145, us 146, us 147, us 148, us 149, us 150, us 151, us 152, us 153, us 154, us 155, us 156, us 157, us 158, us 159, us 160, us 161, us 162, us 163, us 164, us 165, us 166, us 167, us 168], []⟩ ∧ Hid (Ch [] w w') ∧ Hid (WinIs w' (w.heap.size) b (s) (v)) ∧ Hid (RefIs w' (s) (x)) ∧ Hid (Blk w' g4 (#[x, .int .u64 (s).last, .bool (s).over, .bool (s).done]) 44) ∧ Hid (k ≤ 100 ∧ k ≤ len0 ∧ kq + k = 100) ∧ Hid (s.L.length ≤ 16) ∧ Hid (∀ k, k ∈ xb x → k ∉ rl v) ∧ Hid (b ∉ xb x) ∧ Hid (g4 ∉ xb x) ∧ Hid (g4 ∉ rl v)) (100) (⟨0, ⟨[], 0, false, false⟩, _, _, fun us_ => (#[.slice a0 len0 cap0, undef, .bool false, .pointer (some ⟨b, 0, none⟩), .pointer (some ⟨g4, 0, none⟩), .int .i64 0, undef, undef, undef, undef, undef, undef, undef, undef, undef, undef, undef, undef, undef, .pointer (some ⟨b, 0, none⟩), .pointer (some ⟨b, 0, none⟩), .bool false, .agg #[.slice none 0 0, .int .u64 0, .bool false, .bool false], undef, undef, undef, undef, undef, undef, undef, undef, undef, undef, undef, undef, undef, undef, undef, undef, undef, undef, undef, undef, undef, undef, undef, undef, undef, undef, undef, undef, undef, undef, undef, undef, undef, undef, undef, undef, undef, undef, undef, undef, undef, undef, undef, undef, undef, undef, undef, undef, undef, undef, undef, undef, undef, undef, undef, undef, undef, undef, undef, undef, undef, undef, undef, undef, undef, undef, undef, undef, undef, undef, undef, undef, undef, undef, undef, undef, undef, undef, undef, undef, undef, undef, undef, undef, undef, undef, undef, undef, undef, undef, undef, undef, undef, undef, undef, undef, undef, undef, undef, undef, undef, undef, undef, undef, undef, undef, undef, undef, undef, undef, undef, undef, undef, undef, undef, undef, undef, undef, undef, undef, undef, undef, undef, undef, undef, undef, undef, undef, undef, undef, undef, undef, undef, undef, undef, undef, undef, undef, undef, undef, undef, undef, undef, undef, undef, undef] : Array Value).getD us_ undef, rfl, C0, PW, RQ0, Fg4, Lib.hid ⟨by omega, by omega, rfl⟩, Lib.hid (by simp), Lib.hid (fun k hk => absurd hk (by simp [xb])), Lib.hid (by simp [xb]), Lib.hid (by simp [xb]), Lib.hid (by simp [rl])⟩) ?_
 rintro kq _ w22 ⟨k, s, v, x, us, rfl, C0, PW, RQ, Fg4, hk, hL, hxr, hxb, hxg, hgr⟩ K23 hK23
 refine sq_ (fun K24 hK24 => ?_)
 rcases (show (k < len0 ∧ k < 100) ∨ (k < len0 ∧ k = 100) ∨ k = len0 by have := hk.out; omega) with h | h | h
 ·have hlt := Lib.hid h
  have D21 := Lib.hid (show k < len0 by omega)
  have D24 := Lib.hid (show decide ((k : Int) < 100) = true from decide_eq_true (by omega))
  have WA := Lib.hid (show IntKind.i64.wrap ((k : Int) + 1) = ((k + 1 : Nat) : Int) by rw [wr64 (by omega)]; omega)
  obtain ⟨ab, off, kz, nz, rz, hab, hact, habl⟩ := acts_at HA.out h.1
  subst hab
  have HACT := Lib.hid (hact.ch C0.out (by simp))
  have D35 := Lib.hid (show (k : Int) < (len0 : Int) by omega)
  clear h hact
  refine s_ (fun K25 hK25 => ?_)
  refine pu_ (v := .int .i64 k) (y_move rfl (by rfl) (by rfl)) ?_
  (try simp only [zP, zN, zA, zB, zC])
  refine pu_ (v := .slice (some ⟨ab, off, none⟩) len0 cap0) (y_move rfl (by rfl) (by rfl)) ?_
  (try simp only [zP, zN, zA, zB, zC])
  refine pu_ (v := .int .i64 len0) (y_run (by rfl) (fun W => by go_simp)) ?_
  (try simp only [zP, zN, zA, zB, zC])
  refine pu_ (v := .bool true) (y_run (by rfl) (fun W => by have d := D21.out; go_simp)) ?_
  (try simp only [zP, zN, zA, zB, zC])
  refine pu_ (v := .bool true) (y_move rfl (by rfl) (by rfl)) ?_
  (try simp only [zP, zN, zA, zB, zC])
  refine pu_ (v := .int .i64 k) (y_move rfl (by rfl) (by rfl)) ?_
  (try simp only [zP, zN, zA, zB, zC])
  refine pu_ (v := .bool true) (y_run (by rfl) (fun W => by have d := D24.out; go_simp)) ?_
  (try simp only [zP, zN, zA, zB, zC])
  refine pu_ (v := .bool true) (y_pick (t := true) (by rfl) rfl (by rfl) (by rfl)) ?_
  (try simp only [zP, zN, zA, zB, zC])
  refine nl_ (hK25 _ _ ?_); clear hK25 K25
  refine wp_cond_true rfl ?_
  refine wp_skip ?_
  refine th_norm (hK24 _ _ ?_); try clear hK24 K24
  refine sq_ (fun K26 hK26 => ?_)
  refine wp_block ?_
  refine s_ (fun K27 hK27 => ?_)
  refine pu_ (v := .slice (some ⟨ab, off, none⟩) len0 cap0) (y_move rfl (by rfl) (by rfl)) ?_
  (try simp only [zP, zN, zA, zB, zC])
  refine pu_ (v := .int .i64 k) (y_move rfl (by rfl) (by rfl)) ?_
  (try simp only [zP, zN, zA, zB, zC])
  refine pu_ (v := .pointer (some ⟨ab, off + k * 3, none⟩)) (y_run (by rfl) (fun W => by have d := D35.out; go_simp)) ?_
  (try simp only [zP, zN, zA, zB, zC])
  refine ld_ (v := .agg #[.int .i64 kz, .int .i64 nz, .int .u64 rz]) rfl (by rfl) (by rfl) (run_loadVar_at (cs := [.int .i64 kz, .int .i64 nz, .int .u64 rz]) HACT.out Try.underlying46 rfl (by kernel_rfl)) ?_
  (try simp only [zP, zN, zA, zB, zC])
  refine ef_ (fun K28 hK28 => ?_)
  refine e_alloc (by rfl) rfl rfl (cs := #[.int .i64 0, .int .i64 0, .int .u64 0]) (by kernel_rfl) ?_
  rintro g6 w29 HG30 B31 C32
  have nw33 := Lib.hid (show w.heap.size ≤ g6 by have := C0.out.size; have := HG30.out; omega)
  have ne34 := Lib.hid (show b ≠ g6 by have := PW.out.1.lt; have := HG30.out; omega)
  have nr35 := Lib.hid (PW.out.2.ne_new HG30)
  have nx36 := Lib.hid (RQ.out.1.ne_new (by decide) HG30)
  have C0' := Lib.hid (show Ch [] w w29 from C0.out.trans' C32 (fun x hx => absurd hx (by simp)))
  have PW' := Lib.hid (show WinIs w29 (w.heap.size) b (s) (v) from PW.out.ch C32 nin_nil rnin_nil)
  have RQ' := Lib.hid (show RefIs w29 (s) (x) from RQ.out.ch C32 xnin_nil)
  have Fg4' := Lib.hid (show Blk w29 g4 (#[x, .int .u64 (s).last, .bool (s).over, .bool (s).done]) 44 from C32.blk Fg4.out nin_nil)
  clear C0 PW RQ Fg4
  have C0 := C0'; clear C0'
  have PW := PW'; clear PW'
  have RQ := RQ'; clear RQ'
  have Fg4 := Fg4'; clear Fg4'
  have Fg6 := Lib.hid (show Blk w29 g6 (#[.int .i64 0, .int .i64 0, .int .u64 0]) 46 from B31); clear B31 C32
  refine hK28 _ _ ?_; clear hK28 K28
  (try simp only [zP, zN, zA, zB, zC])
  refine ef_ (fun K37 hK37 => ?_)
  refine e_storeN (cells := #[.int .i64 kz, .int .i64 nz, .int .u64 rz]) (by rfl) rfl rfl (by rfl) (by rfl) Fg6.out (by kernel_rfl) (by rfl) (ones_cons rfl (ones_cons rfl (ones_cons rfl ones_nil))) ?_
  rintro w38 B39 C40
  have C0' := Lib.hid (show Ch [] w w38 from C0.out.trans' C40 (inw_cons (.inr nw33.out) inw_nil))
  have PW' := Lib.hid (show WinIs w38 (w.heap.size) b (s) (v) from PW.out.ch C40 (nin_cons ne34.out nin_nil) (rnin_cons nr35.out rnin_nil))
  have RQ' := Lib.hid (show RefIs w38 (s) (x) from RQ.out.ch C40 (xnin_cons nx36.out xnin_nil))
  have Fg4' := Lib.hid (show Blk w38 g4 (#[x, .int .u64 (s).last, .bool (s).over, .bool (s).done]) 44 from C40.blk Fg4.out (nin_cons (Blk.ne_type Fg4.out Fg6.out (by decide)) nin_nil))
  clear C0 PW RQ Fg4
  have C0 := C0'; clear C0'
  have PW := PW'; clear PW'
  have RQ := RQ'; clear RQ'
  have Fg4 := Fg4'; clear Fg4'
  clear Fg6; have Fg6 := Lib.hid (show Blk w38 g6 (#[.int .i64 kz, .int .i64 nz, .int .u64 rz]) 46 from B39); clear B39 C40
  refine hK37 _ _ ?_; clear hK37 K37
  (try simp only [zP, zN, zA, zB, zC])
  refine nl_ (hK27 _ _ ?_); clear hK27 K27
  refine s_ (fun K41 hK41 => ?_)
  refine pu_ (v := .bool true) (y_assign rfl (by rfl) (by rfl)) ?_
  (try simp only [zP, zN, zA, zB, zC])
  refine nl_ (hK41 _ _ ?_); clear hK41 K41
  refine cutk_ (fun (a' : Act) (w' : World) => ∃ (s2 : Win), ∃ (v2 : Value), ∃ (x2 : Value), ∃ (us : Nat → Value), a' = ⟨#[.slice (some ⟨ab, off, none⟩) len0 cap0, us 1, .bool false, .pointer (some ⟨b, 0, none⟩), .pointer (some ⟨g4, 0, none⟩), .int .i64 k, us 6, .bool true, us 8, us 9, us 10, us 11, us 12, us 13, us 14, us 15, us 16, us 17, us 18, us 19, us 20, us 21, us 22, us 23, us 24, us 25, us 26, us 27, us 28, us 29, us 30, us 31, us 32, us 33, us 34, us 35, us 36, us 37, us 38, us 39, us 40, us 41, us 42, us 43, us 44, us 45, us 46, us 47, us 48, us 49, us 50, us 51, us 52, us 53, us 54, us 55, us 56, us 57, us 58, us 59, us 60, us 61, us 62, us 63, us 64, us 65, us 66, us 67, us 68, us 69, us 70, us 71, us 72, us 73, us 74, us 75, us 76, us 77, us 78, us 79, us 80, us 81, us 82, us 83, us 84, us 85, us 86, us 87, us 88, us 89, us 90, us 91, us 92, us 93, us 94, us 95, us 96, us 97, us 98, us 99, us 100, us 101, us 102, us 103, us 104, us 105, us 106, us 107, us 108, us 109, us 110, us 111, us 112, us 113, us 114, us 115, us 116, us 117, us 118, us 119, us 120, us 121, us 122, us 123, us 124, us 125, us 126, us 127, us 128, us 129, us 130, us 131, us 132, us 133, us 134, us 135, us 136, us 137, us 138, us 139, us 140, us 141, us 142, us 143, us 144, us 145, us 146, us 147, us 148, us 149, us 150, us 151, us 152, us 153, us 154, us 155, us 156, us 157, us 158, us 159, us 160, us 161, us 162, us 163, us 164, us 165, us 166, us 167, us 168], []⟩ ∧ Hid (Ch [] w w') ∧ Hid (WinIs w' (w.heap.size) b (s2) (v2)) ∧ Hid (RefIs w' (s2) (x2)) ∧ Hid (Blk w' g4 (#[x2, .int .u64 (s2).last, .bool (s2).over, .bool (s2).done]) 44) ∧ Hid (s2.L.length ≤ 16) ∧ Hid (∀ k, k ∈ xb x2 → k ∉ rl v2) ∧ Hid (b ∉ xb x2) ∧ Hid (g4 ∉ xb x2) ∧ Hid (g4 ∉ rl v2)) (fun K42 hK42 => ?_) ?_
  ·refine s_ (fun K44 hK44 => ?_)
   refine pu_ (v := .pointer (some ⟨g6, 0, none⟩)) (y_run (by rfl) (fun W => by go_simp)) ?_
   (try simp only [zP, zN, zA, zB, zC])
   refine ld_ (v := .int .i64 kz) rfl (by rfl) (by rfl) (run_load_one ((Fg6.out.cell 0).trans rfl) Try.underlying3 rfl) ?_
   (try simp only [zP, zN, zA, zB, zC])
   refine nl_ (hK44 _ _ ?_); clear hK44 K44
   refine wp_block ?_
   rcases (show kz = 0 ∨ kz = 1 ∨ kz = 2 ∨ (kz ≠ 0 ∧ kz ≠ 1 ∧ kz ≠ 2) by omega) with h | h | h | h
   ·have D43 := Lib.hid (show (kz == 0) = true from beq_iff_eq.2 h)
    have D76 := Lib.hid (show (kz == 1) = false from beq_eq_false_iff_ne.2 (by omega))
    have D92 := Lib.hid (show (kz == 2) = false from beq_eq_false_iff_ne.2 (by omega))
    clear h
    refine s_ (fun K45 hK45 => ?_)
    refine pu_ (v := .bool true) (y_run (by rfl) (fun W => by have d := D43.out; go_simp)) ?_
    (try simp only [zP, zN, zA, zB, zC])
    refine pu_ (v := .bool true) (y_assign rfl (by rfl) (by rfl)) ?_
    (try simp only [zP, zN, zA, zB, zC])
    refine nl_ (hK45 _ _ ?_); clear hK45 K45
    refine wp_cond_true rfl ?_
    refine s_ (fun K46 hK46 => ?_)
    refine pu_ (v := .int .i64 0) (y_assign rfl (by rfl) (by rfl)) ?_
    (try simp only [zP, zN, zA, zB, zC])
    refine nl_ (hK46 _ _ ?_); clear hK46 K46
    refine wp_block ?_
    refine loopk_ (fun (jq : Nat) (a' : Act) (w' : World) => ∃ (j : Nat), ∃ (s : Win), ∃ (v : Value), ∃ (x : Value), ∃ (us : Nat → Value), a' = ⟨#[.slice (some ⟨ab, off, none⟩) len0 cap0, us 1, .bool false, .pointer (some ⟨b, 0, none⟩), .pointer (some ⟨g4, 0, none⟩), .int .i64 k, .pointer (some ⟨g6, 0, none⟩), .bool true, .int .i64 j, us 9, us 10, us 11, us 12, us 13, us 14, us 15, us 16, us 17, us 18, us 19, us 20, us 21, us 22, us 23, us 24, us 25, us 26, us 27, us 28, us 29, us 30, us 31, us 32, us 33, us 34, us 35, us 36, us 37, us 38, us 39, us 40, us 41, us 42, us 43, us 44, us 45, us 46, us 47, us 48, us 49, us 50, us 51, us 52, us 53, us 54, us 55, us 56, us 57, us 58, us 59, us 60, us 61, us 62, us 63, us 64, us 65, us 66, us 67, us 68, us 69, us 70, us 71, us 72, us 73, us 74, us 75, us 76, us 77, us 78, us 79, us 80, us 81, us 82, us 83, us 84, us 85, us 86, us 87, us 88, us 89, us 90, us 91, us 92, us 93, us 94, us 95, us 96, us 97, us 98, us 99, us 100, us 101, us 102, us 103, us 104, us 105, us 106, us 107, us 108, us 109, us 110, us 111, us 112, us 113, us 114, us 115, us 116, us 117, us 118, us 119, us 120, us 121, us 122, us 123, us 124, us 125, us 126, us 127, us 128, us 129, us 130, us 131, us 132, us 133, us 134, us 135, us 136, us 137, us 138, us 139, us 140, us 141, us 142, us 143, us 144, us 145, us 146, us 147, us 148, us 149, us 150, us 151, us 152, us 153, us 154, us 155, us 156, us 157, us 158, us 159, us 160, us 161, us 162, us 163, us 164, us 165, us 166, us 167, us 168], []⟩ ∧ Hid (Ch [] w w') ∧ Hid (WinIs w' (w.heap.size) b (s) (v)) ∧ Hid (RefIs w' (s) (x)) ∧ Hid (Blk w' g4 (#[x, .int .u64 (s).last, .bool (s).over, .bool (s).done]) 44) ∧ Hid (Blk w' g6 (#[.int .i64 kz, .int .i64 nz, .int .u64 rz]) 46) ∧ Hid (j ≤ 20 ∧ jq + j = 20) ∧ Hid (s.L.length ≤ 16) ∧ Hid (∀ k, k ∈ xb x → k ∉ rl v) ∧ Hid (b ∉ xb x) ∧ Hid (g4 ∉ xb x) ∧ Hid (g4 ∉ rl v) ∧ Hid (g6 ∉ xb x) ∧ Hid (g6 ∉ rl v)) (20) (⟨0, s, _, _, fun us_ => (#[.slice (some ⟨ab, off, none⟩) len0 cap0, us 1, .bool false, .pointer (some ⟨b, 0, none⟩), .pointer (some ⟨g4, 0, none⟩), .int .i64 k, .pointer (some ⟨g6, 0, none⟩), .bool true, .int .i64 0, us 9, us 10, us 11, us 12, us 13, us 14, us 15, us 16, us 17, us 18, us 19, us 20, us 21, us 22, .int .i64 k, .slice (some ⟨ab, off, none⟩) len0 cap0, .int .i64 len0, .bool true, .bool true, .int .i64 k, .bool true, .bool true, us 31, us 32, .slice (some ⟨ab, off, none⟩) len0 cap0, .int .i64 k, .pointer (some ⟨ab, off + k * 3, none⟩), .agg #[.int .i64 kz, .int .i64 nz, .int .u64 rz], .pointer (some ⟨g6, 0, none⟩), .int .i64 kz, us 39, us 40, us 41, .bool true, .bool true, us 44, us 45, us 46, us 47, us 48, us 49, us 50, us 51, us 52, us 53, us 54, us 55, us 56, us 57, us 58, us 59, us 60, us 61, us 62, us 63, us 64, us 65, us 66, us 67, us 68, us 69, us 70, us 71, us 72, us 73, us 74, us 75, us 76, us 77, us 78, us 79, us 80, us 81, us 82, us 83, us 84, us 85, us 86, us 87, us 88, us 89, us 90, us 91, us 92, us 93, us 94, us 95, us 96, us 97, us 98, us 99, us 100, us 101, us 102, us 103, us 104, us 105, us 106, us 107, us 108, us 109, us 110, us 111, us 112, us 113, us 114, us 115, us 116, us 117, us 118, us 119, us 120, us 121, us 122, us 123, us 124, us 125, us 126, us 127, us 128, us 129, us 130, us 131, us 132, us 133, us 134, us 135, us 136, us 137, us 138, us 139, us 140, us 141, us 142, us 143, us 144, us 145, us 146, us 147, us 148, us 149, us 150, us 151, us 152, us 153, us 154, us 155, us 156, us 157, us 158, us 159, us 160, us 161, us 162, us 163, us 164, us 165, us 166, us 167, us 168] : Array Value).getD us_ undef, rfl, C0, PW, RQ, Fg4, Fg6, Lib.hid ⟨by omega, rfl⟩, hL, hxr, hxb, hxg, hgr, nx36, Lib.hid (PW.out.2.ne Fg6.out (by decide))⟩) ?_
    rintro jq _ w47 ⟨j, s, v, x, us, rfl, C0, PW, RQ, Fg4, Fg6, hj, hL, hxr, hxb, hxg, hgr, hx6, hv6⟩ K48 hK48
    refine sq_ (fun K49 hK49 => ?_)
    rcases (show j = 0 ∨ (0 < j ∧ (j : Int) < nz ∧ j < 20) ∨ (0 < j ∧ (j : Int) < nz ∧ j = 20) ∨ (0 < j ∧ nz ≤ (j : Int)) by have := hj.out; omega) with h | h | h | h
    ·have hjl := Lib.hid (show j < 20 by omega)
     have WJ := Lib.hid (show IntKind.i64.wrap ((j : Int) + 1) = ((j + 1 : Nat) : Int) by rw [wr64 (by omega)]; omega)
     have J0 := Lib.hid (show ((j : Int) == 0) = true from beq_iff_eq.2 (by omega))
     clear h
     refine s_ (fun K50 hK50 => ?_)
     refine pu_ (v := .bool true) (y_move rfl (by rfl) (by rfl)) ?_
     (try simp only [zP, zN, zA, zB, zC])
     refine pu_ (v := .bool true) (y_move rfl (by rfl) (by rfl)) ?_
     (try simp only [zP, zN, zA, zB, zC])
     refine pu_ (v := .int .i64 j) (y_move rfl (by rfl) (by rfl)) ?_
     (try simp only [zP, zN, zA, zB, zC])
     refine pu_ (v := .bool true) (y_run (by rfl) (fun W => by have d := J0.out; go_simp)) ?_
     (try simp only [zP, zN, zA, zB, zC])
     refine pu_ (v := .bool true) (y_move rfl (by rfl) (by rfl)) ?_
     (try simp only [zP, zN, zA, zB, zC])
     refine pu_ (y_off (by rfl)) ?_
     (try simp only [zP, zN, zA, zB, zC])
     refine pu_ (y_off (by rfl)) ?_
     (try simp only [zP, zN, zA, zB, zC])
     refine pu_ (y_off (by rfl)) ?_
     (try simp only [zP, zN, zA, zB, zC])
     refine pu_ (y_off (by rfl)) ?_
     (try simp only [zP, zN, zA, zB, zC])
     refine pu_ (y_off (by rfl)) ?_
     (try simp only [zP, zN, zA, zB, zC])
     refine pu_ (y_off (by rfl)) ?_
     (try simp only [zP, zN, zA, zB, zC])
     refine pu_ (y_off (by rfl)) ?_
     (try simp only [zP, zN, zA, zB, zC])
     refine pu_ (y_off (by rfl)) ?_
     (try simp only [zP, zN, zA, zB, zC])
     refine pu_ (v := .bool true) (y_pick (t := true) (by rfl) rfl (by rfl) (by rfl)) ?_
     (try simp only [zP, zN, zA, zB, zC])
     refine pu_ (v := .bool true) (y_pick (t := true) (by rfl) rfl (by rfl) (by rfl)) ?_
     (try simp only [zP, zN, zA, zB, zC])
     refine nl_ (hK50 _ _ ?_); clear hK50 K50
     refine wp_cond_true rfl ?_
     refine wp_skip ?_
     refine th_norm (hK49 _ _ ?_); try clear hK49 K49
     refine sq_ (fun K51 hK51 => ?_)
     refine wp_block ?_
     refine sq_ (fun K52 hK52 => ?_)
     refine startk_ (S := fun W => Blk W g4 (#[x, .int .u64 (s).last, .bool (s).over, .bool (s).done]) 44 ∧ Blk W g6 (#[.int .i64 kz, .int .i64 nz, .int .u64 rz]) 46 ∧ True) (ds := []) #[false, false, false, false, false, false, false, false, false, false] (by kernel_rfl) rfl rfl (fun W c => ⟨c.blk Fg4.out nin_nil, c.blk Fg6.out nin_nil, trivial⟩) (fun w53 C54 hS55 => ?_)
     have C0' := Lib.hid (show Ch [] w w53 from C0.out.trans' C54 (fun x hx => absurd hx (by simp)))
     have PW' := Lib.hid (show WinIs w53 (w.heap.size) b (s) (v) from PW.out.ch C54 nin_nil rnin_nil)
     have RQ' := Lib.hid (show RefIs w53 (s) (x) from RQ.out.ch C54 xnin_nil)
     have Fg4' := Lib.hid (show Blk w53 g4 (#[x, .int .u64 (s).last, .bool (s).over, .bool (s).done]) 44 from C54.blk Fg4.out nin_nil)
     have Fg6' := Lib.hid (show Blk w53 g6 (#[.int .i64 kz, .int .i64 nz, .int .u64 rz]) 46 from C54.blk Fg6.out nin_nil)
     clear C0 PW RQ Fg4 Fg6
     have C0 := C0'; clear C0'
     have PW := PW'; clear PW'
     have RQ := RQ'; clear RQ'
     have Fg4 := Fg4'; clear Fg4'
     have Fg6 := Fg6'; clear Fg6'
     clear C54
     refine take_ (i := 0) (N := some 62) (v := .agg (#[x, .int .u64 (s).last, .bool (s).over, .bool (s).done])) #[true, false, false, false, false, false, false, false, false, false] rfl rfl (by kernel_rfl) (fun c a w h => hP c a _ _ w h) (y_load (p := ⟨g4, 0, none⟩) rfl (by rfl) (by rfl) (fun W hS => run_loadVar_row _ _ 44 44 (#[x, .int .u64 (s).last, .bool (s).over, .bool (s).done]) (0, 0) _ hS.1 Try.underlying44 rfl (by kernel_rfl))) hS55 rfl ?_
     (try simp only [zP, zN, zA, zB, zC])
     refine take_ (i := 1) (N := some 63) (v := .agg (#[.int .i64 kz, .int .i64 nz, .int .u64 rz])) #[true, true, false, false, false, false, false, false, false, false] rfl rfl (by kernel_rfl) (fun c a w h => hP c a _ _ w h) (y_load (p := ⟨g6, 0, none⟩) rfl (by rfl) (by rfl) (fun W hS => run_loadVar_row _ _ 46 46 (#[.int .i64 kz, .int .i64 nz, .int .u64 rz]) (0, 0) _ hS.2.1 Try.underlying46 rfl (by kernel_rfl))) hS55 rfl ?_
     (try simp only [zP, zN, zA, zB, zC])
     refine two_ (i := 2) (j := 7) (Ni := some 64) (Nj := some 9) #[true, true, true, false, false, false, false, false, false, false] #[true, true, false, false, false, false, false, true, false, false] rfl rfl rfl rfl (by kernel_rfl) (by simp) (by simp) (fun K56 hK56 => ?_) (fun K57 hK57 => ?_)
     ·refine e_call Try.func17 (by kernel_rfl) rfl #[.agg (#[.int .i64 kz, .int .i64 nz, .int .u64 rz])] (by rfl) rfl rfl (by first | rfl | (simp only [List.map_toArray, List.map_cons, List.map_nil]; first | done | rfl)) (event_any _ kz nz rz) ?_
      rintro en w59 ⟨rfl, cc58⟩
      refine ⟨_, rfl, ?_⟩
      have C0' := Lib.hid (show Ch [] w w59 from C0.out.trans' cc58 (fun x hx => absurd hx (by simp)))
      have PW' := Lib.hid (show WinIs w59 (w.heap.size) b (s) (v) from PW.out.ch cc58 nin_nil rnin_nil)
      have RQ' := Lib.hid (show RefIs w59 (s) (x) from RQ.out.ch cc58 xnin_nil)
      have Fg4' := Lib.hid (show Blk w59 g4 (#[x, .int .u64 (s).last, .bool (s).over, .bool (s).done]) 44 from cc58.blk Fg4.out nin_nil)
      have Fg6' := Lib.hid (show Blk w59 g6 (#[.int .i64 kz, .int .i64 nz, .int .u64 rz]) 46 from cc58.blk Fg6.out nin_nil)
      clear C0 PW RQ Fg4 Fg6
      have C0 := C0'; clear C0'
      have PW := PW'; clear PW'
      have RQ := RQ'; clear RQ'
      have Fg4 := Fg4'; clear Fg4'
      have Fg6 := Fg6'; clear Fg6'
      clear cc58
      refine hK56.out _ _ ⟨Fg4.out, Fg6.out, trivial⟩ (fun hS60 => ?_); clear hK56 K56
      (try simp only [zP, zN, zA, zB, zC])
      refine two_ (i := 3) (j := 7) (Ni := some 65) (Nj := some 9) #[true, true, true, true, false, false, false, false, false, false] #[true, true, true, false, false, false, false, true, false, false] rfl rfl rfl rfl (by kernel_rfl) (by simp) (by simp) (fun K61 hK61 => ?_) (fun K62 hK62 => ?_)
      ·refine e_call Try.func16 (by kernel_rfl) rfl #[.agg (#[x, .int .u64 (s).last, .bool (s).over, .bool (s).done]), .agg (evA (⟨2, rz, 5, rz⟩ : Ev))] (by rfl) rfl rfl (by first | rfl | (simp only [List.map_toArray, List.map_cons, List.map_nil]; first | done | rfl)) (rput_all (⟨2, rz, 5, rz⟩ : Ev) RQ.out (by have := hL.out; omega)) ?_
       rintro en w67 ⟨x63, rfl, hr65, cc64, hx66⟩
       refine ⟨_, rfl, ?_⟩
       have nx68 := Lib.hid (show b ∉ xb x63 from fun hk => (hx66 _ hk).elim hxb.out (fun h => by have := PW.out.1.lt; omega))
       have xr69 := Lib.hid (show ∀ k, k ∈ xb x63 → k ∉ rl (v) from fun k hk hm => (hx66 k hk).elim (fun h => hxr.out k h hm) (fun h => by have := (PW.out.2.lt k hm).2; omega))
       have nx70 := Lib.hid (show g4 ∉ xb x63 from fun hk => (hx66 _ hk).elim hxg.out (fun h => by have := Fg4.out.lt; omega))
       have nx71 := Lib.hid (show g6 ∉ xb x63 from fun hk => (hx66 _ hk).elim hx6.out (fun h => by have := Fg6.out.lt; omega))
       have C0' := Lib.hid (show Ch [] w w67 from C0.out.trans' cc64 (fun x hx => absurd hx (by simp)))
       have PW' := Lib.hid (show WinIs w67 (w.heap.size) b (s) (v) from PW.out.ch cc64 nin_nil rnin_nil)
       have Fg4' := Lib.hid (show Blk w67 g4 (#[x, .int .u64 (s).last, .bool (s).over, .bool (s).done]) 44 from cc64.blk Fg4.out nin_nil)
       have Fg6' := Lib.hid (show Blk w67 g6 (#[.int .i64 kz, .int .i64 nz, .int .u64 rz]) 46 from cc64.blk Fg6.out nin_nil)
       clear C0 PW Fg4 Fg6
       have C0 := C0'; clear C0'
       have PW := PW'; clear PW'
       have Fg4 := Fg4'; clear Fg4'
       have Fg6 := Fg6'; clear Fg6'
       clear RQ
       clear cc64
       have RQ := Lib.hid (show RefIs w67 ((putW s (⟨2, rz, 5, rz⟩ : Ev)).1) (x63) from hr65)
       refine hK61.out _ _ ⟨Fg4.out, Fg6.out, trivial⟩ (fun hS72 => ?_); clear hK61 K61
       (try simp only [zP, zN, zA, zB, zC])
       refine pure_ (i := 4) (N := some 61) (v := .tuple #[.agg (refA x63 (putW s (⟨2, rz, 5, rz⟩ : Ev)).1), .bool (putW s (⟨2, rz, 5, rz⟩ : Ev)).2]) #[true, true, true, true, true, false, false, false, false, false] rfl rfl (by kernel_rfl) (fun c a w h => hP c a _ _ w h) (y_move rfl (by rfl) (by rfl)) rfl ?_
       (try simp only [zP, zN, zA, zB, zC])
       refine pure_ (i := 5) (N := some 66) (v := .agg (refA x63 (putW s (⟨2, rz, 5, rz⟩ : Ev)).1)) #[true, true, true, true, true, true, false, false, false, false] rfl rfl (by kernel_rfl) (fun c a w h => hP c a _ _ w h) (y_run (by rfl) (fun W => by go_simp)) rfl ?_
       (try simp only [zP, zN, zA, zB, zC])
       refine pure_ (i := 6) (N := some 67) (v := .bool (putW s (⟨2, rz, 5, rz⟩ : Ev)).2) #[true, true, true, true, true, true, true, false, false, false] rfl rfl (by kernel_rfl) (fun c a w h => hP c a _ _ w h) (y_run (by rfl) (fun W => by go_simp)) rfl ?_
       (try simp only [zP, zN, zA, zB, zC])
       refine one_ (i := 7) (N := some 9) #[true, true, true, true, true, true, true, true, false, false] rfl rfl (by kernel_rfl) (by simp) (fun K73 hK73 => ?_)
       refine e_alloc (by rfl) rfl rfl (cs := #[.slice none 0 0, .int .u64 0, .bool false, .bool false]) (by kernel_rfl) ?_
       rintro g74 w75 HG76 B77 C78
       have nw79 := Lib.hid (show w.heap.size ≤ g74 by have := C0.out.size; have := HG76.out; omega)
       have ne80 := Lib.hid (show b ≠ g74 by have := PW.out.1.lt; have := HG76.out; omega)
       have nr81 := Lib.hid (PW.out.2.ne_new HG76)
       have ne82 := Lib.hid (Fg4.out.ne_new HG76)
       have nx83 := Lib.hid (RQ.out.1.ne_new (by decide) HG76)
       have C0' := Lib.hid (show Ch [] w w75 from C0.out.trans' C78 (fun x hx => absurd hx (by simp)))
       have PW' := Lib.hid (show WinIs w75 (w.heap.size) b (s) (v) from PW.out.ch C78 nin_nil rnin_nil)
       have Fg4' := Lib.hid (show Blk w75 g4 (#[x, .int .u64 (s).last, .bool (s).over, .bool (s).done]) 44 from C78.blk Fg4.out nin_nil)
       have Fg6' := Lib.hid (show Blk w75 g6 (#[.int .i64 kz, .int .i64 nz, .int .u64 rz]) 46 from C78.blk Fg6.out nin_nil)
       have RQ' := Lib.hid (show RefIs w75 ((putW s (⟨2, rz, 5, rz⟩ : Ev)).1) (x63) from RQ.out.ch C78 xnin_nil)
       clear C0 PW Fg4 Fg6 RQ
       have C0 := C0'; clear C0'
       have PW := PW'; clear PW'
       have Fg4 := Fg4'; clear Fg4'
       have Fg6 := Fg6'; clear Fg6'
       have RQ := RQ'; clear RQ'
       have Fg74 := Lib.hid (show Blk w75 g74 (#[.slice none 0 0, .int .u64 0, .bool false, .bool false]) 44 from B77); clear B77 C78
       refine hK73.out _ _ ⟨Fg4.out, Fg6.out, trivial⟩ (fun hS84 => ?_); clear hK73 K73
       (try simp only [zP, zN, zA, zB, zC])
       refine one_ (i := 8) (N := none) #[true, true, true, true, true, true, true, true, true, false] rfl rfl (by kernel_rfl) (by simp) (fun K85 hK85 => ?_)
       refine e_storeN (cells := (refA x63 (putW s (⟨2, rz, 5, rz⟩ : Ev)).1)) (by rfl) rfl rfl (by rfl) (by rfl) Fg74.out (by kernel_rfl) (by rfl) (ones_cons (ref_one RQ.out) (ones_cons rfl (ones_cons rfl (ones_cons rfl ones_nil)))) ?_
       rintro w86 B87 C88
       have C0' := Lib.hid (show Ch [] w w86 from C0.out.trans' C88 (inw_cons (.inr nw79.out) inw_nil))
       have PW' := Lib.hid (show WinIs w86 (w.heap.size) b (s) (v) from PW.out.ch C88 (nin_cons ne80.out nin_nil) (rnin_cons nr81.out rnin_nil))
       have Fg4' := Lib.hid (show Blk w86 g4 (#[x, .int .u64 (s).last, .bool (s).over, .bool (s).done]) 44 from C88.blk Fg4.out (nin_cons ne82.out nin_nil))
       have Fg6' := Lib.hid (show Blk w86 g6 (#[.int .i64 kz, .int .i64 nz, .int .u64 rz]) 46 from C88.blk Fg6.out (nin_cons (Blk.ne_type Fg6.out Fg74.out (by decide)) nin_nil))
       have RQ' := Lib.hid (show RefIs w86 ((putW s (⟨2, rz, 5, rz⟩ : Ev)).1) (x63) from RQ.out.ch C88 (xnin_cons nx83.out xnin_nil))
       clear C0 PW Fg4 Fg6 RQ
       have C0 := C0'; clear C0'
       have PW := PW'; clear PW'
       have Fg4 := Fg4'; clear Fg4'
       have Fg6 := Fg6'; clear Fg6'
       have RQ := RQ'; clear RQ'
       clear Fg74; have Fg74 := Lib.hid (show Blk w86 g74 ((refA x63 (putW s (⟨2, rz, 5, rz⟩ : Ev)).1)) 44 from B87); clear B87 C88
       refine hK85.out _ _ ⟨Fg4.out, Fg6.out, trivial⟩ (fun hS89 => ?_); clear hK85 K85
       (try simp only [zP, zN, zA, zB, zC])
       refine pure_ (i := 9) (N := some 10) (v := .bool (putW s (⟨2, rz, 5, rz⟩ : Ev)).2) #[true, true, true, true, true, true, true, true, true, true] rfl rfl (by kernel_rfl) (fun c a w h => hP c a _ _ w h) (y_assign rfl (by rfl) (by rfl)) rfl ?_
       (try simp only [zP, zN, zA, zB, zC])
       refine done_ (by kernel_rfl) (th_norm (hK52 _ _ ?_)); clear hK52 K52
       refine s_ (fun K90 hK90 => ?_)
       refine ld_ (v := .agg ((refA x63 (putW s (⟨2, rz, 5, rz⟩ : Ev)).1))) rfl (by rfl) (by rfl) (run_loadVar_row _ _ 44 44 ((refA x63 (putW s (⟨2, rz, 5, rz⟩ : Ev)).1)) (0, 0) _ Fg74.out Try.underlying44 rfl (by kernel_rfl)) ?_
       (try simp only [zP, zN, zA, zB, zC])
       refine ef_ (fun K91 hK91 => ?_)
       refine e_storeN (cells := ((refA x63 (putW s (⟨2, rz, 5, rz⟩ : Ev)).1))) (by rfl) rfl rfl (by rfl) (by rfl) Fg4.out (by kernel_rfl) (by rfl) (ones_cons (ref_one RQ.out) (ones_cons rfl (ones_cons rfl (ones_cons rfl ones_nil)))) ?_
       rintro w92 B93 C94
       have C0' := Lib.hid (show Ch [] w w92 from C0.out.trans' C94 (inw_cons (.inr nw13.out) inw_nil))
       have PW' := Lib.hid (show WinIs w92 (w.heap.size) b (s) (v) from PW.out.ch C94 (nin_cons ne14.out nin_nil) (rnin_cons hgr.out rnin_nil))
       have Fg6' := Lib.hid (show Blk w92 g6 (#[.int .i64 kz, .int .i64 nz, .int .u64 rz]) 46 from C94.blk Fg6.out (nin_cons (Blk.ne_type Fg6.out Fg4.out (by decide)) nin_nil))
       have RQ' := Lib.hid (show RefIs w92 ((putW s (⟨2, rz, 5, rz⟩ : Ev)).1) (x63) from RQ.out.ch C94 (xnin_cons nx70.out xnin_nil))
       have Fg74' := Lib.hid (show Blk w92 g74 ((refA x63 (putW s (⟨2, rz, 5, rz⟩ : Ev)).1)) 44 from C94.blk Fg74.out (nin_cons (Ne.symm ne82.out) nin_nil))
       clear C0 PW Fg6 RQ Fg74
       have C0 := C0'; clear C0'
       have PW := PW'; clear PW'
       have Fg6 := Fg6'; clear Fg6'
       have RQ := RQ'; clear RQ'
       have Fg74 := Fg74'; clear Fg74'
       clear Fg4; have Fg4 := Lib.hid (show Blk w92 g4 (((refA x63 (putW s (⟨2, rz, 5, rz⟩ : Ev)).1))) 44 from B93); clear B93 C94
       refine hK91 _ _ ?_; clear hK91 K91
       (try simp only [zP, zN, zA, zB, zC])
       refine nl_ (hK90 _ _ ?_); clear hK90 K90
       refine r_ ?_
       refine pu_ (v := .pointer (some ⟨b, 0, none⟩)) (y_move rfl (by rfl) (by rfl)) ?_
       (try simp only [zP, zN, zA, zB, zC])
       refine ld_ (v := .agg (#[.int .i64 kz, .int .i64 nz, .int .u64 rz])) rfl (by rfl) (by rfl) (run_loadVar_row _ _ 46 46 (#[.int .i64 kz, .int .i64 nz, .int .u64 rz]) (0, 0) _ Fg6.out Try.underlying46 rfl (by kernel_rfl)) ?_
       (try simp only [zP, zN, zA, zB, zC])
       refine ef_ (fun K95 hK95 => ?_)
       refine e_call Try.func17 (by kernel_rfl) rfl #[.agg (#[.int .i64 kz, .int .i64 nz, .int .u64 rz])] (by rfl) rfl rfl (by first | rfl | (simp only [List.map_toArray, List.map_cons, List.map_nil]; first | done | rfl)) (event_any _ kz nz rz) ?_
       rintro en w97 ⟨rfl, cc96⟩
       refine ⟨_, rfl, ?_⟩
       have C0' := Lib.hid (show Ch [] w w97 from C0.out.trans' cc96 (fun x hx => absurd hx (by simp)))
       have PW' := Lib.hid (show WinIs w97 (w.heap.size) b (s) (v) from PW.out.ch cc96 nin_nil rnin_nil)
       have Fg4' := Lib.hid (show Blk w97 g4 (((refA x63 (putW s (⟨2, rz, 5, rz⟩ : Ev)).1))) 44 from cc96.blk Fg4.out nin_nil)
       have Fg6' := Lib.hid (show Blk w97 g6 (#[.int .i64 kz, .int .i64 nz, .int .u64 rz]) 46 from cc96.blk Fg6.out nin_nil)
       have RQ' := Lib.hid (show RefIs w97 ((putW s (⟨2, rz, 5, rz⟩ : Ev)).1) (x63) from RQ.out.ch cc96 xnin_nil)
       have Fg74' := Lib.hid (show Blk w97 g74 ((refA x63 (putW s (⟨2, rz, 5, rz⟩ : Ev)).1)) 44 from cc96.blk Fg74.out nin_nil)
       clear C0 PW Fg4 Fg6 RQ Fg74
       have C0 := C0'; clear C0'
       have PW := PW'; clear PW'
       have Fg4 := Fg4'; clear Fg4'
       have Fg6 := Fg6'; clear Fg6'
       have RQ := RQ'; clear RQ'
       have Fg74 := Fg74'; clear Fg74'
       clear cc96
       refine hK95 _ _ ?_; clear hK95 K95
       (try simp only [zP, zN, zA, zB, zC])
       refine ef_ (fun K98 hK98 => ?_)
       refine e_call Try.func18 (by kernel_rfl) rfl #[.pointer (some ⟨b, 0, none⟩), .agg (evA (⟨2, rz, 5, rz⟩ : Ev))] (by rfl) rfl rfl (by first | rfl | (simp only [List.map_toArray, List.map_cons, List.map_nil]; first | done | rfl)) (put_all (⟨2, rz, 5, rz⟩ : Ev) PW.out C0.out.size (by have := hL.out; omega)) ?_
       rintro en w103 ⟨v99, rfl, hw101, cc100, hr102⟩
       refine ⟨_, rfl, ?_⟩
       have xr104 := Lib.hid (show ∀ k, k ∈ xb (x63) → k ∉ rl v99 from fun k hk hm => (hr102 k hm).elim (fun h => (xnin_cons nx68.out xr69.out) k hk h) (fun h => by have := RQ.out.1.lt (by decide) k hk; omega))
       have C0' := Lib.hid (show Ch [] w w103 from C0.out.trans' cc100 (inw_cons (.inr HBN.out) (fun x hx => .inr (PW.out.2.lt x hx).1)))
       have Fg4' := Lib.hid (show Blk w103 g4 (((refA x63 (putW s (⟨2, rz, 5, rz⟩ : Ev)).1))) 44 from cc100.blk Fg4.out (nin_cons (Ne.symm ne14.out) hgr.out))
       have Fg6' := Lib.hid (show Blk w103 g6 (#[.int .i64 kz, .int .i64 nz, .int .u64 rz]) 46 from cc100.blk Fg6.out (nin_cons (Ne.symm ne34.out) hv6.out))
       have RQ' := Lib.hid (show RefIs w103 ((putW s (⟨2, rz, 5, rz⟩ : Ev)).1) (x63) from RQ.out.ch cc100 (xnin_cons nx68.out xr69.out))
       have Fg74' := Lib.hid (show Blk w103 g74 ((refA x63 (putW s (⟨2, rz, 5, rz⟩ : Ev)).1)) 44 from cc100.blk Fg74.out (nin_cons (Ne.symm ne80.out) nr81.out))
       clear C0 Fg4 Fg6 RQ Fg74
       have C0 := C0'; clear C0'
       have Fg4 := Fg4'; clear Fg4'
       have Fg6 := Fg6'; clear Fg6'
       have RQ := RQ'; clear RQ'
       have Fg74 := Fg74'; clear Fg74'
       clear PW
       clear cc100
       have PW := Lib.hid (show WinIs w103 (w.heap.size) b ((putW s (⟨2, rz, 5, rz⟩ : Ev)).1) (v99) from hw101)
       have nr105 := Lib.hid (show g4 ∉ rl v99 from PW.out.2.ne Fg4.out (by decide))
       refine hK98 _ _ ?_; clear hK98 K98
       (try simp only [zP, zN, zA, zB, zC])
       refine pu_ (v := .bool (putW s (⟨2, rz, 5, rz⟩ : Ev)).2) (y_move rfl (by rfl) (by rfl)) ?_
       (try simp only [zP, zN, zA, zB, zC])
       refine pu_ (v := .bool true) (y_run (by rfl) (fun W => by go_simp)) ?_
       (try simp only [zP, zN, zA, zB, zC])
       refine pu_ (v := .bool true) (y_assign rfl (by rfl) (by rfl)) ?_
       (try simp only [zP, zN, zA, zB, zC])
       refine nl_ ?_
       refine ib_norm ?_
       refine th_norm (hK51 _ _ ?_); try clear hK51 K51
       refine r_ ?_
       refine pu_ (v := .int .i64 j) (y_move rfl (by rfl) (by rfl)) ?_
       (try simp only [zP, zN, zA, zB, zC])
       refine pu_ (v := .int .i64 (j + 1 : Nat)) (y_run (by rfl) (fun W => by have d := WJ.out; go_simp)) ?_
       (try simp only [zP, zN, zA, zB, zC])
       refine pu_ (v := .int .i64 (j + 1 : Nat)) (y_assign rfl (by rfl) (by rfl)) ?_
       (try simp only [zP, zN, zA, zB, zC])
       refine nl_ ?_
       exact th_norm (hK48 (jq - 1) _ _ (by have := hjl.out; have := hj.out; omega) ⟨j + 1, (putW s (⟨2, rz, 5, rz⟩ : Ev)).1, _, x63, fun us_ => (#[.slice (some ⟨ab, off, none⟩) len0 cap0, us 1, .bool false, .pointer (some ⟨b, 0, none⟩), .pointer (some ⟨g4, 0, none⟩), .int .i64 k, .pointer (some ⟨g6, 0, none⟩), .bool true, .int .i64 (j + 1 : Nat), .pointer (some ⟨g74, 0, none⟩), .bool (putW s (⟨2, rz, 5, rz⟩ : Ev)).2, us 11, us 12, us 13, us 14, us 15, us 16, us 17, us 18, us 19, us 20, us 21, us 22, us 23, us 24, us 25, us 26, us 27, us 28, us 29, us 30, us 31, us 32, us 33, us 34, us 35, us 36, us 37, us 38, us 39, us 40, us 41, us 42, us 43, .bool true, .bool true, .int .i64 j, .bool true, .bool true, undef, undef, undef, undef, undef, undef, undef, undef, .bool true, .bool true, .int .i64 j, .int .i64 (j + 1 : Nat), .tuple #[.agg (refA x63 (putW s (⟨2, rz, 5, rz⟩ : Ev)).1), .bool (putW s (⟨2, rz, 5, rz⟩ : Ev)).2], .agg (#[x, .int .u64 (s).last, .bool (s).over, .bool (s).done]), .agg (#[.int .i64 kz, .int .i64 nz, .int .u64 rz]), .agg (evA (⟨2, rz, 5, rz⟩ : Ev)), .tuple #[.agg (refA x63 (putW s (⟨2, rz, 5, rz⟩ : Ev)).1), .bool (putW s (⟨2, rz, 5, rz⟩ : Ev)).2], .agg (refA x63 (putW s (⟨2, rz, 5, rz⟩ : Ev)).1), .bool (putW s (⟨2, rz, 5, rz⟩ : Ev)).2, .agg ((refA x63 (putW s (⟨2, rz, 5, rz⟩ : Ev)).1)), .pointer (some ⟨b, 0, none⟩), .agg (#[.int .i64 kz, .int .i64 nz, .int .u64 rz]), .agg (evA (⟨2, rz, 5, rz⟩ : Ev)), .bool (putW s (⟨2, rz, 5, rz⟩ : Ev)).2, .bool (putW s (⟨2, rz, 5, rz⟩ : Ev)).2, .bool true, us 75, us 76, us 77, us 78, us 79, us 80, us 81, us 82, us 83, us 84, us 85, us 86, us 87, us 88, us 89, us 90, us 91, us 92, us 93, us 94, us 95, us 96, us 97, us 98, us 99, us 100, us 101, us 102, us 103, us 104, us 105, us 106, us 107, us 108, us 109, us 110, us 111, us 112, us 113, us 114, us 115, us 116, us 117, us 118, us 119, us 120, us 121, us 122, us 123, us 124, us 125, us 126, us 127, us 128, us 129, us 130, us 131, us 132, us 133, us 134, us 135, us 136, us 137, us 138, us 139, us 140, us 141, us 142, us 143, us 144, us 145, us 146, us 147, us 148, us 149, us 150, us 151, us 152, us 153, us 154, us 155, us 156, us 157, us 158, us 159, us 160, us 161, us 162, us 163, us 164, us 165, us 166, us 167, us 168] : Array Value).getD us_ undef, rfl, C0, PW, RQ, Fg4, Fg6, Lib.hid ⟨by have := hjl.out; omega, by have := hjl.out; have := hj.out; omega⟩, Lib.hid (putW_le _ hL.out), xr104, nx68, nx70, nr105, nx71, Lib.hid (PW.out.2.ne Fg6.out (by decide))⟩)
      ·refine e_alloc (by rfl) rfl rfl (cs := #[.slice none 0 0, .int .u64 0, .bool false, .bool false]) (by kernel_rfl) ?_
       rintro g106 w107 HG108 B109 C110
       have nw111 := Lib.hid (show w.heap.size ≤ g106 by have := C0.out.size; have := HG108.out; omega)
       have ne112 := Lib.hid (show b ≠ g106 by have := PW.out.1.lt; have := HG108.out; omega)
       have nr113 := Lib.hid (PW.out.2.ne_new HG108)
       have nx114 := Lib.hid (RQ.out.1.ne_new (by decide) HG108)
       have ne115 := Lib.hid (Fg4.out.ne_new HG108)
       have C0' := Lib.hid (show Ch [] w w107 from C0.out.trans' C110 (fun x hx => absurd hx (by simp)))
       have PW' := Lib.hid (show WinIs w107 (w.heap.size) b (s) (v) from PW.out.ch C110 nin_nil rnin_nil)
       have RQ' := Lib.hid (show RefIs w107 (s) (x) from RQ.out.ch C110 xnin_nil)
       have Fg4' := Lib.hid (show Blk w107 g4 (#[x, .int .u64 (s).last, .bool (s).over, .bool (s).done]) 44 from C110.blk Fg4.out nin_nil)
       have Fg6' := Lib.hid (show Blk w107 g6 (#[.int .i64 kz, .int .i64 nz, .int .u64 rz]) 46 from C110.blk Fg6.out nin_nil)
       clear C0 PW RQ Fg4 Fg6
       have C0 := C0'; clear C0'
       have PW := PW'; clear PW'
       have RQ := RQ'; clear RQ'
       have Fg4 := Fg4'; clear Fg4'
       have Fg6 := Fg6'; clear Fg6'
       have Fg106 := Lib.hid (show Blk w107 g106 (#[.slice none 0 0, .int .u64 0, .bool false, .bool false]) 44 from B109); clear B109 C110
       refine hK62.out _ _ ⟨Fg4.out, Fg6.out, trivial⟩ (fun hS116 => ?_); clear hK62 K62
       (try simp only [zP, zN, zA, zB, zC])
       refine one_ (i := 3) (N := some 65) #[true, true, true, true, false, false, false, true, false, false] rfl rfl (by kernel_rfl) (by simp) (fun K117 hK117 => ?_)
       refine e_call Try.func16 (by kernel_rfl) rfl #[.agg (#[x, .int .u64 (s).last, .bool (s).over, .bool (s).done]), .agg (evA (⟨2, rz, 5, rz⟩ : Ev))] (by rfl) rfl rfl (by first | rfl | (simp only [List.map_toArray, List.map_cons, List.map_nil]; first | done | rfl)) (rput_all (⟨2, rz, 5, rz⟩ : Ev) RQ.out (by have := hL.out; omega)) ?_
       rintro en w122 ⟨x118, rfl, hr120, cc119, hx121⟩
       refine ⟨_, rfl, ?_⟩
       have nx123 := Lib.hid (show b ∉ xb x118 from fun hk => (hx121 _ hk).elim hxb.out (fun h => by have := PW.out.1.lt; omega))
       have xr124 := Lib.hid (show ∀ k, k ∈ xb x118 → k ∉ rl (v) from fun k hk hm => (hx121 k hk).elim (fun h => hxr.out k h hm) (fun h => by have := (PW.out.2.lt k hm).2; omega))
       have nx125 := Lib.hid (show g4 ∉ xb x118 from fun hk => (hx121 _ hk).elim hxg.out (fun h => by have := Fg4.out.lt; omega))
       have nx126 := Lib.hid (show g6 ∉ xb x118 from fun hk => (hx121 _ hk).elim hx6.out (fun h => by have := Fg6.out.lt; omega))
       have nx127 := Lib.hid (show g106 ∉ xb x118 from fun hk => (hx121 _ hk).elim nx114.out (fun h => by have := Fg106.out.lt; omega))
       have C0' := Lib.hid (show Ch [] w w122 from C0.out.trans' cc119 (fun x hx => absurd hx (by simp)))
       have PW' := Lib.hid (show WinIs w122 (w.heap.size) b (s) (v) from PW.out.ch cc119 nin_nil rnin_nil)
       have Fg4' := Lib.hid (show Blk w122 g4 (#[x, .int .u64 (s).last, .bool (s).over, .bool (s).done]) 44 from cc119.blk Fg4.out nin_nil)
       have Fg6' := Lib.hid (show Blk w122 g6 (#[.int .i64 kz, .int .i64 nz, .int .u64 rz]) 46 from cc119.blk Fg6.out nin_nil)
       have Fg106' := Lib.hid (show Blk w122 g106 (#[.slice none 0 0, .int .u64 0, .bool false, .bool false]) 44 from cc119.blk Fg106.out nin_nil)
       clear C0 PW Fg4 Fg6 Fg106
       have C0 := C0'; clear C0'
       have PW := PW'; clear PW'
       have Fg4 := Fg4'; clear Fg4'
       have Fg6 := Fg6'; clear Fg6'
       have Fg106 := Fg106'; clear Fg106'
       clear RQ
       clear cc119
       have RQ := Lib.hid (show RefIs w122 ((putW s (⟨2, rz, 5, rz⟩ : Ev)).1) (x118) from hr120)
       refine hK117.out _ _ ⟨Fg4.out, Fg6.out, trivial⟩ (fun hS128 => ?_); clear hK117 K117
       (try simp only [zP, zN, zA, zB, zC])
       refine pure_ (i := 4) (N := some 61) (v := .tuple #[.agg (refA x118 (putW s (⟨2, rz, 5, rz⟩ : Ev)).1), .bool (putW s (⟨2, rz, 5, rz⟩ : Ev)).2]) #[true, true, true, true, true, false, false, true, false, false] rfl rfl (by kernel_rfl) (fun c a w h => hP c a _ _ w h) (y_move rfl (by rfl) (by rfl)) rfl ?_
       (try simp only [zP, zN, zA, zB, zC])
       refine pure_ (i := 5) (N := some 66) (v := .agg (refA x118 (putW s (⟨2, rz, 5, rz⟩ : Ev)).1)) #[true, true, true, true, true, true, false, true, false, false] rfl rfl (by kernel_rfl) (fun c a w h => hP c a _ _ w h) (y_run (by rfl) (fun W => by go_simp)) rfl ?_
       (try simp only [zP, zN, zA, zB, zC])
       refine pure_ (i := 6) (N := some 67) (v := .bool (putW s (⟨2, rz, 5, rz⟩ : Ev)).2) #[true, true, true, true, true, true, true, true, false, false] rfl rfl (by kernel_rfl) (fun c a w h => hP c a _ _ w h) (y_run (by rfl) (fun W => by go_simp)) rfl ?_
       (try simp only [zP, zN, zA, zB, zC])
       refine one_ (i := 8) (N := none) #[true, true, true, true, true, true, true, true, true, false] rfl rfl (by kernel_rfl) (by simp) (fun K129 hK129 => ?_)
       refine e_storeN (cells := (refA x118 (putW s (⟨2, rz, 5, rz⟩ : Ev)).1)) (by rfl) rfl rfl (by rfl) (by rfl) Fg106.out (by kernel_rfl) (by rfl) (ones_cons (ref_one RQ.out) (ones_cons rfl (ones_cons rfl (ones_cons rfl ones_nil)))) ?_
       rintro w130 B131 C132
       have C0' := Lib.hid (show Ch [] w w130 from C0.out.trans' C132 (inw_cons (.inr nw111.out) inw_nil))
       have PW' := Lib.hid (show WinIs w130 (w.heap.size) b (s) (v) from PW.out.ch C132 (nin_cons ne112.out nin_nil) (rnin_cons nr113.out rnin_nil))
       have Fg4' := Lib.hid (show Blk w130 g4 (#[x, .int .u64 (s).last, .bool (s).over, .bool (s).done]) 44 from C132.blk Fg4.out (nin_cons ne115.out nin_nil))
       have Fg6' := Lib.hid (show Blk w130 g6 (#[.int .i64 kz, .int .i64 nz, .int .u64 rz]) 46 from C132.blk Fg6.out (nin_cons (Blk.ne_type Fg6.out Fg106.out (by decide)) nin_nil))
       have RQ' := Lib.hid (show RefIs w130 ((putW s (⟨2, rz, 5, rz⟩ : Ev)).1) (x118) from RQ.out.ch C132 (xnin_cons nx127.out xnin_nil))
       clear C0 PW Fg4 Fg6 RQ
       have C0 := C0'; clear C0'
       have PW := PW'; clear PW'
       have Fg4 := Fg4'; clear Fg4'
       have Fg6 := Fg6'; clear Fg6'
       have RQ := RQ'; clear RQ'
       clear Fg106; have Fg106 := Lib.hid (show Blk w130 g106 ((refA x118 (putW s (⟨2, rz, 5, rz⟩ : Ev)).1)) 44 from B131); clear B131 C132
       refine hK129.out _ _ ⟨Fg4.out, Fg6.out, trivial⟩ (fun hS133 => ?_); clear hK129 K129
       (try simp only [zP, zN, zA, zB, zC])
       refine pure_ (i := 9) (N := some 10) (v := .bool (putW s (⟨2, rz, 5, rz⟩ : Ev)).2) #[true, true, true, true, true, true, true, true, true, true] rfl rfl (by kernel_rfl) (fun c a w h => hP c a _ _ w h) (y_assign rfl (by rfl) (by rfl)) rfl ?_
       (try simp only [zP, zN, zA, zB, zC])
       refine done_ (by kernel_rfl) (th_norm (hK52 _ _ ?_)); clear hK52 K52
       refine s_ (fun K134 hK134 => ?_)
       refine ld_ (v := .agg ((refA x118 (putW s (⟨2, rz, 5, rz⟩ : Ev)).1))) rfl (by rfl) (by rfl) (run_loadVar_row _ _ 44 44 ((refA x118 (putW s (⟨2, rz, 5, rz⟩ : Ev)).1)) (0, 0) _ Fg106.out Try.underlying44 rfl (by kernel_rfl)) ?_
       (try simp only [zP, zN, zA, zB, zC])
       refine ef_ (fun K135 hK135 => ?_)
       refine e_storeN (cells := ((refA x118 (putW s (⟨2, rz, 5, rz⟩ : Ev)).1))) (by rfl) rfl rfl (by rfl) (by rfl) Fg4.out (by kernel_rfl) (by rfl) (ones_cons (ref_one RQ.out) (ones_cons rfl (ones_cons rfl (ones_cons rfl ones_nil)))) ?_
       rintro w136 B137 C138
       have C0' := Lib.hid (show Ch [] w w136 from C0.out.trans' C138 (inw_cons (.inr nw13.out) inw_nil))
       have PW' := Lib.hid (show WinIs w136 (w.heap.size) b (s) (v) from PW.out.ch C138 (nin_cons ne14.out nin_nil) (rnin_cons hgr.out rnin_nil))
       have Fg6' := Lib.hid (show Blk w136 g6 (#[.int .i64 kz, .int .i64 nz, .int .u64 rz]) 46 from C138.blk Fg6.out (nin_cons (Blk.ne_type Fg6.out Fg4.out (by decide)) nin_nil))
       have Fg106' := Lib.hid (show Blk w136 g106 ((refA x118 (putW s (⟨2, rz, 5, rz⟩ : Ev)).1)) 44 from C138.blk Fg106.out (nin_cons (Ne.symm ne115.out) nin_nil))
       have RQ' := Lib.hid (show RefIs w136 ((putW s (⟨2, rz, 5, rz⟩ : Ev)).1) (x118) from RQ.out.ch C138 (xnin_cons nx125.out xnin_nil))
       clear C0 PW Fg6 Fg106 RQ
       have C0 := C0'; clear C0'
       have PW := PW'; clear PW'
       have Fg6 := Fg6'; clear Fg6'
       have Fg106 := Fg106'; clear Fg106'
       have RQ := RQ'; clear RQ'
       clear Fg4; have Fg4 := Lib.hid (show Blk w136 g4 (((refA x118 (putW s (⟨2, rz, 5, rz⟩ : Ev)).1))) 44 from B137); clear B137 C138
       refine hK135 _ _ ?_; clear hK135 K135
       (try simp only [zP, zN, zA, zB, zC])
       refine nl_ (hK134 _ _ ?_); clear hK134 K134
       refine r_ ?_
       refine pu_ (v := .pointer (some ⟨b, 0, none⟩)) (y_move rfl (by rfl) (by rfl)) ?_
       (try simp only [zP, zN, zA, zB, zC])
       refine ld_ (v := .agg (#[.int .i64 kz, .int .i64 nz, .int .u64 rz])) rfl (by rfl) (by rfl) (run_loadVar_row _ _ 46 46 (#[.int .i64 kz, .int .i64 nz, .int .u64 rz]) (0, 0) _ Fg6.out Try.underlying46 rfl (by kernel_rfl)) ?_
       (try simp only [zP, zN, zA, zB, zC])
       refine ef_ (fun K139 hK139 => ?_)
       refine e_call Try.func17 (by kernel_rfl) rfl #[.agg (#[.int .i64 kz, .int .i64 nz, .int .u64 rz])] (by rfl) rfl rfl (by first | rfl | (simp only [List.map_toArray, List.map_cons, List.map_nil]; first | done | rfl)) (event_any _ kz nz rz) ?_
       rintro en w141 ⟨rfl, cc140⟩
       refine ⟨_, rfl, ?_⟩
       have C0' := Lib.hid (show Ch [] w w141 from C0.out.trans' cc140 (fun x hx => absurd hx (by simp)))
       have PW' := Lib.hid (show WinIs w141 (w.heap.size) b (s) (v) from PW.out.ch cc140 nin_nil rnin_nil)
       have Fg4' := Lib.hid (show Blk w141 g4 (((refA x118 (putW s (⟨2, rz, 5, rz⟩ : Ev)).1))) 44 from cc140.blk Fg4.out nin_nil)
       have Fg6' := Lib.hid (show Blk w141 g6 (#[.int .i64 kz, .int .i64 nz, .int .u64 rz]) 46 from cc140.blk Fg6.out nin_nil)
       have Fg106' := Lib.hid (show Blk w141 g106 ((refA x118 (putW s (⟨2, rz, 5, rz⟩ : Ev)).1)) 44 from cc140.blk Fg106.out nin_nil)
       have RQ' := Lib.hid (show RefIs w141 ((putW s (⟨2, rz, 5, rz⟩ : Ev)).1) (x118) from RQ.out.ch cc140 xnin_nil)
       clear C0 PW Fg4 Fg6 Fg106 RQ
       have C0 := C0'; clear C0'
       have PW := PW'; clear PW'
       have Fg4 := Fg4'; clear Fg4'
       have Fg6 := Fg6'; clear Fg6'
       have Fg106 := Fg106'; clear Fg106'
       have RQ := RQ'; clear RQ'
       clear cc140
       refine hK139 _ _ ?_; clear hK139 K139
       (try simp only [zP, zN, zA, zB, zC])
       refine ef_ (fun K142 hK142 => ?_)
       refine e_call Try.func18 (by kernel_rfl) rfl #[.pointer (some ⟨b, 0, none⟩), .agg (evA (⟨2, rz, 5, rz⟩ : Ev))] (by rfl) rfl rfl (by first | rfl | (simp only [List.map_toArray, List.map_cons, List.map_nil]; first | done | rfl)) (put_all (⟨2, rz, 5, rz⟩ : Ev) PW.out C0.out.size (by have := hL.out; omega)) ?_
       rintro en w147 ⟨v143, rfl, hw145, cc144, hr146⟩
       refine ⟨_, rfl, ?_⟩
       have xr148 := Lib.hid (show ∀ k, k ∈ xb (x118) → k ∉ rl v143 from fun k hk hm => (hr146 k hm).elim (fun h => (xnin_cons nx123.out xr124.out) k hk h) (fun h => by have := RQ.out.1.lt (by decide) k hk; omega))
       have C0' := Lib.hid (show Ch [] w w147 from C0.out.trans' cc144 (inw_cons (.inr HBN.out) (fun x hx => .inr (PW.out.2.lt x hx).1)))
       have Fg4' := Lib.hid (show Blk w147 g4 (((refA x118 (putW s (⟨2, rz, 5, rz⟩ : Ev)).1))) 44 from cc144.blk Fg4.out (nin_cons (Ne.symm ne14.out) hgr.out))
       have Fg6' := Lib.hid (show Blk w147 g6 (#[.int .i64 kz, .int .i64 nz, .int .u64 rz]) 46 from cc144.blk Fg6.out (nin_cons (Ne.symm ne34.out) hv6.out))
       have Fg106' := Lib.hid (show Blk w147 g106 ((refA x118 (putW s (⟨2, rz, 5, rz⟩ : Ev)).1)) 44 from cc144.blk Fg106.out (nin_cons (Ne.symm ne112.out) nr113.out))
       have RQ' := Lib.hid (show RefIs w147 ((putW s (⟨2, rz, 5, rz⟩ : Ev)).1) (x118) from RQ.out.ch cc144 (xnin_cons nx123.out xr124.out))
       clear C0 Fg4 Fg6 Fg106 RQ
       have C0 := C0'; clear C0'
       have Fg4 := Fg4'; clear Fg4'
       have Fg6 := Fg6'; clear Fg6'
       have Fg106 := Fg106'; clear Fg106'
       have RQ := RQ'; clear RQ'
       clear PW
       clear cc144
       have PW := Lib.hid (show WinIs w147 (w.heap.size) b ((putW s (⟨2, rz, 5, rz⟩ : Ev)).1) (v143) from hw145)
       have nr149 := Lib.hid (show g4 ∉ rl v143 from PW.out.2.ne Fg4.out (by decide))
       refine hK142 _ _ ?_; clear hK142 K142
       (try simp only [zP, zN, zA, zB, zC])
       refine pu_ (v := .bool (putW s (⟨2, rz, 5, rz⟩ : Ev)).2) (y_move rfl (by rfl) (by rfl)) ?_
       (try simp only [zP, zN, zA, zB, zC])
       refine pu_ (v := .bool true) (y_run (by rfl) (fun W => by go_simp)) ?_
       (try simp only [zP, zN, zA, zB, zC])
       refine pu_ (v := .bool true) (y_assign rfl (by rfl) (by rfl)) ?_
       (try simp only [zP, zN, zA, zB, zC])
       refine nl_ ?_
       refine ib_norm ?_
       refine th_norm (hK51 _ _ ?_); try clear hK51 K51
       refine r_ ?_
       refine pu_ (v := .int .i64 j) (y_move rfl (by rfl) (by rfl)) ?_
       (try simp only [zP, zN, zA, zB, zC])
       refine pu_ (v := .int .i64 (j + 1 : Nat)) (y_run (by rfl) (fun W => by have d := WJ.out; go_simp)) ?_
       (try simp only [zP, zN, zA, zB, zC])
       refine pu_ (v := .int .i64 (j + 1 : Nat)) (y_assign rfl (by rfl) (by rfl)) ?_
       (try simp only [zP, zN, zA, zB, zC])
       refine nl_ ?_
       exact th_norm (hK48 (jq - 1) _ _ (by have := hjl.out; have := hj.out; omega) ⟨j + 1, (putW s (⟨2, rz, 5, rz⟩ : Ev)).1, _, x118, fun us_ => (#[.slice (some ⟨ab, off, none⟩) len0 cap0, us 1, .bool false, .pointer (some ⟨b, 0, none⟩), .pointer (some ⟨g4, 0, none⟩), .int .i64 k, .pointer (some ⟨g6, 0, none⟩), .bool true, .int .i64 (j + 1 : Nat), .pointer (some ⟨g106, 0, none⟩), .bool (putW s (⟨2, rz, 5, rz⟩ : Ev)).2, us 11, us 12, us 13, us 14, us 15, us 16, us 17, us 18, us 19, us 20, us 21, us 22, us 23, us 24, us 25, us 26, us 27, us 28, us 29, us 30, us 31, us 32, us 33, us 34, us 35, us 36, us 37, us 38, us 39, us 40, us 41, us 42, us 43, .bool true, .bool true, .int .i64 j, .bool true, .bool true, undef, undef, undef, undef, undef, undef, undef, undef, .bool true, .bool true, .int .i64 j, .int .i64 (j + 1 : Nat), .tuple #[.agg (refA x118 (putW s (⟨2, rz, 5, rz⟩ : Ev)).1), .bool (putW s (⟨2, rz, 5, rz⟩ : Ev)).2], .agg (#[x, .int .u64 (s).last, .bool (s).over, .bool (s).done]), .agg (#[.int .i64 kz, .int .i64 nz, .int .u64 rz]), .agg (evA (⟨2, rz, 5, rz⟩ : Ev)), .tuple #[.agg (refA x118 (putW s (⟨2, rz, 5, rz⟩ : Ev)).1), .bool (putW s (⟨2, rz, 5, rz⟩ : Ev)).2], .agg (refA x118 (putW s (⟨2, rz, 5, rz⟩ : Ev)).1), .bool (putW s (⟨2, rz, 5, rz⟩ : Ev)).2, .agg ((refA x118 (putW s (⟨2, rz, 5, rz⟩ : Ev)).1)), .pointer (some ⟨b, 0, none⟩), .agg (#[.int .i64 kz, .int .i64 nz, .int .u64 rz]), .agg (evA (⟨2, rz, 5, rz⟩ : Ev)), .bool (putW s (⟨2, rz, 5, rz⟩ : Ev)).2, .bool (putW s (⟨2, rz, 5, rz⟩ : Ev)).2, .bool true, us 75, us 76, us 77, us 78, us 79, us 80, us 81, us 82, us 83, us 84, us 85, us 86, us 87, us 88, us 89, us 90, us 91, us 92, us 93, us 94, us 95, us 96, us 97, us 98, us 99, us 100, us 101, us 102, us 103, us 104, us 105, us 106, us 107, us 108, us 109, us 110, us 111, us 112, us 113, us 114, us 115, us 116, us 117, us 118, us 119, us 120, us 121, us 122, us 123, us 124, us 125, us 126, us 127, us 128, us 129, us 130, us 131, us 132, us 133, us 134, us 135, us 136, us 137, us 138, us 139, us 140, us 141, us 142, us 143, us 144, us 145, us 146, us 147, us 148, us 149, us 150, us 151, us 152, us 153, us 154, us 155, us 156, us 157, us 158, us 159, us 160, us 161, us 162, us 163, us 164, us 165, us 166, us 167, us 168] : Array Value).getD us_ undef, rfl, C0, PW, RQ, Fg4, Fg6, Lib.hid ⟨by have := hjl.out; omega, by have := hjl.out; have := hj.out; omega⟩, Lib.hid (putW_le _ hL.out), xr148, nx123, nx125, nr149, nx126, Lib.hid (PW.out.2.ne Fg6.out (by decide))⟩)
     ·refine e_alloc (by rfl) rfl rfl (cs := #[.slice none 0 0, .int .u64 0, .bool false, .bool false]) (by kernel_rfl) ?_
      rintro g150 w151 HG152 B153 C154
      have nw155 := Lib.hid (show w.heap.size ≤ g150 by have := C0.out.size; have := HG152.out; omega)
      have ne156 := Lib.hid (show b ≠ g150 by have := PW.out.1.lt; have := HG152.out; omega)
      have nr157 := Lib.hid (PW.out.2.ne_new HG152)
      have nx158 := Lib.hid (RQ.out.1.ne_new (by decide) HG152)
      have ne159 := Lib.hid (Fg4.out.ne_new HG152)
      have C0' := Lib.hid (show Ch [] w w151 from C0.out.trans' C154 (fun x hx => absurd hx (by simp)))
      have PW' := Lib.hid (show WinIs w151 (w.heap.size) b (s) (v) from PW.out.ch C154 nin_nil rnin_nil)
      have RQ' := Lib.hid (show RefIs w151 (s) (x) from RQ.out.ch C154 xnin_nil)
      have Fg4' := Lib.hid (show Blk w151 g4 (#[x, .int .u64 (s).last, .bool (s).over, .bool (s).done]) 44 from C154.blk Fg4.out nin_nil)
      have Fg6' := Lib.hid (show Blk w151 g6 (#[.int .i64 kz, .int .i64 nz, .int .u64 rz]) 46 from C154.blk Fg6.out nin_nil)
      clear C0 PW RQ Fg4 Fg6
      have C0 := C0'; clear C0'
      have PW := PW'; clear PW'
      have RQ := RQ'; clear RQ'
      have Fg4 := Fg4'; clear Fg4'
      have Fg6 := Fg6'; clear Fg6'
      have Fg150 := Lib.hid (show Blk w151 g150 (#[.slice none 0 0, .int .u64 0, .bool false, .bool false]) 44 from B153); clear B153 C154
      refine hK57.out _ _ ⟨Fg4.out, Fg6.out, trivial⟩ (fun hS160 => ?_); clear hK57 K57
      (try simp only [zP, zN, zA, zB, zC])
      refine one_ (i := 2) (N := some 64) #[true, true, true, false, false, false, false, true, false, false] rfl rfl (by kernel_rfl) (by simp) (fun K161 hK161 => ?_)
      refine e_call Try.func17 (by kernel_rfl) rfl #[.agg (#[.int .i64 kz, .int .i64 nz, .int .u64 rz])] (by rfl) rfl rfl (by first | rfl | (simp only [List.map_toArray, List.map_cons, List.map_nil]; first | done | rfl)) (event_any _ kz nz rz) ?_
      rintro en w163 ⟨rfl, cc162⟩
      refine ⟨_, rfl, ?_⟩
      have C0' := Lib.hid (show Ch [] w w163 from C0.out.trans' cc162 (fun x hx => absurd hx (by simp)))
      have PW' := Lib.hid (show WinIs w163 (w.heap.size) b (s) (v) from PW.out.ch cc162 nin_nil rnin_nil)
      have RQ' := Lib.hid (show RefIs w163 (s) (x) from RQ.out.ch cc162 xnin_nil)
      have Fg4' := Lib.hid (show Blk w163 g4 (#[x, .int .u64 (s).last, .bool (s).over, .bool (s).done]) 44 from cc162.blk Fg4.out nin_nil)
      have Fg6' := Lib.hid (show Blk w163 g6 (#[.int .i64 kz, .int .i64 nz, .int .u64 rz]) 46 from cc162.blk Fg6.out nin_nil)
      have Fg150' := Lib.hid (show Blk w163 g150 (#[.slice none 0 0, .int .u64 0, .bool false, .bool false]) 44 from cc162.blk Fg150.out nin_nil)
      clear C0 PW RQ Fg4 Fg6 Fg150
      have C0 := C0'; clear C0'
      have PW := PW'; clear PW'
      have RQ := RQ'; clear RQ'
      have Fg4 := Fg4'; clear Fg4'
      have Fg6 := Fg6'; clear Fg6'
      have Fg150 := Fg150'; clear Fg150'
      clear cc162
      refine hK161.out _ _ ⟨Fg4.out, Fg6.out, trivial⟩ (fun hS164 => ?_); clear hK161 K161
      (try simp only [zP, zN, zA, zB, zC])
      refine one_ (i := 3) (N := some 65) #[true, true, true, true, false, false, false, true, false, false] rfl rfl (by kernel_rfl) (by simp) (fun K165 hK165 => ?_)
      refine e_call Try.func16 (by kernel_rfl) rfl #[.agg (#[x, .int .u64 (s).last, .bool (s).over, .bool (s).done]), .agg (evA (⟨2, rz, 5, rz⟩ : Ev))] (by rfl) rfl rfl (by first | rfl | (simp only [List.map_toArray, List.map_cons, List.map_nil]; first | done | rfl)) (rput_all (⟨2, rz, 5, rz⟩ : Ev) RQ.out (by have := hL.out; omega)) ?_
      rintro en w170 ⟨x166, rfl, hr168, cc167, hx169⟩
      refine ⟨_, rfl, ?_⟩
      have nx171 := Lib.hid (show b ∉ xb x166 from fun hk => (hx169 _ hk).elim hxb.out (fun h => by have := PW.out.1.lt; omega))
      have xr172 := Lib.hid (show ∀ k, k ∈ xb x166 → k ∉ rl (v) from fun k hk hm => (hx169 k hk).elim (fun h => hxr.out k h hm) (fun h => by have := (PW.out.2.lt k hm).2; omega))
      have nx173 := Lib.hid (show g4 ∉ xb x166 from fun hk => (hx169 _ hk).elim hxg.out (fun h => by have := Fg4.out.lt; omega))
      have nx174 := Lib.hid (show g6 ∉ xb x166 from fun hk => (hx169 _ hk).elim hx6.out (fun h => by have := Fg6.out.lt; omega))
      have nx175 := Lib.hid (show g150 ∉ xb x166 from fun hk => (hx169 _ hk).elim nx158.out (fun h => by have := Fg150.out.lt; omega))
      have C0' := Lib.hid (show Ch [] w w170 from C0.out.trans' cc167 (fun x hx => absurd hx (by simp)))
      have PW' := Lib.hid (show WinIs w170 (w.heap.size) b (s) (v) from PW.out.ch cc167 nin_nil rnin_nil)
      have Fg4' := Lib.hid (show Blk w170 g4 (#[x, .int .u64 (s).last, .bool (s).over, .bool (s).done]) 44 from cc167.blk Fg4.out nin_nil)
      have Fg6' := Lib.hid (show Blk w170 g6 (#[.int .i64 kz, .int .i64 nz, .int .u64 rz]) 46 from cc167.blk Fg6.out nin_nil)
      have Fg150' := Lib.hid (show Blk w170 g150 (#[.slice none 0 0, .int .u64 0, .bool false, .bool false]) 44 from cc167.blk Fg150.out nin_nil)
      clear C0 PW Fg4 Fg6 Fg150
      have C0 := C0'; clear C0'
      have PW := PW'; clear PW'
      have Fg4 := Fg4'; clear Fg4'
      have Fg6 := Fg6'; clear Fg6'
      have Fg150 := Fg150'; clear Fg150'
      clear RQ
      clear cc167
      have RQ := Lib.hid (show RefIs w170 ((putW s (⟨2, rz, 5, rz⟩ : Ev)).1) (x166) from hr168)
      refine hK165.out _ _ ⟨Fg4.out, Fg6.out, trivial⟩ (fun hS176 => ?_); clear hK165 K165
      (try simp only [zP, zN, zA, zB, zC])
      refine pure_ (i := 4) (N := some 61) (v := .tuple #[.agg (refA x166 (putW s (⟨2, rz, 5, rz⟩ : Ev)).1), .bool (putW s (⟨2, rz, 5, rz⟩ : Ev)).2]) #[true, true, true, true, true, false, false, true, false, false] rfl rfl (by kernel_rfl) (fun c a w h => hP c a _ _ w h) (y_move rfl (by rfl) (by rfl)) rfl ?_
      (try simp only [zP, zN, zA, zB, zC])
      refine pure_ (i := 5) (N := some 66) (v := .agg (refA x166 (putW s (⟨2, rz, 5, rz⟩ : Ev)).1)) #[true, true, true, true, true, true, false, true, false, false] rfl rfl (by kernel_rfl) (fun c a w h => hP c a _ _ w h) (y_run (by rfl) (fun W => by go_simp)) rfl ?_
      (try simp only [zP, zN, zA, zB, zC])
      refine pure_ (i := 6) (N := some 67) (v := .bool (putW s (⟨2, rz, 5, rz⟩ : Ev)).2) #[true, true, true, true, true, true, true, true, false, false] rfl rfl (by kernel_rfl) (fun c a w h => hP c a _ _ w h) (y_run (by rfl) (fun W => by go_simp)) rfl ?_
      (try simp only [zP, zN, zA, zB, zC])
      refine one_ (i := 8) (N := none) #[true, true, true, true, true, true, true, true, true, false] rfl rfl (by kernel_rfl) (by simp) (fun K177 hK177 => ?_)
      refine e_storeN (cells := (refA x166 (putW s (⟨2, rz, 5, rz⟩ : Ev)).1)) (by rfl) rfl rfl (by rfl) (by rfl) Fg150.out (by kernel_rfl) (by rfl) (ones_cons (ref_one RQ.out) (ones_cons rfl (ones_cons rfl (ones_cons rfl ones_nil)))) ?_
      rintro w178 B179 C180
      have C0' := Lib.hid (show Ch [] w w178 from C0.out.trans' C180 (inw_cons (.inr nw155.out) inw_nil))
      have PW' := Lib.hid (show WinIs w178 (w.heap.size) b (s) (v) from PW.out.ch C180 (nin_cons ne156.out nin_nil) (rnin_cons nr157.out rnin_nil))
      have Fg4' := Lib.hid (show Blk w178 g4 (#[x, .int .u64 (s).last, .bool (s).over, .bool (s).done]) 44 from C180.blk Fg4.out (nin_cons ne159.out nin_nil))
      have Fg6' := Lib.hid (show Blk w178 g6 (#[.int .i64 kz, .int .i64 nz, .int .u64 rz]) 46 from C180.blk Fg6.out (nin_cons (Blk.ne_type Fg6.out Fg150.out (by decide)) nin_nil))
      have RQ' := Lib.hid (show RefIs w178 ((putW s (⟨2, rz, 5, rz⟩ : Ev)).1) (x166) from RQ.out.ch C180 (xnin_cons nx175.out xnin_nil))
      clear C0 PW Fg4 Fg6 RQ
      have C0 := C0'; clear C0'
      have PW := PW'; clear PW'
      have Fg4 := Fg4'; clear Fg4'
      have Fg6 := Fg6'; clear Fg6'
      have RQ := RQ'; clear RQ'
      clear Fg150; have Fg150 := Lib.hid (show Blk w178 g150 ((refA x166 (putW s (⟨2, rz, 5, rz⟩ : Ev)).1)) 44 from B179); clear B179 C180
      refine hK177.out _ _ ⟨Fg4.out, Fg6.out, trivial⟩ (fun hS181 => ?_); clear hK177 K177
      (try simp only [zP, zN, zA, zB, zC])
      refine pure_ (i := 9) (N := some 10) (v := .bool (putW s (⟨2, rz, 5, rz⟩ : Ev)).2) #[true, true, true, true, true, true, true, true, true, true] rfl rfl (by kernel_rfl) (fun c a w h => hP c a _ _ w h) (y_assign rfl (by rfl) (by rfl)) rfl ?_
      (try simp only [zP, zN, zA, zB, zC])
      refine done_ (by kernel_rfl) (th_norm (hK52 _ _ ?_)); clear hK52 K52
      refine s_ (fun K182 hK182 => ?_)
      refine ld_ (v := .agg ((refA x166 (putW s (⟨2, rz, 5, rz⟩ : Ev)).1))) rfl (by rfl) (by rfl) (run_loadVar_row _ _ 44 44 ((refA x166 (putW s (⟨2, rz, 5, rz⟩ : Ev)).1)) (0, 0) _ Fg150.out Try.underlying44 rfl (by kernel_rfl)) ?_
      (try simp only [zP, zN, zA, zB, zC])
      refine ef_ (fun K183 hK183 => ?_)
      refine e_storeN (cells := ((refA x166 (putW s (⟨2, rz, 5, rz⟩ : Ev)).1))) (by rfl) rfl rfl (by rfl) (by rfl) Fg4.out (by kernel_rfl) (by rfl) (ones_cons (ref_one RQ.out) (ones_cons rfl (ones_cons rfl (ones_cons rfl ones_nil)))) ?_
      rintro w184 B185 C186
      have C0' := Lib.hid (show Ch [] w w184 from C0.out.trans' C186 (inw_cons (.inr nw13.out) inw_nil))
      have PW' := Lib.hid (show WinIs w184 (w.heap.size) b (s) (v) from PW.out.ch C186 (nin_cons ne14.out nin_nil) (rnin_cons hgr.out rnin_nil))
      have Fg6' := Lib.hid (show Blk w184 g6 (#[.int .i64 kz, .int .i64 nz, .int .u64 rz]) 46 from C186.blk Fg6.out (nin_cons (Blk.ne_type Fg6.out Fg4.out (by decide)) nin_nil))
      have Fg150' := Lib.hid (show Blk w184 g150 ((refA x166 (putW s (⟨2, rz, 5, rz⟩ : Ev)).1)) 44 from C186.blk Fg150.out (nin_cons (Ne.symm ne159.out) nin_nil))
      have RQ' := Lib.hid (show RefIs w184 ((putW s (⟨2, rz, 5, rz⟩ : Ev)).1) (x166) from RQ.out.ch C186 (xnin_cons nx173.out xnin_nil))
      clear C0 PW Fg6 Fg150 RQ
      have C0 := C0'; clear C0'
      have PW := PW'; clear PW'
      have Fg6 := Fg6'; clear Fg6'
      have Fg150 := Fg150'; clear Fg150'
      have RQ := RQ'; clear RQ'
      clear Fg4; have Fg4 := Lib.hid (show Blk w184 g4 (((refA x166 (putW s (⟨2, rz, 5, rz⟩ : Ev)).1))) 44 from B185); clear B185 C186
      refine hK183 _ _ ?_; clear hK183 K183
      (try simp only [zP, zN, zA, zB, zC])
      refine nl_ (hK182 _ _ ?_); clear hK182 K182
      refine r_ ?_
      refine pu_ (v := .pointer (some ⟨b, 0, none⟩)) (y_move rfl (by rfl) (by rfl)) ?_
      (try simp only [zP, zN, zA, zB, zC])
      refine ld_ (v := .agg (#[.int .i64 kz, .int .i64 nz, .int .u64 rz])) rfl (by rfl) (by rfl) (run_loadVar_row _ _ 46 46 (#[.int .i64 kz, .int .i64 nz, .int .u64 rz]) (0, 0) _ Fg6.out Try.underlying46 rfl (by kernel_rfl)) ?_
      (try simp only [zP, zN, zA, zB, zC])
      refine ef_ (fun K187 hK187 => ?_)
      refine e_call Try.func17 (by kernel_rfl) rfl #[.agg (#[.int .i64 kz, .int .i64 nz, .int .u64 rz])] (by rfl) rfl rfl (by first | rfl | (simp only [List.map_toArray, List.map_cons, List.map_nil]; first | done | rfl)) (event_any _ kz nz rz) ?_
      rintro en w189 ⟨rfl, cc188⟩
      refine ⟨_, rfl, ?_⟩
      have C0' := Lib.hid (show Ch [] w w189 from C0.out.trans' cc188 (fun x hx => absurd hx (by simp)))
      have PW' := Lib.hid (show WinIs w189 (w.heap.size) b (s) (v) from PW.out.ch cc188 nin_nil rnin_nil)
      have Fg4' := Lib.hid (show Blk w189 g4 (((refA x166 (putW s (⟨2, rz, 5, rz⟩ : Ev)).1))) 44 from cc188.blk Fg4.out nin_nil)
      have Fg6' := Lib.hid (show Blk w189 g6 (#[.int .i64 kz, .int .i64 nz, .int .u64 rz]) 46 from cc188.blk Fg6.out nin_nil)
      have Fg150' := Lib.hid (show Blk w189 g150 ((refA x166 (putW s (⟨2, rz, 5, rz⟩ : Ev)).1)) 44 from cc188.blk Fg150.out nin_nil)
      have RQ' := Lib.hid (show RefIs w189 ((putW s (⟨2, rz, 5, rz⟩ : Ev)).1) (x166) from RQ.out.ch cc188 xnin_nil)
      clear C0 PW Fg4 Fg6 Fg150 RQ
      have C0 := C0'; clear C0'
      have PW := PW'; clear PW'
      have Fg4 := Fg4'; clear Fg4'
      have Fg6 := Fg6'; clear Fg6'
      have Fg150 := Fg150'; clear Fg150'
      have RQ := RQ'; clear RQ'
      clear cc188
      refine hK187 _ _ ?_; clear hK187 K187
      (try simp only [zP, zN, zA, zB, zC])
      refine ef_ (fun K190 hK190 => ?_)
      refine e_call Try.func18 (by kernel_rfl) rfl #[.pointer (some ⟨b, 0, none⟩), .agg (evA (⟨2, rz, 5, rz⟩ : Ev))] (by rfl) rfl rfl (by first | rfl | (simp only [List.map_toArray, List.map_cons, List.map_nil]; first | done | rfl)) (put_all (⟨2, rz, 5, rz⟩ : Ev) PW.out C0.out.size (by have := hL.out; omega)) ?_
      rintro en w195 ⟨v191, rfl, hw193, cc192, hr194⟩
      refine ⟨_, rfl, ?_⟩
      have xr196 := Lib.hid (show ∀ k, k ∈ xb (x166) → k ∉ rl v191 from fun k hk hm => (hr194 k hm).elim (fun h => (xnin_cons nx171.out xr172.out) k hk h) (fun h => by have := RQ.out.1.lt (by decide) k hk; omega))
      have C0' := Lib.hid (show Ch [] w w195 from C0.out.trans' cc192 (inw_cons (.inr HBN.out) (fun x hx => .inr (PW.out.2.lt x hx).1)))
      have Fg4' := Lib.hid (show Blk w195 g4 (((refA x166 (putW s (⟨2, rz, 5, rz⟩ : Ev)).1))) 44 from cc192.blk Fg4.out (nin_cons (Ne.symm ne14.out) hgr.out))
      have Fg6' := Lib.hid (show Blk w195 g6 (#[.int .i64 kz, .int .i64 nz, .int .u64 rz]) 46 from cc192.blk Fg6.out (nin_cons (Ne.symm ne34.out) hv6.out))
      have Fg150' := Lib.hid (show Blk w195 g150 ((refA x166 (putW s (⟨2, rz, 5, rz⟩ : Ev)).1)) 44 from cc192.blk Fg150.out (nin_cons (Ne.symm ne156.out) nr157.out))
      have RQ' := Lib.hid (show RefIs w195 ((putW s (⟨2, rz, 5, rz⟩ : Ev)).1) (x166) from RQ.out.ch cc192 (xnin_cons nx171.out xr172.out))
      clear C0 Fg4 Fg6 Fg150 RQ
      have C0 := C0'; clear C0'
      have Fg4 := Fg4'; clear Fg4'
      have Fg6 := Fg6'; clear Fg6'
      have Fg150 := Fg150'; clear Fg150'
      have RQ := RQ'; clear RQ'
      clear PW
      clear cc192
      have PW := Lib.hid (show WinIs w195 (w.heap.size) b ((putW s (⟨2, rz, 5, rz⟩ : Ev)).1) (v191) from hw193)
      have nr197 := Lib.hid (show g4 ∉ rl v191 from PW.out.2.ne Fg4.out (by decide))
      refine hK190 _ _ ?_; clear hK190 K190
      (try simp only [zP, zN, zA, zB, zC])
      refine pu_ (v := .bool (putW s (⟨2, rz, 5, rz⟩ : Ev)).2) (y_move rfl (by rfl) (by rfl)) ?_
      (try simp only [zP, zN, zA, zB, zC])
      refine pu_ (v := .bool true) (y_run (by rfl) (fun W => by go_simp)) ?_
      (try simp only [zP, zN, zA, zB, zC])
      refine pu_ (v := .bool true) (y_assign rfl (by rfl) (by rfl)) ?_
      (try simp only [zP, zN, zA, zB, zC])
      refine nl_ ?_
      refine ib_norm ?_
      refine th_norm (hK51 _ _ ?_); try clear hK51 K51
      refine r_ ?_
      refine pu_ (v := .int .i64 j) (y_move rfl (by rfl) (by rfl)) ?_
      (try simp only [zP, zN, zA, zB, zC])
      refine pu_ (v := .int .i64 (j + 1 : Nat)) (y_run (by rfl) (fun W => by have d := WJ.out; go_simp)) ?_
      (try simp only [zP, zN, zA, zB, zC])
      refine pu_ (v := .int .i64 (j + 1 : Nat)) (y_assign rfl (by rfl) (by rfl)) ?_
      (try simp only [zP, zN, zA, zB, zC])
      refine nl_ ?_
      exact th_norm (hK48 (jq - 1) _ _ (by have := hjl.out; have := hj.out; omega) ⟨j + 1, (putW s (⟨2, rz, 5, rz⟩ : Ev)).1, _, x166, fun us_ => (#[.slice (some ⟨ab, off, none⟩) len0 cap0, us 1, .bool false, .pointer (some ⟨b, 0, none⟩), .pointer (some ⟨g4, 0, none⟩), .int .i64 k, .pointer (some ⟨g6, 0, none⟩), .bool true, .int .i64 (j + 1 : Nat), .pointer (some ⟨g150, 0, none⟩), .bool (putW s (⟨2, rz, 5, rz⟩ : Ev)).2, us 11, us 12, us 13, us 14, us 15, us 16, us 17, us 18, us 19, us 20, us 21, us 22, us 23, us 24, us 25, us 26, us 27, us 28, us 29, us 30, us 31, us 32, us 33, us 34, us 35, us 36, us 37, us 38, us 39, us 40, us 41, us 42, us 43, .bool true, .bool true, .int .i64 j, .bool true, .bool true, undef, undef, undef, undef, undef, undef, undef, undef, .bool true, .bool true, .int .i64 j, .int .i64 (j + 1 : Nat), .tuple #[.agg (refA x166 (putW s (⟨2, rz, 5, rz⟩ : Ev)).1), .bool (putW s (⟨2, rz, 5, rz⟩ : Ev)).2], .agg (#[x, .int .u64 (s).last, .bool (s).over, .bool (s).done]), .agg (#[.int .i64 kz, .int .i64 nz, .int .u64 rz]), .agg (evA (⟨2, rz, 5, rz⟩ : Ev)), .tuple #[.agg (refA x166 (putW s (⟨2, rz, 5, rz⟩ : Ev)).1), .bool (putW s (⟨2, rz, 5, rz⟩ : Ev)).2], .agg (refA x166 (putW s (⟨2, rz, 5, rz⟩ : Ev)).1), .bool (putW s (⟨2, rz, 5, rz⟩ : Ev)).2, .agg ((refA x166 (putW s (⟨2, rz, 5, rz⟩ : Ev)).1)), .pointer (some ⟨b, 0, none⟩), .agg (#[.int .i64 kz, .int .i64 nz, .int .u64 rz]), .agg (evA (⟨2, rz, 5, rz⟩ : Ev)), .bool (putW s (⟨2, rz, 5, rz⟩ : Ev)).2, .bool (putW s (⟨2, rz, 5, rz⟩ : Ev)).2, .bool true, us 75, us 76, us 77, us 78, us 79, us 80, us 81, us 82, us 83, us 84, us 85, us 86, us 87, us 88, us 89, us 90, us 91, us 92, us 93, us 94, us 95, us 96, us 97, us 98, us 99, us 100, us 101, us 102, us 103, us 104, us 105, us 106, us 107, us 108, us 109, us 110, us 111, us 112, us 113, us 114, us 115, us 116, us 117, us 118, us 119, us 120, us 121, us 122, us 123, us 124, us 125, us 126, us 127, us 128, us 129, us 130, us 131, us 132, us 133, us 134, us 135, us 136, us 137, us 138, us 139, us 140, us 141, us 142, us 143, us 144, us 145, us 146, us 147, us 148, us 149, us 150, us 151, us 152, us 153, us 154, us 155, us 156, us 157, us 158, us 159, us 160, us 161, us 162, us 163, us 164, us 165, us 166, us 167, us 168] : Array Value).getD us_ undef, rfl, C0, PW, RQ, Fg4, Fg6, Lib.hid ⟨by have := hjl.out; omega, by have := hjl.out; have := hj.out; omega⟩, Lib.hid (putW_le _ hL.out), xr196, nx171, nx173, nr197, nx174, Lib.hid (PW.out.2.ne Fg6.out (by decide))⟩)
    ·have hjl := Lib.hid (show j < 20 by omega)
     have WJ := Lib.hid (show IntKind.i64.wrap ((j : Int) + 1) = ((j + 1 : Nat) : Int) by rw [wr64 (by omega)]; omega)
     have J0 := Lib.hid (show ((j : Int) == 0) = false from beq_eq_false_iff_ne.2 (by omega))
     have J1 := Lib.hid (show decide ((j : Int) < nz) = true from decide_eq_true (by omega))
     have J2 := Lib.hid (show decide ((j : Int) < 20) = true from decide_eq_true (by omega))
     clear h
     refine s_ (fun K198 hK198 => ?_)
     refine pu_ (v := .bool true) (y_move rfl (by rfl) (by rfl)) ?_
     (try simp only [zP, zN, zA, zB, zC])
     refine pu_ (v := .bool true) (y_move rfl (by rfl) (by rfl)) ?_
     (try simp only [zP, zN, zA, zB, zC])
     refine pu_ (v := .int .i64 j) (y_move rfl (by rfl) (by rfl)) ?_
     (try simp only [zP, zN, zA, zB, zC])
     refine pu_ (v := .bool false) (y_run (by rfl) (fun W => by have d := J0.out; go_simp)) ?_
     (try simp only [zP, zN, zA, zB, zC])
     refine pu_ (v := .bool false) (y_move rfl (by rfl) (by rfl)) ?_
     (try simp only [zP, zN, zA, zB, zC])
     refine pu_ (v := .int .i64 j) (y_move rfl (by rfl) (by rfl)) ?_
     (try simp only [zP, zN, zA, zB, zC])
     refine pu_ (v := .pointer (some ⟨g6, 1, none⟩)) (y_run (by rfl) (fun W => by go_simp)) ?_
     (try simp only [zP, zN, zA, zB, zC])
     refine ld_ (v := .int .i64 nz) rfl (by rfl) (by rfl) (run_load_one ((Fg6.out.cell 1).trans rfl) Try.underlying3 rfl) ?_
     (try simp only [zP, zN, zA, zB, zC])
     refine pu_ (v := .bool true) (y_run (by rfl) (fun W => by have d := J1.out; go_simp)) ?_
     (try simp only [zP, zN, zA, zB, zC])
     refine pu_ (v := .bool true) (y_move rfl (by rfl) (by rfl)) ?_
     (try simp only [zP, zN, zA, zB, zC])
     refine pu_ (v := .int .i64 j) (y_move rfl (by rfl) (by rfl)) ?_
     (try simp only [zP, zN, zA, zB, zC])
     refine pu_ (v := .bool true) (y_run (by rfl) (fun W => by have d := J2.out; go_simp)) ?_
     (try simp only [zP, zN, zA, zB, zC])
     refine pu_ (v := .bool true) (y_pick (t := true) (by rfl) rfl (by rfl) (by rfl)) ?_
     (try simp only [zP, zN, zA, zB, zC])
     refine pu_ (v := .bool true) (y_pick (t := false) (by rfl) rfl (by rfl) (by rfl)) ?_
     (try simp only [zP, zN, zA, zB, zC])
     refine pu_ (v := .bool true) (y_pick (t := true) (by rfl) rfl (by rfl) (by rfl)) ?_
     (try simp only [zP, zN, zA, zB, zC])
     refine nl_ (hK198 _ _ ?_); clear hK198 K198
     refine wp_cond_true rfl ?_
     refine wp_skip ?_
     refine th_norm (hK49 _ _ ?_); try clear hK49 K49
     refine sq_ (fun K199 hK199 => ?_)
     refine wp_block ?_
     refine sq_ (fun K200 hK200 => ?_)
     refine startk_ (S := fun W => Blk W g4 (#[x, .int .u64 (s).last, .bool (s).over, .bool (s).done]) 44 ∧ Blk W g6 (#[.int .i64 kz, .int .i64 nz, .int .u64 rz]) 46 ∧ True) (ds := []) #[false, false, false, false, false, false, false, false, false, false] (by kernel_rfl) rfl rfl (fun W c => ⟨c.blk Fg4.out nin_nil, c.blk Fg6.out nin_nil, trivial⟩) (fun w201 C202 hS203 => ?_)
     have C0' := Lib.hid (show Ch [] w w201 from C0.out.trans' C202 (fun x hx => absurd hx (by simp)))
     have PW' := Lib.hid (show WinIs w201 (w.heap.size) b (s) (v) from PW.out.ch C202 nin_nil rnin_nil)
     have RQ' := Lib.hid (show RefIs w201 (s) (x) from RQ.out.ch C202 xnin_nil)
     have Fg4' := Lib.hid (show Blk w201 g4 (#[x, .int .u64 (s).last, .bool (s).over, .bool (s).done]) 44 from C202.blk Fg4.out nin_nil)
     have Fg6' := Lib.hid (show Blk w201 g6 (#[.int .i64 kz, .int .i64 nz, .int .u64 rz]) 46 from C202.blk Fg6.out nin_nil)
     clear C0 PW RQ Fg4 Fg6
     have C0 := C0'; clear C0'
     have PW := PW'; clear PW'
     have RQ := RQ'; clear RQ'
     have Fg4 := Fg4'; clear Fg4'
     have Fg6 := Fg6'; clear Fg6'
     clear C202
     refine take_ (i := 0) (N := some 62) (v := .agg (#[x, .int .u64 (s).last, .bool (s).over, .bool (s).done])) #[true, false, false, false, false, false, false, false, false, false] rfl rfl (by kernel_rfl) (fun c a w h => hP c a _ _ w h) (y_load (p := ⟨g4, 0, none⟩) rfl (by rfl) (by rfl) (fun W hS => run_loadVar_row _ _ 44 44 (#[x, .int .u64 (s).last, .bool (s).over, .bool (s).done]) (0, 0) _ hS.1 Try.underlying44 rfl (by kernel_rfl))) hS203 rfl ?_
     (try simp only [zP, zN, zA, zB, zC])
     refine take_ (i := 1) (N := some 63) (v := .agg (#[.int .i64 kz, .int .i64 nz, .int .u64 rz])) #[true, true, false, false, false, false, false, false, false, false] rfl rfl (by kernel_rfl) (fun c a w h => hP c a _ _ w h) (y_load (p := ⟨g6, 0, none⟩) rfl (by rfl) (by rfl) (fun W hS => run_loadVar_row _ _ 46 46 (#[.int .i64 kz, .int .i64 nz, .int .u64 rz]) (0, 0) _ hS.2.1 Try.underlying46 rfl (by kernel_rfl))) hS203 rfl ?_
     (try simp only [zP, zN, zA, zB, zC])
     refine two_ (i := 2) (j := 7) (Ni := some 64) (Nj := some 9) #[true, true, true, false, false, false, false, false, false, false] #[true, true, false, false, false, false, false, true, false, false] rfl rfl rfl rfl (by kernel_rfl) (by simp) (by simp) (fun K204 hK204 => ?_) (fun K205 hK205 => ?_)
     ·refine e_call Try.func17 (by kernel_rfl) rfl #[.agg (#[.int .i64 kz, .int .i64 nz, .int .u64 rz])] (by rfl) rfl rfl (by first | rfl | (simp only [List.map_toArray, List.map_cons, List.map_nil]; first | done | rfl)) (event_any _ kz nz rz) ?_
      rintro en w207 ⟨rfl, cc206⟩
      refine ⟨_, rfl, ?_⟩
      have C0' := Lib.hid (show Ch [] w w207 from C0.out.trans' cc206 (fun x hx => absurd hx (by simp)))
      have PW' := Lib.hid (show WinIs w207 (w.heap.size) b (s) (v) from PW.out.ch cc206 nin_nil rnin_nil)
      have RQ' := Lib.hid (show RefIs w207 (s) (x) from RQ.out.ch cc206 xnin_nil)
      have Fg4' := Lib.hid (show Blk w207 g4 (#[x, .int .u64 (s).last, .bool (s).over, .bool (s).done]) 44 from cc206.blk Fg4.out nin_nil)
      have Fg6' := Lib.hid (show Blk w207 g6 (#[.int .i64 kz, .int .i64 nz, .int .u64 rz]) 46 from cc206.blk Fg6.out nin_nil)
      clear C0 PW RQ Fg4 Fg6
      have C0 := C0'; clear C0'
      have PW := PW'; clear PW'
      have RQ := RQ'; clear RQ'
      have Fg4 := Fg4'; clear Fg4'
      have Fg6 := Fg6'; clear Fg6'
      clear cc206
      refine hK204.out _ _ ⟨Fg4.out, Fg6.out, trivial⟩ (fun hS208 => ?_); clear hK204 K204
      (try simp only [zP, zN, zA, zB, zC])
      refine two_ (i := 3) (j := 7) (Ni := some 65) (Nj := some 9) #[true, true, true, true, false, false, false, false, false, false] #[true, true, true, false, false, false, false, true, false, false] rfl rfl rfl rfl (by kernel_rfl) (by simp) (by simp) (fun K209 hK209 => ?_) (fun K210 hK210 => ?_)
      ·refine e_call Try.func16 (by kernel_rfl) rfl #[.agg (#[x, .int .u64 (s).last, .bool (s).over, .bool (s).done]), .agg (evA (⟨2, rz, 5, rz⟩ : Ev))] (by rfl) rfl rfl (by first | rfl | (simp only [List.map_toArray, List.map_cons, List.map_nil]; first | done | rfl)) (rput_all (⟨2, rz, 5, rz⟩ : Ev) RQ.out (by have := hL.out; omega)) ?_
       rintro en w215 ⟨x211, rfl, hr213, cc212, hx214⟩
       refine ⟨_, rfl, ?_⟩
       have nx216 := Lib.hid (show b ∉ xb x211 from fun hk => (hx214 _ hk).elim hxb.out (fun h => by have := PW.out.1.lt; omega))
       have xr217 := Lib.hid (show ∀ k, k ∈ xb x211 → k ∉ rl (v) from fun k hk hm => (hx214 k hk).elim (fun h => hxr.out k h hm) (fun h => by have := (PW.out.2.lt k hm).2; omega))
       have nx218 := Lib.hid (show g4 ∉ xb x211 from fun hk => (hx214 _ hk).elim hxg.out (fun h => by have := Fg4.out.lt; omega))
       have nx219 := Lib.hid (show g6 ∉ xb x211 from fun hk => (hx214 _ hk).elim hx6.out (fun h => by have := Fg6.out.lt; omega))
       have C0' := Lib.hid (show Ch [] w w215 from C0.out.trans' cc212 (fun x hx => absurd hx (by simp)))
       have PW' := Lib.hid (show WinIs w215 (w.heap.size) b (s) (v) from PW.out.ch cc212 nin_nil rnin_nil)
       have Fg4' := Lib.hid (show Blk w215 g4 (#[x, .int .u64 (s).last, .bool (s).over, .bool (s).done]) 44 from cc212.blk Fg4.out nin_nil)
       have Fg6' := Lib.hid (show Blk w215 g6 (#[.int .i64 kz, .int .i64 nz, .int .u64 rz]) 46 from cc212.blk Fg6.out nin_nil)
       clear C0 PW Fg4 Fg6
       have C0 := C0'; clear C0'
       have PW := PW'; clear PW'
       have Fg4 := Fg4'; clear Fg4'
       have Fg6 := Fg6'; clear Fg6'
       clear RQ
       clear cc212
       have RQ := Lib.hid (show RefIs w215 ((putW s (⟨2, rz, 5, rz⟩ : Ev)).1) (x211) from hr213)
       refine hK209.out _ _ ⟨Fg4.out, Fg6.out, trivial⟩ (fun hS220 => ?_); clear hK209 K209
       (try simp only [zP, zN, zA, zB, zC])
       refine pure_ (i := 4) (N := some 61) (v := .tuple #[.agg (refA x211 (putW s (⟨2, rz, 5, rz⟩ : Ev)).1), .bool (putW s (⟨2, rz, 5, rz⟩ : Ev)).2]) #[true, true, true, true, true, false, false, false, false, false] rfl rfl (by kernel_rfl) (fun c a w h => hP c a _ _ w h) (y_move rfl (by rfl) (by rfl)) rfl ?_
       (try simp only [zP, zN, zA, zB, zC])
       refine pure_ (i := 5) (N := some 66) (v := .agg (refA x211 (putW s (⟨2, rz, 5, rz⟩ : Ev)).1)) #[true, true, true, true, true, true, false, false, false, false] rfl rfl (by kernel_rfl) (fun c a w h => hP c a _ _ w h) (y_run (by rfl) (fun W => by go_simp)) rfl ?_
       (try simp only [zP, zN, zA, zB, zC])
       refine pure_ (i := 6) (N := some 67) (v := .bool (putW s (⟨2, rz, 5, rz⟩ : Ev)).2) #[true, true, true, true, true, true, true, false, false, false] rfl rfl (by kernel_rfl) (fun c a w h => hP c a _ _ w h) (y_run (by rfl) (fun W => by go_simp)) rfl ?_
       (try simp only [zP, zN, zA, zB, zC])
       refine one_ (i := 7) (N := some 9) #[true, true, true, true, true, true, true, true, false, false] rfl rfl (by kernel_rfl) (by simp) (fun K221 hK221 => ?_)
       refine e_alloc (by rfl) rfl rfl (cs := #[.slice none 0 0, .int .u64 0, .bool false, .bool false]) (by kernel_rfl) ?_
       rintro g222 w223 HG224 B225 C226
       have nw227 := Lib.hid (show w.heap.size ≤ g222 by have := C0.out.size; have := HG224.out; omega)
       have ne228 := Lib.hid (show b ≠ g222 by have := PW.out.1.lt; have := HG224.out; omega)
       have nr229 := Lib.hid (PW.out.2.ne_new HG224)
       have ne230 := Lib.hid (Fg4.out.ne_new HG224)
       have nx231 := Lib.hid (RQ.out.1.ne_new (by decide) HG224)
       have C0' := Lib.hid (show Ch [] w w223 from C0.out.trans' C226 (fun x hx => absurd hx (by simp)))
       have PW' := Lib.hid (show WinIs w223 (w.heap.size) b (s) (v) from PW.out.ch C226 nin_nil rnin_nil)
       have Fg4' := Lib.hid (show Blk w223 g4 (#[x, .int .u64 (s).last, .bool (s).over, .bool (s).done]) 44 from C226.blk Fg4.out nin_nil)
       have Fg6' := Lib.hid (show Blk w223 g6 (#[.int .i64 kz, .int .i64 nz, .int .u64 rz]) 46 from C226.blk Fg6.out nin_nil)
       have RQ' := Lib.hid (show RefIs w223 ((putW s (⟨2, rz, 5, rz⟩ : Ev)).1) (x211) from RQ.out.ch C226 xnin_nil)
       clear C0 PW Fg4 Fg6 RQ
       have C0 := C0'; clear C0'
       have PW := PW'; clear PW'
       have Fg4 := Fg4'; clear Fg4'
       have Fg6 := Fg6'; clear Fg6'
       have RQ := RQ'; clear RQ'
       have Fg222 := Lib.hid (show Blk w223 g222 (#[.slice none 0 0, .int .u64 0, .bool false, .bool false]) 44 from B225); clear B225 C226
       refine hK221.out _ _ ⟨Fg4.out, Fg6.out, trivial⟩ (fun hS232 => ?_); clear hK221 K221
       (try simp only [zP, zN, zA, zB, zC])
       refine one_ (i := 8) (N := none) #[true, true, true, true, true, true, true, true, true, false] rfl rfl (by kernel_rfl) (by simp) (fun K233 hK233 => ?_)
       refine e_storeN (cells := (refA x211 (putW s (⟨2, rz, 5, rz⟩ : Ev)).1)) (by rfl) rfl rfl (by rfl) (by rfl) Fg222.out (by kernel_rfl) (by rfl) (ones_cons (ref_one RQ.out) (ones_cons rfl (ones_cons rfl (ones_cons rfl ones_nil)))) ?_
       rintro w234 B235 C236
       have C0' := Lib.hid (show Ch [] w w234 from C0.out.trans' C236 (inw_cons (.inr nw227.out) inw_nil))
       have PW' := Lib.hid (show WinIs w234 (w.heap.size) b (s) (v) from PW.out.ch C236 (nin_cons ne228.out nin_nil) (rnin_cons nr229.out rnin_nil))
       have Fg4' := Lib.hid (show Blk w234 g4 (#[x, .int .u64 (s).last, .bool (s).over, .bool (s).done]) 44 from C236.blk Fg4.out (nin_cons ne230.out nin_nil))
       have Fg6' := Lib.hid (show Blk w234 g6 (#[.int .i64 kz, .int .i64 nz, .int .u64 rz]) 46 from C236.blk Fg6.out (nin_cons (Blk.ne_type Fg6.out Fg222.out (by decide)) nin_nil))
       have RQ' := Lib.hid (show RefIs w234 ((putW s (⟨2, rz, 5, rz⟩ : Ev)).1) (x211) from RQ.out.ch C236 (xnin_cons nx231.out xnin_nil))
       clear C0 PW Fg4 Fg6 RQ
       have C0 := C0'; clear C0'
       have PW := PW'; clear PW'
       have Fg4 := Fg4'; clear Fg4'
       have Fg6 := Fg6'; clear Fg6'
       have RQ := RQ'; clear RQ'
       clear Fg222; have Fg222 := Lib.hid (show Blk w234 g222 ((refA x211 (putW s (⟨2, rz, 5, rz⟩ : Ev)).1)) 44 from B235); clear B235 C236
       refine hK233.out _ _ ⟨Fg4.out, Fg6.out, trivial⟩ (fun hS237 => ?_); clear hK233 K233
       (try simp only [zP, zN, zA, zB, zC])
       refine pure_ (i := 9) (N := some 10) (v := .bool (putW s (⟨2, rz, 5, rz⟩ : Ev)).2) #[true, true, true, true, true, true, true, true, true, true] rfl rfl (by kernel_rfl) (fun c a w h => hP c a _ _ w h) (y_assign rfl (by rfl) (by rfl)) rfl ?_
       (try simp only [zP, zN, zA, zB, zC])
       refine done_ (by kernel_rfl) (th_norm (hK200 _ _ ?_)); clear hK200 K200
       refine s_ (fun K238 hK238 => ?_)
       refine ld_ (v := .agg ((refA x211 (putW s (⟨2, rz, 5, rz⟩ : Ev)).1))) rfl (by rfl) (by rfl) (run_loadVar_row _ _ 44 44 ((refA x211 (putW s (⟨2, rz, 5, rz⟩ : Ev)).1)) (0, 0) _ Fg222.out Try.underlying44 rfl (by kernel_rfl)) ?_
       (try simp only [zP, zN, zA, zB, zC])
       refine ef_ (fun K239 hK239 => ?_)
       refine e_storeN (cells := ((refA x211 (putW s (⟨2, rz, 5, rz⟩ : Ev)).1))) (by rfl) rfl rfl (by rfl) (by rfl) Fg4.out (by kernel_rfl) (by rfl) (ones_cons (ref_one RQ.out) (ones_cons rfl (ones_cons rfl (ones_cons rfl ones_nil)))) ?_
       rintro w240 B241 C242
       have C0' := Lib.hid (show Ch [] w w240 from C0.out.trans' C242 (inw_cons (.inr nw13.out) inw_nil))
       have PW' := Lib.hid (show WinIs w240 (w.heap.size) b (s) (v) from PW.out.ch C242 (nin_cons ne14.out nin_nil) (rnin_cons hgr.out rnin_nil))
       have Fg6' := Lib.hid (show Blk w240 g6 (#[.int .i64 kz, .int .i64 nz, .int .u64 rz]) 46 from C242.blk Fg6.out (nin_cons (Blk.ne_type Fg6.out Fg4.out (by decide)) nin_nil))
       have RQ' := Lib.hid (show RefIs w240 ((putW s (⟨2, rz, 5, rz⟩ : Ev)).1) (x211) from RQ.out.ch C242 (xnin_cons nx218.out xnin_nil))
       have Fg222' := Lib.hid (show Blk w240 g222 ((refA x211 (putW s (⟨2, rz, 5, rz⟩ : Ev)).1)) 44 from C242.blk Fg222.out (nin_cons (Ne.symm ne230.out) nin_nil))
       clear C0 PW Fg6 RQ Fg222
       have C0 := C0'; clear C0'
       have PW := PW'; clear PW'
       have Fg6 := Fg6'; clear Fg6'
       have RQ := RQ'; clear RQ'
       have Fg222 := Fg222'; clear Fg222'
       clear Fg4; have Fg4 := Lib.hid (show Blk w240 g4 (((refA x211 (putW s (⟨2, rz, 5, rz⟩ : Ev)).1))) 44 from B241); clear B241 C242
       refine hK239 _ _ ?_; clear hK239 K239
       (try simp only [zP, zN, zA, zB, zC])
       refine nl_ (hK238 _ _ ?_); clear hK238 K238
       refine r_ ?_
       refine pu_ (v := .pointer (some ⟨b, 0, none⟩)) (y_move rfl (by rfl) (by rfl)) ?_
       (try simp only [zP, zN, zA, zB, zC])
       refine ld_ (v := .agg (#[.int .i64 kz, .int .i64 nz, .int .u64 rz])) rfl (by rfl) (by rfl) (run_loadVar_row _ _ 46 46 (#[.int .i64 kz, .int .i64 nz, .int .u64 rz]) (0, 0) _ Fg6.out Try.underlying46 rfl (by kernel_rfl)) ?_
       (try simp only [zP, zN, zA, zB, zC])
       refine ef_ (fun K243 hK243 => ?_)
       refine e_call Try.func17 (by kernel_rfl) rfl #[.agg (#[.int .i64 kz, .int .i64 nz, .int .u64 rz])] (by rfl) rfl rfl (by first | rfl | (simp only [List.map_toArray, List.map_cons, List.map_nil]; first | done | rfl)) (event_any _ kz nz rz) ?_
       rintro en w245 ⟨rfl, cc244⟩
       refine ⟨_, rfl, ?_⟩
       have C0' := Lib.hid (show Ch [] w w245 from C0.out.trans' cc244 (fun x hx => absurd hx (by simp)))
       have PW' := Lib.hid (show WinIs w245 (w.heap.size) b (s) (v) from PW.out.ch cc244 nin_nil rnin_nil)
       have Fg4' := Lib.hid (show Blk w245 g4 (((refA x211 (putW s (⟨2, rz, 5, rz⟩ : Ev)).1))) 44 from cc244.blk Fg4.out nin_nil)
       have Fg6' := Lib.hid (show Blk w245 g6 (#[.int .i64 kz, .int .i64 nz, .int .u64 rz]) 46 from cc244.blk Fg6.out nin_nil)
       have RQ' := Lib.hid (show RefIs w245 ((putW s (⟨2, rz, 5, rz⟩ : Ev)).1) (x211) from RQ.out.ch cc244 xnin_nil)
       have Fg222' := Lib.hid (show Blk w245 g222 ((refA x211 (putW s (⟨2, rz, 5, rz⟩ : Ev)).1)) 44 from cc244.blk Fg222.out nin_nil)
       clear C0 PW Fg4 Fg6 RQ Fg222
       have C0 := C0'; clear C0'
       have PW := PW'; clear PW'
       have Fg4 := Fg4'; clear Fg4'
       have Fg6 := Fg6'; clear Fg6'
       have RQ := RQ'; clear RQ'
       have Fg222 := Fg222'; clear Fg222'
       clear cc244
       refine hK243 _ _ ?_; clear hK243 K243
       (try simp only [zP, zN, zA, zB, zC])
       refine ef_ (fun K246 hK246 => ?_)
       refine e_call Try.func18 (by kernel_rfl) rfl #[.pointer (some ⟨b, 0, none⟩), .agg (evA (⟨2, rz, 5, rz⟩ : Ev))] (by rfl) rfl rfl (by first | rfl | (simp only [List.map_toArray, List.map_cons, List.map_nil]; first | done | rfl)) (put_all (⟨2, rz, 5, rz⟩ : Ev) PW.out C0.out.size (by have := hL.out; omega)) ?_
       rintro en w251 ⟨v247, rfl, hw249, cc248, hr250⟩
       refine ⟨_, rfl, ?_⟩
       have xr252 := Lib.hid (show ∀ k, k ∈ xb (x211) → k ∉ rl v247 from fun k hk hm => (hr250 k hm).elim (fun h => (xnin_cons nx216.out xr217.out) k hk h) (fun h => by have := RQ.out.1.lt (by decide) k hk; omega))
       have C0' := Lib.hid (show Ch [] w w251 from C0.out.trans' cc248 (inw_cons (.inr HBN.out) (fun x hx => .inr (PW.out.2.lt x hx).1)))
       have Fg4' := Lib.hid (show Blk w251 g4 (((refA x211 (putW s (⟨2, rz, 5, rz⟩ : Ev)).1))) 44 from cc248.blk Fg4.out (nin_cons (Ne.symm ne14.out) hgr.out))
       have Fg6' := Lib.hid (show Blk w251 g6 (#[.int .i64 kz, .int .i64 nz, .int .u64 rz]) 46 from cc248.blk Fg6.out (nin_cons (Ne.symm ne34.out) hv6.out))
       have RQ' := Lib.hid (show RefIs w251 ((putW s (⟨2, rz, 5, rz⟩ : Ev)).1) (x211) from RQ.out.ch cc248 (xnin_cons nx216.out xr217.out))
       have Fg222' := Lib.hid (show Blk w251 g222 ((refA x211 (putW s (⟨2, rz, 5, rz⟩ : Ev)).1)) 44 from cc248.blk Fg222.out (nin_cons (Ne.symm ne228.out) nr229.out))
       clear C0 Fg4 Fg6 RQ Fg222
       have C0 := C0'; clear C0'
       have Fg4 := Fg4'; clear Fg4'
       have Fg6 := Fg6'; clear Fg6'
       have RQ := RQ'; clear RQ'
       have Fg222 := Fg222'; clear Fg222'
       clear PW
       clear cc248
       have PW := Lib.hid (show WinIs w251 (w.heap.size) b ((putW s (⟨2, rz, 5, rz⟩ : Ev)).1) (v247) from hw249)
       have nr253 := Lib.hid (show g4 ∉ rl v247 from PW.out.2.ne Fg4.out (by decide))
       refine hK246 _ _ ?_; clear hK246 K246
       (try simp only [zP, zN, zA, zB, zC])
       refine pu_ (v := .bool (putW s (⟨2, rz, 5, rz⟩ : Ev)).2) (y_move rfl (by rfl) (by rfl)) ?_
       (try simp only [zP, zN, zA, zB, zC])
       refine pu_ (v := .bool true) (y_run (by rfl) (fun W => by go_simp)) ?_
       (try simp only [zP, zN, zA, zB, zC])
       refine pu_ (v := .bool true) (y_assign rfl (by rfl) (by rfl)) ?_
       (try simp only [zP, zN, zA, zB, zC])
       refine nl_ ?_
       refine ib_norm ?_
       refine th_norm (hK199 _ _ ?_); try clear hK199 K199
       refine r_ ?_
       refine pu_ (v := .int .i64 j) (y_move rfl (by rfl) (by rfl)) ?_
       (try simp only [zP, zN, zA, zB, zC])
       refine pu_ (v := .int .i64 (j + 1 : Nat)) (y_run (by rfl) (fun W => by have d := WJ.out; go_simp)) ?_
       (try simp only [zP, zN, zA, zB, zC])
       refine pu_ (v := .int .i64 (j + 1 : Nat)) (y_assign rfl (by rfl) (by rfl)) ?_
       (try simp only [zP, zN, zA, zB, zC])
       refine nl_ ?_
       exact th_norm (hK48 (jq - 1) _ _ (by have := hjl.out; have := hj.out; omega) ⟨j + 1, (putW s (⟨2, rz, 5, rz⟩ : Ev)).1, _, x211, fun us_ => (#[.slice (some ⟨ab, off, none⟩) len0 cap0, us 1, .bool false, .pointer (some ⟨b, 0, none⟩), .pointer (some ⟨g4, 0, none⟩), .int .i64 k, .pointer (some ⟨g6, 0, none⟩), .bool true, .int .i64 (j + 1 : Nat), .pointer (some ⟨g222, 0, none⟩), .bool (putW s (⟨2, rz, 5, rz⟩ : Ev)).2, us 11, us 12, us 13, us 14, us 15, us 16, us 17, us 18, us 19, us 20, us 21, us 22, us 23, us 24, us 25, us 26, us 27, us 28, us 29, us 30, us 31, us 32, us 33, us 34, us 35, us 36, us 37, us 38, us 39, us 40, us 41, us 42, us 43, .bool true, .bool true, .int .i64 j, .bool false, .bool false, .int .i64 j, .pointer (some ⟨g6, 1, none⟩), .int .i64 nz, .bool true, .bool true, .int .i64 j, .bool true, .bool true, .bool true, .bool true, .int .i64 j, .int .i64 (j + 1 : Nat), .tuple #[.agg (refA x211 (putW s (⟨2, rz, 5, rz⟩ : Ev)).1), .bool (putW s (⟨2, rz, 5, rz⟩ : Ev)).2], .agg (#[x, .int .u64 (s).last, .bool (s).over, .bool (s).done]), .agg (#[.int .i64 kz, .int .i64 nz, .int .u64 rz]), .agg (evA (⟨2, rz, 5, rz⟩ : Ev)), .tuple #[.agg (refA x211 (putW s (⟨2, rz, 5, rz⟩ : Ev)).1), .bool (putW s (⟨2, rz, 5, rz⟩ : Ev)).2], .agg (refA x211 (putW s (⟨2, rz, 5, rz⟩ : Ev)).1), .bool (putW s (⟨2, rz, 5, rz⟩ : Ev)).2, .agg ((refA x211 (putW s (⟨2, rz, 5, rz⟩ : Ev)).1)), .pointer (some ⟨b, 0, none⟩), .agg (#[.int .i64 kz, .int .i64 nz, .int .u64 rz]), .agg (evA (⟨2, rz, 5, rz⟩ : Ev)), .bool (putW s (⟨2, rz, 5, rz⟩ : Ev)).2, .bool (putW s (⟨2, rz, 5, rz⟩ : Ev)).2, .bool true, us 75, us 76, us 77, us 78, us 79, us 80, us 81, us 82, us 83, us 84, us 85, us 86, us 87, us 88, us 89, us 90, us 91, us 92, us 93, us 94, us 95, us 96, us 97, us 98, us 99, us 100, us 101, us 102, us 103, us 104, us 105, us 106, us 107, us 108, us 109, us 110, us 111, us 112, us 113, us 114, us 115, us 116, us 117, us 118, us 119, us 120, us 121, us 122, us 123, us 124, us 125, us 126, us 127, us 128, us 129, us 130, us 131, us 132, us 133, us 134, us 135, us 136, us 137, us 138, us 139, us 140, us 141, us 142, us 143, us 144, us 145, us 146, us 147, us 148, us 149, us 150, us 151, us 152, us 153, us 154, us 155, us 156, us 157, us 158, us 159, us 160, us 161, us 162, us 163, us 164, us 165, us 166, us 167, us 168] : Array Value).getD us_ undef, rfl, C0, PW, RQ, Fg4, Fg6, Lib.hid ⟨by have := hjl.out; omega, by have := hjl.out; have := hj.out; omega⟩, Lib.hid (putW_le _ hL.out), xr252, nx216, nx218, nr253, nx219, Lib.hid (PW.out.2.ne Fg6.out (by decide))⟩)
      ·refine e_alloc (by rfl) rfl rfl (cs := #[.slice none 0 0, .int .u64 0, .bool false, .bool false]) (by kernel_rfl) ?_
       rintro g254 w255 HG256 B257 C258
       have nw259 := Lib.hid (show w.heap.size ≤ g254 by have := C0.out.size; have := HG256.out; omega)
       have ne260 := Lib.hid (show b ≠ g254 by have := PW.out.1.lt; have := HG256.out; omega)
       have nr261 := Lib.hid (PW.out.2.ne_new HG256)
       have nx262 := Lib.hid (RQ.out.1.ne_new (by decide) HG256)
       have ne263 := Lib.hid (Fg4.out.ne_new HG256)
       have C0' := Lib.hid (show Ch [] w w255 from C0.out.trans' C258 (fun x hx => absurd hx (by simp)))
       have PW' := Lib.hid (show WinIs w255 (w.heap.size) b (s) (v) from PW.out.ch C258 nin_nil rnin_nil)
       have RQ' := Lib.hid (show RefIs w255 (s) (x) from RQ.out.ch C258 xnin_nil)
       have Fg4' := Lib.hid (show Blk w255 g4 (#[x, .int .u64 (s).last, .bool (s).over, .bool (s).done]) 44 from C258.blk Fg4.out nin_nil)
       have Fg6' := Lib.hid (show Blk w255 g6 (#[.int .i64 kz, .int .i64 nz, .int .u64 rz]) 46 from C258.blk Fg6.out nin_nil)
       clear C0 PW RQ Fg4 Fg6
       have C0 := C0'; clear C0'
       have PW := PW'; clear PW'
       have RQ := RQ'; clear RQ'
       have Fg4 := Fg4'; clear Fg4'
       have Fg6 := Fg6'; clear Fg6'
       have Fg254 := Lib.hid (show Blk w255 g254 (#[.slice none 0 0, .int .u64 0, .bool false, .bool false]) 44 from B257); clear B257 C258
       refine hK210.out _ _ ⟨Fg4.out, Fg6.out, trivial⟩ (fun hS264 => ?_); clear hK210 K210
       (try simp only [zP, zN, zA, zB, zC])
       refine one_ (i := 3) (N := some 65) #[true, true, true, true, false, false, false, true, false, false] rfl rfl (by kernel_rfl) (by simp) (fun K265 hK265 => ?_)
       refine e_call Try.func16 (by kernel_rfl) rfl #[.agg (#[x, .int .u64 (s).last, .bool (s).over, .bool (s).done]), .agg (evA (⟨2, rz, 5, rz⟩ : Ev))] (by rfl) rfl rfl (by first | rfl | (simp only [List.map_toArray, List.map_cons, List.map_nil]; first | done | rfl)) (rput_all (⟨2, rz, 5, rz⟩ : Ev) RQ.out (by have := hL.out; omega)) ?_
       rintro en w270 ⟨x266, rfl, hr268, cc267, hx269⟩
       refine ⟨_, rfl, ?_⟩
       have nx271 := Lib.hid (show b ∉ xb x266 from fun hk => (hx269 _ hk).elim hxb.out (fun h => by have := PW.out.1.lt; omega))
       have xr272 := Lib.hid (show ∀ k, k ∈ xb x266 → k ∉ rl (v) from fun k hk hm => (hx269 k hk).elim (fun h => hxr.out k h hm) (fun h => by have := (PW.out.2.lt k hm).2; omega))
       have nx273 := Lib.hid (show g4 ∉ xb x266 from fun hk => (hx269 _ hk).elim hxg.out (fun h => by have := Fg4.out.lt; omega))
       have nx274 := Lib.hid (show g6 ∉ xb x266 from fun hk => (hx269 _ hk).elim hx6.out (fun h => by have := Fg6.out.lt; omega))
       have nx275 := Lib.hid (show g254 ∉ xb x266 from fun hk => (hx269 _ hk).elim nx262.out (fun h => by have := Fg254.out.lt; omega))
       have C0' := Lib.hid (show Ch [] w w270 from C0.out.trans' cc267 (fun x hx => absurd hx (by simp)))
       have PW' := Lib.hid (show WinIs w270 (w.heap.size) b (s) (v) from PW.out.ch cc267 nin_nil rnin_nil)
       have Fg4' := Lib.hid (show Blk w270 g4 (#[x, .int .u64 (s).last, .bool (s).over, .bool (s).done]) 44 from cc267.blk Fg4.out nin_nil)
       have Fg6' := Lib.hid (show Blk w270 g6 (#[.int .i64 kz, .int .i64 nz, .int .u64 rz]) 46 from cc267.blk Fg6.out nin_nil)
       have Fg254' := Lib.hid (show Blk w270 g254 (#[.slice none 0 0, .int .u64 0, .bool false, .bool false]) 44 from cc267.blk Fg254.out nin_nil)
       clear C0 PW Fg4 Fg6 Fg254
       have C0 := C0'; clear C0'
       have PW := PW'; clear PW'
       have Fg4 := Fg4'; clear Fg4'
       have Fg6 := Fg6'; clear Fg6'
       have Fg254 := Fg254'; clear Fg254'
       clear RQ
       clear cc267
       have RQ := Lib.hid (show RefIs w270 ((putW s (⟨2, rz, 5, rz⟩ : Ev)).1) (x266) from hr268)
       refine hK265.out _ _ ⟨Fg4.out, Fg6.out, trivial⟩ (fun hS276 => ?_); clear hK265 K265
       (try simp only [zP, zN, zA, zB, zC])
       refine pure_ (i := 4) (N := some 61) (v := .tuple #[.agg (refA x266 (putW s (⟨2, rz, 5, rz⟩ : Ev)).1), .bool (putW s (⟨2, rz, 5, rz⟩ : Ev)).2]) #[true, true, true, true, true, false, false, true, false, false] rfl rfl (by kernel_rfl) (fun c a w h => hP c a _ _ w h) (y_move rfl (by rfl) (by rfl)) rfl ?_
       (try simp only [zP, zN, zA, zB, zC])
       refine pure_ (i := 5) (N := some 66) (v := .agg (refA x266 (putW s (⟨2, rz, 5, rz⟩ : Ev)).1)) #[true, true, true, true, true, true, false, true, false, false] rfl rfl (by kernel_rfl) (fun c a w h => hP c a _ _ w h) (y_run (by rfl) (fun W => by go_simp)) rfl ?_
       (try simp only [zP, zN, zA, zB, zC])
       refine pure_ (i := 6) (N := some 67) (v := .bool (putW s (⟨2, rz, 5, rz⟩ : Ev)).2) #[true, true, true, true, true, true, true, true, false, false] rfl rfl (by kernel_rfl) (fun c a w h => hP c a _ _ w h) (y_run (by rfl) (fun W => by go_simp)) rfl ?_
       (try simp only [zP, zN, zA, zB, zC])
       refine one_ (i := 8) (N := none) #[true, true, true, true, true, true, true, true, true, false] rfl rfl (by kernel_rfl) (by simp) (fun K277 hK277 => ?_)
       refine e_storeN (cells := (refA x266 (putW s (⟨2, rz, 5, rz⟩ : Ev)).1)) (by rfl) rfl rfl (by rfl) (by rfl) Fg254.out (by kernel_rfl) (by rfl) (ones_cons (ref_one RQ.out) (ones_cons rfl (ones_cons rfl (ones_cons rfl ones_nil)))) ?_
       rintro w278 B279 C280
       have C0' := Lib.hid (show Ch [] w w278 from C0.out.trans' C280 (inw_cons (.inr nw259.out) inw_nil))
       have PW' := Lib.hid (show WinIs w278 (w.heap.size) b (s) (v) from PW.out.ch C280 (nin_cons ne260.out nin_nil) (rnin_cons nr261.out rnin_nil))
       have Fg4' := Lib.hid (show Blk w278 g4 (#[x, .int .u64 (s).last, .bool (s).over, .bool (s).done]) 44 from C280.blk Fg4.out (nin_cons ne263.out nin_nil))
       have Fg6' := Lib.hid (show Blk w278 g6 (#[.int .i64 kz, .int .i64 nz, .int .u64 rz]) 46 from C280.blk Fg6.out (nin_cons (Blk.ne_type Fg6.out Fg254.out (by decide)) nin_nil))
       have RQ' := Lib.hid (show RefIs w278 ((putW s (⟨2, rz, 5, rz⟩ : Ev)).1) (x266) from RQ.out.ch C280 (xnin_cons nx275.out xnin_nil))
       clear C0 PW Fg4 Fg6 RQ
       have C0 := C0'; clear C0'
       have PW := PW'; clear PW'
       have Fg4 := Fg4'; clear Fg4'
       have Fg6 := Fg6'; clear Fg6'
       have RQ := RQ'; clear RQ'
       clear Fg254; have Fg254 := Lib.hid (show Blk w278 g254 ((refA x266 (putW s (⟨2, rz, 5, rz⟩ : Ev)).1)) 44 from B279); clear B279 C280
       refine hK277.out _ _ ⟨Fg4.out, Fg6.out, trivial⟩ (fun hS281 => ?_); clear hK277 K277
       (try simp only [zP, zN, zA, zB, zC])
       refine pure_ (i := 9) (N := some 10) (v := .bool (putW s (⟨2, rz, 5, rz⟩ : Ev)).2) #[true, true, true, true, true, true, true, true, true, true] rfl rfl (by kernel_rfl) (fun c a w h => hP c a _ _ w h) (y_assign rfl (by rfl) (by rfl)) rfl ?_
       (try simp only [zP, zN, zA, zB, zC])
       refine done_ (by kernel_rfl) (th_norm (hK200 _ _ ?_)); clear hK200 K200
       refine s_ (fun K282 hK282 => ?_)
       refine ld_ (v := .agg ((refA x266 (putW s (⟨2, rz, 5, rz⟩ : Ev)).1))) rfl (by rfl) (by rfl) (run_loadVar_row _ _ 44 44 ((refA x266 (putW s (⟨2, rz, 5, rz⟩ : Ev)).1)) (0, 0) _ Fg254.out Try.underlying44 rfl (by kernel_rfl)) ?_
       (try simp only [zP, zN, zA, zB, zC])
       refine ef_ (fun K283 hK283 => ?_)
       refine e_storeN (cells := ((refA x266 (putW s (⟨2, rz, 5, rz⟩ : Ev)).1))) (by rfl) rfl rfl (by rfl) (by rfl) Fg4.out (by kernel_rfl) (by rfl) (ones_cons (ref_one RQ.out) (ones_cons rfl (ones_cons rfl (ones_cons rfl ones_nil)))) ?_
       rintro w284 B285 C286
       have C0' := Lib.hid (show Ch [] w w284 from C0.out.trans' C286 (inw_cons (.inr nw13.out) inw_nil))
       have PW' := Lib.hid (show WinIs w284 (w.heap.size) b (s) (v) from PW.out.ch C286 (nin_cons ne14.out nin_nil) (rnin_cons hgr.out rnin_nil))
       have Fg6' := Lib.hid (show Blk w284 g6 (#[.int .i64 kz, .int .i64 nz, .int .u64 rz]) 46 from C286.blk Fg6.out (nin_cons (Blk.ne_type Fg6.out Fg4.out (by decide)) nin_nil))
       have Fg254' := Lib.hid (show Blk w284 g254 ((refA x266 (putW s (⟨2, rz, 5, rz⟩ : Ev)).1)) 44 from C286.blk Fg254.out (nin_cons (Ne.symm ne263.out) nin_nil))
       have RQ' := Lib.hid (show RefIs w284 ((putW s (⟨2, rz, 5, rz⟩ : Ev)).1) (x266) from RQ.out.ch C286 (xnin_cons nx273.out xnin_nil))
       clear C0 PW Fg6 Fg254 RQ
       have C0 := C0'; clear C0'
       have PW := PW'; clear PW'
       have Fg6 := Fg6'; clear Fg6'
       have Fg254 := Fg254'; clear Fg254'
       have RQ := RQ'; clear RQ'
       clear Fg4; have Fg4 := Lib.hid (show Blk w284 g4 (((refA x266 (putW s (⟨2, rz, 5, rz⟩ : Ev)).1))) 44 from B285); clear B285 C286
       refine hK283 _ _ ?_; clear hK283 K283
       (try simp only [zP, zN, zA, zB, zC])
       refine nl_ (hK282 _ _ ?_); clear hK282 K282
       refine r_ ?_
       refine pu_ (v := .pointer (some ⟨b, 0, none⟩)) (y_move rfl (by rfl) (by rfl)) ?_
       (try simp only [zP, zN, zA, zB, zC])
       refine ld_ (v := .agg (#[.int .i64 kz, .int .i64 nz, .int .u64 rz])) rfl (by rfl) (by rfl) (run_loadVar_row _ _ 46 46 (#[.int .i64 kz, .int .i64 nz, .int .u64 rz]) (0, 0) _ Fg6.out Try.underlying46 rfl (by kernel_rfl)) ?_
       (try simp only [zP, zN, zA, zB, zC])
       refine ef_ (fun K287 hK287 => ?_)
       refine e_call Try.func17 (by kernel_rfl) rfl #[.agg (#[.int .i64 kz, .int .i64 nz, .int .u64 rz])] (by rfl) rfl rfl (by first | rfl | (simp only [List.map_toArray, List.map_cons, List.map_nil]; first | done | rfl)) (event_any _ kz nz rz) ?_
       rintro en w289 ⟨rfl, cc288⟩
       refine ⟨_, rfl, ?_⟩
       have C0' := Lib.hid (show Ch [] w w289 from C0.out.trans' cc288 (fun x hx => absurd hx (by simp)))
       have PW' := Lib.hid (show WinIs w289 (w.heap.size) b (s) (v) from PW.out.ch cc288 nin_nil rnin_nil)
       have Fg4' := Lib.hid (show Blk w289 g4 (((refA x266 (putW s (⟨2, rz, 5, rz⟩ : Ev)).1))) 44 from cc288.blk Fg4.out nin_nil)
       have Fg6' := Lib.hid (show Blk w289 g6 (#[.int .i64 kz, .int .i64 nz, .int .u64 rz]) 46 from cc288.blk Fg6.out nin_nil)
       have Fg254' := Lib.hid (show Blk w289 g254 ((refA x266 (putW s (⟨2, rz, 5, rz⟩ : Ev)).1)) 44 from cc288.blk Fg254.out nin_nil)
       have RQ' := Lib.hid (show RefIs w289 ((putW s (⟨2, rz, 5, rz⟩ : Ev)).1) (x266) from RQ.out.ch cc288 xnin_nil)
       clear C0 PW Fg4 Fg6 Fg254 RQ
       have C0 := C0'; clear C0'
       have PW := PW'; clear PW'
       have Fg4 := Fg4'; clear Fg4'
       have Fg6 := Fg6'; clear Fg6'
       have Fg254 := Fg254'; clear Fg254'
       have RQ := RQ'; clear RQ'
       clear cc288
       refine hK287 _ _ ?_; clear hK287 K287
       (try simp only [zP, zN, zA, zB, zC])
       refine ef_ (fun K290 hK290 => ?_)
       refine e_call Try.func18 (by kernel_rfl) rfl #[.pointer (some ⟨b, 0, none⟩), .agg (evA (⟨2, rz, 5, rz⟩ : Ev))] (by rfl) rfl rfl (by first | rfl | (simp only [List.map_toArray, List.map_cons, List.map_nil]; first | done | rfl)) (put_all (⟨2, rz, 5, rz⟩ : Ev) PW.out C0.out.size (by have := hL.out; omega)) ?_
       rintro en w295 ⟨v291, rfl, hw293, cc292, hr294⟩
       refine ⟨_, rfl, ?_⟩
       have xr296 := Lib.hid (show ∀ k, k ∈ xb (x266) → k ∉ rl v291 from fun k hk hm => (hr294 k hm).elim (fun h => (xnin_cons nx271.out xr272.out) k hk h) (fun h => by have := RQ.out.1.lt (by decide) k hk; omega))
       have C0' := Lib.hid (show Ch [] w w295 from C0.out.trans' cc292 (inw_cons (.inr HBN.out) (fun x hx => .inr (PW.out.2.lt x hx).1)))
       have Fg4' := Lib.hid (show Blk w295 g4 (((refA x266 (putW s (⟨2, rz, 5, rz⟩ : Ev)).1))) 44 from cc292.blk Fg4.out (nin_cons (Ne.symm ne14.out) hgr.out))
       have Fg6' := Lib.hid (show Blk w295 g6 (#[.int .i64 kz, .int .i64 nz, .int .u64 rz]) 46 from cc292.blk Fg6.out (nin_cons (Ne.symm ne34.out) hv6.out))
       have Fg254' := Lib.hid (show Blk w295 g254 ((refA x266 (putW s (⟨2, rz, 5, rz⟩ : Ev)).1)) 44 from cc292.blk Fg254.out (nin_cons (Ne.symm ne260.out) nr261.out))
       have RQ' := Lib.hid (show RefIs w295 ((putW s (⟨2, rz, 5, rz⟩ : Ev)).1) (x266) from RQ.out.ch cc292 (xnin_cons nx271.out xr272.out))
       clear C0 Fg4 Fg6 Fg254 RQ
       have C0 := C0'; clear C0'
       have Fg4 := Fg4'; clear Fg4'
       have Fg6 := Fg6'; clear Fg6'
       have Fg254 := Fg254'; clear Fg254'
       have RQ := RQ'; clear RQ'
       clear PW
       clear cc292
       have PW := Lib.hid (show WinIs w295 (w.heap.size) b ((putW s (⟨2, rz, 5, rz⟩ : Ev)).1) (v291) from hw293)
       have nr297 := Lib.hid (show g4 ∉ rl v291 from PW.out.2.ne Fg4.out (by decide))
       refine hK290 _ _ ?_; clear hK290 K290
       (try simp only [zP, zN, zA, zB, zC])
       refine pu_ (v := .bool (putW s (⟨2, rz, 5, rz⟩ : Ev)).2) (y_move rfl (by rfl) (by rfl)) ?_
       (try simp only [zP, zN, zA, zB, zC])
       refine pu_ (v := .bool true) (y_run (by rfl) (fun W => by go_simp)) ?_
       (try simp only [zP, zN, zA, zB, zC])
       refine pu_ (v := .bool true) (y_assign rfl (by rfl) (by rfl)) ?_
       (try simp only [zP, zN, zA, zB, zC])
       refine nl_ ?_
       refine ib_norm ?_
       refine th_norm (hK199 _ _ ?_); try clear hK199 K199
       refine r_ ?_
       refine pu_ (v := .int .i64 j) (y_move rfl (by rfl) (by rfl)) ?_
       (try simp only [zP, zN, zA, zB, zC])
       refine pu_ (v := .int .i64 (j + 1 : Nat)) (y_run (by rfl) (fun W => by have d := WJ.out; go_simp)) ?_
       (try simp only [zP, zN, zA, zB, zC])
       refine pu_ (v := .int .i64 (j + 1 : Nat)) (y_assign rfl (by rfl) (by rfl)) ?_
       (try simp only [zP, zN, zA, zB, zC])
       refine nl_ ?_
       exact th_norm (hK48 (jq - 1) _ _ (by have := hjl.out; have := hj.out; omega) ⟨j + 1, (putW s (⟨2, rz, 5, rz⟩ : Ev)).1, _, x266, fun us_ => (#[.slice (some ⟨ab, off, none⟩) len0 cap0, us 1, .bool false, .pointer (some ⟨b, 0, none⟩), .pointer (some ⟨g4, 0, none⟩), .int .i64 k, .pointer (some ⟨g6, 0, none⟩), .bool true, .int .i64 (j + 1 : Nat), .pointer (some ⟨g254, 0, none⟩), .bool (putW s (⟨2, rz, 5, rz⟩ : Ev)).2, us 11, us 12, us 13, us 14, us 15, us 16, us 17, us 18, us 19, us 20, us 21, us 22, us 23, us 24, us 25, us 26, us 27, us 28, us 29, us 30, us 31, us 32, us 33, us 34, us 35, us 36, us 37, us 38, us 39, us 40, us 41, us 42, us 43, .bool true, .bool true, .int .i64 j, .bool false, .bool false, .int .i64 j, .pointer (some ⟨g6, 1, none⟩), .int .i64 nz, .bool true, .bool true, .int .i64 j, .bool true, .bool true, .bool true, .bool true, .int .i64 j, .int .i64 (j + 1 : Nat), .tuple #[.agg (refA x266 (putW s (⟨2, rz, 5, rz⟩ : Ev)).1), .bool (putW s (⟨2, rz, 5, rz⟩ : Ev)).2], .agg (#[x, .int .u64 (s).last, .bool (s).over, .bool (s).done]), .agg (#[.int .i64 kz, .int .i64 nz, .int .u64 rz]), .agg (evA (⟨2, rz, 5, rz⟩ : Ev)), .tuple #[.agg (refA x266 (putW s (⟨2, rz, 5, rz⟩ : Ev)).1), .bool (putW s (⟨2, rz, 5, rz⟩ : Ev)).2], .agg (refA x266 (putW s (⟨2, rz, 5, rz⟩ : Ev)).1), .bool (putW s (⟨2, rz, 5, rz⟩ : Ev)).2, .agg ((refA x266 (putW s (⟨2, rz, 5, rz⟩ : Ev)).1)), .pointer (some ⟨b, 0, none⟩), .agg (#[.int .i64 kz, .int .i64 nz, .int .u64 rz]), .agg (evA (⟨2, rz, 5, rz⟩ : Ev)), .bool (putW s (⟨2, rz, 5, rz⟩ : Ev)).2, .bool (putW s (⟨2, rz, 5, rz⟩ : Ev)).2, .bool true, us 75, us 76, us 77, us 78, us 79, us 80, us 81, us 82, us 83, us 84, us 85, us 86, us 87, us 88, us 89, us 90, us 91, us 92, us 93, us 94, us 95, us 96, us 97, us 98, us 99, us 100, us 101, us 102, us 103, us 104, us 105, us 106, us 107, us 108, us 109, us 110, us 111, us 112, us 113, us 114, us 115, us 116, us 117, us 118, us 119, us 120, us 121, us 122, us 123, us 124, us 125, us 126, us 127, us 128, us 129, us 130, us 131, us 132, us 133, us 134, us 135, us 136, us 137, us 138, us 139, us 140, us 141, us 142, us 143, us 144, us 145, us 146, us 147, us 148, us 149, us 150, us 151, us 152, us 153, us 154, us 155, us 156, us 157, us 158, us 159, us 160, us 161, us 162, us 163, us 164, us 165, us 166, us 167, us 168] : Array Value).getD us_ undef, rfl, C0, PW, RQ, Fg4, Fg6, Lib.hid ⟨by have := hjl.out; omega, by have := hjl.out; have := hj.out; omega⟩, Lib.hid (putW_le _ hL.out), xr296, nx271, nx273, nr297, nx274, Lib.hid (PW.out.2.ne Fg6.out (by decide))⟩)
     ·refine e_alloc (by rfl) rfl rfl (cs := #[.slice none 0 0, .int .u64 0, .bool false, .bool false]) (by kernel_rfl) ?_
      rintro g298 w299 HG300 B301 C302
      have nw303 := Lib.hid (show w.heap.size ≤ g298 by have := C0.out.size; have := HG300.out; omega)
      have ne304 := Lib.hid (show b ≠ g298 by have := PW.out.1.lt; have := HG300.out; omega)
      have nr305 := Lib.hid (PW.out.2.ne_new HG300)
      have nx306 := Lib.hid (RQ.out.1.ne_new (by decide) HG300)
      have ne307 := Lib.hid (Fg4.out.ne_new HG300)
      have C0' := Lib.hid (show Ch [] w w299 from C0.out.trans' C302 (fun x hx => absurd hx (by simp)))
      have PW' := Lib.hid (show WinIs w299 (w.heap.size) b (s) (v) from PW.out.ch C302 nin_nil rnin_nil)
      have RQ' := Lib.hid (show RefIs w299 (s) (x) from RQ.out.ch C302 xnin_nil)
      have Fg4' := Lib.hid (show Blk w299 g4 (#[x, .int .u64 (s).last, .bool (s).over, .bool (s).done]) 44 from C302.blk Fg4.out nin_nil)
      have Fg6' := Lib.hid (show Blk w299 g6 (#[.int .i64 kz, .int .i64 nz, .int .u64 rz]) 46 from C302.blk Fg6.out nin_nil)
      clear C0 PW RQ Fg4 Fg6
      have C0 := C0'; clear C0'
      have PW := PW'; clear PW'
      have RQ := RQ'; clear RQ'
      have Fg4 := Fg4'; clear Fg4'
      have Fg6 := Fg6'; clear Fg6'
      have Fg298 := Lib.hid (show Blk w299 g298 (#[.slice none 0 0, .int .u64 0, .bool false, .bool false]) 44 from B301); clear B301 C302
      refine hK205.out _ _ ⟨Fg4.out, Fg6.out, trivial⟩ (fun hS308 => ?_); clear hK205 K205
      (try simp only [zP, zN, zA, zB, zC])
      refine one_ (i := 2) (N := some 64) #[true, true, true, false, false, false, false, true, false, false] rfl rfl (by kernel_rfl) (by simp) (fun K309 hK309 => ?_)
      refine e_call Try.func17 (by kernel_rfl) rfl #[.agg (#[.int .i64 kz, .int .i64 nz, .int .u64 rz])] (by rfl) rfl rfl (by first | rfl | (simp only [List.map_toArray, List.map_cons, List.map_nil]; first | done | rfl)) (event_any _ kz nz rz) ?_
      rintro en w311 ⟨rfl, cc310⟩
      refine ⟨_, rfl, ?_⟩
      have C0' := Lib.hid (show Ch [] w w311 from C0.out.trans' cc310 (fun x hx => absurd hx (by simp)))
      have PW' := Lib.hid (show WinIs w311 (w.heap.size) b (s) (v) from PW.out.ch cc310 nin_nil rnin_nil)
      have RQ' := Lib.hid (show RefIs w311 (s) (x) from RQ.out.ch cc310 xnin_nil)
      have Fg4' := Lib.hid (show Blk w311 g4 (#[x, .int .u64 (s).last, .bool (s).over, .bool (s).done]) 44 from cc310.blk Fg4.out nin_nil)
      have Fg6' := Lib.hid (show Blk w311 g6 (#[.int .i64 kz, .int .i64 nz, .int .u64 rz]) 46 from cc310.blk Fg6.out nin_nil)
      have Fg298' := Lib.hid (show Blk w311 g298 (#[.slice none 0 0, .int .u64 0, .bool false, .bool false]) 44 from cc310.blk Fg298.out nin_nil)
      clear C0 PW RQ Fg4 Fg6 Fg298
      have C0 := C0'; clear C0'
      have PW := PW'; clear PW'
      have RQ := RQ'; clear RQ'
      have Fg4 := Fg4'; clear Fg4'
      have Fg6 := Fg6'; clear Fg6'
      have Fg298 := Fg298'; clear Fg298'
      clear cc310
      refine hK309.out _ _ ⟨Fg4.out, Fg6.out, trivial⟩ (fun hS312 => ?_); clear hK309 K309
      (try simp only [zP, zN, zA, zB, zC])
      refine one_ (i := 3) (N := some 65) #[true, true, true, true, false, false, false, true, false, false] rfl rfl (by kernel_rfl) (by simp) (fun K313 hK313 => ?_)
      refine e_call Try.func16 (by kernel_rfl) rfl #[.agg (#[x, .int .u64 (s).last, .bool (s).over, .bool (s).done]), .agg (evA (⟨2, rz, 5, rz⟩ : Ev))] (by rfl) rfl rfl (by first | rfl | (simp only [List.map_toArray, List.map_cons, List.map_nil]; first | done | rfl)) (rput_all (⟨2, rz, 5, rz⟩ : Ev) RQ.out (by have := hL.out; omega)) ?_
      rintro en w318 ⟨x314, rfl, hr316, cc315, hx317⟩
      refine ⟨_, rfl, ?_⟩
      have nx319 := Lib.hid (show b ∉ xb x314 from fun hk => (hx317 _ hk).elim hxb.out (fun h => by have := PW.out.1.lt; omega))
      have xr320 := Lib.hid (show ∀ k, k ∈ xb x314 → k ∉ rl (v) from fun k hk hm => (hx317 k hk).elim (fun h => hxr.out k h hm) (fun h => by have := (PW.out.2.lt k hm).2; omega))
      have nx321 := Lib.hid (show g4 ∉ xb x314 from fun hk => (hx317 _ hk).elim hxg.out (fun h => by have := Fg4.out.lt; omega))
      have nx322 := Lib.hid (show g6 ∉ xb x314 from fun hk => (hx317 _ hk).elim hx6.out (fun h => by have := Fg6.out.lt; omega))
      have nx323 := Lib.hid (show g298 ∉ xb x314 from fun hk => (hx317 _ hk).elim nx306.out (fun h => by have := Fg298.out.lt; omega))
      have C0' := Lib.hid (show Ch [] w w318 from C0.out.trans' cc315 (fun x hx => absurd hx (by simp)))
      have PW' := Lib.hid (show WinIs w318 (w.heap.size) b (s) (v) from PW.out.ch cc315 nin_nil rnin_nil)
      have Fg4' := Lib.hid (show Blk w318 g4 (#[x, .int .u64 (s).last, .bool (s).over, .bool (s).done]) 44 from cc315.blk Fg4.out nin_nil)
      have Fg6' := Lib.hid (show Blk w318 g6 (#[.int .i64 kz, .int .i64 nz, .int .u64 rz]) 46 from cc315.blk Fg6.out nin_nil)
      have Fg298' := Lib.hid (show Blk w318 g298 (#[.slice none 0 0, .int .u64 0, .bool false, .bool false]) 44 from cc315.blk Fg298.out nin_nil)
      clear C0 PW Fg4 Fg6 Fg298
      have C0 := C0'; clear C0'
      have PW := PW'; clear PW'
      have Fg4 := Fg4'; clear Fg4'
      have Fg6 := Fg6'; clear Fg6'
      have Fg298 := Fg298'; clear Fg298'
      clear RQ
      clear cc315
      have RQ := Lib.hid (show RefIs w318 ((putW s (⟨2, rz, 5, rz⟩ : Ev)).1) (x314) from hr316)
      refine hK313.out _ _ ⟨Fg4.out, Fg6.out, trivial⟩ (fun hS324 => ?_); clear hK313 K313
      (try simp only [zP, zN, zA, zB, zC])
      refine pure_ (i := 4) (N := some 61) (v := .tuple #[.agg (refA x314 (putW s (⟨2, rz, 5, rz⟩ : Ev)).1), .bool (putW s (⟨2, rz, 5, rz⟩ : Ev)).2]) #[true, true, true, true, true, false, false, true, false, false] rfl rfl (by kernel_rfl) (fun c a w h => hP c a _ _ w h) (y_move rfl (by rfl) (by rfl)) rfl ?_
      (try simp only [zP, zN, zA, zB, zC])
      refine pure_ (i := 5) (N := some 66) (v := .agg (refA x314 (putW s (⟨2, rz, 5, rz⟩ : Ev)).1)) #[true, true, true, true, true, true, false, true, false, false] rfl rfl (by kernel_rfl) (fun c a w h => hP c a _ _ w h) (y_run (by rfl) (fun W => by go_simp)) rfl ?_
      (try simp only [zP, zN, zA, zB, zC])
      refine pure_ (i := 6) (N := some 67) (v := .bool (putW s (⟨2, rz, 5, rz⟩ : Ev)).2) #[true, true, true, true, true, true, true, true, false, false] rfl rfl (by kernel_rfl) (fun c a w h => hP c a _ _ w h) (y_run (by rfl) (fun W => by go_simp)) rfl ?_
      (try simp only [zP, zN, zA, zB, zC])
      refine one_ (i := 8) (N := none) #[true, true, true, true, true, true, true, true, true, false] rfl rfl (by kernel_rfl) (by simp) (fun K325 hK325 => ?_)
      refine e_storeN (cells := (refA x314 (putW s (⟨2, rz, 5, rz⟩ : Ev)).1)) (by rfl) rfl rfl (by rfl) (by rfl) Fg298.out (by kernel_rfl) (by rfl) (ones_cons (ref_one RQ.out) (ones_cons rfl (ones_cons rfl (ones_cons rfl ones_nil)))) ?_
      rintro w326 B327 C328
      have C0' := Lib.hid (show Ch [] w w326 from C0.out.trans' C328 (inw_cons (.inr nw303.out) inw_nil))
      have PW' := Lib.hid (show WinIs w326 (w.heap.size) b (s) (v) from PW.out.ch C328 (nin_cons ne304.out nin_nil) (rnin_cons nr305.out rnin_nil))
      have Fg4' := Lib.hid (show Blk w326 g4 (#[x, .int .u64 (s).last, .bool (s).over, .bool (s).done]) 44 from C328.blk Fg4.out (nin_cons ne307.out nin_nil))
      have Fg6' := Lib.hid (show Blk w326 g6 (#[.int .i64 kz, .int .i64 nz, .int .u64 rz]) 46 from C328.blk Fg6.out (nin_cons (Blk.ne_type Fg6.out Fg298.out (by decide)) nin_nil))
      have RQ' := Lib.hid (show RefIs w326 ((putW s (⟨2, rz, 5, rz⟩ : Ev)).1) (x314) from RQ.out.ch C328 (xnin_cons nx323.out xnin_nil))
      clear C0 PW Fg4 Fg6 RQ
      have C0 := C0'; clear C0'
      have PW := PW'; clear PW'
      have Fg4 := Fg4'; clear Fg4'
      have Fg6 := Fg6'; clear Fg6'
      have RQ := RQ'; clear RQ'
      clear Fg298; have Fg298 := Lib.hid (show Blk w326 g298 ((refA x314 (putW s (⟨2, rz, 5, rz⟩ : Ev)).1)) 44 from B327); clear B327 C328
      refine hK325.out _ _ ⟨Fg4.out, Fg6.out, trivial⟩ (fun hS329 => ?_); clear hK325 K325
      (try simp only [zP, zN, zA, zB, zC])
      refine pure_ (i := 9) (N := some 10) (v := .bool (putW s (⟨2, rz, 5, rz⟩ : Ev)).2) #[true, true, true, true, true, true, true, true, true, true] rfl rfl (by kernel_rfl) (fun c a w h => hP c a _ _ w h) (y_assign rfl (by rfl) (by rfl)) rfl ?_
      (try simp only [zP, zN, zA, zB, zC])
      refine done_ (by kernel_rfl) (th_norm (hK200 _ _ ?_)); clear hK200 K200
      refine s_ (fun K330 hK330 => ?_)
      refine ld_ (v := .agg ((refA x314 (putW s (⟨2, rz, 5, rz⟩ : Ev)).1))) rfl (by rfl) (by rfl) (run_loadVar_row _ _ 44 44 ((refA x314 (putW s (⟨2, rz, 5, rz⟩ : Ev)).1)) (0, 0) _ Fg298.out Try.underlying44 rfl (by kernel_rfl)) ?_
      (try simp only [zP, zN, zA, zB, zC])
      refine ef_ (fun K331 hK331 => ?_)
      refine e_storeN (cells := ((refA x314 (putW s (⟨2, rz, 5, rz⟩ : Ev)).1))) (by rfl) rfl rfl (by rfl) (by rfl) Fg4.out (by kernel_rfl) (by rfl) (ones_cons (ref_one RQ.out) (ones_cons rfl (ones_cons rfl (ones_cons rfl ones_nil)))) ?_
      rintro w332 B333 C334
      have C0' := Lib.hid (show Ch [] w w332 from C0.out.trans' C334 (inw_cons (.inr nw13.out) inw_nil))
      have PW' := Lib.hid (show WinIs w332 (w.heap.size) b (s) (v) from PW.out.ch C334 (nin_cons ne14.out nin_nil) (rnin_cons hgr.out rnin_nil))
      have Fg6' := Lib.hid (show Blk w332 g6 (#[.int .i64 kz, .int .i64 nz, .int .u64 rz]) 46 from C334.blk Fg6.out (nin_cons (Blk.ne_type Fg6.out Fg4.out (by decide)) nin_nil))
      have Fg298' := Lib.hid (show Blk w332 g298 ((refA x314 (putW s (⟨2, rz, 5, rz⟩ : Ev)).1)) 44 from C334.blk Fg298.out (nin_cons (Ne.symm ne307.out) nin_nil))
      have RQ' := Lib.hid (show RefIs w332 ((putW s (⟨2, rz, 5, rz⟩ : Ev)).1) (x314) from RQ.out.ch C334 (xnin_cons nx321.out xnin_nil))
      clear C0 PW Fg6 Fg298 RQ
      have C0 := C0'; clear C0'
      have PW := PW'; clear PW'
      have Fg6 := Fg6'; clear Fg6'
      have Fg298 := Fg298'; clear Fg298'
      have RQ := RQ'; clear RQ'
      clear Fg4; have Fg4 := Lib.hid (show Blk w332 g4 (((refA x314 (putW s (⟨2, rz, 5, rz⟩ : Ev)).1))) 44 from B333); clear B333 C334
      refine hK331 _ _ ?_; clear hK331 K331
      (try simp only [zP, zN, zA, zB, zC])
      refine nl_ (hK330 _ _ ?_); clear hK330 K330
      refine r_ ?_
      refine pu_ (v := .pointer (some ⟨b, 0, none⟩)) (y_move rfl (by rfl) (by rfl)) ?_
      (try simp only [zP, zN, zA, zB, zC])
      refine ld_ (v := .agg (#[.int .i64 kz, .int .i64 nz, .int .u64 rz])) rfl (by rfl) (by rfl) (run_loadVar_row _ _ 46 46 (#[.int .i64 kz, .int .i64 nz, .int .u64 rz]) (0, 0) _ Fg6.out Try.underlying46 rfl (by kernel_rfl)) ?_
      (try simp only [zP, zN, zA, zB, zC])
      refine ef_ (fun K335 hK335 => ?_)
      refine e_call Try.func17 (by kernel_rfl) rfl #[.agg (#[.int .i64 kz, .int .i64 nz, .int .u64 rz])] (by rfl) rfl rfl (by first | rfl | (simp only [List.map_toArray, List.map_cons, List.map_nil]; first | done | rfl)) (event_any _ kz nz rz) ?_
      rintro en w337 ⟨rfl, cc336⟩
      refine ⟨_, rfl, ?_⟩
      have C0' := Lib.hid (show Ch [] w w337 from C0.out.trans' cc336 (fun x hx => absurd hx (by simp)))
      have PW' := Lib.hid (show WinIs w337 (w.heap.size) b (s) (v) from PW.out.ch cc336 nin_nil rnin_nil)
      have Fg4' := Lib.hid (show Blk w337 g4 (((refA x314 (putW s (⟨2, rz, 5, rz⟩ : Ev)).1))) 44 from cc336.blk Fg4.out nin_nil)
      have Fg6' := Lib.hid (show Blk w337 g6 (#[.int .i64 kz, .int .i64 nz, .int .u64 rz]) 46 from cc336.blk Fg6.out nin_nil)
      have Fg298' := Lib.hid (show Blk w337 g298 ((refA x314 (putW s (⟨2, rz, 5, rz⟩ : Ev)).1)) 44 from cc336.blk Fg298.out nin_nil)
      have RQ' := Lib.hid (show RefIs w337 ((putW s (⟨2, rz, 5, rz⟩ : Ev)).1) (x314) from RQ.out.ch cc336 xnin_nil)
      clear C0 PW Fg4 Fg6 Fg298 RQ
      have C0 := C0'; clear C0'
      have PW := PW'; clear PW'
      have Fg4 := Fg4'; clear Fg4'
      have Fg6 := Fg6'; clear Fg6'
      have Fg298 := Fg298'; clear Fg298'
      have RQ := RQ'; clear RQ'
      clear cc336
      refine hK335 _ _ ?_; clear hK335 K335
      (try simp only [zP, zN, zA, zB, zC])
      refine ef_ (fun K338 hK338 => ?_)
      refine e_call Try.func18 (by kernel_rfl) rfl #[.pointer (some ⟨b, 0, none⟩), .agg (evA (⟨2, rz, 5, rz⟩ : Ev))] (by rfl) rfl rfl (by first | rfl | (simp only [List.map_toArray, List.map_cons, List.map_nil]; first | done | rfl)) (put_all (⟨2, rz, 5, rz⟩ : Ev) PW.out C0.out.size (by have := hL.out; omega)) ?_
      rintro en w343 ⟨v339, rfl, hw341, cc340, hr342⟩
      refine ⟨_, rfl, ?_⟩
      have xr344 := Lib.hid (show ∀ k, k ∈ xb (x314) → k ∉ rl v339 from fun k hk hm => (hr342 k hm).elim (fun h => (xnin_cons nx319.out xr320.out) k hk h) (fun h => by have := RQ.out.1.lt (by decide) k hk; omega))
      have C0' := Lib.hid (show Ch [] w w343 from C0.out.trans' cc340 (inw_cons (.inr HBN.out) (fun x hx => .inr (PW.out.2.lt x hx).1)))
      have Fg4' := Lib.hid (show Blk w343 g4 (((refA x314 (putW s (⟨2, rz, 5, rz⟩ : Ev)).1))) 44 from cc340.blk Fg4.out (nin_cons (Ne.symm ne14.out) hgr.out))
      have Fg6' := Lib.hid (show Blk w343 g6 (#[.int .i64 kz, .int .i64 nz, .int .u64 rz]) 46 from cc340.blk Fg6.out (nin_cons (Ne.symm ne34.out) hv6.out))
      have Fg298' := Lib.hid (show Blk w343 g298 ((refA x314 (putW s (⟨2, rz, 5, rz⟩ : Ev)).1)) 44 from cc340.blk Fg298.out (nin_cons (Ne.symm ne304.out) nr305.out))
      have RQ' := Lib.hid (show RefIs w343 ((putW s (⟨2, rz, 5, rz⟩ : Ev)).1) (x314) from RQ.out.ch cc340 (xnin_cons nx319.out xr320.out))
      clear C0 Fg4 Fg6 Fg298 RQ
      have C0 := C0'; clear C0'
      have Fg4 := Fg4'; clear Fg4'
      have Fg6 := Fg6'; clear Fg6'
      have Fg298 := Fg298'; clear Fg298'
      have RQ := RQ'; clear RQ'
      clear PW
      clear cc340
      have PW := Lib.hid (show WinIs w343 (w.heap.size) b ((putW s (⟨2, rz, 5, rz⟩ : Ev)).1) (v339) from hw341)
      have nr345 := Lib.hid (show g4 ∉ rl v339 from PW.out.2.ne Fg4.out (by decide))
      refine hK338 _ _ ?_; clear hK338 K338
      (try simp only [zP, zN, zA, zB, zC])
      refine pu_ (v := .bool (putW s (⟨2, rz, 5, rz⟩ : Ev)).2) (y_move rfl (by rfl) (by rfl)) ?_
      (try simp only [zP, zN, zA, zB, zC])
      refine pu_ (v := .bool true) (y_run (by rfl) (fun W => by go_simp)) ?_
      (try simp only [zP, zN, zA, zB, zC])
      refine pu_ (v := .bool true) (y_assign rfl (by rfl) (by rfl)) ?_
      (try simp only [zP, zN, zA, zB, zC])
      refine nl_ ?_
      refine ib_norm ?_
      refine th_norm (hK199 _ _ ?_); try clear hK199 K199
      refine r_ ?_
      refine pu_ (v := .int .i64 j) (y_move rfl (by rfl) (by rfl)) ?_
      (try simp only [zP, zN, zA, zB, zC])
      refine pu_ (v := .int .i64 (j + 1 : Nat)) (y_run (by rfl) (fun W => by have d := WJ.out; go_simp)) ?_
      (try simp only [zP, zN, zA, zB, zC])
      refine pu_ (v := .int .i64 (j + 1 : Nat)) (y_assign rfl (by rfl) (by rfl)) ?_
      (try simp only [zP, zN, zA, zB, zC])
      refine nl_ ?_
      exact th_norm (hK48 (jq - 1) _ _ (by have := hjl.out; have := hj.out; omega) ⟨j + 1, (putW s (⟨2, rz, 5, rz⟩ : Ev)).1, _, x314, fun us_ => (#[.slice (some ⟨ab, off, none⟩) len0 cap0, us 1, .bool false, .pointer (some ⟨b, 0, none⟩), .pointer (some ⟨g4, 0, none⟩), .int .i64 k, .pointer (some ⟨g6, 0, none⟩), .bool true, .int .i64 (j + 1 : Nat), .pointer (some ⟨g298, 0, none⟩), .bool (putW s (⟨2, rz, 5, rz⟩ : Ev)).2, us 11, us 12, us 13, us 14, us 15, us 16, us 17, us 18, us 19, us 20, us 21, us 22, us 23, us 24, us 25, us 26, us 27, us 28, us 29, us 30, us 31, us 32, us 33, us 34, us 35, us 36, us 37, us 38, us 39, us 40, us 41, us 42, us 43, .bool true, .bool true, .int .i64 j, .bool false, .bool false, .int .i64 j, .pointer (some ⟨g6, 1, none⟩), .int .i64 nz, .bool true, .bool true, .int .i64 j, .bool true, .bool true, .bool true, .bool true, .int .i64 j, .int .i64 (j + 1 : Nat), .tuple #[.agg (refA x314 (putW s (⟨2, rz, 5, rz⟩ : Ev)).1), .bool (putW s (⟨2, rz, 5, rz⟩ : Ev)).2], .agg (#[x, .int .u64 (s).last, .bool (s).over, .bool (s).done]), .agg (#[.int .i64 kz, .int .i64 nz, .int .u64 rz]), .agg (evA (⟨2, rz, 5, rz⟩ : Ev)), .tuple #[.agg (refA x314 (putW s (⟨2, rz, 5, rz⟩ : Ev)).1), .bool (putW s (⟨2, rz, 5, rz⟩ : Ev)).2], .agg (refA x314 (putW s (⟨2, rz, 5, rz⟩ : Ev)).1), .bool (putW s (⟨2, rz, 5, rz⟩ : Ev)).2, .agg ((refA x314 (putW s (⟨2, rz, 5, rz⟩ : Ev)).1)), .pointer (some ⟨b, 0, none⟩), .agg (#[.int .i64 kz, .int .i64 nz, .int .u64 rz]), .agg (evA (⟨2, rz, 5, rz⟩ : Ev)), .bool (putW s (⟨2, rz, 5, rz⟩ : Ev)).2, .bool (putW s (⟨2, rz, 5, rz⟩ : Ev)).2, .bool true, us 75, us 76, us 77, us 78, us 79, us 80, us 81, us 82, us 83, us 84, us 85, us 86, us 87, us 88, us 89, us 90, us 91, us 92, us 93, us 94, us 95, us 96, us 97, us 98, us 99, us 100, us 101, us 102, us 103, us 104, us 105, us 106, us 107, us 108, us 109, us 110, us 111, us 112, us 113, us 114, us 115, us 116, us 117, us 118, us 119, us 120, us 121, us 122, us 123, us 124, us 125, us 126, us 127, us 128, us 129, us 130, us 131, us 132, us 133, us 134, us 135, us 136, us 137, us 138, us 139, us 140, us 141, us 142, us 143, us 144, us 145, us 146, us 147, us 148, us 149, us 150, us 151, us 152, us 153, us 154, us 155, us 156, us 157, us 158, us 159, us 160, us 161, us 162, us 163, us 164, us 165, us 166, us 167, us 168] : Array Value).getD us_ undef, rfl, C0, PW, RQ, Fg4, Fg6, Lib.hid ⟨by have := hjl.out; omega, by have := hjl.out; have := hj.out; omega⟩, Lib.hid (putW_le _ hL.out), xr344, nx319, nx321, nr345, nx322, Lib.hid (PW.out.2.ne Fg6.out (by decide))⟩)
    ·have J0 := Lib.hid (show ((j : Int) == 0) = false from beq_eq_false_iff_ne.2 (by omega))
     have J1 := Lib.hid (show decide ((j : Int) < nz) = true from decide_eq_true (by omega))
     have J2 := Lib.hid (show decide ((j : Int) < 20) = false from decide_eq_false (by omega))
     clear h
     refine s_ (fun K346 hK346 => ?_)
     refine pu_ (v := .bool true) (y_move rfl (by rfl) (by rfl)) ?_
     (try simp only [zP, zN, zA, zB, zC])
     refine pu_ (v := .bool true) (y_move rfl (by rfl) (by rfl)) ?_
     (try simp only [zP, zN, zA, zB, zC])
     refine pu_ (v := .int .i64 j) (y_move rfl (by rfl) (by rfl)) ?_
     (try simp only [zP, zN, zA, zB, zC])
     refine pu_ (v := .bool false) (y_run (by rfl) (fun W => by have d := J0.out; go_simp)) ?_
     (try simp only [zP, zN, zA, zB, zC])
     refine pu_ (v := .bool false) (y_move rfl (by rfl) (by rfl)) ?_
     (try simp only [zP, zN, zA, zB, zC])
     refine pu_ (v := .int .i64 j) (y_move rfl (by rfl) (by rfl)) ?_
     (try simp only [zP, zN, zA, zB, zC])
     refine pu_ (v := .pointer (some ⟨g6, 1, none⟩)) (y_run (by rfl) (fun W => by go_simp)) ?_
     (try simp only [zP, zN, zA, zB, zC])
     refine ld_ (v := .int .i64 nz) rfl (by rfl) (by rfl) (run_load_one ((Fg6.out.cell 1).trans rfl) Try.underlying3 rfl) ?_
     (try simp only [zP, zN, zA, zB, zC])
     refine pu_ (v := .bool true) (y_run (by rfl) (fun W => by have d := J1.out; go_simp)) ?_
     (try simp only [zP, zN, zA, zB, zC])
     refine pu_ (v := .bool true) (y_move rfl (by rfl) (by rfl)) ?_
     (try simp only [zP, zN, zA, zB, zC])
     refine pu_ (v := .int .i64 j) (y_move rfl (by rfl) (by rfl)) ?_
     (try simp only [zP, zN, zA, zB, zC])
     refine pu_ (v := .bool false) (y_run (by rfl) (fun W => by have d := J2.out; go_simp)) ?_
     (try simp only [zP, zN, zA, zB, zC])
     refine pu_ (v := .bool false) (y_pick (t := true) (by rfl) rfl (by rfl) (by rfl)) ?_
     (try simp only [zP, zN, zA, zB, zC])
     refine pu_ (v := .bool false) (y_pick (t := false) (by rfl) rfl (by rfl) (by rfl)) ?_
     (try simp only [zP, zN, zA, zB, zC])
     refine pu_ (v := .bool false) (y_pick (t := true) (by rfl) rfl (by rfl) (by rfl)) ?_
     (try simp only [zP, zN, zA, zB, zC])
     refine nl_ (hK346 _ _ ?_); clear hK346 K346
     refine wp_cond_false rfl ?_
     refine wp_exit ?_
     refine th_exit ?_
     refine th_exit ?_
     refine ib_exit ?_
     refine ib_norm ?_
     exact th_norm (hK42 _ _ ⟨s, _, x, fun us_ => (#[.slice (some ⟨ab, off, none⟩) len0 cap0, us 1, .bool false, .pointer (some ⟨b, 0, none⟩), .pointer (some ⟨g4, 0, none⟩), .int .i64 k, .pointer (some ⟨g6, 0, none⟩), .bool true, .int .i64 j, us 9, us 10, us 11, us 12, us 13, us 14, us 15, us 16, us 17, us 18, us 19, us 20, us 21, us 22, us 23, us 24, us 25, us 26, us 27, us 28, us 29, us 30, us 31, us 32, us 33, us 34, us 35, us 36, us 37, us 38, us 39, us 40, us 41, us 42, us 43, .bool true, .bool true, .int .i64 j, .bool false, .bool false, .int .i64 j, .pointer (some ⟨g6, 1, none⟩), .int .i64 nz, .bool true, .bool true, .int .i64 j, .bool false, .bool false, .bool false, .bool false, us 59, us 60, us 61, us 62, us 63, us 64, us 65, us 66, us 67, us 68, us 69, us 70, us 71, us 72, us 73, us 74, us 75, us 76, us 77, us 78, us 79, us 80, us 81, us 82, us 83, us 84, us 85, us 86, us 87, us 88, us 89, us 90, us 91, us 92, us 93, us 94, us 95, us 96, us 97, us 98, us 99, us 100, us 101, us 102, us 103, us 104, us 105, us 106, us 107, us 108, us 109, us 110, us 111, us 112, us 113, us 114, us 115, us 116, us 117, us 118, us 119, us 120, us 121, us 122, us 123, us 124, us 125, us 126, us 127, us 128, us 129, us 130, us 131, us 132, us 133, us 134, us 135, us 136, us 137, us 138, us 139, us 140, us 141, us 142, us 143, us 144, us 145, us 146, us 147, us 148, us 149, us 150, us 151, us 152, us 153, us 154, us 155, us 156, us 157, us 158, us 159, us 160, us 161, us 162, us 163, us 164, us 165, us 166, us 167, us 168] : Array Value).getD us_ undef, rfl, C0, PW, RQ, Fg4, hL, hxr, hxb, hxg, hgr⟩)
    ·have J0 := Lib.hid (show ((j : Int) == 0) = false from beq_eq_false_iff_ne.2 (by omega))
     have J1 := Lib.hid (show decide ((j : Int) < nz) = false from decide_eq_false (by omega))
     clear h
     refine s_ (fun K347 hK347 => ?_)
     refine pu_ (v := .bool true) (y_move rfl (by rfl) (by rfl)) ?_
     (try simp only [zP, zN, zA, zB, zC])
     refine pu_ (v := .bool true) (y_move rfl (by rfl) (by rfl)) ?_
     (try simp only [zP, zN, zA, zB, zC])
     refine pu_ (v := .int .i64 j) (y_move rfl (by rfl) (by rfl)) ?_
     (try simp only [zP, zN, zA, zB, zC])
     refine pu_ (v := .bool false) (y_run (by rfl) (fun W => by have d := J0.out; go_simp)) ?_
     (try simp only [zP, zN, zA, zB, zC])
     refine pu_ (v := .bool false) (y_move rfl (by rfl) (by rfl)) ?_
     (try simp only [zP, zN, zA, zB, zC])
     refine pu_ (v := .int .i64 j) (y_move rfl (by rfl) (by rfl)) ?_
     (try simp only [zP, zN, zA, zB, zC])
     refine pu_ (v := .pointer (some ⟨g6, 1, none⟩)) (y_run (by rfl) (fun W => by go_simp)) ?_
     (try simp only [zP, zN, zA, zB, zC])
     refine ld_ (v := .int .i64 nz) rfl (by rfl) (by rfl) (run_load_one ((Fg6.out.cell 1).trans rfl) Try.underlying3 rfl) ?_
     (try simp only [zP, zN, zA, zB, zC])
     refine pu_ (v := .bool false) (y_run (by rfl) (fun W => by have d := J1.out; go_simp)) ?_
     (try simp only [zP, zN, zA, zB, zC])
     refine pu_ (v := .bool false) (y_move rfl (by rfl) (by rfl)) ?_
     (try simp only [zP, zN, zA, zB, zC])
     refine pu_ (y_off (by rfl)) ?_
     (try simp only [zP, zN, zA, zB, zC])
     refine pu_ (y_off (by rfl)) ?_
     (try simp only [zP, zN, zA, zB, zC])
     refine pu_ (v := .bool false) (y_pick (t := false) (by rfl) rfl (by rfl) (by rfl)) ?_
     (try simp only [zP, zN, zA, zB, zC])
     refine pu_ (v := .bool false) (y_pick (t := false) (by rfl) rfl (by rfl) (by rfl)) ?_
     (try simp only [zP, zN, zA, zB, zC])
     refine pu_ (v := .bool false) (y_pick (t := true) (by rfl) rfl (by rfl) (by rfl)) ?_
     (try simp only [zP, zN, zA, zB, zC])
     refine nl_ (hK347 _ _ ?_); clear hK347 K347
     refine wp_cond_false rfl ?_
     refine wp_exit ?_
     refine th_exit ?_
     refine th_exit ?_
     refine ib_exit ?_
     refine ib_norm ?_
     exact th_norm (hK42 _ _ ⟨s, _, x, fun us_ => (#[.slice (some ⟨ab, off, none⟩) len0 cap0, us 1, .bool false, .pointer (some ⟨b, 0, none⟩), .pointer (some ⟨g4, 0, none⟩), .int .i64 k, .pointer (some ⟨g6, 0, none⟩), .bool true, .int .i64 j, us 9, us 10, us 11, us 12, us 13, us 14, us 15, us 16, us 17, us 18, us 19, us 20, us 21, us 22, us 23, us 24, us 25, us 26, us 27, us 28, us 29, us 30, us 31, us 32, us 33, us 34, us 35, us 36, us 37, us 38, us 39, us 40, us 41, us 42, us 43, .bool true, .bool true, .int .i64 j, .bool false, .bool false, .int .i64 j, .pointer (some ⟨g6, 1, none⟩), .int .i64 nz, .bool false, .bool false, undef, undef, .bool false, .bool false, .bool false, us 59, us 60, us 61, us 62, us 63, us 64, us 65, us 66, us 67, us 68, us 69, us 70, us 71, us 72, us 73, us 74, us 75, us 76, us 77, us 78, us 79, us 80, us 81, us 82, us 83, us 84, us 85, us 86, us 87, us 88, us 89, us 90, us 91, us 92, us 93, us 94, us 95, us 96, us 97, us 98, us 99, us 100, us 101, us 102, us 103, us 104, us 105, us 106, us 107, us 108, us 109, us 110, us 111, us 112, us 113, us 114, us 115, us 116, us 117, us 118, us 119, us 120, us 121, us 122, us 123, us 124, us 125, us 126, us 127, us 128, us 129, us 130, us 131, us 132, us 133, us 134, us 135, us 136, us 137, us 138, us 139, us 140, us 141, us 142, us 143, us 144, us 145, us 146, us 147, us 148, us 149, us 150, us 151, us 152, us 153, us 154, us 155, us 156, us 157, us 158, us 159, us 160, us 161, us 162, us 163, us 164, us 165, us 166, us 167, us 168] : Array Value).getD us_ undef, rfl, C0, PW, RQ, Fg4, hL, hxr, hxb, hxg, hgr⟩)
   ·have D43 := Lib.hid (show (kz == 0) = false from beq_eq_false_iff_ne.2 (by omega))
    have D76 := Lib.hid (show (kz == 1) = true from beq_iff_eq.2 h)
    have D92 := Lib.hid (show (kz == 2) = false from beq_eq_false_iff_ne.2 (by omega))
    clear h
    refine s_ (fun K348 hK348 => ?_)
    refine pu_ (v := .bool false) (y_run (by rfl) (fun W => by have d := D43.out; go_simp)) ?_
    (try simp only [zP, zN, zA, zB, zC])
    refine pu_ (v := .bool false) (y_assign rfl (by rfl) (by rfl)) ?_
    (try simp only [zP, zN, zA, zB, zC])
    refine nl_ (hK348 _ _ ?_); clear hK348 K348
    refine wp_cond_false rfl ?_
    refine s_ (fun K349 hK349 => ?_)
    refine pu_ (v := .bool true) (y_run (by rfl) (fun W => by have d := D76.out; go_simp)) ?_
    (try simp only [zP, zN, zA, zB, zC])
    refine pu_ (v := .bool true) (y_assign rfl (by rfl) (by rfl)) ?_
    (try simp only [zP, zN, zA, zB, zC])
    refine nl_ (hK349 _ _ ?_); clear hK349 K349
    refine wp_cond_true rfl ?_
    refine s_ (fun K350 hK350 => ?_)
    refine ld_ (v := .agg (#[x, .int .u64 (s).last, .bool (s).over, .bool (s).done])) rfl (by rfl) (by rfl) (run_loadVar_row _ _ 44 44 (#[x, .int .u64 (s).last, .bool (s).over, .bool (s).done]) (0, 0) _ Fg4.out Try.underlying44 rfl (by kernel_rfl)) ?_
    (try simp only [zP, zN, zA, zB, zC])
    refine pu_ (v := .pointer (some ⟨g6, 2, none⟩)) (y_run (by rfl) (fun W => by go_simp)) ?_
    (try simp only [zP, zN, zA, zB, zC])
    refine ld_ (v := .int .u64 rz) rfl (by rfl) (by rfl) (run_load_one ((Fg6.out.cell 2).trans rfl) Try.underlying42 rfl) ?_
    (try simp only [zP, zN, zA, zB, zC])
    refine ef_ (fun K351 hK351 => ?_)
    refine e_call Try.func19 (by kernel_rfl) rfl #[.agg (#[x, .int .u64 (s).last, .bool (s).over, .bool (s).done]), .int .u64 rz] (by rfl) rfl rfl (by first | rfl | (simp only [List.map_toArray, List.map_cons, List.map_nil]; first | done | rfl)) (rmark_all rz RQ.out (by have := hL.out; omega)) ?_
    rintro en w356 ⟨x352, rfl, hr354, cc353, hx355⟩
    refine ⟨_, rfl, ?_⟩
    have nx357 := Lib.hid (show b ∉ xb x352 from fun hk => (hx355 _ hk).elim hxb.out (fun h => by have := PW.out.1.lt; omega))
    have xr358 := Lib.hid (show ∀ k, k ∈ xb x352 → k ∉ rl (v) from fun k hk hm => (hx355 k hk).elim (fun h => hxr.out k h hm) (fun h => by have := (PW.out.2.lt k hm).2; omega))
    have nx359 := Lib.hid (show g4 ∉ xb x352 from fun hk => (hx355 _ hk).elim hxg.out (fun h => by have := Fg4.out.lt; omega))
    have nx360 := Lib.hid (show g6 ∉ xb x352 from fun hk => (hx355 _ hk).elim nx36.out (fun h => by have := Fg6.out.lt; omega))
    have C0' := Lib.hid (show Ch [] w w356 from C0.out.trans' cc353 (fun x hx => absurd hx (by simp)))
    have PW' := Lib.hid (show WinIs w356 (w.heap.size) b (s) (v) from PW.out.ch cc353 nin_nil rnin_nil)
    have Fg4' := Lib.hid (show Blk w356 g4 (#[x, .int .u64 (s).last, .bool (s).over, .bool (s).done]) 44 from cc353.blk Fg4.out nin_nil)
    have Fg6' := Lib.hid (show Blk w356 g6 (#[.int .i64 kz, .int .i64 nz, .int .u64 rz]) 46 from cc353.blk Fg6.out nin_nil)
    clear C0 PW Fg4 Fg6
    have C0 := C0'; clear C0'
    have PW := PW'; clear PW'
    have Fg4 := Fg4'; clear Fg4'
    have Fg6 := Fg6'; clear Fg6'
    clear RQ
    clear cc353
    have RQ := Lib.hid (show RefIs w356 ((markW s rz).1) (x352) from hr354)
    refine hK351 _ _ ?_; clear hK351 K351
    (try simp only [zP, zN, zA, zB, zC])
    refine pu_ (v := .tuple #[.agg (refA x352 (markW s rz).1), .bool (markW s rz).2]) (y_move rfl (by rfl) (by rfl)) ?_
    (try simp only [zP, zN, zA, zB, zC])
    refine pu_ (v := .agg (refA x352 (markW s rz).1)) (y_run (by rfl) (fun W => by go_simp)) ?_
    (try simp only [zP, zN, zA, zB, zC])
    refine pu_ (v := .bool (markW s rz).2) (y_run (by rfl) (fun W => by go_simp)) ?_
    (try simp only [zP, zN, zA, zB, zC])
    refine ef_ (fun K361 hK361 => ?_)
    refine e_alloc (by rfl) rfl rfl (cs := #[.slice none 0 0, .int .u64 0, .bool false, .bool false]) (by kernel_rfl) ?_
    rintro g362 w363 HG364 B365 C366
    have nw367 := Lib.hid (show w.heap.size ≤ g362 by have := C0.out.size; have := HG364.out; omega)
    have ne368 := Lib.hid (show b ≠ g362 by have := PW.out.1.lt; have := HG364.out; omega)
    have nr369 := Lib.hid (PW.out.2.ne_new HG364)
    have ne370 := Lib.hid (Fg4.out.ne_new HG364)
    have nx371 := Lib.hid (RQ.out.1.ne_new (by decide) HG364)
    have C0' := Lib.hid (show Ch [] w w363 from C0.out.trans' C366 (fun x hx => absurd hx (by simp)))
    have PW' := Lib.hid (show WinIs w363 (w.heap.size) b (s) (v) from PW.out.ch C366 nin_nil rnin_nil)
    have Fg4' := Lib.hid (show Blk w363 g4 (#[x, .int .u64 (s).last, .bool (s).over, .bool (s).done]) 44 from C366.blk Fg4.out nin_nil)
    have Fg6' := Lib.hid (show Blk w363 g6 (#[.int .i64 kz, .int .i64 nz, .int .u64 rz]) 46 from C366.blk Fg6.out nin_nil)
    have RQ' := Lib.hid (show RefIs w363 ((markW s rz).1) (x352) from RQ.out.ch C366 xnin_nil)
    clear C0 PW Fg4 Fg6 RQ
    have C0 := C0'; clear C0'
    have PW := PW'; clear PW'
    have Fg4 := Fg4'; clear Fg4'
    have Fg6 := Fg6'; clear Fg6'
    have RQ := RQ'; clear RQ'
    have Fg362 := Lib.hid (show Blk w363 g362 (#[.slice none 0 0, .int .u64 0, .bool false, .bool false]) 44 from B365); clear B365 C366
    refine hK361 _ _ ?_; clear hK361 K361
    (try simp only [zP, zN, zA, zB, zC])
    refine ef_ (fun K372 hK372 => ?_)
    refine e_storeN (cells := (refA x352 (markW s rz).1)) (by rfl) rfl rfl (by rfl) (by rfl) Fg362.out (by kernel_rfl) (by rfl) (ones_cons (ref_one RQ.out) (ones_cons rfl (ones_cons rfl (ones_cons rfl ones_nil)))) ?_
    rintro w373 B374 C375
    have C0' := Lib.hid (show Ch [] w w373 from C0.out.trans' C375 (inw_cons (.inr nw367.out) inw_nil))
    have PW' := Lib.hid (show WinIs w373 (w.heap.size) b (s) (v) from PW.out.ch C375 (nin_cons ne368.out nin_nil) (rnin_cons nr369.out rnin_nil))
    have Fg4' := Lib.hid (show Blk w373 g4 (#[x, .int .u64 (s).last, .bool (s).over, .bool (s).done]) 44 from C375.blk Fg4.out (nin_cons ne370.out nin_nil))
    have Fg6' := Lib.hid (show Blk w373 g6 (#[.int .i64 kz, .int .i64 nz, .int .u64 rz]) 46 from C375.blk Fg6.out (nin_cons (Blk.ne_type Fg6.out Fg362.out (by decide)) nin_nil))
    have RQ' := Lib.hid (show RefIs w373 ((markW s rz).1) (x352) from RQ.out.ch C375 (xnin_cons nx371.out xnin_nil))
    clear C0 PW Fg4 Fg6 RQ
    have C0 := C0'; clear C0'
    have PW := PW'; clear PW'
    have Fg4 := Fg4'; clear Fg4'
    have Fg6 := Fg6'; clear Fg6'
    have RQ := RQ'; clear RQ'
    clear Fg362; have Fg362 := Lib.hid (show Blk w373 g362 ((refA x352 (markW s rz).1)) 44 from B374); clear B374 C375
    refine hK372 _ _ ?_; clear hK372 K372
    (try simp only [zP, zN, zA, zB, zC])
    refine pu_ (v := .bool (markW s rz).2) (y_assign rfl (by rfl) (by rfl)) ?_
    (try simp only [zP, zN, zA, zB, zC])
    refine nl_ (hK350 _ _ ?_); clear hK350 K350
    refine s_ (fun K376 hK376 => ?_)
    refine ld_ (v := .agg ((refA x352 (markW s rz).1))) rfl (by rfl) (by rfl) (run_loadVar_row _ _ 44 44 ((refA x352 (markW s rz).1)) (0, 0) _ Fg362.out Try.underlying44 rfl (by kernel_rfl)) ?_
    (try simp only [zP, zN, zA, zB, zC])
    refine ef_ (fun K377 hK377 => ?_)
    refine e_storeN (cells := ((refA x352 (markW s rz).1))) (by rfl) rfl rfl (by rfl) (by rfl) Fg4.out (by kernel_rfl) (by rfl) (ones_cons (ref_one RQ.out) (ones_cons rfl (ones_cons rfl (ones_cons rfl ones_nil)))) ?_
    rintro w378 B379 C380
    have C0' := Lib.hid (show Ch [] w w378 from C0.out.trans' C380 (inw_cons (.inr nw13.out) inw_nil))
    have PW' := Lib.hid (show WinIs w378 (w.heap.size) b (s) (v) from PW.out.ch C380 (nin_cons ne14.out nin_nil) (rnin_cons hgr.out rnin_nil))
    have Fg6' := Lib.hid (show Blk w378 g6 (#[.int .i64 kz, .int .i64 nz, .int .u64 rz]) 46 from C380.blk Fg6.out (nin_cons (Blk.ne_type Fg6.out Fg4.out (by decide)) nin_nil))
    have RQ' := Lib.hid (show RefIs w378 ((markW s rz).1) (x352) from RQ.out.ch C380 (xnin_cons nx359.out xnin_nil))
    have Fg362' := Lib.hid (show Blk w378 g362 ((refA x352 (markW s rz).1)) 44 from C380.blk Fg362.out (nin_cons (Ne.symm ne370.out) nin_nil))
    clear C0 PW Fg6 RQ Fg362
    have C0 := C0'; clear C0'
    have PW := PW'; clear PW'
    have Fg6 := Fg6'; clear Fg6'
    have RQ := RQ'; clear RQ'
    have Fg362 := Fg362'; clear Fg362'
    clear Fg4; have Fg4 := Lib.hid (show Blk w378 g4 (((refA x352 (markW s rz).1))) 44 from B379); clear B379 C380
    refine hK377 _ _ ?_; clear hK377 K377
    (try simp only [zP, zN, zA, zB, zC])
    refine nl_ (hK376 _ _ ?_); clear hK376 K376
    refine r_ ?_
    refine pu_ (v := .pointer (some ⟨b, 0, none⟩)) (y_move rfl (by rfl) (by rfl)) ?_
    (try simp only [zP, zN, zA, zB, zC])
    refine pu_ (v := .pointer (some ⟨g6, 2, none⟩)) (y_run (by rfl) (fun W => by go_simp)) ?_
    (try simp only [zP, zN, zA, zB, zC])
    refine ld_ (v := .int .u64 rz) rfl (by rfl) (by rfl) (run_load_one ((Fg6.out.cell 2).trans rfl) Try.underlying42 rfl) ?_
    (try simp only [zP, zN, zA, zB, zC])
    refine ef_ (fun K381 hK381 => ?_)
    refine e_call Try.func20 (by kernel_rfl) rfl #[.pointer (some ⟨b, 0, none⟩), .int .u64 rz] (by rfl) rfl rfl (by first | rfl | (simp only [List.map_toArray, List.map_cons, List.map_nil]; first | done | rfl)) (mark_all rz PW.out C0.out.size (by have := hL.out; omega)) ?_
    rintro en w386 ⟨v382, rfl, hw384, cc383, hr385⟩
    refine ⟨_, rfl, ?_⟩
    have xr387 := Lib.hid (show ∀ k, k ∈ xb (x352) → k ∉ rl v382 from fun k hk hm => (hr385 k hm).elim (fun h => (xnin_cons nx357.out xr358.out) k hk h) (fun h => by have := RQ.out.1.lt (by decide) k hk; omega))
    have C0' := Lib.hid (show Ch [] w w386 from C0.out.trans' cc383 (inw_cons (.inr HBN.out) (fun x hx => .inr (PW.out.2.lt x hx).1)))
    have Fg4' := Lib.hid (show Blk w386 g4 (((refA x352 (markW s rz).1))) 44 from cc383.blk Fg4.out (nin_cons (Ne.symm ne14.out) hgr.out))
    have Fg6' := Lib.hid (show Blk w386 g6 (#[.int .i64 kz, .int .i64 nz, .int .u64 rz]) 46 from cc383.blk Fg6.out (nin_cons (Ne.symm ne34.out) nr35.out))
    have RQ' := Lib.hid (show RefIs w386 ((markW s rz).1) (x352) from RQ.out.ch cc383 (xnin_cons nx357.out xr358.out))
    have Fg362' := Lib.hid (show Blk w386 g362 ((refA x352 (markW s rz).1)) 44 from cc383.blk Fg362.out (nin_cons (Ne.symm ne368.out) nr369.out))
    clear C0 Fg4 Fg6 RQ Fg362
    have C0 := C0'; clear C0'
    have Fg4 := Fg4'; clear Fg4'
    have Fg6 := Fg6'; clear Fg6'
    have RQ := RQ'; clear RQ'
    have Fg362 := Fg362'; clear Fg362'
    clear PW
    clear cc383
    have PW := Lib.hid (show WinIs w386 (w.heap.size) b ((markW s rz).1) (v382) from hw384)
    have nr388 := Lib.hid (show g4 ∉ rl v382 from PW.out.2.ne Fg4.out (by decide))
    refine hK381 _ _ ?_; clear hK381 K381
    (try simp only [zP, zN, zA, zB, zC])
    refine pu_ (v := .bool (markW s rz).2) (y_move rfl (by rfl) (by rfl)) ?_
    (try simp only [zP, zN, zA, zB, zC])
    refine pu_ (v := .bool true) (y_run (by rfl) (fun W => by go_simp)) ?_
    (try simp only [zP, zN, zA, zB, zC])
    refine pu_ (v := .bool true) (y_assign rfl (by rfl) (by rfl)) ?_
    (try simp only [zP, zN, zA, zB, zC])
    refine nl_ ?_
    refine ib_norm ?_
    exact th_norm (hK42 _ _ ⟨(markW s rz).1, _, x352, fun us_ => (#[.slice (some ⟨ab, off, none⟩) len0 cap0, us 1, .bool false, .pointer (some ⟨b, 0, none⟩), .pointer (some ⟨g4, 0, none⟩), .int .i64 k, .pointer (some ⟨g6, 0, none⟩), .bool true, us 8, us 9, us 10, .pointer (some ⟨g362, 0, none⟩), .bool (markW s rz).2, us 13, us 14, us 15, us 16, us 17, us 18, us 19, us 20, us 21, us 22, .int .i64 k, .slice (some ⟨ab, off, none⟩) len0 cap0, .int .i64 len0, .bool true, .bool true, .int .i64 k, .bool true, .bool true, us 31, us 32, .slice (some ⟨ab, off, none⟩) len0 cap0, .int .i64 k, .pointer (some ⟨ab, off + k * 3, none⟩), .agg #[.int .i64 kz, .int .i64 nz, .int .u64 rz], .pointer (some ⟨g6, 0, none⟩), .int .i64 kz, us 39, us 40, us 41, .bool false, .bool false, us 44, us 45, us 46, us 47, us 48, us 49, us 50, us 51, us 52, us 53, us 54, us 55, us 56, us 57, us 58, us 59, us 60, us 61, us 62, us 63, us 64, us 65, us 66, us 67, us 68, us 69, us 70, us 71, us 72, us 73, us 74, .bool true, .bool true, .tuple #[.agg (refA x352 (markW s rz).1), .bool (markW s rz).2], .agg (#[x, .int .u64 (s).last, .bool (s).over, .bool (s).done]), .pointer (some ⟨g6, 2, none⟩), .int .u64 rz, .tuple #[.agg (refA x352 (markW s rz).1), .bool (markW s rz).2], .agg (refA x352 (markW s rz).1), .bool (markW s rz).2, .agg ((refA x352 (markW s rz).1)), .pointer (some ⟨b, 0, none⟩), .pointer (some ⟨g6, 2, none⟩), .int .u64 rz, .bool (markW s rz).2, .bool (markW s rz).2, .bool true, us 91, us 92, us 93, us 94, us 95, us 96, us 97, us 98, us 99, us 100, us 101, us 102, us 103, us 104, us 105, us 106, us 107, us 108, us 109, us 110, us 111, us 112, us 113, us 114, us 115, us 116, us 117, us 118, us 119, us 120, us 121, us 122, us 123, us 124, us 125, us 126, us 127, us 128, us 129, us 130, us 131, us 132, us 133, us 134, us 135, us 136, us 137, us 138, us 139, us 140, us 141, us 142, us 143, us 144, us 145, us 146, us 147, us 148, us 149, us 150, us 151, us 152, us 153, us 154, us 155, us 156, us 157, us 158, us 159, us 160, us 161, us 162, us 163, us 164, us 165, us 166, us 167, us 168] : Array Value).getD us_ undef, rfl, C0, PW, RQ, Fg4, Lib.hid (markW_le _ hL.out), xr387, nx357, nx359, nr388⟩)
   ·have D43 := Lib.hid (show (kz == 0) = false from beq_eq_false_iff_ne.2 (by omega))
    have D76 := Lib.hid (show (kz == 1) = false from beq_eq_false_iff_ne.2 (by omega))
    have D92 := Lib.hid (show (kz == 2) = true from beq_iff_eq.2 h)
    clear h
    refine s_ (fun K389 hK389 => ?_)
    refine pu_ (v := .bool false) (y_run (by rfl) (fun W => by have d := D43.out; go_simp)) ?_
    (try simp only [zP, zN, zA, zB, zC])
    refine pu_ (v := .bool false) (y_assign rfl (by rfl) (by rfl)) ?_
    (try simp only [zP, zN, zA, zB, zC])
    refine nl_ (hK389 _ _ ?_); clear hK389 K389
    refine wp_cond_false rfl ?_
    refine s_ (fun K390 hK390 => ?_)
    refine pu_ (v := .bool false) (y_run (by rfl) (fun W => by have d := D76.out; go_simp)) ?_
    (try simp only [zP, zN, zA, zB, zC])
    refine pu_ (v := .bool false) (y_assign rfl (by rfl) (by rfl)) ?_
    (try simp only [zP, zN, zA, zB, zC])
    refine nl_ (hK390 _ _ ?_); clear hK390 K390
    refine wp_cond_false rfl ?_
    refine s_ (fun K391 hK391 => ?_)
    refine pu_ (v := .bool true) (y_run (by rfl) (fun W => by have d := D92.out; go_simp)) ?_
    (try simp only [zP, zN, zA, zB, zC])
    refine pu_ (v := .bool true) (y_assign rfl (by rfl) (by rfl)) ?_
    (try simp only [zP, zN, zA, zB, zC])
    refine nl_ (hK391 _ _ ?_); clear hK391 K391
    refine wp_cond_true rfl ?_
    refine s_ (fun K392 hK392 => ?_)
    refine ld_ (v := .agg (#[x, .int .u64 (s).last, .bool (s).over, .bool (s).done])) rfl (by rfl) (by rfl) (run_loadVar_row _ _ 44 44 (#[x, .int .u64 (s).last, .bool (s).over, .bool (s).done]) (0, 0) _ Fg4.out Try.underlying44 rfl (by kernel_rfl)) ?_
    (try simp only [zP, zN, zA, zB, zC])
    refine ef_ (fun K393 hK393 => ?_)
    refine e_call Try.func21 (by kernel_rfl) rfl #[.agg (#[x, .int .u64 (s).last, .bool (s).over, .bool (s).done])] (by rfl) rfl rfl (by first | rfl | (simp only [List.map_toArray, List.map_cons, List.map_nil]; first | done | rfl)) (rtake_all RQ.out (by have := hL.out; omega)) ?_
    rintro en w398 ⟨x394, rfl, hr396, cc395, hx397⟩
    refine ⟨_, rfl, ?_⟩
    have nx399 := Lib.hid (show b ∉ xb x394 from fun hk => (hx397 _ hk).elim hxb.out (fun h => by have := PW.out.1.lt; omega))
    have xr400 := Lib.hid (show ∀ k, k ∈ xb x394 → k ∉ rl (v) from fun k hk hm => (hx397 k hk).elim (fun h => hxr.out k h hm) (fun h => by have := (PW.out.2.lt k hm).2; omega))
    have nx401 := Lib.hid (show g4 ∉ xb x394 from fun hk => (hx397 _ hk).elim hxg.out (fun h => by have := Fg4.out.lt; omega))
    have nx402 := Lib.hid (show g6 ∉ xb x394 from fun hk => (hx397 _ hk).elim nx36.out (fun h => by have := Fg6.out.lt; omega))
    have C0' := Lib.hid (show Ch [] w w398 from C0.out.trans' cc395 (fun x hx => absurd hx (by simp)))
    have PW' := Lib.hid (show WinIs w398 (w.heap.size) b (s) (v) from PW.out.ch cc395 nin_nil rnin_nil)
    have Fg4' := Lib.hid (show Blk w398 g4 (#[x, .int .u64 (s).last, .bool (s).over, .bool (s).done]) 44 from cc395.blk Fg4.out nin_nil)
    have Fg6' := Lib.hid (show Blk w398 g6 (#[.int .i64 kz, .int .i64 nz, .int .u64 rz]) 46 from cc395.blk Fg6.out nin_nil)
    clear C0 PW Fg4 Fg6
    have C0 := C0'; clear C0'
    have PW := PW'; clear PW'
    have Fg4 := Fg4'; clear Fg4'
    have Fg6 := Fg6'; clear Fg6'
    clear RQ
    clear cc395
    have RQ := Lib.hid (show RefIs w398 ((takeW s).1) (x394) from hr396)
    refine hK393 _ _ ?_; clear hK393 K393
    (try simp only [zP, zN, zA, zB, zC])
    refine pu_ (v := .tuple #[.agg (refA x394 (takeW s).1), .agg (evA (takeW s).2.1), .bool (takeW s).2.2]) (y_move rfl (by rfl) (by rfl)) ?_
    (try simp only [zP, zN, zA, zB, zC])
    refine pu_ (v := .agg (refA x394 (takeW s).1)) (y_run (by rfl) (fun W => by go_simp)) ?_
    (try simp only [zP, zN, zA, zB, zC])
    refine pu_ (v := .agg (evA (takeW s).2.1)) (y_run (by rfl) (fun W => by go_simp)) ?_
    (try simp only [zP, zN, zA, zB, zC])
    refine pu_ (v := .bool (takeW s).2.2) (y_run (by rfl) (fun W => by go_simp)) ?_
    (try simp only [zP, zN, zA, zB, zC])
    refine ef_ (fun K403 hK403 => ?_)
    refine e_alloc (by rfl) rfl rfl (cs := #[.slice none 0 0, .int .u64 0, .bool false, .bool false]) (by kernel_rfl) ?_
    rintro g404 w405 HG406 B407 C408
    have nw409 := Lib.hid (show w.heap.size ≤ g404 by have := C0.out.size; have := HG406.out; omega)
    have ne410 := Lib.hid (show b ≠ g404 by have := PW.out.1.lt; have := HG406.out; omega)
    have nr411 := Lib.hid (PW.out.2.ne_new HG406)
    have ne412 := Lib.hid (Fg4.out.ne_new HG406)
    have nx413 := Lib.hid (RQ.out.1.ne_new (by decide) HG406)
    have C0' := Lib.hid (show Ch [] w w405 from C0.out.trans' C408 (fun x hx => absurd hx (by simp)))
    have PW' := Lib.hid (show WinIs w405 (w.heap.size) b (s) (v) from PW.out.ch C408 nin_nil rnin_nil)
    have Fg4' := Lib.hid (show Blk w405 g4 (#[x, .int .u64 (s).last, .bool (s).over, .bool (s).done]) 44 from C408.blk Fg4.out nin_nil)
    have Fg6' := Lib.hid (show Blk w405 g6 (#[.int .i64 kz, .int .i64 nz, .int .u64 rz]) 46 from C408.blk Fg6.out nin_nil)
    have RQ' := Lib.hid (show RefIs w405 ((takeW s).1) (x394) from RQ.out.ch C408 xnin_nil)
    clear C0 PW Fg4 Fg6 RQ
    have C0 := C0'; clear C0'
    have PW := PW'; clear PW'
    have Fg4 := Fg4'; clear Fg4'
    have Fg6 := Fg6'; clear Fg6'
    have RQ := RQ'; clear RQ'
    have Fg404 := Lib.hid (show Blk w405 g404 (#[.slice none 0 0, .int .u64 0, .bool false, .bool false]) 44 from B407); clear B407 C408
    refine hK403 _ _ ?_; clear hK403 K403
    (try simp only [zP, zN, zA, zB, zC])
    refine ef_ (fun K414 hK414 => ?_)
    refine e_alloc (by rfl) rfl rfl (cs := #[.int .i64 0, .int .u64 0, .int .i64 0, .int .u64 0, .string ⟨#[]⟩, .slice none 0 0, .slice none 0 0, .slice none 0 0, .int .i64 0, .int .i64 0, .int .i64 0, .int .i64 0, .slice none 0 0, .int .i64 0, .int .i64 0]) (by kernel_rfl) ?_
    rintro g415 w416 HG417 B418 C419
    have nw420 := Lib.hid (show w.heap.size ≤ g415 by have := C0.out.size; have := HG417.out; omega)
    have ne421 := Lib.hid (show b ≠ g415 by have := PW.out.1.lt; have := HG417.out; omega)
    have nr422 := Lib.hid (PW.out.2.ne_new HG417)
    have nx423 := Lib.hid (RQ.out.1.ne_new (by decide) HG417)
    have C0' := Lib.hid (show Ch [] w w416 from C0.out.trans' C419 (fun x hx => absurd hx (by simp)))
    have PW' := Lib.hid (show WinIs w416 (w.heap.size) b (s) (v) from PW.out.ch C419 nin_nil rnin_nil)
    have Fg4' := Lib.hid (show Blk w416 g4 (#[x, .int .u64 (s).last, .bool (s).over, .bool (s).done]) 44 from C419.blk Fg4.out nin_nil)
    have Fg6' := Lib.hid (show Blk w416 g6 (#[.int .i64 kz, .int .i64 nz, .int .u64 rz]) 46 from C419.blk Fg6.out nin_nil)
    have RQ' := Lib.hid (show RefIs w416 ((takeW s).1) (x394) from RQ.out.ch C419 xnin_nil)
    have Fg404' := Lib.hid (show Blk w416 g404 (#[.slice none 0 0, .int .u64 0, .bool false, .bool false]) 44 from C419.blk Fg404.out nin_nil)
    clear C0 PW Fg4 Fg6 RQ Fg404
    have C0 := C0'; clear C0'
    have PW := PW'; clear PW'
    have Fg4 := Fg4'; clear Fg4'
    have Fg6 := Fg6'; clear Fg6'
    have RQ := RQ'; clear RQ'
    have Fg404 := Fg404'; clear Fg404'
    have Fg415 := Lib.hid (show Blk w416 g415 (#[.int .i64 0, .int .u64 0, .int .i64 0, .int .u64 0, .string ⟨#[]⟩, .slice none 0 0, .slice none 0 0, .slice none 0 0, .int .i64 0, .int .i64 0, .int .i64 0, .int .i64 0, .slice none 0 0, .int .i64 0, .int .i64 0]) 56 from B418); clear B418 C419
    refine hK414 _ _ ?_; clear hK414 K414
    (try simp only [zP, zN, zA, zB, zC])
    refine ef_ (fun K424 hK424 => ?_)
    refine e_storeN (cells := (refA x394 (takeW s).1)) (by rfl) rfl rfl (by rfl) (by rfl) Fg404.out (by kernel_rfl) (by rfl) (ones_cons (ref_one RQ.out) (ones_cons rfl (ones_cons rfl (ones_cons rfl ones_nil)))) ?_
    rintro w425 B426 C427
    have C0' := Lib.hid (show Ch [] w w425 from C0.out.trans' C427 (inw_cons (.inr nw409.out) inw_nil))
    have PW' := Lib.hid (show WinIs w425 (w.heap.size) b (s) (v) from PW.out.ch C427 (nin_cons ne410.out nin_nil) (rnin_cons nr411.out rnin_nil))
    have Fg4' := Lib.hid (show Blk w425 g4 (#[x, .int .u64 (s).last, .bool (s).over, .bool (s).done]) 44 from C427.blk Fg4.out (nin_cons ne412.out nin_nil))
    have Fg6' := Lib.hid (show Blk w425 g6 (#[.int .i64 kz, .int .i64 nz, .int .u64 rz]) 46 from C427.blk Fg6.out (nin_cons (Blk.ne_type Fg6.out Fg404.out (by decide)) nin_nil))
    have RQ' := Lib.hid (show RefIs w425 ((takeW s).1) (x394) from RQ.out.ch C427 (xnin_cons nx413.out xnin_nil))
    have Fg415' := Lib.hid (show Blk w425 g415 (#[.int .i64 0, .int .u64 0, .int .i64 0, .int .u64 0, .string ⟨#[]⟩, .slice none 0 0, .slice none 0 0, .slice none 0 0, .int .i64 0, .int .i64 0, .int .i64 0, .int .i64 0, .slice none 0 0, .int .i64 0, .int .i64 0]) 56 from C427.blk Fg415.out (nin_cons (Blk.ne_type Fg415.out Fg404.out (by decide)) nin_nil))
    clear C0 PW Fg4 Fg6 RQ Fg415
    have C0 := C0'; clear C0'
    have PW := PW'; clear PW'
    have Fg4 := Fg4'; clear Fg4'
    have Fg6 := Fg6'; clear Fg6'
    have RQ := RQ'; clear RQ'
    have Fg415 := Fg415'; clear Fg415'
    clear Fg404; have Fg404 := Lib.hid (show Blk w425 g404 ((refA x394 (takeW s).1)) 44 from B426); clear B426 C427
    refine hK424 _ _ ?_; clear hK424 K424
    (try simp only [zP, zN, zA, zB, zC])
    refine ef_ (fun K428 hK428 => ?_)
    refine e_storeN (cells := (evA (takeW s).2.1)) (by rfl) rfl rfl (by rfl) (by rfl) Fg415.out (by kernel_rfl) (by rfl) (ones_cons rfl (ones_cons rfl (ones_cons rfl (ones_cons rfl (ones_cons rfl (ones_cons rfl (ones_cons rfl (ones_cons rfl (ones_cons rfl (ones_cons rfl (ones_cons rfl (ones_cons rfl (ones_cons rfl (ones_cons rfl (ones_cons rfl ones_nil))))))))))))))) ?_
    rintro w429 B430 C431
    have C0' := Lib.hid (show Ch [] w w429 from C0.out.trans' C431 (inw_cons (.inr nw420.out) inw_nil))
    have PW' := Lib.hid (show WinIs w429 (w.heap.size) b (s) (v) from PW.out.ch C431 (nin_cons ne421.out nin_nil) (rnin_cons nr422.out rnin_nil))
    have Fg4' := Lib.hid (show Blk w429 g4 (#[x, .int .u64 (s).last, .bool (s).over, .bool (s).done]) 44 from C431.blk Fg4.out (nin_cons (Blk.ne_type Fg4.out Fg415.out (by decide)) nin_nil))
    have Fg6' := Lib.hid (show Blk w429 g6 (#[.int .i64 kz, .int .i64 nz, .int .u64 rz]) 46 from C431.blk Fg6.out (nin_cons (Blk.ne_type Fg6.out Fg415.out (by decide)) nin_nil))
    have RQ' := Lib.hid (show RefIs w429 ((takeW s).1) (x394) from RQ.out.ch C431 (xnin_cons nx423.out xnin_nil))
    have Fg404' := Lib.hid (show Blk w429 g404 ((refA x394 (takeW s).1)) 44 from C431.blk Fg404.out (nin_cons (Blk.ne_type Fg404.out Fg415.out (by decide)) nin_nil))
    clear C0 PW Fg4 Fg6 RQ Fg404
    have C0 := C0'; clear C0'
    have PW := PW'; clear PW'
    have Fg4 := Fg4'; clear Fg4'
    have Fg6 := Fg6'; clear Fg6'
    have RQ := RQ'; clear RQ'
    have Fg404 := Fg404'; clear Fg404'
    clear Fg415; have Fg415 := Lib.hid (show Blk w429 g415 ((evA (takeW s).2.1)) 56 from B430); clear B430 C431
    refine hK428 _ _ ?_; clear hK428 K428
    (try simp only [zP, zN, zA, zB, zC])
    refine pu_ (v := .bool (takeW s).2.2) (y_assign rfl (by rfl) (by rfl)) ?_
    (try simp only [zP, zN, zA, zB, zC])
    refine nl_ (hK392 _ _ ?_); clear hK392 K392
    refine s_ (fun K432 hK432 => ?_)
    refine ld_ (v := .agg ((refA x394 (takeW s).1))) rfl (by rfl) (by rfl) (run_loadVar_row _ _ 44 44 ((refA x394 (takeW s).1)) (0, 0) _ Fg404.out Try.underlying44 rfl (by kernel_rfl)) ?_
    (try simp only [zP, zN, zA, zB, zC])
    refine ef_ (fun K433 hK433 => ?_)
    refine e_storeN (cells := ((refA x394 (takeW s).1))) (by rfl) rfl rfl (by rfl) (by rfl) Fg4.out (by kernel_rfl) (by rfl) (ones_cons (ref_one RQ.out) (ones_cons rfl (ones_cons rfl (ones_cons rfl ones_nil)))) ?_
    rintro w434 B435 C436
    have C0' := Lib.hid (show Ch [] w w434 from C0.out.trans' C436 (inw_cons (.inr nw13.out) inw_nil))
    have PW' := Lib.hid (show WinIs w434 (w.heap.size) b (s) (v) from PW.out.ch C436 (nin_cons ne14.out nin_nil) (rnin_cons hgr.out rnin_nil))
    have Fg6' := Lib.hid (show Blk w434 g6 (#[.int .i64 kz, .int .i64 nz, .int .u64 rz]) 46 from C436.blk Fg6.out (nin_cons (Blk.ne_type Fg6.out Fg4.out (by decide)) nin_nil))
    have RQ' := Lib.hid (show RefIs w434 ((takeW s).1) (x394) from RQ.out.ch C436 (xnin_cons nx401.out xnin_nil))
    have Fg404' := Lib.hid (show Blk w434 g404 ((refA x394 (takeW s).1)) 44 from C436.blk Fg404.out (nin_cons (Ne.symm ne412.out) nin_nil))
    have Fg415' := Lib.hid (show Blk w434 g415 ((evA (takeW s).2.1)) 56 from C436.blk Fg415.out (nin_cons (Blk.ne_type Fg415.out Fg4.out (by decide)) nin_nil))
    clear C0 PW Fg6 RQ Fg404 Fg415
    have C0 := C0'; clear C0'
    have PW := PW'; clear PW'
    have Fg6 := Fg6'; clear Fg6'
    have RQ := RQ'; clear RQ'
    have Fg404 := Fg404'; clear Fg404'
    have Fg415 := Fg415'; clear Fg415'
    clear Fg4; have Fg4 := Lib.hid (show Blk w434 g4 (((refA x394 (takeW s).1))) 44 from B435); clear B435 C436
    refine hK433 _ _ ?_; clear hK433 K433
    (try simp only [zP, zN, zA, zB, zC])
    refine nl_ (hK432 _ _ ?_); clear hK432 K432
    refine s_ (fun K437 hK437 => ?_)
    refine pu_ (v := .pointer (some ⟨b, 0, none⟩)) (y_move rfl (by rfl) (by rfl)) ?_
    (try simp only [zP, zN, zA, zB, zC])
    refine ef_ (fun K438 hK438 => ?_)
    refine e_call Try.func22 (by kernel_rfl) rfl #[.pointer (some ⟨b, 0, none⟩)] (by rfl) rfl rfl (by first | rfl | (simp only [List.map_toArray, List.map_cons, List.map_nil]; first | done | rfl)) (take_all PW.out C0.out.size (by have := hL.out; omega)) ?_
    rintro en w443 ⟨v439, rfl, hw441, cc440, hr442⟩
    refine ⟨_, rfl, ?_⟩
    have xr444 := Lib.hid (show ∀ k, k ∈ xb (x394) → k ∉ rl v439 from fun k hk hm => (hr442 k hm).elim (fun h => (xnin_cons nx399.out xr400.out) k hk h) (fun h => by have := RQ.out.1.lt (by decide) k hk; omega))
    have C0' := Lib.hid (show Ch [] w w443 from C0.out.trans' cc440 (inw_cons (.inr HBN.out) (fun x hx => .inr (PW.out.2.lt x hx).1)))
    have Fg4' := Lib.hid (show Blk w443 g4 (((refA x394 (takeW s).1))) 44 from cc440.blk Fg4.out (nin_cons (Ne.symm ne14.out) hgr.out))
    have Fg6' := Lib.hid (show Blk w443 g6 (#[.int .i64 kz, .int .i64 nz, .int .u64 rz]) 46 from cc440.blk Fg6.out (nin_cons (Ne.symm ne34.out) nr35.out))
    have RQ' := Lib.hid (show RefIs w443 ((takeW s).1) (x394) from RQ.out.ch cc440 (xnin_cons nx399.out xr400.out))
    have Fg404' := Lib.hid (show Blk w443 g404 ((refA x394 (takeW s).1)) 44 from cc440.blk Fg404.out (nin_cons (Ne.symm ne410.out) nr411.out))
    have Fg415' := Lib.hid (show Blk w443 g415 ((evA (takeW s).2.1)) 56 from cc440.blk Fg415.out (nin_cons (Ne.symm ne421.out) nr422.out))
    clear C0 Fg4 Fg6 RQ Fg404 Fg415
    have C0 := C0'; clear C0'
    have Fg4 := Fg4'; clear Fg4'
    have Fg6 := Fg6'; clear Fg6'
    have RQ := RQ'; clear RQ'
    have Fg404 := Fg404'; clear Fg404'
    have Fg415 := Fg415'; clear Fg415'
    clear PW
    clear cc440
    have PW := Lib.hid (show WinIs w443 (w.heap.size) b ((takeW s).1) (v439) from hw441)
    have nr445 := Lib.hid (show g4 ∉ rl v439 from PW.out.2.ne Fg4.out (by decide))
    refine hK438 _ _ ?_; clear hK438 K438
    (try simp only [zP, zN, zA, zB, zC])
    refine pu_ (v := .tuple #[.agg (evA (takeW s).2.1), .bool (takeW s).2.2]) (y_move rfl (by rfl) (by rfl)) ?_
    (try simp only [zP, zN, zA, zB, zC])
    refine pu_ (v := .agg (evA (takeW s).2.1)) (y_run (by rfl) (fun W => by go_simp)) ?_
    (try simp only [zP, zN, zA, zB, zC])
    refine pu_ (v := .bool (takeW s).2.2) (y_run (by rfl) (fun W => by go_simp)) ?_
    (try simp only [zP, zN, zA, zB, zC])
    refine ef_ (fun K446 hK446 => ?_)
    refine e_alloc (by rfl) rfl rfl (cs := #[.int .i64 0, .int .u64 0, .int .i64 0, .int .u64 0, .string ⟨#[]⟩, .slice none 0 0, .slice none 0 0, .slice none 0 0, .int .i64 0, .int .i64 0, .int .i64 0, .int .i64 0, .slice none 0 0, .int .i64 0, .int .i64 0]) (by kernel_rfl) ?_
    rintro g447 w448 HG449 B450 C451
    have nw452 := Lib.hid (show w.heap.size ≤ g447 by have := C0.out.size; have := HG449.out; omega)
    have nx453 := Lib.hid (RQ.out.1.ne_new (by decide) HG449)
    have ne454 := Lib.hid (Fg415.out.ne_new HG449)
    have ne455 := Lib.hid (show b ≠ g447 by have := PW.out.1.lt; have := HG449.out; omega)
    have nr456 := Lib.hid (PW.out.2.ne_new HG449)
    have C0' := Lib.hid (show Ch [] w w448 from C0.out.trans' C451 (fun x hx => absurd hx (by simp)))
    have Fg4' := Lib.hid (show Blk w448 g4 (((refA x394 (takeW s).1))) 44 from C451.blk Fg4.out nin_nil)
    have Fg6' := Lib.hid (show Blk w448 g6 (#[.int .i64 kz, .int .i64 nz, .int .u64 rz]) 46 from C451.blk Fg6.out nin_nil)
    have RQ' := Lib.hid (show RefIs w448 ((takeW s).1) (x394) from RQ.out.ch C451 xnin_nil)
    have Fg404' := Lib.hid (show Blk w448 g404 ((refA x394 (takeW s).1)) 44 from C451.blk Fg404.out nin_nil)
    have Fg415' := Lib.hid (show Blk w448 g415 ((evA (takeW s).2.1)) 56 from C451.blk Fg415.out nin_nil)
    have PW' := Lib.hid (show WinIs w448 (w.heap.size) b ((takeW s).1) (v439) from PW.out.ch C451 nin_nil rnin_nil)
    clear C0 Fg4 Fg6 RQ Fg404 Fg415 PW
    have C0 := C0'; clear C0'
    have Fg4 := Fg4'; clear Fg4'
    have Fg6 := Fg6'; clear Fg6'
    have RQ := RQ'; clear RQ'
    have Fg404 := Fg404'; clear Fg404'
    have Fg415 := Fg415'; clear Fg415'
    have PW := PW'; clear PW'
    have Fg447 := Lib.hid (show Blk w448 g447 (#[.int .i64 0, .int .u64 0, .int .i64 0, .int .u64 0, .string ⟨#[]⟩, .slice none 0 0, .slice none 0 0, .slice none 0 0, .int .i64 0, .int .i64 0, .int .i64 0, .int .i64 0, .slice none 0 0, .int .i64 0, .int .i64 0]) 56 from B450); clear B450 C451
    refine hK446 _ _ ?_; clear hK446 K446
    (try simp only [zP, zN, zA, zB, zC])
    refine ef_ (fun K457 hK457 => ?_)
    refine e_storeN (cells := (evA (takeW s).2.1)) (by rfl) rfl rfl (by rfl) (by rfl) Fg447.out (by kernel_rfl) (by rfl) (ones_cons rfl (ones_cons rfl (ones_cons rfl (ones_cons rfl (ones_cons rfl (ones_cons rfl (ones_cons rfl (ones_cons rfl (ones_cons rfl (ones_cons rfl (ones_cons rfl (ones_cons rfl (ones_cons rfl (ones_cons rfl (ones_cons rfl ones_nil))))))))))))))) ?_
    rintro w458 B459 C460
    have C0' := Lib.hid (show Ch [] w w458 from C0.out.trans' C460 (inw_cons (.inr nw452.out) inw_nil))
    have Fg4' := Lib.hid (show Blk w458 g4 (((refA x394 (takeW s).1))) 44 from C460.blk Fg4.out (nin_cons (Blk.ne_type Fg4.out Fg447.out (by decide)) nin_nil))
    have Fg6' := Lib.hid (show Blk w458 g6 (#[.int .i64 kz, .int .i64 nz, .int .u64 rz]) 46 from C460.blk Fg6.out (nin_cons (Blk.ne_type Fg6.out Fg447.out (by decide)) nin_nil))
    have RQ' := Lib.hid (show RefIs w458 ((takeW s).1) (x394) from RQ.out.ch C460 (xnin_cons nx453.out xnin_nil))
    have Fg404' := Lib.hid (show Blk w458 g404 ((refA x394 (takeW s).1)) 44 from C460.blk Fg404.out (nin_cons (Blk.ne_type Fg404.out Fg447.out (by decide)) nin_nil))
    have Fg415' := Lib.hid (show Blk w458 g415 ((evA (takeW s).2.1)) 56 from C460.blk Fg415.out (nin_cons ne454.out nin_nil))
    have PW' := Lib.hid (show WinIs w458 (w.heap.size) b ((takeW s).1) (v439) from PW.out.ch C460 (nin_cons ne455.out nin_nil) (rnin_cons nr456.out rnin_nil))
    clear C0 Fg4 Fg6 RQ Fg404 Fg415 PW
    have C0 := C0'; clear C0'
    have Fg4 := Fg4'; clear Fg4'
    have Fg6 := Fg6'; clear Fg6'
    have RQ := RQ'; clear RQ'
    have Fg404 := Fg404'; clear Fg404'
    have Fg415 := Fg415'; clear Fg415'
    have PW := PW'; clear PW'
    clear Fg447; have Fg447 := Lib.hid (show Blk w458 g447 ((evA (takeW s).2.1)) 56 from B459); clear B459 C460
    refine hK457 _ _ ?_; clear hK457 K457
    (try simp only [zP, zN, zA, zB, zC])
    refine pu_ (v := .bool (takeW s).2.2) (y_assign rfl (by rfl) (by rfl)) ?_
    (try simp only [zP, zN, zA, zB, zC])
    refine nl_ (hK437 _ _ ?_); clear hK437 K437
    refine r_ ?_
    refine ld_ (v := .agg ((evA (takeW s).2.1))) rfl (by rfl) (by rfl) (run_loadVar_row _ _ 56 56 ((evA (takeW s).2.1)) (0, 0) _ Fg447.out Try.underlying56 rfl (by kernel_rfl)) ?_
    (try simp only [zP, zN, zA, zB, zC])
    refine ld_ (v := .agg ((evA (takeW s).2.1))) rfl (by rfl) (by rfl) (run_loadVar_row _ _ 56 56 ((evA (takeW s).2.1)) (0, 0) _ Fg415.out Try.underlying56 rfl (by kernel_rfl)) ?_
    (try simp only [zP, zN, zA, zB, zC])
    refine ef_ (fun K461 hK461 => ?_)
    refine e_call Try.func23 (by kernel_rfl) rfl #[.agg ((evA (takeW s).2.1)), .agg ((evA (takeW s).2.1))] (by rfl) rfl rfl (by first | rfl | (simp only [List.map_toArray, List.map_cons, List.map_nil]; first | done | rfl)) (event_same (takeW s).2.1 _) ?_
    rintro en w463 ⟨rfl, cc462⟩
    refine ⟨_, rfl, ?_⟩
    have C0' := Lib.hid (show Ch [] w w463 from C0.out.trans' cc462 (fun x hx => absurd hx (by simp)))
    have Fg4' := Lib.hid (show Blk w463 g4 (((refA x394 (takeW s).1))) 44 from cc462.blk Fg4.out nin_nil)
    have Fg6' := Lib.hid (show Blk w463 g6 (#[.int .i64 kz, .int .i64 nz, .int .u64 rz]) 46 from cc462.blk Fg6.out nin_nil)
    have RQ' := Lib.hid (show RefIs w463 ((takeW s).1) (x394) from RQ.out.ch cc462 xnin_nil)
    have Fg404' := Lib.hid (show Blk w463 g404 ((refA x394 (takeW s).1)) 44 from cc462.blk Fg404.out nin_nil)
    have Fg415' := Lib.hid (show Blk w463 g415 ((evA (takeW s).2.1)) 56 from cc462.blk Fg415.out nin_nil)
    have PW' := Lib.hid (show WinIs w463 (w.heap.size) b ((takeW s).1) (v439) from PW.out.ch cc462 nin_nil rnin_nil)
    have Fg447' := Lib.hid (show Blk w463 g447 ((evA (takeW s).2.1)) 56 from cc462.blk Fg447.out nin_nil)
    clear C0 Fg4 Fg6 RQ Fg404 Fg415 PW Fg447
    have C0 := C0'; clear C0'
    have Fg4 := Fg4'; clear Fg4'
    have Fg6 := Fg6'; clear Fg6'
    have RQ := RQ'; clear RQ'
    have Fg404 := Fg404'; clear Fg404'
    have Fg415 := Fg415'; clear Fg415'
    have PW := PW'; clear PW'
    have Fg447 := Fg447'; clear Fg447'
    clear cc462
    refine hK461 _ _ ?_; clear hK461 K461
    (try simp only [zP, zN, zA, zB, zC])
    refine pu_ (v := .bool true) (y_move rfl (by rfl) (by rfl)) ?_
    (try simp only [zP, zN, zA, zB, zC])
    refine pu_ (v := .bool (takeW s).2.2) (y_move rfl (by rfl) (by rfl)) ?_
    (try simp only [zP, zN, zA, zB, zC])
    refine pu_ (v := .bool (takeW s).2.2) (y_move rfl (by rfl) (by rfl)) ?_
    (try simp only [zP, zN, zA, zB, zC])
    refine pu_ (v := .bool true) (y_run (by rfl) (fun W => by go_simp)) ?_
    (try simp only [zP, zN, zA, zB, zC])
    refine pu_ (v := .bool true) (y_pick (t := true) (by rfl) rfl (by rfl) (by rfl)) ?_
    (try simp only [zP, zN, zA, zB, zC])
    refine pu_ (v := .bool true) (y_assign rfl (by rfl) (by rfl)) ?_
    (try simp only [zP, zN, zA, zB, zC])
    refine nl_ ?_
    refine ib_norm ?_
    exact th_norm (hK42 _ _ ⟨(takeW s).1, _, x394, fun us_ => (#[.slice (some ⟨ab, off, none⟩) len0 cap0, us 1, .bool false, .pointer (some ⟨b, 0, none⟩), .pointer (some ⟨g4, 0, none⟩), .int .i64 k, .pointer (some ⟨g6, 0, none⟩), .bool true, us 8, us 9, us 10, us 11, us 12, .pointer (some ⟨g404, 0, none⟩), .pointer (some ⟨g415, 0, none⟩), .bool (takeW s).2.2, .pointer (some ⟨g447, 0, none⟩), .bool (takeW s).2.2, us 18, us 19, us 20, us 21, us 22, .int .i64 k, .slice (some ⟨ab, off, none⟩) len0 cap0, .int .i64 len0, .bool true, .bool true, .int .i64 k, .bool true, .bool true, us 31, us 32, .slice (some ⟨ab, off, none⟩) len0 cap0, .int .i64 k, .pointer (some ⟨ab, off + k * 3, none⟩), .agg #[.int .i64 kz, .int .i64 nz, .int .u64 rz], .pointer (some ⟨g6, 0, none⟩), .int .i64 kz, us 39, us 40, us 41, .bool false, .bool false, us 44, us 45, us 46, us 47, us 48, us 49, us 50, us 51, us 52, us 53, us 54, us 55, us 56, us 57, us 58, us 59, us 60, us 61, us 62, us 63, us 64, us 65, us 66, us 67, us 68, us 69, us 70, us 71, us 72, us 73, us 74, .bool false, .bool false, us 77, us 78, us 79, us 80, us 81, us 82, us 83, us 84, us 85, us 86, us 87, us 88, us 89, us 90, .bool true, .bool true, .tuple #[.agg (refA x394 (takeW s).1), .agg (evA (takeW s).2.1), .bool (takeW s).2.2], .agg (#[x, .int .u64 (s).last, .bool (s).over, .bool (s).done]), .tuple #[.agg (refA x394 (takeW s).1), .agg (evA (takeW s).2.1), .bool (takeW s).2.2], .agg (refA x394 (takeW s).1), .agg (evA (takeW s).2.1), .bool (takeW s).2.2, .agg ((refA x394 (takeW s).1)), .tuple #[.agg (evA (takeW s).2.1), .bool (takeW s).2.2], .pointer (some ⟨b, 0, none⟩), .tuple #[.agg (evA (takeW s).2.1), .bool (takeW s).2.2], .agg (evA (takeW s).2.1), .bool (takeW s).2.2, .agg ((evA (takeW s).2.1)), .agg ((evA (takeW s).2.1)), .bool true, .bool true, .bool (takeW s).2.2, .bool (takeW s).2.2, .bool true, .bool true, us 113, us 114, us 115, us 116, us 117, us 118, us 119, us 120, us 121, us 122, us 123, us 124, us 125, us 126, us 127, us 128, us 129, us 130, us 131, us 132, us 133, us 134, us 135, us 136, us 137, us 138, us 139, us 140, us 141, us 142, us 143, us 144, us 145, us 146, us 147, us 148, us 149, us 150, us 151, us 152, us 153, us 154, us 155, us 156, us 157, us 158, us 159, us 160, us 161, us 162, us 163, us 164, us 165, us 166, us 167, us 168] : Array Value).getD us_ undef, rfl, C0, PW, RQ, Fg4, Lib.hid (takeW_le hL.out), xr444, nx399, nx401, nr445⟩)
   ·have D43 := Lib.hid (show (kz == 0) = false from beq_eq_false_iff_ne.2 (by omega))
    have D76 := Lib.hid (show (kz == 1) = false from beq_eq_false_iff_ne.2 (by omega))
    have D92 := Lib.hid (show (kz == 2) = false from beq_eq_false_iff_ne.2 (by omega))
    clear h
    refine s_ (fun K464 hK464 => ?_)
    refine pu_ (v := .bool false) (y_run (by rfl) (fun W => by have d := D43.out; go_simp)) ?_
    (try simp only [zP, zN, zA, zB, zC])
    refine pu_ (v := .bool false) (y_assign rfl (by rfl) (by rfl)) ?_
    (try simp only [zP, zN, zA, zB, zC])
    refine nl_ (hK464 _ _ ?_); clear hK464 K464
    refine wp_cond_false rfl ?_
    refine s_ (fun K465 hK465 => ?_)
    refine pu_ (v := .bool false) (y_run (by rfl) (fun W => by have d := D76.out; go_simp)) ?_
    (try simp only [zP, zN, zA, zB, zC])
    refine pu_ (v := .bool false) (y_assign rfl (by rfl) (by rfl)) ?_
    (try simp only [zP, zN, zA, zB, zC])
    refine nl_ (hK465 _ _ ?_); clear hK465 K465
    refine wp_cond_false rfl ?_
    refine s_ (fun K466 hK466 => ?_)
    refine pu_ (v := .bool false) (y_run (by rfl) (fun W => by have d := D92.out; go_simp)) ?_
    (try simp only [zP, zN, zA, zB, zC])
    refine pu_ (v := .bool false) (y_assign rfl (by rfl) (by rfl)) ?_
    (try simp only [zP, zN, zA, zB, zC])
    refine nl_ (hK466 _ _ ?_); clear hK466 K466
    refine wp_cond_false rfl ?_
    refine s_ (fun K467 hK467 => ?_)
    refine pu_ (v := .pointer (some ⟨g4, 2, none⟩)) (y_run (by rfl) (fun W => by go_simp)) ?_
    (try simp only [zP, zN, zA, zB, zC])
    refine ef_ (fun K468 hK468 => ?_)
    refine e_store1 (b := g4) (j := 2) (v := .bool true) (by rfl) rfl rfl (by rfl) (by rfl) Fg4.out (show 2 < 4 by omega) (by kernel_rfl) rfl ?_
    rintro w469 B470 C471
    have C0' := Lib.hid (show Ch [] w w469 from C0.out.trans' C471 (inw_cons (.inr nw13.out) inw_nil))
    have PW' := Lib.hid (show WinIs w469 (w.heap.size) b (s) (v) from PW.out.ch C471 (nin_cons ne14.out nin_nil) (rnin_cons hgr.out rnin_nil))
    have RQ' := Lib.hid (show RefIs w469 (s) (x) from RQ.out.ch C471 (xnin_cons hxg.out xnin_nil))
    have Fg6' := Lib.hid (show Blk w469 g6 (#[.int .i64 kz, .int .i64 nz, .int .u64 rz]) 46 from C471.blk Fg6.out (nin_cons (Blk.ne_type Fg6.out Fg4.out (by decide)) nin_nil))
    clear C0 PW RQ Fg6
    have C0 := C0'; clear C0'
    have PW := PW'; clear PW'
    have RQ := RQ'; clear RQ'
    have Fg6 := Fg6'; clear Fg6'
    clear Fg4; have Fg4 := Lib.hid (show Blk w469 g4 (#[x, .int .u64 (s).last, .bool true, .bool (s).done]) 44 from B470); clear B470 C471
    refine hK468 _ _ ?_; clear hK468 K468
    (try simp only [zP, zN, zA, zB, zC])
    refine nl_ (hK467 _ _ ?_); clear hK467 K467
    refine r_ ?_
    refine pu_ (v := .pointer (some ⟨b, 0, none⟩)) (y_move rfl (by rfl) (by rfl)) ?_
    (try simp only [zP, zN, zA, zB, zC])
    refine ef_ (fun K472 hK472 => ?_)
    refine e_call Try.func24 (by kernel_rfl) rfl #[.pointer (some ⟨b, 0, none⟩)] (by rfl) rfl rfl (by first | rfl | (simp only [List.map_toArray, List.map_cons, List.map_nil]; first | done | rfl)) (end_all PW.out) ?_
    rintro en w477 ⟨v473, rfl, hw475, cc474, hr476⟩
    refine ⟨_, rfl, ?_⟩
    have xr478 := Lib.hid (show ∀ k, k ∈ xb (x) → k ∉ rl v473 from fun k hk hm => (hr476 k hm).elim (fun h => (xnin_cons hxb.out hxr.out) k hk h) (fun h => by have := RQ.out.1.lt (by decide) k hk; omega))
    have C0' := Lib.hid (show Ch [] w w477 from C0.out.trans' cc474 (inw_cons (.inr HBN.out) (fun x hx => .inr (PW.out.2.lt x hx).1)))
    have RQ' := Lib.hid (show RefIs w477 (s) (x) from RQ.out.ch cc474 (xnin_cons hxb.out hxr.out))
    have Fg4' := Lib.hid (show Blk w477 g4 (#[x, .int .u64 (s).last, .bool true, .bool (s).done]) 44 from cc474.blk Fg4.out (nin_cons (Ne.symm ne14.out) hgr.out))
    have Fg6' := Lib.hid (show Blk w477 g6 (#[.int .i64 kz, .int .i64 nz, .int .u64 rz]) 46 from cc474.blk Fg6.out (nin_cons (Ne.symm ne34.out) nr35.out))
    clear C0 RQ Fg4 Fg6
    have C0 := C0'; clear C0'
    have RQ := RQ'; clear RQ'
    have Fg4 := Fg4'; clear Fg4'
    have Fg6 := Fg6'; clear Fg6'
    clear PW
    clear cc474
    have PW := Lib.hid (show WinIs w477 (w.heap.size) b (⟨s.L, s.last, true, s.done⟩) (v473) from hw475)
    have nr479 := Lib.hid (show g4 ∉ rl v473 from PW.out.2.ne Fg4.out (by decide))
    refine hK472 _ _ ?_; clear hK472 K472
    (try simp only [zP, zN, zA, zB, zC])
    refine nl_ ?_
    refine ib_norm ?_
    exact th_norm (hK42 _ _ ⟨⟨s.L, s.last, true, s.done⟩, _, x, fun us_ => (#[.slice (some ⟨ab, off, none⟩) len0 cap0, us 1, .bool false, .pointer (some ⟨b, 0, none⟩), .pointer (some ⟨g4, 0, none⟩), .int .i64 k, .pointer (some ⟨g6, 0, none⟩), .bool true, us 8, us 9, us 10, us 11, us 12, us 13, us 14, us 15, us 16, us 17, us 18, us 19, us 20, us 21, us 22, .int .i64 k, .slice (some ⟨ab, off, none⟩) len0 cap0, .int .i64 len0, .bool true, .bool true, .int .i64 k, .bool true, .bool true, us 31, us 32, .slice (some ⟨ab, off, none⟩) len0 cap0, .int .i64 k, .pointer (some ⟨ab, off + k * 3, none⟩), .agg #[.int .i64 kz, .int .i64 nz, .int .u64 rz], .pointer (some ⟨g6, 0, none⟩), .int .i64 kz, .pointer (some ⟨g4, 2, none⟩), .pointer (some ⟨b, 0, none⟩), .tuple #[], .bool false, .bool false, us 44, us 45, us 46, us 47, us 48, us 49, us 50, us 51, us 52, us 53, us 54, us 55, us 56, us 57, us 58, us 59, us 60, us 61, us 62, us 63, us 64, us 65, us 66, us 67, us 68, us 69, us 70, us 71, us 72, us 73, us 74, .bool false, .bool false, us 77, us 78, us 79, us 80, us 81, us 82, us 83, us 84, us 85, us 86, us 87, us 88, us 89, us 90, .bool false, .bool false, us 93, us 94, us 95, us 96, us 97, us 98, us 99, us 100, us 101, us 102, us 103, us 104, us 105, us 106, us 107, us 108, us 109, us 110, us 111, us 112, us 113, us 114, us 115, us 116, us 117, us 118, us 119, us 120, us 121, us 122, us 123, us 124, us 125, us 126, us 127, us 128, us 129, us 130, us 131, us 132, us 133, us 134, us 135, us 136, us 137, us 138, us 139, us 140, us 141, us 142, us 143, us 144, us 145, us 146, us 147, us 148, us 149, us 150, us 151, us 152, us 153, us 154, us 155, us 156, us 157, us 158, us 159, us 160, us 161, us 162, us 163, us 164, us 165, us 166, us 167, us 168] : Array Value).getD us_ undef, rfl, C0, PW, RQ, Fg4, hL, xr478, hxb, hxg, nr479⟩)
  rintro _ w43 ⟨s2, v2, x2, us, rfl, C0, PW, RQ, Fg4, hL, hxr, hxb, hxg, hgr⟩
  have hq := RQ.out.2
  obtain ⟨A5, c5, rfl, -, -⟩ := hq
  refine s_ (fun K480 hK480 => ?_)
  refine pu_ (v := .pointer (some ⟨g4, 0, none⟩)) (y_run (by rfl) (fun W => by go_simp)) ?_
  (try simp only [zP, zN, zA, zB, zC])
  refine ld_ (v := .slice A5 s2.L.length c5) rfl (by rfl) (by rfl) (run_load_one ((Fg4.out.cell 0).trans rfl) Try.underlying41 rfl) ?_
  (try simp only [zP, zN, zA, zB, zC])
  refine pu_ (v := .int .i64 s2.L.length) (y_run (by rfl) (fun W => by go_simp)) ?_
  (try simp only [zP, zN, zA, zB, zC])
  refine pu_ (v := .int .i64 s2.L.length) (y_assign rfl (by rfl) (by rfl)) ?_
  (try simp only [zP, zN, zA, zB, zC])
  refine nl_ (hK480 _ _ ?_); clear hK480 K480
  refine sq_ (fun K481 hK481 => ?_)
  rcases ho : s2.over with _ | _ <;> rcases hd : s2.done with _ | _
  ·rw [ho, hd] at Fg4
   have HO := Lib.hid ho
   have HD := Lib.hid hd
   clear ho hd
   have HL := Lib.hid (show lenI s2 = (s2.L.length : Int) by unfold lenI; rw [HO.out, HD.out]; rfl)
   have HR := Lib.hid (show roomB s2 = decide ((s2.L.length : Int) < 16) by unfold roomB; rw [HO.out]; simp <;> omega)
   refine s_ (fun K482 hK482 => ?_)
   refine pu_ (v := .pointer (some ⟨g4, 2, none⟩)) (y_run (by rfl) (fun W => by go_simp)) ?_
   (try simp only [zP, zN, zA, zB, zC])
   refine ld_ (v := .bool false) rfl (by rfl) (by rfl) (run_load_one ((Fg4.out.cell 2).trans rfl) Try.underlying4 rfl) ?_
   (try simp only [zP, zN, zA, zB, zC])
   refine pu_ (v := .bool false) (y_move rfl (by rfl) (by rfl)) ?_
   (try simp only [zP, zN, zA, zB, zC])
   refine pu_ (y_off (by rfl)) ?_
   (try simp only [zP, zN, zA, zB, zC])
   refine pu_ (y_off (by rfl)) ?_
   (try simp only [zP, zN, zA, zB, zC])
   refine pu_ (y_off (by rfl)) ?_
   (try simp only [zP, zN, zA, zB, zC])
   refine pu_ (v := .bool false) (y_pick (t := false) (by rfl) rfl (by rfl) (by rfl)) ?_
   (try simp only [zP, zN, zA, zB, zC])
   refine nl_ (hK482 _ _ ?_); clear hK482 K482
   refine wp_cond_false rfl ?_
   refine wp_skip ?_
   refine th_norm (hK481 _ _ ?_); try clear hK481 K481
   refine sq_ (fun K483 hK483 => ?_)
   refine startk_ (S := fun W => Blk W g4 (#[.slice A5 s2.L.length c5, .int .u64 (s2).last, .bool false, .bool false]) 44 ∧ True) (ds := []) #[false, false, false, false, false, false, false, false, false, false, false, false, false, false, false, false, false, false, false, false, false, false, false, false, false, false, false, false, false, false, false, false, false, false, false, false] (by kernel_rfl) rfl rfl (fun W c => ⟨c.blk Fg4.out nin_nil, trivial⟩) (fun w484 C485 hS486 => ?_)
   have C0' := Lib.hid (show Ch [] w w484 from C0.out.trans' C485 (fun x hx => absurd hx (by simp)))
   have PW' := Lib.hid (show WinIs w484 (w.heap.size) b (s2) (v2) from PW.out.ch C485 nin_nil rnin_nil)
   have RQ' := Lib.hid (show RefIs w484 (s2) (.slice A5 s2.L.length c5) from RQ.out.ch C485 xnin_nil)
   have Fg4' := Lib.hid (show Blk w484 g4 (#[.slice A5 s2.L.length c5, .int .u64 (s2).last, .bool false, .bool false]) 44 from C485.blk Fg4.out nin_nil)
   clear C0 PW RQ Fg4
   have C0 := C0'; clear C0'
   have PW := PW'; clear PW'
   have RQ := RQ'; clear RQ'
   have Fg4 := Fg4'; clear Fg4'
   clear C485
   refine pure_ (i := 0) (N := some 125) (v := .bool true) #[true, false, false, false, false, false, false, false, false, false, false, false, false, false, false, false, false, false, false, false, false, false, false, false, false, false, false, false, false, false, false, false, false, false, false, false] rfl rfl (by kernel_rfl) (fun c a w h => hP c a _ _ w h) (y_move rfl (by rfl) (by rfl)) rfl ?_
   (try simp only [zP, zN, zA, zB, zC])
   refine pure_ (i := 1) (N := some 126) (v := .bool false) #[true, true, false, false, false, false, false, false, false, false, false, false, false, false, false, false, false, false, false, false, false, false, false, false, false, false, false, false, false, false, false, false, false, false, false, false] rfl rfl (by kernel_rfl) (fun c a w h => hP c a _ _ w h) (y_run (by rfl) (fun W => by go_simp)) rfl ?_
   (try simp only [zP, zN, zA, zB, zC])
   refine pure_ (i := 2) (N := some 127) (v := .bool false) #[true, true, true, false, false, false, false, false, false, false, false, false, false, false, false, false, false, false, false, false, false, false, false, false, false, false, false, false, false, false, false, false, false, false, false, false] rfl rfl (by kernel_rfl) (fun c a w h => hP c a _ _ w h) (y_move rfl (by rfl) (by rfl)) rfl ?_
   (try simp only [zP, zN, zA, zB, zC])
   refine pure_ (i := 3) (N := some 128) (v := .pointer (some ⟨b, 0, none⟩)) #[true, true, true, true, false, false, false, false, false, false, false, false, false, false, false, false, false, false, false, false, false, false, false, false, false, false, false, false, false, false, false, false, false, false, false, false] rfl rfl (by kernel_rfl) (fun c a w h => hP c a _ _ w h) (y_move rfl (by rfl) (by rfl)) rfl ?_
   (try simp only [zP, zN, zA, zB, zC])
   refine pure_ (i := 5) (N := some 130) (v := .int .i64 s2.L.length) #[true, true, true, true, false, true, false, false, false, false, false, false, false, false, false, false, false, false, false, false, false, false, false, false, false, false, false, false, false, false, false, false, false, false, false, false] rfl rfl (by kernel_rfl) (fun c a w h => hP c a _ _ w h) (y_move rfl (by rfl) (by rfl)) rfl ?_
   (try simp only [zP, zN, zA, zB, zC])
   refine one_ (i := 4) (N := some 129) #[true, true, true, true, true, true, false, false, false, false, false, false, false, false, false, false, false, false, false, false, false, false, false, false, false, false, false, false, false, false, false, false, false, false, false, false] rfl rfl (by kernel_rfl) (by simp) (fun K487 hK487 => ?_)
   refine e_call Try.func25 (by kernel_rfl) rfl #[.pointer (some ⟨b, 0, none⟩)] (by rfl) rfl rfl (by first | rfl | (simp only [List.map_toArray, List.map_cons, List.map_nil]; first | done | rfl)) ((by have h := len_all PW.out (by have := hL.out; omega); rw [HL.out] at h; exact h)) ?_
   rintro en w488 ⟨rfl, rfl⟩
   refine ⟨_, rfl, ?_⟩
   refine hK487.out _ _ ⟨Fg4.out, trivial⟩ (fun hS489 => ?_); clear hK487 K487
   (try simp only [zP, zN, zA, zB, zC])
   refine pure_ (i := 6) (N := some 131) (v := .bool false) #[true, true, true, true, true, true, true, false, false, false, false, false, false, false, false, false, false, false, false, false, false, false, false, false, false, false, false, false, false, false, false, false, false, false, false, false] rfl rfl (by kernel_rfl) (fun c a w h => hP c a _ _ w h) (y_run (by rfl) (fun W => by go_simp)) rfl ?_
   (try simp only [zP, zN, zA, zB, zC])
   refine pure_ (i := 7) (N := some 132) (v := .bool false) #[true, true, true, true, true, true, true, true, false, false, false, false, false, false, false, false, false, false, false, false, false, false, false, false, false, false, false, false, false, false, false, false, false, false, false, false] rfl rfl (by kernel_rfl) (fun c a w h => hP c a _ _ w h) (y_pick (t := false) (by rfl) rfl (by rfl) (by rfl)) rfl ?_
   (try simp only [zP, zN, zA, zB, zC])
   refine pure_ (i := 8) (N := some 133) (v := .bool false) #[true, true, true, true, true, true, true, true, true, false, false, false, false, false, false, false, false, false, false, false, false, false, false, false, false, false, false, false, false, false, false, false, false, false, false, false] rfl rfl (by kernel_rfl) (fun c a w h => hP c a _ _ w h) (y_move rfl (by rfl) (by rfl)) rfl ?_
   (try simp only [zP, zN, zA, zB, zC])
   refine pure_ (i := 9) (N := some 134) (v := .pointer (some ⟨b, 0, none⟩)) #[true, true, true, true, true, true, true, true, true, true, false, false, false, false, false, false, false, false, false, false, false, false, false, false, false, false, false, false, false, false, false, false, false, false, false, false] rfl rfl (by kernel_rfl) (fun c a w h => hP c a _ _ w h) (y_move rfl (by rfl) (by rfl)) rfl ?_
   (try simp only [zP, zN, zA, zB, zC])
   refine pure_ (i := 11) (N := some 136) (v := .pointer (some ⟨g4, 2, none⟩)) #[true, true, true, true, true, true, true, true, true, true, false, true, false, false, false, false, false, false, false, false, false, false, false, false, false, false, false, false, false, false, false, false, false, false, false, false] rfl rfl (by kernel_rfl) (fun c a w h => hP c a _ _ w h) (y_run (by rfl) (fun W => by go_simp)) rfl ?_
   (try simp only [zP, zN, zA, zB, zC])
   refine take_ (i := 12) (N := some 137) (v := .bool false) #[true, true, true, true, true, true, true, true, true, true, false, true, true, false, false, false, false, false, false, false, false, false, false, false, false, false, false, false, false, false, false, false, false, false, false, false] rfl rfl (by kernel_rfl) (fun c a w h => hP c a _ _ w h) (y_load (p := ⟨g4, 2, none⟩) rfl (by rfl) (by rfl) (fun W hS => run_load_one ((hS.1.cell 2).trans rfl) Try.underlying4 rfl)) hS489 rfl ?_
   (try simp only [zP, zN, zA, zB, zC])
   refine one_ (i := 10) (N := some 135) #[true, true, true, true, true, true, true, true, true, true, true, true, true, false, false, false, false, false, false, false, false, false, false, false, false, false, false, false, false, false, false, false, false, false, false, false] rfl rfl (by kernel_rfl) (by simp) (fun K490 hK490 => ?_)
   refine e_call Try.func26 (by kernel_rfl) rfl #[.pointer (some ⟨b, 0, none⟩)] (by rfl) rfl rfl (by first | rfl | (simp only [List.map_toArray, List.map_cons, List.map_nil]; first | done | rfl)) ((by have h := over_all PW.out; rw [HO.out] at h; exact h)) ?_
   rintro en w491 ⟨rfl, rfl⟩
   refine ⟨_, rfl, ?_⟩
   refine hK490.out _ _ ⟨Fg4.out, trivial⟩ (fun hS492 => ?_); clear hK490 K490
   (try simp only [zP, zN, zA, zB, zC])
   refine pure_ (i := 13) (N := some 138) (v := .bool false) #[true, true, true, true, true, true, true, true, true, true, true, true, true, true, false, false, false, false, false, false, false, false, false, false, false, false, false, false, false, false, false, false, false, false, false, false] rfl rfl (by kernel_rfl) (fun c a w h => hP c a _ _ w h) (y_run (by rfl) (fun W => by go_simp)) rfl ?_
   (try simp only [zP, zN, zA, zB, zC])
   refine pure_ (i := 14) (N := some 139) (v := .bool false) #[true, true, true, true, true, true, true, true, true, true, true, true, true, true, true, false, false, false, false, false, false, false, false, false, false, false, false, false, false, false, false, false, false, false, false, false] rfl rfl (by kernel_rfl) (fun c a w h => hP c a _ _ w h) (y_pick (t := false) (by rfl) rfl (by rfl) (by rfl)) rfl ?_
   (try simp only [zP, zN, zA, zB, zC])
   refine pure_ (i := 15) (N := some 140) (v := .bool false) #[true, true, true, true, true, true, true, true, true, true, true, true, true, true, true, true, false, false, false, false, false, false, false, false, false, false, false, false, false, false, false, false, false, false, false, false] rfl rfl (by kernel_rfl) (fun c a w h => hP c a _ _ w h) (y_move rfl (by rfl) (by rfl)) rfl ?_
   (try simp only [zP, zN, zA, zB, zC])
   refine pure_ (i := 16) (N := some 141) (v := .pointer (some ⟨b, 0, none⟩)) #[true, true, true, true, true, true, true, true, true, true, true, true, true, true, true, true, true, false, false, false, false, false, false, false, false, false, false, false, false, false, false, false, false, false, false, false] rfl rfl (by kernel_rfl) (fun c a w h => hP c a _ _ w h) (y_move rfl (by rfl) (by rfl)) rfl ?_
   (try simp only [zP, zN, zA, zB, zC])
   refine pure_ (i := 18) (N := some 143) (v := .pointer (some ⟨g4, 3, none⟩)) #[true, true, true, true, true, true, true, true, true, true, true, true, true, true, true, true, true, false, true, false, false, false, false, false, false, false, false, false, false, false, false, false, false, false, false, false] rfl rfl (by kernel_rfl) (fun c a w h => hP c a _ _ w h) (y_run (by rfl) (fun W => by go_simp)) rfl ?_
   (try simp only [zP, zN, zA, zB, zC])
   refine take_ (i := 19) (N := some 144) (v := .bool false) #[true, true, true, true, true, true, true, true, true, true, true, true, true, true, true, true, true, false, true, true, false, false, false, false, false, false, false, false, false, false, false, false, false, false, false, false] rfl rfl (by kernel_rfl) (fun c a w h => hP c a _ _ w h) (y_load (p := ⟨g4, 3, none⟩) rfl (by rfl) (by rfl) (fun W hS => run_load_one ((hS.1.cell 3).trans rfl) Try.underlying4 rfl)) hS492 rfl ?_
   (try simp only [zP, zN, zA, zB, zC])
   refine one_ (i := 17) (N := some 142) #[true, true, true, true, true, true, true, true, true, true, true, true, true, true, true, true, true, true, true, true, false, false, false, false, false, false, false, false, false, false, false, false, false, false, false, false] rfl rfl (by kernel_rfl) (by simp) (fun K493 hK493 => ?_)
   refine e_call Try.func27 (by kernel_rfl) rfl #[.pointer (some ⟨b, 0, none⟩)] (by rfl) rfl rfl (by first | rfl | (simp only [List.map_toArray, List.map_cons, List.map_nil]; first | done | rfl)) ((by have h := done_all PW.out; rw [HD.out] at h; exact h)) ?_
   rintro en w494 ⟨rfl, rfl⟩
   refine ⟨_, rfl, ?_⟩
   refine hK493.out _ _ ⟨Fg4.out, trivial⟩ (fun hS495 => ?_); clear hK493 K493
   (try simp only [zP, zN, zA, zB, zC])
   refine pure_ (i := 20) (N := some 145) (v := .bool false) #[true, true, true, true, true, true, true, true, true, true, true, true, true, true, true, true, true, true, true, true, true, false, false, false, false, false, false, false, false, false, false, false, false, false, false, false] rfl rfl (by kernel_rfl) (fun c a w h => hP c a _ _ w h) (y_run (by rfl) (fun W => by go_simp)) rfl ?_
   (try simp only [zP, zN, zA, zB, zC])
   refine pure_ (i := 21) (N := some 146) (v := .bool false) #[true, true, true, true, true, true, true, true, true, true, true, true, true, true, true, true, true, true, true, true, true, true, false, false, false, false, false, false, false, false, false, false, false, false, false, false] rfl rfl (by kernel_rfl) (fun c a w h => hP c a _ _ w h) (y_pick (t := false) (by rfl) rfl (by rfl) (by rfl)) rfl ?_
   (try simp only [zP, zN, zA, zB, zC])
   refine pure_ (i := 22) (N := some 147) (v := .bool false) #[true, true, true, true, true, true, true, true, true, true, true, true, true, true, true, true, true, true, true, true, true, true, true, false, false, false, false, false, false, false, false, false, false, false, false, false] rfl rfl (by kernel_rfl) (fun c a w h => hP c a _ _ w h) (y_move rfl (by rfl) (by rfl)) rfl ?_
   (try simp only [zP, zN, zA, zB, zC])
   refine pure_ (i := 23) (N := some 148) (v := .pointer (some ⟨b, 0, none⟩)) #[true, true, true, true, true, true, true, true, true, true, true, true, true, true, true, true, true, true, true, true, true, true, true, true, false, false, false, false, false, false, false, false, false, false, false, false] rfl rfl (by kernel_rfl) (fun c a w h => hP c a _ _ w h) (y_move rfl (by rfl) (by rfl)) rfl ?_
   (try simp only [zP, zN, zA, zB, zC])
   refine pure_ (i := 25) (N := some 150) (v := .pointer (some ⟨g4, 2, none⟩)) #[true, true, true, true, true, true, true, true, true, true, true, true, true, true, true, true, true, true, true, true, true, true, true, true, false, true, false, false, false, false, false, false, false, false, false, false] rfl rfl (by kernel_rfl) (fun c a w h => hP c a _ _ w h) (y_run (by rfl) (fun W => by go_simp)) rfl ?_
   (try simp only [zP, zN, zA, zB, zC])
   refine take_ (i := 26) (N := some 151) (v := .bool false) #[true, true, true, true, true, true, true, true, true, true, true, true, true, true, true, true, true, true, true, true, true, true, true, true, false, true, true, false, false, false, false, false, false, false, false, false] rfl rfl (by kernel_rfl) (fun c a w h => hP c a _ _ w h) (y_load (p := ⟨g4, 2, none⟩) rfl (by rfl) (by rfl) (fun W hS => run_load_one ((hS.1.cell 2).trans rfl) Try.underlying4 rfl)) hS495 rfl ?_
   (try simp only [zP, zN, zA, zB, zC])
   refine pure_ (i := 27) (N := some 152) (v := .bool true) #[true, true, true, true, true, true, true, true, true, true, true, true, true, true, true, true, true, true, true, true, true, true, true, true, false, true, true, true, false, false, false, false, false, false, false, false] rfl rfl (by kernel_rfl) (fun c a w h => hP c a _ _ w h) (y_run (by rfl) (fun W => by go_simp)) rfl ?_
   (try simp only [zP, zN, zA, zB, zC])
   refine one_ (i := 24) (N := some 149) #[true, true, true, true, true, true, true, true, true, true, true, true, true, true, true, true, true, true, true, true, true, true, true, true, true, true, true, true, false, false, false, false, false, false, false, false] rfl rfl (by kernel_rfl) (by simp) (fun K496 hK496 => ?_)
   refine e_call Try.func28 (by kernel_rfl) rfl #[.pointer (some ⟨b, 0, none⟩)] (by rfl) rfl rfl (by first | rfl | (simp only [List.map_toArray, List.map_cons, List.map_nil]; first | done | rfl)) ((by have h := room_all PW.out; rw [HR.out] at h; exact h)) ?_
   rintro en w497 ⟨rfl, rfl⟩
   refine ⟨_, rfl, ?_⟩
   refine hK496.out _ _ ⟨Fg4.out, trivial⟩ (fun hS498 => ?_); clear hK496 K496
   (try simp only [zP, zN, zA, zB, zC])
   refine pure_ (i := 28) (N := some 153) (v := .bool true) #[true, true, true, true, true, true, true, true, true, true, true, true, true, true, true, true, true, true, true, true, true, true, true, true, true, true, true, true, true, false, false, false, false, false, false, false] rfl rfl (by kernel_rfl) (fun c a w h => hP c a _ _ w h) (y_move rfl (by rfl) (by rfl)) rfl ?_
   (try simp only [zP, zN, zA, zB, zC])
   refine pure_ (i := 29) (N := some 154) (v := .pointer (some ⟨g4, 0, none⟩)) #[true, true, true, true, true, true, true, true, true, true, true, true, true, true, true, true, true, true, true, true, true, true, true, true, true, true, true, true, true, true, false, false, false, false, false, false] rfl rfl (by kernel_rfl) (fun c a w h => hP c a _ _ w h) (y_run (by rfl) (fun W => by go_simp)) rfl ?_
   (try simp only [zP, zN, zA, zB, zC])
   refine take_ (i := 30) (N := some 155) (v := .slice A5 s2.L.length c5) #[true, true, true, true, true, true, true, true, true, true, true, true, true, true, true, true, true, true, true, true, true, true, true, true, true, true, true, true, true, true, true, false, false, false, false, false] rfl rfl (by kernel_rfl) (fun c a w h => hP c a _ _ w h) (y_load (p := ⟨g4, 0, none⟩) rfl (by rfl) (by rfl) (fun W hS => run_load_one ((hS.1.cell 0).trans rfl) Try.underlying41 rfl)) hS498 rfl ?_
   (try simp only [zP, zN, zA, zB, zC])
   refine pure_ (i := 31) (N := some 156) (v := .int .i64 s2.L.length) #[true, true, true, true, true, true, true, true, true, true, true, true, true, true, true, true, true, true, true, true, true, true, true, true, true, true, true, true, true, true, true, true, false, false, false, false] rfl rfl (by kernel_rfl) (fun c a w h => hP c a _ _ w h) (y_run (by rfl) (fun W => by go_simp)) rfl ?_
   (try simp only [zP, zN, zA, zB, zC])
   refine pure_ (i := 32) (N := some 157) (v := .bool (decide ((s2.L.length : Int) < 16))) #[true, true, true, true, true, true, true, true, true, true, true, true, true, true, true, true, true, true, true, true, true, true, true, true, true, true, true, true, true, true, true, true, true, false, false, false] rfl rfl (by kernel_rfl) (fun c a w h => hP c a _ _ w h) (y_run (by rfl) (fun W => by go_simp)) rfl ?_
   (try simp only [zP, zN, zA, zB, zC])
   refine pure_ (i := 33) (N := some 158) (v := .bool (decide ((s2.L.length : Int) < 16))) #[true, true, true, true, true, true, true, true, true, true, true, true, true, true, true, true, true, true, true, true, true, true, true, true, true, true, true, true, true, true, true, true, true, true, false, false] rfl rfl (by kernel_rfl) (fun c a w h => hP c a _ _ w h) (y_pick (t := true) (by rfl) rfl (by rfl) (by rfl)) rfl ?_
   (try simp only [zP, zN, zA, zB, zC])
   refine pure_ (i := 34) (N := some 159) (v := .bool false) #[true, true, true, true, true, true, true, true, true, true, true, true, true, true, true, true, true, true, true, true, true, true, true, true, true, true, true, true, true, true, true, true, true, true, true, false] rfl rfl (by kernel_rfl) (fun c a w h => hP c a _ _ w h) (y_run (by rfl) (fun W => by go_simp)) rfl ?_
   (try simp only [zP, zN, zA, zB, zC])
   refine pure_ (i := 35) (N := some 160) (v := .bool false) #[true, true, true, true, true, true, true, true, true, true, true, true, true, true, true, true, true, true, true, true, true, true, true, true, true, true, true, true, true, true, true, true, true, true, true, true] rfl rfl (by kernel_rfl) (fun c a w h => hP c a _ _ w h) (y_pick (t := false) (by rfl) rfl (by rfl) (by rfl)) rfl ?_
   (try simp only [zP, zN, zA, zB, zC])
   refine done_ (by kernel_rfl) (th_norm (hK483 _ _ ?_)); clear hK483 K483
   refine wp_cond_false rfl ?_
   refine wp_skip ?_
   refine ib_norm ?_
   refine th_norm (hK26 _ _ ?_); try clear hK26 K26
   refine r_ ?_
   refine pu_ (v := .int .i64 k) (y_move rfl (by rfl) (by rfl)) ?_
   (try simp only [zP, zN, zA, zB, zC])
   refine pu_ (v := .int .i64 (k + 1 : Nat)) (y_run (by rfl) (fun W => by have d := WA.out; go_simp)) ?_
   (try simp only [zP, zN, zA, zB, zC])
   refine pu_ (v := .int .i64 (k + 1 : Nat)) (y_assign rfl (by rfl) (by rfl)) ?_
   (try simp only [zP, zN, zA, zB, zC])
   refine nl_ ?_
   exact th_norm (hK23 (kq - 1) _ _ (by have := hlt.out; have := hk.out; omega) ⟨k + 1, s2, _, .slice A5 s2.L.length c5, fun us_ => (#[.slice (some ⟨ab, off, none⟩) len0 cap0, us 1, .bool false, .pointer (some ⟨b, 0, none⟩), .pointer (some ⟨g4, 0, none⟩), .int .i64 (k + 1 : Nat), us 6, .bool true, us 8, us 9, us 10, us 11, us 12, us 13, us 14, us 15, us 16, us 17, .int .i64 s2.L.length, us 19, us 20, us 21, us 22, us 23, us 24, us 25, us 26, us 27, us 28, us 29, us 30, .int .i64 k, .int .i64 (k + 1 : Nat), us 33, us 34, us 35, us 36, us 37, us 38, us 39, us 40, us 41, us 42, us 43, us 44, us 45, us 46, us 47, us 48, us 49, us 50, us 51, us 52, us 53, us 54, us 55, us 56, us 57, us 58, us 59, us 60, us 61, us 62, us 63, us 64, us 65, us 66, us 67, us 68, us 69, us 70, us 71, us 72, us 73, us 74, us 75, us 76, us 77, us 78, us 79, us 80, us 81, us 82, us 83, us 84, us 85, us 86, us 87, us 88, us 89, us 90, us 91, us 92, us 93, us 94, us 95, us 96, us 97, us 98, us 99, us 100, us 101, us 102, us 103, us 104, us 105, us 106, us 107, us 108, us 109, us 110, us 111, us 112, .pointer (some ⟨g4, 0, none⟩), .slice A5 s2.L.length c5, .int .i64 s2.L.length, .pointer (some ⟨g4, 2, none⟩), .bool false, .bool false, undef, undef, undef, .bool false, us 123, us 124, .bool true, .bool false, .bool false, .pointer (some ⟨b, 0, none⟩), .int .i64 ((s2.L.length : Int)), .int .i64 s2.L.length, .bool false, .bool false, .bool false, .pointer (some ⟨b, 0, none⟩), .bool false, .pointer (some ⟨g4, 2, none⟩), .bool false, .bool false, .bool false, .bool false, .pointer (some ⟨b, 0, none⟩), .bool false, .pointer (some ⟨g4, 3, none⟩), .bool false, .bool false, .bool false, .bool false, .pointer (some ⟨b, 0, none⟩), .bool (decide ((s2.L.length : Int) < 16)), .pointer (some ⟨g4, 2, none⟩), .bool false, .bool true, .bool true, .pointer (some ⟨g4, 0, none⟩), .slice A5 s2.L.length c5, .int .i64 s2.L.length, .bool (decide ((s2.L.length : Int) < 16)), .bool (decide ((s2.L.length : Int) < 16)), .bool false, .bool false, us 161, us 162, us 163, us 164, us 165, us 166, us 167, us 168] : Array Value).getD us_ undef, rfl, C0, PW, RQ, (by rw [HO.out, HD.out]; exact Fg4), Lib.hid ⟨by have := hlt.out; omega, by have := hlt.out; omega, by have := hlt.out; have := hk.out; omega⟩, hL, hxr, hxb, hxg, hgr⟩)
  ·rw [ho, hd] at Fg4
   have HO := Lib.hid ho
   have HD := Lib.hid hd
   clear ho hd
   have HL := Lib.hid (show lenI s2 = (s2.L.length : Int) by unfold lenI; rw [HO.out, HD.out]; rfl)
   have HR := Lib.hid (show roomB s2 = decide ((s2.L.length : Int) < 16) by unfold roomB; rw [HO.out]; simp <;> omega)
   refine s_ (fun K499 hK499 => ?_)
   refine pu_ (v := .pointer (some ⟨g4, 2, none⟩)) (y_run (by rfl) (fun W => by go_simp)) ?_
   (try simp only [zP, zN, zA, zB, zC])
   refine ld_ (v := .bool false) rfl (by rfl) (by rfl) (run_load_one ((Fg4.out.cell 2).trans rfl) Try.underlying4 rfl) ?_
   (try simp only [zP, zN, zA, zB, zC])
   refine pu_ (v := .bool false) (y_move rfl (by rfl) (by rfl)) ?_
   (try simp only [zP, zN, zA, zB, zC])
   refine pu_ (y_off (by rfl)) ?_
   (try simp only [zP, zN, zA, zB, zC])
   refine pu_ (y_off (by rfl)) ?_
   (try simp only [zP, zN, zA, zB, zC])
   refine pu_ (y_off (by rfl)) ?_
   (try simp only [zP, zN, zA, zB, zC])
   refine pu_ (v := .bool false) (y_pick (t := false) (by rfl) rfl (by rfl) (by rfl)) ?_
   (try simp only [zP, zN, zA, zB, zC])
   refine nl_ (hK499 _ _ ?_); clear hK499 K499
   refine wp_cond_false rfl ?_
   refine wp_skip ?_
   refine th_norm (hK481 _ _ ?_); try clear hK481 K481
   refine sq_ (fun K500 hK500 => ?_)
   refine startk_ (S := fun W => Blk W g4 (#[.slice A5 s2.L.length c5, .int .u64 (s2).last, .bool false, .bool true]) 44 ∧ True) (ds := []) #[false, false, false, false, false, false, false, false, false, false, false, false, false, false, false, false, false, false, false, false, false, false, false, false, false, false, false, false, false, false, false, false, false, false, false, false] (by kernel_rfl) rfl rfl (fun W c => ⟨c.blk Fg4.out nin_nil, trivial⟩) (fun w501 C502 hS503 => ?_)
   have C0' := Lib.hid (show Ch [] w w501 from C0.out.trans' C502 (fun x hx => absurd hx (by simp)))
   have PW' := Lib.hid (show WinIs w501 (w.heap.size) b (s2) (v2) from PW.out.ch C502 nin_nil rnin_nil)
   have RQ' := Lib.hid (show RefIs w501 (s2) (.slice A5 s2.L.length c5) from RQ.out.ch C502 xnin_nil)
   have Fg4' := Lib.hid (show Blk w501 g4 (#[.slice A5 s2.L.length c5, .int .u64 (s2).last, .bool false, .bool true]) 44 from C502.blk Fg4.out nin_nil)
   clear C0 PW RQ Fg4
   have C0 := C0'; clear C0'
   have PW := PW'; clear PW'
   have RQ := RQ'; clear RQ'
   have Fg4 := Fg4'; clear Fg4'
   clear C502
   refine pure_ (i := 0) (N := some 125) (v := .bool true) #[true, false, false, false, false, false, false, false, false, false, false, false, false, false, false, false, false, false, false, false, false, false, false, false, false, false, false, false, false, false, false, false, false, false, false, false] rfl rfl (by kernel_rfl) (fun c a w h => hP c a _ _ w h) (y_move rfl (by rfl) (by rfl)) rfl ?_
   (try simp only [zP, zN, zA, zB, zC])
   refine pure_ (i := 1) (N := some 126) (v := .bool false) #[true, true, false, false, false, false, false, false, false, false, false, false, false, false, false, false, false, false, false, false, false, false, false, false, false, false, false, false, false, false, false, false, false, false, false, false] rfl rfl (by kernel_rfl) (fun c a w h => hP c a _ _ w h) (y_run (by rfl) (fun W => by go_simp)) rfl ?_
   (try simp only [zP, zN, zA, zB, zC])
   refine pure_ (i := 2) (N := some 127) (v := .bool false) #[true, true, true, false, false, false, false, false, false, false, false, false, false, false, false, false, false, false, false, false, false, false, false, false, false, false, false, false, false, false, false, false, false, false, false, false] rfl rfl (by kernel_rfl) (fun c a w h => hP c a _ _ w h) (y_move rfl (by rfl) (by rfl)) rfl ?_
   (try simp only [zP, zN, zA, zB, zC])
   refine pure_ (i := 3) (N := some 128) (v := .pointer (some ⟨b, 0, none⟩)) #[true, true, true, true, false, false, false, false, false, false, false, false, false, false, false, false, false, false, false, false, false, false, false, false, false, false, false, false, false, false, false, false, false, false, false, false] rfl rfl (by kernel_rfl) (fun c a w h => hP c a _ _ w h) (y_move rfl (by rfl) (by rfl)) rfl ?_
   (try simp only [zP, zN, zA, zB, zC])
   refine pure_ (i := 5) (N := some 130) (v := .int .i64 s2.L.length) #[true, true, true, true, false, true, false, false, false, false, false, false, false, false, false, false, false, false, false, false, false, false, false, false, false, false, false, false, false, false, false, false, false, false, false, false] rfl rfl (by kernel_rfl) (fun c a w h => hP c a _ _ w h) (y_move rfl (by rfl) (by rfl)) rfl ?_
   (try simp only [zP, zN, zA, zB, zC])
   refine one_ (i := 4) (N := some 129) #[true, true, true, true, true, true, false, false, false, false, false, false, false, false, false, false, false, false, false, false, false, false, false, false, false, false, false, false, false, false, false, false, false, false, false, false] rfl rfl (by kernel_rfl) (by simp) (fun K504 hK504 => ?_)
   refine e_call Try.func25 (by kernel_rfl) rfl #[.pointer (some ⟨b, 0, none⟩)] (by rfl) rfl rfl (by first | rfl | (simp only [List.map_toArray, List.map_cons, List.map_nil]; first | done | rfl)) ((by have h := len_all PW.out (by have := hL.out; omega); rw [HL.out] at h; exact h)) ?_
   rintro en w505 ⟨rfl, rfl⟩
   refine ⟨_, rfl, ?_⟩
   refine hK504.out _ _ ⟨Fg4.out, trivial⟩ (fun hS506 => ?_); clear hK504 K504
   (try simp only [zP, zN, zA, zB, zC])
   refine pure_ (i := 6) (N := some 131) (v := .bool false) #[true, true, true, true, true, true, true, false, false, false, false, false, false, false, false, false, false, false, false, false, false, false, false, false, false, false, false, false, false, false, false, false, false, false, false, false] rfl rfl (by kernel_rfl) (fun c a w h => hP c a _ _ w h) (y_run (by rfl) (fun W => by go_simp)) rfl ?_
   (try simp only [zP, zN, zA, zB, zC])
   refine pure_ (i := 7) (N := some 132) (v := .bool false) #[true, true, true, true, true, true, true, true, false, false, false, false, false, false, false, false, false, false, false, false, false, false, false, false, false, false, false, false, false, false, false, false, false, false, false, false] rfl rfl (by kernel_rfl) (fun c a w h => hP c a _ _ w h) (y_pick (t := false) (by rfl) rfl (by rfl) (by rfl)) rfl ?_
   (try simp only [zP, zN, zA, zB, zC])
   refine pure_ (i := 8) (N := some 133) (v := .bool false) #[true, true, true, true, true, true, true, true, true, false, false, false, false, false, false, false, false, false, false, false, false, false, false, false, false, false, false, false, false, false, false, false, false, false, false, false] rfl rfl (by kernel_rfl) (fun c a w h => hP c a _ _ w h) (y_move rfl (by rfl) (by rfl)) rfl ?_
   (try simp only [zP, zN, zA, zB, zC])
   refine pure_ (i := 9) (N := some 134) (v := .pointer (some ⟨b, 0, none⟩)) #[true, true, true, true, true, true, true, true, true, true, false, false, false, false, false, false, false, false, false, false, false, false, false, false, false, false, false, false, false, false, false, false, false, false, false, false] rfl rfl (by kernel_rfl) (fun c a w h => hP c a _ _ w h) (y_move rfl (by rfl) (by rfl)) rfl ?_
   (try simp only [zP, zN, zA, zB, zC])
   refine pure_ (i := 11) (N := some 136) (v := .pointer (some ⟨g4, 2, none⟩)) #[true, true, true, true, true, true, true, true, true, true, false, true, false, false, false, false, false, false, false, false, false, false, false, false, false, false, false, false, false, false, false, false, false, false, false, false] rfl rfl (by kernel_rfl) (fun c a w h => hP c a _ _ w h) (y_run (by rfl) (fun W => by go_simp)) rfl ?_
   (try simp only [zP, zN, zA, zB, zC])
   refine take_ (i := 12) (N := some 137) (v := .bool false) #[true, true, true, true, true, true, true, true, true, true, false, true, true, false, false, false, false, false, false, false, false, false, false, false, false, false, false, false, false, false, false, false, false, false, false, false] rfl rfl (by kernel_rfl) (fun c a w h => hP c a _ _ w h) (y_load (p := ⟨g4, 2, none⟩) rfl (by rfl) (by rfl) (fun W hS => run_load_one ((hS.1.cell 2).trans rfl) Try.underlying4 rfl)) hS506 rfl ?_
   (try simp only [zP, zN, zA, zB, zC])
   refine one_ (i := 10) (N := some 135) #[true, true, true, true, true, true, true, true, true, true, true, true, true, false, false, false, false, false, false, false, false, false, false, false, false, false, false, false, false, false, false, false, false, false, false, false] rfl rfl (by kernel_rfl) (by simp) (fun K507 hK507 => ?_)
   refine e_call Try.func26 (by kernel_rfl) rfl #[.pointer (some ⟨b, 0, none⟩)] (by rfl) rfl rfl (by first | rfl | (simp only [List.map_toArray, List.map_cons, List.map_nil]; first | done | rfl)) ((by have h := over_all PW.out; rw [HO.out] at h; exact h)) ?_
   rintro en w508 ⟨rfl, rfl⟩
   refine ⟨_, rfl, ?_⟩
   refine hK507.out _ _ ⟨Fg4.out, trivial⟩ (fun hS509 => ?_); clear hK507 K507
   (try simp only [zP, zN, zA, zB, zC])
   refine pure_ (i := 13) (N := some 138) (v := .bool false) #[true, true, true, true, true, true, true, true, true, true, true, true, true, true, false, false, false, false, false, false, false, false, false, false, false, false, false, false, false, false, false, false, false, false, false, false] rfl rfl (by kernel_rfl) (fun c a w h => hP c a _ _ w h) (y_run (by rfl) (fun W => by go_simp)) rfl ?_
   (try simp only [zP, zN, zA, zB, zC])
   refine pure_ (i := 14) (N := some 139) (v := .bool false) #[true, true, true, true, true, true, true, true, true, true, true, true, true, true, true, false, false, false, false, false, false, false, false, false, false, false, false, false, false, false, false, false, false, false, false, false] rfl rfl (by kernel_rfl) (fun c a w h => hP c a _ _ w h) (y_pick (t := false) (by rfl) rfl (by rfl) (by rfl)) rfl ?_
   (try simp only [zP, zN, zA, zB, zC])
   refine pure_ (i := 15) (N := some 140) (v := .bool false) #[true, true, true, true, true, true, true, true, true, true, true, true, true, true, true, true, false, false, false, false, false, false, false, false, false, false, false, false, false, false, false, false, false, false, false, false] rfl rfl (by kernel_rfl) (fun c a w h => hP c a _ _ w h) (y_move rfl (by rfl) (by rfl)) rfl ?_
   (try simp only [zP, zN, zA, zB, zC])
   refine pure_ (i := 16) (N := some 141) (v := .pointer (some ⟨b, 0, none⟩)) #[true, true, true, true, true, true, true, true, true, true, true, true, true, true, true, true, true, false, false, false, false, false, false, false, false, false, false, false, false, false, false, false, false, false, false, false] rfl rfl (by kernel_rfl) (fun c a w h => hP c a _ _ w h) (y_move rfl (by rfl) (by rfl)) rfl ?_
   (try simp only [zP, zN, zA, zB, zC])
   refine pure_ (i := 18) (N := some 143) (v := .pointer (some ⟨g4, 3, none⟩)) #[true, true, true, true, true, true, true, true, true, true, true, true, true, true, true, true, true, false, true, false, false, false, false, false, false, false, false, false, false, false, false, false, false, false, false, false] rfl rfl (by kernel_rfl) (fun c a w h => hP c a _ _ w h) (y_run (by rfl) (fun W => by go_simp)) rfl ?_
   (try simp only [zP, zN, zA, zB, zC])
   refine take_ (i := 19) (N := some 144) (v := .bool true) #[true, true, true, true, true, true, true, true, true, true, true, true, true, true, true, true, true, false, true, true, false, false, false, false, false, false, false, false, false, false, false, false, false, false, false, false] rfl rfl (by kernel_rfl) (fun c a w h => hP c a _ _ w h) (y_load (p := ⟨g4, 3, none⟩) rfl (by rfl) (by rfl) (fun W hS => run_load_one ((hS.1.cell 3).trans rfl) Try.underlying4 rfl)) hS509 rfl ?_
   (try simp only [zP, zN, zA, zB, zC])
   refine one_ (i := 17) (N := some 142) #[true, true, true, true, true, true, true, true, true, true, true, true, true, true, true, true, true, true, true, true, false, false, false, false, false, false, false, false, false, false, false, false, false, false, false, false] rfl rfl (by kernel_rfl) (by simp) (fun K510 hK510 => ?_)
   refine e_call Try.func27 (by kernel_rfl) rfl #[.pointer (some ⟨b, 0, none⟩)] (by rfl) rfl rfl (by first | rfl | (simp only [List.map_toArray, List.map_cons, List.map_nil]; first | done | rfl)) ((by have h := done_all PW.out; rw [HD.out] at h; exact h)) ?_
   rintro en w511 ⟨rfl, rfl⟩
   refine ⟨_, rfl, ?_⟩
   refine hK510.out _ _ ⟨Fg4.out, trivial⟩ (fun hS512 => ?_); clear hK510 K510
   (try simp only [zP, zN, zA, zB, zC])
   refine pure_ (i := 20) (N := some 145) (v := .bool false) #[true, true, true, true, true, true, true, true, true, true, true, true, true, true, true, true, true, true, true, true, true, false, false, false, false, false, false, false, false, false, false, false, false, false, false, false] rfl rfl (by kernel_rfl) (fun c a w h => hP c a _ _ w h) (y_run (by rfl) (fun W => by go_simp)) rfl ?_
   (try simp only [zP, zN, zA, zB, zC])
   refine pure_ (i := 21) (N := some 146) (v := .bool false) #[true, true, true, true, true, true, true, true, true, true, true, true, true, true, true, true, true, true, true, true, true, true, false, false, false, false, false, false, false, false, false, false, false, false, false, false] rfl rfl (by kernel_rfl) (fun c a w h => hP c a _ _ w h) (y_pick (t := false) (by rfl) rfl (by rfl) (by rfl)) rfl ?_
   (try simp only [zP, zN, zA, zB, zC])
   refine pure_ (i := 22) (N := some 147) (v := .bool false) #[true, true, true, true, true, true, true, true, true, true, true, true, true, true, true, true, true, true, true, true, true, true, true, false, false, false, false, false, false, false, false, false, false, false, false, false] rfl rfl (by kernel_rfl) (fun c a w h => hP c a _ _ w h) (y_move rfl (by rfl) (by rfl)) rfl ?_
   (try simp only [zP, zN, zA, zB, zC])
   refine pure_ (i := 23) (N := some 148) (v := .pointer (some ⟨b, 0, none⟩)) #[true, true, true, true, true, true, true, true, true, true, true, true, true, true, true, true, true, true, true, true, true, true, true, true, false, false, false, false, false, false, false, false, false, false, false, false] rfl rfl (by kernel_rfl) (fun c a w h => hP c a _ _ w h) (y_move rfl (by rfl) (by rfl)) rfl ?_
   (try simp only [zP, zN, zA, zB, zC])
   refine pure_ (i := 25) (N := some 150) (v := .pointer (some ⟨g4, 2, none⟩)) #[true, true, true, true, true, true, true, true, true, true, true, true, true, true, true, true, true, true, true, true, true, true, true, true, false, true, false, false, false, false, false, false, false, false, false, false] rfl rfl (by kernel_rfl) (fun c a w h => hP c a _ _ w h) (y_run (by rfl) (fun W => by go_simp)) rfl ?_
   (try simp only [zP, zN, zA, zB, zC])
   refine take_ (i := 26) (N := some 151) (v := .bool false) #[true, true, true, true, true, true, true, true, true, true, true, true, true, true, true, true, true, true, true, true, true, true, true, true, false, true, true, false, false, false, false, false, false, false, false, false] rfl rfl (by kernel_rfl) (fun c a w h => hP c a _ _ w h) (y_load (p := ⟨g4, 2, none⟩) rfl (by rfl) (by rfl) (fun W hS => run_load_one ((hS.1.cell 2).trans rfl) Try.underlying4 rfl)) hS512 rfl ?_
   (try simp only [zP, zN, zA, zB, zC])
   refine pure_ (i := 27) (N := some 152) (v := .bool true) #[true, true, true, true, true, true, true, true, true, true, true, true, true, true, true, true, true, true, true, true, true, true, true, true, false, true, true, true, false, false, false, false, false, false, false, false] rfl rfl (by kernel_rfl) (fun c a w h => hP c a _ _ w h) (y_run (by rfl) (fun W => by go_simp)) rfl ?_
   (try simp only [zP, zN, zA, zB, zC])
   refine one_ (i := 24) (N := some 149) #[true, true, true, true, true, true, true, true, true, true, true, true, true, true, true, true, true, true, true, true, true, true, true, true, true, true, true, true, false, false, false, false, false, false, false, false] rfl rfl (by kernel_rfl) (by simp) (fun K513 hK513 => ?_)
   refine e_call Try.func28 (by kernel_rfl) rfl #[.pointer (some ⟨b, 0, none⟩)] (by rfl) rfl rfl (by first | rfl | (simp only [List.map_toArray, List.map_cons, List.map_nil]; first | done | rfl)) ((by have h := room_all PW.out; rw [HR.out] at h; exact h)) ?_
   rintro en w514 ⟨rfl, rfl⟩
   refine ⟨_, rfl, ?_⟩
   refine hK513.out _ _ ⟨Fg4.out, trivial⟩ (fun hS515 => ?_); clear hK513 K513
   (try simp only [zP, zN, zA, zB, zC])
   refine pure_ (i := 28) (N := some 153) (v := .bool true) #[true, true, true, true, true, true, true, true, true, true, true, true, true, true, true, true, true, true, true, true, true, true, true, true, true, true, true, true, true, false, false, false, false, false, false, false] rfl rfl (by kernel_rfl) (fun c a w h => hP c a _ _ w h) (y_move rfl (by rfl) (by rfl)) rfl ?_
   (try simp only [zP, zN, zA, zB, zC])
   refine pure_ (i := 29) (N := some 154) (v := .pointer (some ⟨g4, 0, none⟩)) #[true, true, true, true, true, true, true, true, true, true, true, true, true, true, true, true, true, true, true, true, true, true, true, true, true, true, true, true, true, true, false, false, false, false, false, false] rfl rfl (by kernel_rfl) (fun c a w h => hP c a _ _ w h) (y_run (by rfl) (fun W => by go_simp)) rfl ?_
   (try simp only [zP, zN, zA, zB, zC])
   refine take_ (i := 30) (N := some 155) (v := .slice A5 s2.L.length c5) #[true, true, true, true, true, true, true, true, true, true, true, true, true, true, true, true, true, true, true, true, true, true, true, true, true, true, true, true, true, true, true, false, false, false, false, false] rfl rfl (by kernel_rfl) (fun c a w h => hP c a _ _ w h) (y_load (p := ⟨g4, 0, none⟩) rfl (by rfl) (by rfl) (fun W hS => run_load_one ((hS.1.cell 0).trans rfl) Try.underlying41 rfl)) hS515 rfl ?_
   (try simp only [zP, zN, zA, zB, zC])
   refine pure_ (i := 31) (N := some 156) (v := .int .i64 s2.L.length) #[true, true, true, true, true, true, true, true, true, true, true, true, true, true, true, true, true, true, true, true, true, true, true, true, true, true, true, true, true, true, true, true, false, false, false, false] rfl rfl (by kernel_rfl) (fun c a w h => hP c a _ _ w h) (y_run (by rfl) (fun W => by go_simp)) rfl ?_
   (try simp only [zP, zN, zA, zB, zC])
   refine pure_ (i := 32) (N := some 157) (v := .bool (decide ((s2.L.length : Int) < 16))) #[true, true, true, true, true, true, true, true, true, true, true, true, true, true, true, true, true, true, true, true, true, true, true, true, true, true, true, true, true, true, true, true, true, false, false, false] rfl rfl (by kernel_rfl) (fun c a w h => hP c a _ _ w h) (y_run (by rfl) (fun W => by go_simp)) rfl ?_
   (try simp only [zP, zN, zA, zB, zC])
   refine pure_ (i := 33) (N := some 158) (v := .bool (decide ((s2.L.length : Int) < 16))) #[true, true, true, true, true, true, true, true, true, true, true, true, true, true, true, true, true, true, true, true, true, true, true, true, true, true, true, true, true, true, true, true, true, true, false, false] rfl rfl (by kernel_rfl) (fun c a w h => hP c a _ _ w h) (y_pick (t := true) (by rfl) rfl (by rfl) (by rfl)) rfl ?_
   (try simp only [zP, zN, zA, zB, zC])
   refine pure_ (i := 34) (N := some 159) (v := .bool false) #[true, true, true, true, true, true, true, true, true, true, true, true, true, true, true, true, true, true, true, true, true, true, true, true, true, true, true, true, true, true, true, true, true, true, true, false] rfl rfl (by kernel_rfl) (fun c a w h => hP c a _ _ w h) (y_run (by rfl) (fun W => by go_simp)) rfl ?_
   (try simp only [zP, zN, zA, zB, zC])
   refine pure_ (i := 35) (N := some 160) (v := .bool false) #[true, true, true, true, true, true, true, true, true, true, true, true, true, true, true, true, true, true, true, true, true, true, true, true, true, true, true, true, true, true, true, true, true, true, true, true] rfl rfl (by kernel_rfl) (fun c a w h => hP c a _ _ w h) (y_pick (t := false) (by rfl) rfl (by rfl) (by rfl)) rfl ?_
   (try simp only [zP, zN, zA, zB, zC])
   refine done_ (by kernel_rfl) (th_norm (hK500 _ _ ?_)); clear hK500 K500
   refine wp_cond_false rfl ?_
   refine wp_skip ?_
   refine ib_norm ?_
   refine th_norm (hK26 _ _ ?_); try clear hK26 K26
   refine r_ ?_
   refine pu_ (v := .int .i64 k) (y_move rfl (by rfl) (by rfl)) ?_
   (try simp only [zP, zN, zA, zB, zC])
   refine pu_ (v := .int .i64 (k + 1 : Nat)) (y_run (by rfl) (fun W => by have d := WA.out; go_simp)) ?_
   (try simp only [zP, zN, zA, zB, zC])
   refine pu_ (v := .int .i64 (k + 1 : Nat)) (y_assign rfl (by rfl) (by rfl)) ?_
   (try simp only [zP, zN, zA, zB, zC])
   refine nl_ ?_
   exact th_norm (hK23 (kq - 1) _ _ (by have := hlt.out; have := hk.out; omega) ⟨k + 1, s2, _, .slice A5 s2.L.length c5, fun us_ => (#[.slice (some ⟨ab, off, none⟩) len0 cap0, us 1, .bool false, .pointer (some ⟨b, 0, none⟩), .pointer (some ⟨g4, 0, none⟩), .int .i64 (k + 1 : Nat), us 6, .bool true, us 8, us 9, us 10, us 11, us 12, us 13, us 14, us 15, us 16, us 17, .int .i64 s2.L.length, us 19, us 20, us 21, us 22, us 23, us 24, us 25, us 26, us 27, us 28, us 29, us 30, .int .i64 k, .int .i64 (k + 1 : Nat), us 33, us 34, us 35, us 36, us 37, us 38, us 39, us 40, us 41, us 42, us 43, us 44, us 45, us 46, us 47, us 48, us 49, us 50, us 51, us 52, us 53, us 54, us 55, us 56, us 57, us 58, us 59, us 60, us 61, us 62, us 63, us 64, us 65, us 66, us 67, us 68, us 69, us 70, us 71, us 72, us 73, us 74, us 75, us 76, us 77, us 78, us 79, us 80, us 81, us 82, us 83, us 84, us 85, us 86, us 87, us 88, us 89, us 90, us 91, us 92, us 93, us 94, us 95, us 96, us 97, us 98, us 99, us 100, us 101, us 102, us 103, us 104, us 105, us 106, us 107, us 108, us 109, us 110, us 111, us 112, .pointer (some ⟨g4, 0, none⟩), .slice A5 s2.L.length c5, .int .i64 s2.L.length, .pointer (some ⟨g4, 2, none⟩), .bool false, .bool false, undef, undef, undef, .bool false, us 123, us 124, .bool true, .bool false, .bool false, .pointer (some ⟨b, 0, none⟩), .int .i64 ((s2.L.length : Int)), .int .i64 s2.L.length, .bool false, .bool false, .bool false, .pointer (some ⟨b, 0, none⟩), .bool false, .pointer (some ⟨g4, 2, none⟩), .bool false, .bool false, .bool false, .bool false, .pointer (some ⟨b, 0, none⟩), .bool true, .pointer (some ⟨g4, 3, none⟩), .bool true, .bool false, .bool false, .bool false, .pointer (some ⟨b, 0, none⟩), .bool (decide ((s2.L.length : Int) < 16)), .pointer (some ⟨g4, 2, none⟩), .bool false, .bool true, .bool true, .pointer (some ⟨g4, 0, none⟩), .slice A5 s2.L.length c5, .int .i64 s2.L.length, .bool (decide ((s2.L.length : Int) < 16)), .bool (decide ((s2.L.length : Int) < 16)), .bool false, .bool false, us 161, us 162, us 163, us 164, us 165, us 166, us 167, us 168] : Array Value).getD us_ undef, rfl, C0, PW, RQ, (by rw [HO.out, HD.out]; exact Fg4), Lib.hid ⟨by have := hlt.out; omega, by have := hlt.out; omega, by have := hlt.out; have := hk.out; omega⟩, hL, hxr, hxb, hxg, hgr⟩)
  ·rw [ho, hd] at Fg4
   have HO := Lib.hid ho
   have HD := Lib.hid hd
   clear ho hd
   have HL := Lib.hid (show lenI s2 = (s2.L.length : Int) + 1 by unfold lenI; rw [HO.out, HD.out]; rfl)
   have HR := Lib.hid (show roomB s2 = false by unfold roomB; rw [HO.out]; simp <;> omega)
   refine s_ (fun K516 hK516 => ?_)
   refine pu_ (v := .pointer (some ⟨g4, 2, none⟩)) (y_run (by rfl) (fun W => by go_simp)) ?_
   (try simp only [zP, zN, zA, zB, zC])
   refine ld_ (v := .bool true) rfl (by rfl) (by rfl) (run_load_one ((Fg4.out.cell 2).trans rfl) Try.underlying4 rfl) ?_
   (try simp only [zP, zN, zA, zB, zC])
   refine pu_ (v := .bool true) (y_move rfl (by rfl) (by rfl)) ?_
   (try simp only [zP, zN, zA, zB, zC])
   refine pu_ (v := .pointer (some ⟨g4, 3, none⟩)) (y_run (by rfl) (fun W => by go_simp)) ?_
   (try simp only [zP, zN, zA, zB, zC])
   refine ld_ (v := .bool false) rfl (by rfl) (by rfl) (run_load_one ((Fg4.out.cell 3).trans rfl) Try.underlying4 rfl) ?_
   (try simp only [zP, zN, zA, zB, zC])
   refine pu_ (v := .bool true) (y_run (by rfl) (fun W => by go_simp)) ?_
   (try simp only [zP, zN, zA, zB, zC])
   refine pu_ (v := .bool true) (y_pick (t := true) (by rfl) rfl (by rfl) (by rfl)) ?_
   (try simp only [zP, zN, zA, zB, zC])
   refine nl_ (hK516 _ _ ?_); clear hK516 K516
   refine wp_cond_true rfl ?_
   refine r_ ?_
   refine pu_ (v := .int .i64 s2.L.length) (y_move rfl (by rfl) (by rfl)) ?_
   (try simp only [zP, zN, zA, zB, zC])
   refine pu_ (v := .int .i64 ((s2.L.length : Int) + 1)) (y_run (by rfl) (fun W => by go_simp; exact wr64 (by have := hL.out; omega))) ?_
   (try simp only [zP, zN, zA, zB, zC])
   refine pu_ (v := .int .i64 ((s2.L.length : Int) + 1)) (y_assign rfl (by rfl) (by rfl)) ?_
   (try simp only [zP, zN, zA, zB, zC])
   refine nl_ ?_
   refine th_norm (hK481 _ _ ?_); try clear hK481 K481
   refine sq_ (fun K517 hK517 => ?_)
   refine startk_ (S := fun W => Blk W g4 (#[.slice A5 s2.L.length c5, .int .u64 (s2).last, .bool true, .bool false]) 44 ∧ True) (ds := []) #[false, false, false, false, false, false, false, false, false, false, false, false, false, false, false, false, false, false, false, false, false, false, false, false, false, false, false, false, false, false, false, false, false, false, false, false] (by kernel_rfl) rfl rfl (fun W c => ⟨c.blk Fg4.out nin_nil, trivial⟩) (fun w518 C519 hS520 => ?_)
   have C0' := Lib.hid (show Ch [] w w518 from C0.out.trans' C519 (fun x hx => absurd hx (by simp)))
   have PW' := Lib.hid (show WinIs w518 (w.heap.size) b (s2) (v2) from PW.out.ch C519 nin_nil rnin_nil)
   have RQ' := Lib.hid (show RefIs w518 (s2) (.slice A5 s2.L.length c5) from RQ.out.ch C519 xnin_nil)
   have Fg4' := Lib.hid (show Blk w518 g4 (#[.slice A5 s2.L.length c5, .int .u64 (s2).last, .bool true, .bool false]) 44 from C519.blk Fg4.out nin_nil)
   clear C0 PW RQ Fg4
   have C0 := C0'; clear C0'
   have PW := PW'; clear PW'
   have RQ := RQ'; clear RQ'
   have Fg4 := Fg4'; clear Fg4'
   clear C519
   refine pure_ (i := 0) (N := some 125) (v := .bool true) #[true, false, false, false, false, false, false, false, false, false, false, false, false, false, false, false, false, false, false, false, false, false, false, false, false, false, false, false, false, false, false, false, false, false, false, false] rfl rfl (by kernel_rfl) (fun c a w h => hP c a _ _ w h) (y_move rfl (by rfl) (by rfl)) rfl ?_
   (try simp only [zP, zN, zA, zB, zC])
   refine pure_ (i := 1) (N := some 126) (v := .bool false) #[true, true, false, false, false, false, false, false, false, false, false, false, false, false, false, false, false, false, false, false, false, false, false, false, false, false, false, false, false, false, false, false, false, false, false, false] rfl rfl (by kernel_rfl) (fun c a w h => hP c a _ _ w h) (y_run (by rfl) (fun W => by go_simp)) rfl ?_
   (try simp only [zP, zN, zA, zB, zC])
   refine pure_ (i := 2) (N := some 127) (v := .bool false) #[true, true, true, false, false, false, false, false, false, false, false, false, false, false, false, false, false, false, false, false, false, false, false, false, false, false, false, false, false, false, false, false, false, false, false, false] rfl rfl (by kernel_rfl) (fun c a w h => hP c a _ _ w h) (y_move rfl (by rfl) (by rfl)) rfl ?_
   (try simp only [zP, zN, zA, zB, zC])
   refine pure_ (i := 3) (N := some 128) (v := .pointer (some ⟨b, 0, none⟩)) #[true, true, true, true, false, false, false, false, false, false, false, false, false, false, false, false, false, false, false, false, false, false, false, false, false, false, false, false, false, false, false, false, false, false, false, false] rfl rfl (by kernel_rfl) (fun c a w h => hP c a _ _ w h) (y_move rfl (by rfl) (by rfl)) rfl ?_
   (try simp only [zP, zN, zA, zB, zC])
   refine pure_ (i := 5) (N := some 130) (v := .int .i64 ((s2.L.length : Int) + 1)) #[true, true, true, true, false, true, false, false, false, false, false, false, false, false, false, false, false, false, false, false, false, false, false, false, false, false, false, false, false, false, false, false, false, false, false, false] rfl rfl (by kernel_rfl) (fun c a w h => hP c a _ _ w h) (y_move rfl (by rfl) (by rfl)) rfl ?_
   (try simp only [zP, zN, zA, zB, zC])
   refine one_ (i := 4) (N := some 129) #[true, true, true, true, true, true, false, false, false, false, false, false, false, false, false, false, false, false, false, false, false, false, false, false, false, false, false, false, false, false, false, false, false, false, false, false] rfl rfl (by kernel_rfl) (by simp) (fun K521 hK521 => ?_)
   refine e_call Try.func25 (by kernel_rfl) rfl #[.pointer (some ⟨b, 0, none⟩)] (by rfl) rfl rfl (by first | rfl | (simp only [List.map_toArray, List.map_cons, List.map_nil]; first | done | rfl)) ((by have h := len_all PW.out (by have := hL.out; omega); rw [HL.out] at h; exact h)) ?_
   rintro en w522 ⟨rfl, rfl⟩
   refine ⟨_, rfl, ?_⟩
   refine hK521.out _ _ ⟨Fg4.out, trivial⟩ (fun hS523 => ?_); clear hK521 K521
   (try simp only [zP, zN, zA, zB, zC])
   refine pure_ (i := 6) (N := some 131) (v := .bool false) #[true, true, true, true, true, true, true, false, false, false, false, false, false, false, false, false, false, false, false, false, false, false, false, false, false, false, false, false, false, false, false, false, false, false, false, false] rfl rfl (by kernel_rfl) (fun c a w h => hP c a _ _ w h) (y_run (by rfl) (fun W => by go_simp)) rfl ?_
   (try simp only [zP, zN, zA, zB, zC])
   refine pure_ (i := 7) (N := some 132) (v := .bool false) #[true, true, true, true, true, true, true, true, false, false, false, false, false, false, false, false, false, false, false, false, false, false, false, false, false, false, false, false, false, false, false, false, false, false, false, false] rfl rfl (by kernel_rfl) (fun c a w h => hP c a _ _ w h) (y_pick (t := false) (by rfl) rfl (by rfl) (by rfl)) rfl ?_
   (try simp only [zP, zN, zA, zB, zC])
   refine pure_ (i := 8) (N := some 133) (v := .bool false) #[true, true, true, true, true, true, true, true, true, false, false, false, false, false, false, false, false, false, false, false, false, false, false, false, false, false, false, false, false, false, false, false, false, false, false, false] rfl rfl (by kernel_rfl) (fun c a w h => hP c a _ _ w h) (y_move rfl (by rfl) (by rfl)) rfl ?_
   (try simp only [zP, zN, zA, zB, zC])
   refine pure_ (i := 9) (N := some 134) (v := .pointer (some ⟨b, 0, none⟩)) #[true, true, true, true, true, true, true, true, true, true, false, false, false, false, false, false, false, false, false, false, false, false, false, false, false, false, false, false, false, false, false, false, false, false, false, false] rfl rfl (by kernel_rfl) (fun c a w h => hP c a _ _ w h) (y_move rfl (by rfl) (by rfl)) rfl ?_
   (try simp only [zP, zN, zA, zB, zC])
   refine pure_ (i := 11) (N := some 136) (v := .pointer (some ⟨g4, 2, none⟩)) #[true, true, true, true, true, true, true, true, true, true, false, true, false, false, false, false, false, false, false, false, false, false, false, false, false, false, false, false, false, false, false, false, false, false, false, false] rfl rfl (by kernel_rfl) (fun c a w h => hP c a _ _ w h) (y_run (by rfl) (fun W => by go_simp)) rfl ?_
   (try simp only [zP, zN, zA, zB, zC])
   refine take_ (i := 12) (N := some 137) (v := .bool true) #[true, true, true, true, true, true, true, true, true, true, false, true, true, false, false, false, false, false, false, false, false, false, false, false, false, false, false, false, false, false, false, false, false, false, false, false] rfl rfl (by kernel_rfl) (fun c a w h => hP c a _ _ w h) (y_load (p := ⟨g4, 2, none⟩) rfl (by rfl) (by rfl) (fun W hS => run_load_one ((hS.1.cell 2).trans rfl) Try.underlying4 rfl)) hS523 rfl ?_
   (try simp only [zP, zN, zA, zB, zC])
   refine one_ (i := 10) (N := some 135) #[true, true, true, true, true, true, true, true, true, true, true, true, true, false, false, false, false, false, false, false, false, false, false, false, false, false, false, false, false, false, false, false, false, false, false, false] rfl rfl (by kernel_rfl) (by simp) (fun K524 hK524 => ?_)
   refine e_call Try.func26 (by kernel_rfl) rfl #[.pointer (some ⟨b, 0, none⟩)] (by rfl) rfl rfl (by first | rfl | (simp only [List.map_toArray, List.map_cons, List.map_nil]; first | done | rfl)) ((by have h := over_all PW.out; rw [HO.out] at h; exact h)) ?_
   rintro en w525 ⟨rfl, rfl⟩
   refine ⟨_, rfl, ?_⟩
   refine hK524.out _ _ ⟨Fg4.out, trivial⟩ (fun hS526 => ?_); clear hK524 K524
   (try simp only [zP, zN, zA, zB, zC])
   refine pure_ (i := 13) (N := some 138) (v := .bool false) #[true, true, true, true, true, true, true, true, true, true, true, true, true, true, false, false, false, false, false, false, false, false, false, false, false, false, false, false, false, false, false, false, false, false, false, false] rfl rfl (by kernel_rfl) (fun c a w h => hP c a _ _ w h) (y_run (by rfl) (fun W => by go_simp)) rfl ?_
   (try simp only [zP, zN, zA, zB, zC])
   refine pure_ (i := 14) (N := some 139) (v := .bool false) #[true, true, true, true, true, true, true, true, true, true, true, true, true, true, true, false, false, false, false, false, false, false, false, false, false, false, false, false, false, false, false, false, false, false, false, false] rfl rfl (by kernel_rfl) (fun c a w h => hP c a _ _ w h) (y_pick (t := false) (by rfl) rfl (by rfl) (by rfl)) rfl ?_
   (try simp only [zP, zN, zA, zB, zC])
   refine pure_ (i := 15) (N := some 140) (v := .bool false) #[true, true, true, true, true, true, true, true, true, true, true, true, true, true, true, true, false, false, false, false, false, false, false, false, false, false, false, false, false, false, false, false, false, false, false, false] rfl rfl (by kernel_rfl) (fun c a w h => hP c a _ _ w h) (y_move rfl (by rfl) (by rfl)) rfl ?_
   (try simp only [zP, zN, zA, zB, zC])
   refine pure_ (i := 16) (N := some 141) (v := .pointer (some ⟨b, 0, none⟩)) #[true, true, true, true, true, true, true, true, true, true, true, true, true, true, true, true, true, false, false, false, false, false, false, false, false, false, false, false, false, false, false, false, false, false, false, false] rfl rfl (by kernel_rfl) (fun c a w h => hP c a _ _ w h) (y_move rfl (by rfl) (by rfl)) rfl ?_
   (try simp only [zP, zN, zA, zB, zC])
   refine pure_ (i := 18) (N := some 143) (v := .pointer (some ⟨g4, 3, none⟩)) #[true, true, true, true, true, true, true, true, true, true, true, true, true, true, true, true, true, false, true, false, false, false, false, false, false, false, false, false, false, false, false, false, false, false, false, false] rfl rfl (by kernel_rfl) (fun c a w h => hP c a _ _ w h) (y_run (by rfl) (fun W => by go_simp)) rfl ?_
   (try simp only [zP, zN, zA, zB, zC])
   refine take_ (i := 19) (N := some 144) (v := .bool false) #[true, true, true, true, true, true, true, true, true, true, true, true, true, true, true, true, true, false, true, true, false, false, false, false, false, false, false, false, false, false, false, false, false, false, false, false] rfl rfl (by kernel_rfl) (fun c a w h => hP c a _ _ w h) (y_load (p := ⟨g4, 3, none⟩) rfl (by rfl) (by rfl) (fun W hS => run_load_one ((hS.1.cell 3).trans rfl) Try.underlying4 rfl)) hS526 rfl ?_
   (try simp only [zP, zN, zA, zB, zC])
   refine one_ (i := 17) (N := some 142) #[true, true, true, true, true, true, true, true, true, true, true, true, true, true, true, true, true, true, true, true, false, false, false, false, false, false, false, false, false, false, false, false, false, false, false, false] rfl rfl (by kernel_rfl) (by simp) (fun K527 hK527 => ?_)
   refine e_call Try.func27 (by kernel_rfl) rfl #[.pointer (some ⟨b, 0, none⟩)] (by rfl) rfl rfl (by first | rfl | (simp only [List.map_toArray, List.map_cons, List.map_nil]; first | done | rfl)) ((by have h := done_all PW.out; rw [HD.out] at h; exact h)) ?_
   rintro en w528 ⟨rfl, rfl⟩
   refine ⟨_, rfl, ?_⟩
   refine hK527.out _ _ ⟨Fg4.out, trivial⟩ (fun hS529 => ?_); clear hK527 K527
   (try simp only [zP, zN, zA, zB, zC])
   refine pure_ (i := 20) (N := some 145) (v := .bool false) #[true, true, true, true, true, true, true, true, true, true, true, true, true, true, true, true, true, true, true, true, true, false, false, false, false, false, false, false, false, false, false, false, false, false, false, false] rfl rfl (by kernel_rfl) (fun c a w h => hP c a _ _ w h) (y_run (by rfl) (fun W => by go_simp)) rfl ?_
   (try simp only [zP, zN, zA, zB, zC])
   refine pure_ (i := 21) (N := some 146) (v := .bool false) #[true, true, true, true, true, true, true, true, true, true, true, true, true, true, true, true, true, true, true, true, true, true, false, false, false, false, false, false, false, false, false, false, false, false, false, false] rfl rfl (by kernel_rfl) (fun c a w h => hP c a _ _ w h) (y_pick (t := false) (by rfl) rfl (by rfl) (by rfl)) rfl ?_
   (try simp only [zP, zN, zA, zB, zC])
   refine pure_ (i := 22) (N := some 147) (v := .bool false) #[true, true, true, true, true, true, true, true, true, true, true, true, true, true, true, true, true, true, true, true, true, true, true, false, false, false, false, false, false, false, false, false, false, false, false, false] rfl rfl (by kernel_rfl) (fun c a w h => hP c a _ _ w h) (y_move rfl (by rfl) (by rfl)) rfl ?_
   (try simp only [zP, zN, zA, zB, zC])
   refine pure_ (i := 23) (N := some 148) (v := .pointer (some ⟨b, 0, none⟩)) #[true, true, true, true, true, true, true, true, true, true, true, true, true, true, true, true, true, true, true, true, true, true, true, true, false, false, false, false, false, false, false, false, false, false, false, false] rfl rfl (by kernel_rfl) (fun c a w h => hP c a _ _ w h) (y_move rfl (by rfl) (by rfl)) rfl ?_
   (try simp only [zP, zN, zA, zB, zC])
   refine pure_ (i := 25) (N := some 150) (v := .pointer (some ⟨g4, 2, none⟩)) #[true, true, true, true, true, true, true, true, true, true, true, true, true, true, true, true, true, true, true, true, true, true, true, true, false, true, false, false, false, false, false, false, false, false, false, false] rfl rfl (by kernel_rfl) (fun c a w h => hP c a _ _ w h) (y_run (by rfl) (fun W => by go_simp)) rfl ?_
   (try simp only [zP, zN, zA, zB, zC])
   refine take_ (i := 26) (N := some 151) (v := .bool true) #[true, true, true, true, true, true, true, true, true, true, true, true, true, true, true, true, true, true, true, true, true, true, true, true, false, true, true, false, false, false, false, false, false, false, false, false] rfl rfl (by kernel_rfl) (fun c a w h => hP c a _ _ w h) (y_load (p := ⟨g4, 2, none⟩) rfl (by rfl) (by rfl) (fun W hS => run_load_one ((hS.1.cell 2).trans rfl) Try.underlying4 rfl)) hS529 rfl ?_
   (try simp only [zP, zN, zA, zB, zC])
   refine pure_ (i := 27) (N := some 152) (v := .bool false) #[true, true, true, true, true, true, true, true, true, true, true, true, true, true, true, true, true, true, true, true, true, true, true, true, false, true, true, true, false, false, false, false, false, false, false, false] rfl rfl (by kernel_rfl) (fun c a w h => hP c a _ _ w h) (y_run (by rfl) (fun W => by go_simp)) rfl ?_
   (try simp only [zP, zN, zA, zB, zC])
   refine one_ (i := 24) (N := some 149) #[true, true, true, true, true, true, true, true, true, true, true, true, true, true, true, true, true, true, true, true, true, true, true, true, true, true, true, true, false, false, false, false, false, false, false, false] rfl rfl (by kernel_rfl) (by simp) (fun K530 hK530 => ?_)
   refine e_call Try.func28 (by kernel_rfl) rfl #[.pointer (some ⟨b, 0, none⟩)] (by rfl) rfl rfl (by first | rfl | (simp only [List.map_toArray, List.map_cons, List.map_nil]; first | done | rfl)) ((by have h := room_all PW.out; rw [HR.out] at h; exact h)) ?_
   rintro en w531 ⟨rfl, rfl⟩
   refine ⟨_, rfl, ?_⟩
   refine hK530.out _ _ ⟨Fg4.out, trivial⟩ (fun hS532 => ?_); clear hK530 K530
   (try simp only [zP, zN, zA, zB, zC])
   refine pure_ (i := 28) (N := some 153) (v := .bool false) #[true, true, true, true, true, true, true, true, true, true, true, true, true, true, true, true, true, true, true, true, true, true, true, true, true, true, true, true, true, false, false, false, false, false, false, false] rfl rfl (by kernel_rfl) (fun c a w h => hP c a _ _ w h) (y_move rfl (by rfl) (by rfl)) rfl ?_
   (try simp only [zP, zN, zA, zB, zC])
   refine pure_ (i := 29) (N := some 154) (v := undef) #[true, true, true, true, true, true, true, true, true, true, true, true, true, true, true, true, true, true, true, true, true, true, true, true, true, true, true, true, true, true, false, false, false, false, false, false] rfl rfl (by kernel_rfl) (fun c a w h => hP c a _ _ w h) (y_off (by rfl)) rfl ?_
   (try simp only [zP, zN, zA, zB, zC])
   refine pure_ (i := 30) (N := some 155) (v := undef) #[true, true, true, true, true, true, true, true, true, true, true, true, true, true, true, true, true, true, true, true, true, true, true, true, true, true, true, true, true, true, true, false, false, false, false, false] rfl rfl (by kernel_rfl) (fun c a w h => hP c a _ _ w h) (y_off (by rfl)) rfl ?_
   (try simp only [zP, zN, zA, zB, zC])
   refine pure_ (i := 31) (N := some 156) (v := undef) #[true, true, true, true, true, true, true, true, true, true, true, true, true, true, true, true, true, true, true, true, true, true, true, true, true, true, true, true, true, true, true, true, false, false, false, false] rfl rfl (by kernel_rfl) (fun c a w h => hP c a _ _ w h) (y_off (by rfl)) rfl ?_
   (try simp only [zP, zN, zA, zB, zC])
   refine pure_ (i := 32) (N := some 157) (v := undef) #[true, true, true, true, true, true, true, true, true, true, true, true, true, true, true, true, true, true, true, true, true, true, true, true, true, true, true, true, true, true, true, true, true, false, false, false] rfl rfl (by kernel_rfl) (fun c a w h => hP c a _ _ w h) (y_off (by rfl)) rfl ?_
   (try simp only [zP, zN, zA, zB, zC])
   refine pure_ (i := 33) (N := some 158) (v := .bool false) #[true, true, true, true, true, true, true, true, true, true, true, true, true, true, true, true, true, true, true, true, true, true, true, true, true, true, true, true, true, true, true, true, true, true, false, false] rfl rfl (by kernel_rfl) (fun c a w h => hP c a _ _ w h) (y_pick (t := false) (by rfl) rfl (by rfl) (by rfl)) rfl ?_
   (try simp only [zP, zN, zA, zB, zC])
   refine pure_ (i := 34) (N := some 159) (v := .bool false) #[true, true, true, true, true, true, true, true, true, true, true, true, true, true, true, true, true, true, true, true, true, true, true, true, true, true, true, true, true, true, true, true, true, true, true, false] rfl rfl (by kernel_rfl) (fun c a w h => hP c a _ _ w h) (y_run (by rfl) (fun W => by go_simp)) rfl ?_
   (try simp only [zP, zN, zA, zB, zC])
   refine pure_ (i := 35) (N := some 160) (v := .bool false) #[true, true, true, true, true, true, true, true, true, true, true, true, true, true, true, true, true, true, true, true, true, true, true, true, true, true, true, true, true, true, true, true, true, true, true, true] rfl rfl (by kernel_rfl) (fun c a w h => hP c a _ _ w h) (y_pick (t := false) (by rfl) rfl (by rfl) (by rfl)) rfl ?_
   (try simp only [zP, zN, zA, zB, zC])
   refine done_ (by kernel_rfl) (th_norm (hK517 _ _ ?_)); clear hK517 K517
   refine wp_cond_false rfl ?_
   refine wp_skip ?_
   refine ib_norm ?_
   refine th_norm (hK26 _ _ ?_); try clear hK26 K26
   refine r_ ?_
   refine pu_ (v := .int .i64 k) (y_move rfl (by rfl) (by rfl)) ?_
   (try simp only [zP, zN, zA, zB, zC])
   refine pu_ (v := .int .i64 (k + 1 : Nat)) (y_run (by rfl) (fun W => by have d := WA.out; go_simp)) ?_
   (try simp only [zP, zN, zA, zB, zC])
   refine pu_ (v := .int .i64 (k + 1 : Nat)) (y_assign rfl (by rfl) (by rfl)) ?_
   (try simp only [zP, zN, zA, zB, zC])
   refine nl_ ?_
   exact th_norm (hK23 (kq - 1) _ _ (by have := hlt.out; have := hk.out; omega) ⟨k + 1, s2, _, .slice A5 s2.L.length c5, fun us_ => (#[.slice (some ⟨ab, off, none⟩) len0 cap0, us 1, .bool false, .pointer (some ⟨b, 0, none⟩), .pointer (some ⟨g4, 0, none⟩), .int .i64 (k + 1 : Nat), us 6, .bool true, us 8, us 9, us 10, us 11, us 12, us 13, us 14, us 15, us 16, us 17, .int .i64 ((s2.L.length : Int) + 1), us 19, us 20, us 21, us 22, us 23, us 24, us 25, us 26, us 27, us 28, us 29, us 30, .int .i64 k, .int .i64 (k + 1 : Nat), us 33, us 34, us 35, us 36, us 37, us 38, us 39, us 40, us 41, us 42, us 43, us 44, us 45, us 46, us 47, us 48, us 49, us 50, us 51, us 52, us 53, us 54, us 55, us 56, us 57, us 58, us 59, us 60, us 61, us 62, us 63, us 64, us 65, us 66, us 67, us 68, us 69, us 70, us 71, us 72, us 73, us 74, us 75, us 76, us 77, us 78, us 79, us 80, us 81, us 82, us 83, us 84, us 85, us 86, us 87, us 88, us 89, us 90, us 91, us 92, us 93, us 94, us 95, us 96, us 97, us 98, us 99, us 100, us 101, us 102, us 103, us 104, us 105, us 106, us 107, us 108, us 109, us 110, us 111, us 112, .pointer (some ⟨g4, 0, none⟩), .slice A5 s2.L.length c5, .int .i64 s2.L.length, .pointer (some ⟨g4, 2, none⟩), .bool true, .bool true, .pointer (some ⟨g4, 3, none⟩), .bool false, .bool true, .bool true, .int .i64 s2.L.length, .int .i64 ((s2.L.length : Int) + 1), .bool true, .bool false, .bool false, .pointer (some ⟨b, 0, none⟩), .int .i64 ((s2.L.length : Int) + 1), .int .i64 ((s2.L.length : Int) + 1), .bool false, .bool false, .bool false, .pointer (some ⟨b, 0, none⟩), .bool true, .pointer (some ⟨g4, 2, none⟩), .bool true, .bool false, .bool false, .bool false, .pointer (some ⟨b, 0, none⟩), .bool false, .pointer (some ⟨g4, 3, none⟩), .bool false, .bool false, .bool false, .bool false, .pointer (some ⟨b, 0, none⟩), .bool false, .pointer (some ⟨g4, 2, none⟩), .bool true, .bool false, .bool false, undef, undef, undef, undef, .bool false, .bool false, .bool false, us 161, us 162, us 163, us 164, us 165, us 166, us 167, us 168] : Array Value).getD us_ undef, rfl, C0, PW, RQ, (by rw [HO.out, HD.out]; exact Fg4), Lib.hid ⟨by have := hlt.out; omega, by have := hlt.out; omega, by have := hlt.out; have := hk.out; omega⟩, hL, hxr, hxb, hxg, hgr⟩)
  ·rw [ho, hd] at Fg4
   have HO := Lib.hid ho
   have HD := Lib.hid hd
   clear ho hd
   have HL := Lib.hid (show lenI s2 = (s2.L.length : Int) by unfold lenI; rw [HO.out, HD.out]; rfl)
   have HR := Lib.hid (show roomB s2 = false by unfold roomB; rw [HO.out]; simp <;> omega)
   refine s_ (fun K533 hK533 => ?_)
   refine pu_ (v := .pointer (some ⟨g4, 2, none⟩)) (y_run (by rfl) (fun W => by go_simp)) ?_
   (try simp only [zP, zN, zA, zB, zC])
   refine ld_ (v := .bool true) rfl (by rfl) (by rfl) (run_load_one ((Fg4.out.cell 2).trans rfl) Try.underlying4 rfl) ?_
   (try simp only [zP, zN, zA, zB, zC])
   refine pu_ (v := .bool true) (y_move rfl (by rfl) (by rfl)) ?_
   (try simp only [zP, zN, zA, zB, zC])
   refine pu_ (v := .pointer (some ⟨g4, 3, none⟩)) (y_run (by rfl) (fun W => by go_simp)) ?_
   (try simp only [zP, zN, zA, zB, zC])
   refine ld_ (v := .bool true) rfl (by rfl) (by rfl) (run_load_one ((Fg4.out.cell 3).trans rfl) Try.underlying4 rfl) ?_
   (try simp only [zP, zN, zA, zB, zC])
   refine pu_ (v := .bool false) (y_run (by rfl) (fun W => by go_simp)) ?_
   (try simp only [zP, zN, zA, zB, zC])
   refine pu_ (v := .bool false) (y_pick (t := true) (by rfl) rfl (by rfl) (by rfl)) ?_
   (try simp only [zP, zN, zA, zB, zC])
   refine nl_ (hK533 _ _ ?_); clear hK533 K533
   refine wp_cond_false rfl ?_
   refine wp_skip ?_
   refine th_norm (hK481 _ _ ?_); try clear hK481 K481
   refine sq_ (fun K534 hK534 => ?_)
   refine startk_ (S := fun W => Blk W g4 (#[.slice A5 s2.L.length c5, .int .u64 (s2).last, .bool true, .bool true]) 44 ∧ True) (ds := []) #[false, false, false, false, false, false, false, false, false, false, false, false, false, false, false, false, false, false, false, false, false, false, false, false, false, false, false, false, false, false, false, false, false, false, false, false] (by kernel_rfl) rfl rfl (fun W c => ⟨c.blk Fg4.out nin_nil, trivial⟩) (fun w535 C536 hS537 => ?_)
   have C0' := Lib.hid (show Ch [] w w535 from C0.out.trans' C536 (fun x hx => absurd hx (by simp)))
   have PW' := Lib.hid (show WinIs w535 (w.heap.size) b (s2) (v2) from PW.out.ch C536 nin_nil rnin_nil)
   have RQ' := Lib.hid (show RefIs w535 (s2) (.slice A5 s2.L.length c5) from RQ.out.ch C536 xnin_nil)
   have Fg4' := Lib.hid (show Blk w535 g4 (#[.slice A5 s2.L.length c5, .int .u64 (s2).last, .bool true, .bool true]) 44 from C536.blk Fg4.out nin_nil)
   clear C0 PW RQ Fg4
   have C0 := C0'; clear C0'
   have PW := PW'; clear PW'
   have RQ := RQ'; clear RQ'
   have Fg4 := Fg4'; clear Fg4'
   clear C536
   refine pure_ (i := 0) (N := some 125) (v := .bool true) #[true, false, false, false, false, false, false, false, false, false, false, false, false, false, false, false, false, false, false, false, false, false, false, false, false, false, false, false, false, false, false, false, false, false, false, false] rfl rfl (by kernel_rfl) (fun c a w h => hP c a _ _ w h) (y_move rfl (by rfl) (by rfl)) rfl ?_
   (try simp only [zP, zN, zA, zB, zC])
   refine pure_ (i := 1) (N := some 126) (v := .bool false) #[true, true, false, false, false, false, false, false, false, false, false, false, false, false, false, false, false, false, false, false, false, false, false, false, false, false, false, false, false, false, false, false, false, false, false, false] rfl rfl (by kernel_rfl) (fun c a w h => hP c a _ _ w h) (y_run (by rfl) (fun W => by go_simp)) rfl ?_
   (try simp only [zP, zN, zA, zB, zC])
   refine pure_ (i := 2) (N := some 127) (v := .bool false) #[true, true, true, false, false, false, false, false, false, false, false, false, false, false, false, false, false, false, false, false, false, false, false, false, false, false, false, false, false, false, false, false, false, false, false, false] rfl rfl (by kernel_rfl) (fun c a w h => hP c a _ _ w h) (y_move rfl (by rfl) (by rfl)) rfl ?_
   (try simp only [zP, zN, zA, zB, zC])
   refine pure_ (i := 3) (N := some 128) (v := .pointer (some ⟨b, 0, none⟩)) #[true, true, true, true, false, false, false, false, false, false, false, false, false, false, false, false, false, false, false, false, false, false, false, false, false, false, false, false, false, false, false, false, false, false, false, false] rfl rfl (by kernel_rfl) (fun c a w h => hP c a _ _ w h) (y_move rfl (by rfl) (by rfl)) rfl ?_
   (try simp only [zP, zN, zA, zB, zC])
   refine pure_ (i := 5) (N := some 130) (v := .int .i64 s2.L.length) #[true, true, true, true, false, true, false, false, false, false, false, false, false, false, false, false, false, false, false, false, false, false, false, false, false, false, false, false, false, false, false, false, false, false, false, false] rfl rfl (by kernel_rfl) (fun c a w h => hP c a _ _ w h) (y_move rfl (by rfl) (by rfl)) rfl ?_
   (try simp only [zP, zN, zA, zB, zC])
   refine one_ (i := 4) (N := some 129) #[true, true, true, true, true, true, false, false, false, false, false, false, false, false, false, false, false, false, false, false, false, false, false, false, false, false, false, false, false, false, false, false, false, false, false, false] rfl rfl (by kernel_rfl) (by simp) (fun K538 hK538 => ?_)
   refine e_call Try.func25 (by kernel_rfl) rfl #[.pointer (some ⟨b, 0, none⟩)] (by rfl) rfl rfl (by first | rfl | (simp only [List.map_toArray, List.map_cons, List.map_nil]; first | done | rfl)) ((by have h := len_all PW.out (by have := hL.out; omega); rw [HL.out] at h; exact h)) ?_
   rintro en w539 ⟨rfl, rfl⟩
   refine ⟨_, rfl, ?_⟩
   refine hK538.out _ _ ⟨Fg4.out, trivial⟩ (fun hS540 => ?_); clear hK538 K538
   (try simp only [zP, zN, zA, zB, zC])
   refine pure_ (i := 6) (N := some 131) (v := .bool false) #[true, true, true, true, true, true, true, false, false, false, false, false, false, false, false, false, false, false, false, false, false, false, false, false, false, false, false, false, false, false, false, false, false, false, false, false] rfl rfl (by kernel_rfl) (fun c a w h => hP c a _ _ w h) (y_run (by rfl) (fun W => by go_simp)) rfl ?_
   (try simp only [zP, zN, zA, zB, zC])
   refine pure_ (i := 7) (N := some 132) (v := .bool false) #[true, true, true, true, true, true, true, true, false, false, false, false, false, false, false, false, false, false, false, false, false, false, false, false, false, false, false, false, false, false, false, false, false, false, false, false] rfl rfl (by kernel_rfl) (fun c a w h => hP c a _ _ w h) (y_pick (t := false) (by rfl) rfl (by rfl) (by rfl)) rfl ?_
   (try simp only [zP, zN, zA, zB, zC])
   refine pure_ (i := 8) (N := some 133) (v := .bool false) #[true, true, true, true, true, true, true, true, true, false, false, false, false, false, false, false, false, false, false, false, false, false, false, false, false, false, false, false, false, false, false, false, false, false, false, false] rfl rfl (by kernel_rfl) (fun c a w h => hP c a _ _ w h) (y_move rfl (by rfl) (by rfl)) rfl ?_
   (try simp only [zP, zN, zA, zB, zC])
   refine pure_ (i := 9) (N := some 134) (v := .pointer (some ⟨b, 0, none⟩)) #[true, true, true, true, true, true, true, true, true, true, false, false, false, false, false, false, false, false, false, false, false, false, false, false, false, false, false, false, false, false, false, false, false, false, false, false] rfl rfl (by kernel_rfl) (fun c a w h => hP c a _ _ w h) (y_move rfl (by rfl) (by rfl)) rfl ?_
   (try simp only [zP, zN, zA, zB, zC])
   refine pure_ (i := 11) (N := some 136) (v := .pointer (some ⟨g4, 2, none⟩)) #[true, true, true, true, true, true, true, true, true, true, false, true, false, false, false, false, false, false, false, false, false, false, false, false, false, false, false, false, false, false, false, false, false, false, false, false] rfl rfl (by kernel_rfl) (fun c a w h => hP c a _ _ w h) (y_run (by rfl) (fun W => by go_simp)) rfl ?_
   (try simp only [zP, zN, zA, zB, zC])
   refine take_ (i := 12) (N := some 137) (v := .bool true) #[true, true, true, true, true, true, true, true, true, true, false, true, true, false, false, false, false, false, false, false, false, false, false, false, false, false, false, false, false, false, false, false, false, false, false, false] rfl rfl (by kernel_rfl) (fun c a w h => hP c a _ _ w h) (y_load (p := ⟨g4, 2, none⟩) rfl (by rfl) (by rfl) (fun W hS => run_load_one ((hS.1.cell 2).trans rfl) Try.underlying4 rfl)) hS540 rfl ?_
   (try simp only [zP, zN, zA, zB, zC])
   refine one_ (i := 10) (N := some 135) #[true, true, true, true, true, true, true, true, true, true, true, true, true, false, false, false, false, false, false, false, false, false, false, false, false, false, false, false, false, false, false, false, false, false, false, false] rfl rfl (by kernel_rfl) (by simp) (fun K541 hK541 => ?_)
   refine e_call Try.func26 (by kernel_rfl) rfl #[.pointer (some ⟨b, 0, none⟩)] (by rfl) rfl rfl (by first | rfl | (simp only [List.map_toArray, List.map_cons, List.map_nil]; first | done | rfl)) ((by have h := over_all PW.out; rw [HO.out] at h; exact h)) ?_
   rintro en w542 ⟨rfl, rfl⟩
   refine ⟨_, rfl, ?_⟩
   refine hK541.out _ _ ⟨Fg4.out, trivial⟩ (fun hS543 => ?_); clear hK541 K541
   (try simp only [zP, zN, zA, zB, zC])
   refine pure_ (i := 13) (N := some 138) (v := .bool false) #[true, true, true, true, true, true, true, true, true, true, true, true, true, true, false, false, false, false, false, false, false, false, false, false, false, false, false, false, false, false, false, false, false, false, false, false] rfl rfl (by kernel_rfl) (fun c a w h => hP c a _ _ w h) (y_run (by rfl) (fun W => by go_simp)) rfl ?_
   (try simp only [zP, zN, zA, zB, zC])
   refine pure_ (i := 14) (N := some 139) (v := .bool false) #[true, true, true, true, true, true, true, true, true, true, true, true, true, true, true, false, false, false, false, false, false, false, false, false, false, false, false, false, false, false, false, false, false, false, false, false] rfl rfl (by kernel_rfl) (fun c a w h => hP c a _ _ w h) (y_pick (t := false) (by rfl) rfl (by rfl) (by rfl)) rfl ?_
   (try simp only [zP, zN, zA, zB, zC])
   refine pure_ (i := 15) (N := some 140) (v := .bool false) #[true, true, true, true, true, true, true, true, true, true, true, true, true, true, true, true, false, false, false, false, false, false, false, false, false, false, false, false, false, false, false, false, false, false, false, false] rfl rfl (by kernel_rfl) (fun c a w h => hP c a _ _ w h) (y_move rfl (by rfl) (by rfl)) rfl ?_
   (try simp only [zP, zN, zA, zB, zC])
   refine pure_ (i := 16) (N := some 141) (v := .pointer (some ⟨b, 0, none⟩)) #[true, true, true, true, true, true, true, true, true, true, true, true, true, true, true, true, true, false, false, false, false, false, false, false, false, false, false, false, false, false, false, false, false, false, false, false] rfl rfl (by kernel_rfl) (fun c a w h => hP c a _ _ w h) (y_move rfl (by rfl) (by rfl)) rfl ?_
   (try simp only [zP, zN, zA, zB, zC])
   refine pure_ (i := 18) (N := some 143) (v := .pointer (some ⟨g4, 3, none⟩)) #[true, true, true, true, true, true, true, true, true, true, true, true, true, true, true, true, true, false, true, false, false, false, false, false, false, false, false, false, false, false, false, false, false, false, false, false] rfl rfl (by kernel_rfl) (fun c a w h => hP c a _ _ w h) (y_run (by rfl) (fun W => by go_simp)) rfl ?_
   (try simp only [zP, zN, zA, zB, zC])
   refine take_ (i := 19) (N := some 144) (v := .bool true) #[true, true, true, true, true, true, true, true, true, true, true, true, true, true, true, true, true, false, true, true, false, false, false, false, false, false, false, false, false, false, false, false, false, false, false, false] rfl rfl (by kernel_rfl) (fun c a w h => hP c a _ _ w h) (y_load (p := ⟨g4, 3, none⟩) rfl (by rfl) (by rfl) (fun W hS => run_load_one ((hS.1.cell 3).trans rfl) Try.underlying4 rfl)) hS543 rfl ?_
   (try simp only [zP, zN, zA, zB, zC])
   refine one_ (i := 17) (N := some 142) #[true, true, true, true, true, true, true, true, true, true, true, true, true, true, true, true, true, true, true, true, false, false, false, false, false, false, false, false, false, false, false, false, false, false, false, false] rfl rfl (by kernel_rfl) (by simp) (fun K544 hK544 => ?_)
   refine e_call Try.func27 (by kernel_rfl) rfl #[.pointer (some ⟨b, 0, none⟩)] (by rfl) rfl rfl (by first | rfl | (simp only [List.map_toArray, List.map_cons, List.map_nil]; first | done | rfl)) ((by have h := done_all PW.out; rw [HD.out] at h; exact h)) ?_
   rintro en w545 ⟨rfl, rfl⟩
   refine ⟨_, rfl, ?_⟩
   refine hK544.out _ _ ⟨Fg4.out, trivial⟩ (fun hS546 => ?_); clear hK544 K544
   (try simp only [zP, zN, zA, zB, zC])
   refine pure_ (i := 20) (N := some 145) (v := .bool false) #[true, true, true, true, true, true, true, true, true, true, true, true, true, true, true, true, true, true, true, true, true, false, false, false, false, false, false, false, false, false, false, false, false, false, false, false] rfl rfl (by kernel_rfl) (fun c a w h => hP c a _ _ w h) (y_run (by rfl) (fun W => by go_simp)) rfl ?_
   (try simp only [zP, zN, zA, zB, zC])
   refine pure_ (i := 21) (N := some 146) (v := .bool false) #[true, true, true, true, true, true, true, true, true, true, true, true, true, true, true, true, true, true, true, true, true, true, false, false, false, false, false, false, false, false, false, false, false, false, false, false] rfl rfl (by kernel_rfl) (fun c a w h => hP c a _ _ w h) (y_pick (t := false) (by rfl) rfl (by rfl) (by rfl)) rfl ?_
   (try simp only [zP, zN, zA, zB, zC])
   refine pure_ (i := 22) (N := some 147) (v := .bool false) #[true, true, true, true, true, true, true, true, true, true, true, true, true, true, true, true, true, true, true, true, true, true, true, false, false, false, false, false, false, false, false, false, false, false, false, false] rfl rfl (by kernel_rfl) (fun c a w h => hP c a _ _ w h) (y_move rfl (by rfl) (by rfl)) rfl ?_
   (try simp only [zP, zN, zA, zB, zC])
   refine pure_ (i := 23) (N := some 148) (v := .pointer (some ⟨b, 0, none⟩)) #[true, true, true, true, true, true, true, true, true, true, true, true, true, true, true, true, true, true, true, true, true, true, true, true, false, false, false, false, false, false, false, false, false, false, false, false] rfl rfl (by kernel_rfl) (fun c a w h => hP c a _ _ w h) (y_move rfl (by rfl) (by rfl)) rfl ?_
   (try simp only [zP, zN, zA, zB, zC])
   refine pure_ (i := 25) (N := some 150) (v := .pointer (some ⟨g4, 2, none⟩)) #[true, true, true, true, true, true, true, true, true, true, true, true, true, true, true, true, true, true, true, true, true, true, true, true, false, true, false, false, false, false, false, false, false, false, false, false] rfl rfl (by kernel_rfl) (fun c a w h => hP c a _ _ w h) (y_run (by rfl) (fun W => by go_simp)) rfl ?_
   (try simp only [zP, zN, zA, zB, zC])
   refine take_ (i := 26) (N := some 151) (v := .bool true) #[true, true, true, true, true, true, true, true, true, true, true, true, true, true, true, true, true, true, true, true, true, true, true, true, false, true, true, false, false, false, false, false, false, false, false, false] rfl rfl (by kernel_rfl) (fun c a w h => hP c a _ _ w h) (y_load (p := ⟨g4, 2, none⟩) rfl (by rfl) (by rfl) (fun W hS => run_load_one ((hS.1.cell 2).trans rfl) Try.underlying4 rfl)) hS546 rfl ?_
   (try simp only [zP, zN, zA, zB, zC])
   refine pure_ (i := 27) (N := some 152) (v := .bool false) #[true, true, true, true, true, true, true, true, true, true, true, true, true, true, true, true, true, true, true, true, true, true, true, true, false, true, true, true, false, false, false, false, false, false, false, false] rfl rfl (by kernel_rfl) (fun c a w h => hP c a _ _ w h) (y_run (by rfl) (fun W => by go_simp)) rfl ?_
   (try simp only [zP, zN, zA, zB, zC])
   refine one_ (i := 24) (N := some 149) #[true, true, true, true, true, true, true, true, true, true, true, true, true, true, true, true, true, true, true, true, true, true, true, true, true, true, true, true, false, false, false, false, false, false, false, false] rfl rfl (by kernel_rfl) (by simp) (fun K547 hK547 => ?_)
   refine e_call Try.func28 (by kernel_rfl) rfl #[.pointer (some ⟨b, 0, none⟩)] (by rfl) rfl rfl (by first | rfl | (simp only [List.map_toArray, List.map_cons, List.map_nil]; first | done | rfl)) ((by have h := room_all PW.out; rw [HR.out] at h; exact h)) ?_
   rintro en w548 ⟨rfl, rfl⟩
   refine ⟨_, rfl, ?_⟩
   refine hK547.out _ _ ⟨Fg4.out, trivial⟩ (fun hS549 => ?_); clear hK547 K547
   (try simp only [zP, zN, zA, zB, zC])
   refine pure_ (i := 28) (N := some 153) (v := .bool false) #[true, true, true, true, true, true, true, true, true, true, true, true, true, true, true, true, true, true, true, true, true, true, true, true, true, true, true, true, true, false, false, false, false, false, false, false] rfl rfl (by kernel_rfl) (fun c a w h => hP c a _ _ w h) (y_move rfl (by rfl) (by rfl)) rfl ?_
   (try simp only [zP, zN, zA, zB, zC])
   refine pure_ (i := 29) (N := some 154) (v := undef) #[true, true, true, true, true, true, true, true, true, true, true, true, true, true, true, true, true, true, true, true, true, true, true, true, true, true, true, true, true, true, false, false, false, false, false, false] rfl rfl (by kernel_rfl) (fun c a w h => hP c a _ _ w h) (y_off (by rfl)) rfl ?_
   (try simp only [zP, zN, zA, zB, zC])
   refine pure_ (i := 30) (N := some 155) (v := undef) #[true, true, true, true, true, true, true, true, true, true, true, true, true, true, true, true, true, true, true, true, true, true, true, true, true, true, true, true, true, true, true, false, false, false, false, false] rfl rfl (by kernel_rfl) (fun c a w h => hP c a _ _ w h) (y_off (by rfl)) rfl ?_
   (try simp only [zP, zN, zA, zB, zC])
   refine pure_ (i := 31) (N := some 156) (v := undef) #[true, true, true, true, true, true, true, true, true, true, true, true, true, true, true, true, true, true, true, true, true, true, true, true, true, true, true, true, true, true, true, true, false, false, false, false] rfl rfl (by kernel_rfl) (fun c a w h => hP c a _ _ w h) (y_off (by rfl)) rfl ?_
   (try simp only [zP, zN, zA, zB, zC])
   refine pure_ (i := 32) (N := some 157) (v := undef) #[true, true, true, true, true, true, true, true, true, true, true, true, true, true, true, true, true, true, true, true, true, true, true, true, true, true, true, true, true, true, true, true, true, false, false, false] rfl rfl (by kernel_rfl) (fun c a w h => hP c a _ _ w h) (y_off (by rfl)) rfl ?_
   (try simp only [zP, zN, zA, zB, zC])
   refine pure_ (i := 33) (N := some 158) (v := .bool false) #[true, true, true, true, true, true, true, true, true, true, true, true, true, true, true, true, true, true, true, true, true, true, true, true, true, true, true, true, true, true, true, true, true, true, false, false] rfl rfl (by kernel_rfl) (fun c a w h => hP c a _ _ w h) (y_pick (t := false) (by rfl) rfl (by rfl) (by rfl)) rfl ?_
   (try simp only [zP, zN, zA, zB, zC])
   refine pure_ (i := 34) (N := some 159) (v := .bool false) #[true, true, true, true, true, true, true, true, true, true, true, true, true, true, true, true, true, true, true, true, true, true, true, true, true, true, true, true, true, true, true, true, true, true, true, false] rfl rfl (by kernel_rfl) (fun c a w h => hP c a _ _ w h) (y_run (by rfl) (fun W => by go_simp)) rfl ?_
   (try simp only [zP, zN, zA, zB, zC])
   refine pure_ (i := 35) (N := some 160) (v := .bool false) #[true, true, true, true, true, true, true, true, true, true, true, true, true, true, true, true, true, true, true, true, true, true, true, true, true, true, true, true, true, true, true, true, true, true, true, true] rfl rfl (by kernel_rfl) (fun c a w h => hP c a _ _ w h) (y_pick (t := false) (by rfl) rfl (by rfl) (by rfl)) rfl ?_
   (try simp only [zP, zN, zA, zB, zC])
   refine done_ (by kernel_rfl) (th_norm (hK534 _ _ ?_)); clear hK534 K534
   refine wp_cond_false rfl ?_
   refine wp_skip ?_
   refine ib_norm ?_
   refine th_norm (hK26 _ _ ?_); try clear hK26 K26
   refine r_ ?_
   refine pu_ (v := .int .i64 k) (y_move rfl (by rfl) (by rfl)) ?_
   (try simp only [zP, zN, zA, zB, zC])
   refine pu_ (v := .int .i64 (k + 1 : Nat)) (y_run (by rfl) (fun W => by have d := WA.out; go_simp)) ?_
   (try simp only [zP, zN, zA, zB, zC])
   refine pu_ (v := .int .i64 (k + 1 : Nat)) (y_assign rfl (by rfl) (by rfl)) ?_
   (try simp only [zP, zN, zA, zB, zC])
   refine nl_ ?_
   exact th_norm (hK23 (kq - 1) _ _ (by have := hlt.out; have := hk.out; omega) ⟨k + 1, s2, _, .slice A5 s2.L.length c5, fun us_ => (#[.slice (some ⟨ab, off, none⟩) len0 cap0, us 1, .bool false, .pointer (some ⟨b, 0, none⟩), .pointer (some ⟨g4, 0, none⟩), .int .i64 (k + 1 : Nat), us 6, .bool true, us 8, us 9, us 10, us 11, us 12, us 13, us 14, us 15, us 16, us 17, .int .i64 s2.L.length, us 19, us 20, us 21, us 22, us 23, us 24, us 25, us 26, us 27, us 28, us 29, us 30, .int .i64 k, .int .i64 (k + 1 : Nat), us 33, us 34, us 35, us 36, us 37, us 38, us 39, us 40, us 41, us 42, us 43, us 44, us 45, us 46, us 47, us 48, us 49, us 50, us 51, us 52, us 53, us 54, us 55, us 56, us 57, us 58, us 59, us 60, us 61, us 62, us 63, us 64, us 65, us 66, us 67, us 68, us 69, us 70, us 71, us 72, us 73, us 74, us 75, us 76, us 77, us 78, us 79, us 80, us 81, us 82, us 83, us 84, us 85, us 86, us 87, us 88, us 89, us 90, us 91, us 92, us 93, us 94, us 95, us 96, us 97, us 98, us 99, us 100, us 101, us 102, us 103, us 104, us 105, us 106, us 107, us 108, us 109, us 110, us 111, us 112, .pointer (some ⟨g4, 0, none⟩), .slice A5 s2.L.length c5, .int .i64 s2.L.length, .pointer (some ⟨g4, 2, none⟩), .bool true, .bool true, .pointer (some ⟨g4, 3, none⟩), .bool true, .bool false, .bool false, us 123, us 124, .bool true, .bool false, .bool false, .pointer (some ⟨b, 0, none⟩), .int .i64 ((s2.L.length : Int)), .int .i64 s2.L.length, .bool false, .bool false, .bool false, .pointer (some ⟨b, 0, none⟩), .bool true, .pointer (some ⟨g4, 2, none⟩), .bool true, .bool false, .bool false, .bool false, .pointer (some ⟨b, 0, none⟩), .bool true, .pointer (some ⟨g4, 3, none⟩), .bool true, .bool false, .bool false, .bool false, .pointer (some ⟨b, 0, none⟩), .bool false, .pointer (some ⟨g4, 2, none⟩), .bool true, .bool false, .bool false, undef, undef, undef, undef, .bool false, .bool false, .bool false, us 161, us 162, us 163, us 164, us 165, us 166, us 167, us 168] : Array Value).getD us_ undef, rfl, C0, PW, RQ, (by rw [HO.out, HD.out]; exact Fg4), Lib.hid ⟨by have := hlt.out; omega, by have := hlt.out; omega, by have := hlt.out; have := hk.out; omega⟩, hL, hxr, hxb, hxg, hgr⟩)
 ·have D21 := Lib.hid (show k < len0 by omega)
  have D24 := Lib.hid (show decide ((k : Int) < 100) = false from decide_eq_false (by omega))
  clear h
  refine s_ (fun K550 hK550 => ?_)
  refine pu_ (v := .int .i64 k) (y_move rfl (by rfl) (by rfl)) ?_
  (try simp only [zP, zN, zA, zB, zC])
  refine pu_ (v := .slice a0 len0 cap0) (y_move rfl (by rfl) (by rfl)) ?_
  (try simp only [zP, zN, zA, zB, zC])
  refine pu_ (v := .int .i64 len0) (y_run (by rfl) (fun W => by go_simp)) ?_
  (try simp only [zP, zN, zA, zB, zC])
  refine pu_ (v := .bool true) (y_run (by rfl) (fun W => by have d := D21.out; go_simp)) ?_
  (try simp only [zP, zN, zA, zB, zC])
  refine pu_ (v := .bool true) (y_move rfl (by rfl) (by rfl)) ?_
  (try simp only [zP, zN, zA, zB, zC])
  refine pu_ (v := .int .i64 k) (y_move rfl (by rfl) (by rfl)) ?_
  (try simp only [zP, zN, zA, zB, zC])
  refine pu_ (v := .bool false) (y_run (by rfl) (fun W => by have d := D24.out; go_simp)) ?_
  (try simp only [zP, zN, zA, zB, zC])
  refine pu_ (v := .bool false) (y_pick (t := true) (by rfl) rfl (by rfl) (by rfl)) ?_
  (try simp only [zP, zN, zA, zB, zC])
  refine nl_ (hK550 _ _ ?_); clear hK550 K550
  refine wp_cond_false rfl ?_
  refine wp_exit ?_
  refine th_exit ?_
  refine th_exit ?_
  refine ib_exit ?_
  refine th_norm (hK20 _ _ ?_); try clear hK20 K20
  refine sq_ (fun K551 hK551 => ?_)
  refine startk_ (S := fun W => Blk W g4 (#[x, .int .u64 (s).last, .bool (s).over, .bool (s).done]) 44 ∧ True) (ds := []) #[false, false, false, false, false, false, false, false, false] (by kernel_rfl) rfl rfl (fun W c => ⟨c.blk Fg4.out nin_nil, trivial⟩) (fun w552 C553 hS554 => ?_)
  have C0' := Lib.hid (show Ch [] w w552 from C0.out.trans' C553 (fun x hx => absurd hx (by simp)))
  have PW' := Lib.hid (show WinIs w552 (w.heap.size) b (s) (v) from PW.out.ch C553 nin_nil rnin_nil)
  have RQ' := Lib.hid (show RefIs w552 (s) (x) from RQ.out.ch C553 xnin_nil)
  have Fg4' := Lib.hid (show Blk w552 g4 (#[x, .int .u64 (s).last, .bool (s).over, .bool (s).done]) 44 from C553.blk Fg4.out nin_nil)
  clear C0 PW RQ Fg4
  have C0 := C0'; clear C0'
  have PW := PW'; clear PW'
  have RQ := RQ'; clear RQ'
  have Fg4 := Fg4'; clear Fg4'
  clear C553
  refine pure_ (i := 0) (N := some 161) (v := .pointer (some ⟨b, 0, none⟩)) #[true, false, false, false, false, false, false, false, false] rfl rfl (by kernel_rfl) (fun c a w h => hP c a _ _ w h) (y_move rfl (by rfl) (by rfl)) rfl ?_
  (try simp only [zP, zN, zA, zB, zC])
  refine pure_ (i := 2) (N := some 163) (v := .pointer (some ⟨g4, 2, none⟩)) #[true, false, true, false, false, false, false, false, false] rfl rfl (by kernel_rfl) (fun c a w h => hP c a _ _ w h) (y_run (by rfl) (fun W => by go_simp)) rfl ?_
  (try simp only [zP, zN, zA, zB, zC])
  refine take_ (i := 3) (N := some 164) (v := .bool (s).over) #[true, false, true, true, false, false, false, false, false] rfl rfl (by kernel_rfl) (fun c a w h => hP c a _ _ w h) (y_load (p := ⟨g4, 2, none⟩) rfl (by rfl) (by rfl) (fun W hS => run_load_one ((hS.1.cell 2).trans rfl) Try.underlying4 rfl)) hS554 rfl ?_
  (try simp only [zP, zN, zA, zB, zC])
  refine one_ (i := 1) (N := some 162) #[true, true, true, true, false, false, false, false, false] rfl rfl (by kernel_rfl) (by simp) (fun K555 hK555 => ?_)
  refine e_call Try.func26 (by kernel_rfl) rfl #[.pointer (some ⟨b, 0, none⟩)] (by rfl) rfl rfl (by first | rfl | (simp only [List.map_toArray, List.map_cons, List.map_nil]; first | done | rfl)) (over_all PW.out) ?_
  rintro en w556 ⟨rfl, rfl⟩
  refine ⟨_, rfl, ?_⟩
  refine hK555.out _ _ ⟨Fg4.out, trivial⟩ (fun hS557 => ?_); clear hK555 K555
  (try simp only [zP, zN, zA, zB, zC])
  refine pure_ (i := 4) (N := some 165) (v := .bool true) #[true, true, true, true, true, false, false, false, false] rfl rfl (by kernel_rfl) (fun c a w h => hP c a _ _ w h) (y_run (by rfl) (fun W => by go_simp)) rfl ?_
  (try simp only [zP, zN, zA, zB, zC])
  refine pure_ (i := 5) (N := some 166) (v := .bool true) #[true, true, true, true, true, true, false, false, false] rfl rfl (by kernel_rfl) (fun c a w h => hP c a _ _ w h) (y_move rfl (by rfl) (by rfl)) rfl ?_
  (try simp only [zP, zN, zA, zB, zC])
  refine one_ (i := 6) (N := some 167) #[true, true, true, true, true, true, true, false, false] rfl rfl (by kernel_rfl) (by simp) (fun K558 hK558 => ?_)
  refine e_call Try.func29 (by kernel_rfl) rfl #[] (by rfl) rfl rfl (by first | rfl | (simp only [List.map_toArray, List.map_cons, List.map_nil]; first | done | rfl)) (works_all _) ?_
  rintro en w560 ⟨rfl, cc559⟩
  refine ⟨_, rfl, ?_⟩
  have C0' := Lib.hid (show Ch [] w w560 from C0.out.trans' cc559 (fun x hx => absurd hx (by simp)))
  have PW' := Lib.hid (show WinIs w560 (w.heap.size) b (s) (v) from PW.out.ch cc559 nin_nil rnin_nil)
  have RQ' := Lib.hid (show RefIs w560 (s) (x) from RQ.out.ch cc559 xnin_nil)
  have Fg4' := Lib.hid (show Blk w560 g4 (#[x, .int .u64 (s).last, .bool (s).over, .bool (s).done]) 44 from cc559.blk Fg4.out nin_nil)
  clear C0 PW RQ Fg4
  have C0 := C0'; clear C0'
  have PW := PW'; clear PW'
  have RQ := RQ'; clear RQ'
  have Fg4 := Fg4'; clear Fg4'
  clear cc559
  refine hK558.out _ _ ⟨Fg4.out, trivial⟩ (fun hS561 => ?_); clear hK558 K558
  (try simp only [zP, zN, zA, zB, zC])
  refine pure_ (i := 7) (N := some 168) (v := .bool true) #[true, true, true, true, true, true, true, true, false] rfl rfl (by kernel_rfl) (fun c a w h => hP c a _ _ w h) (y_pick (t := true) (by rfl) rfl (by rfl) (by rfl)) rfl ?_
  (try simp only [zP, zN, zA, zB, zC])
  refine pure_ (i := 8) (N := some 2) (v := .bool true) #[true, true, true, true, true, true, true, true, true] rfl rfl (by kernel_rfl) (fun c a w h => hP c a _ _ w h) (y_assign rfl (by rfl) (by rfl)) rfl ?_
  (try simp only [zP, zN, zA, zB, zC])
  refine done_ (by kernel_rfl) (th_norm (hK551 _ _ ?_)); clear hK551 K551
  refine wp_ret ?_
  refine hQ _ _ _ ?_
  refine bodyPost_ret (res1 rfl (rdv_tmp (v := .bool true) (by rfl))) rfl ?_
  exact ⟨rfl, C0.out⟩
 ·have D21 := Lib.hid (show ¬ k < len0 by omega)
  clear h
  refine s_ (fun K562 hK562 => ?_)
  refine pu_ (v := .int .i64 k) (y_move rfl (by rfl) (by rfl)) ?_
  (try simp only [zP, zN, zA, zB, zC])
  refine pu_ (v := .slice a0 len0 cap0) (y_move rfl (by rfl) (by rfl)) ?_
  (try simp only [zP, zN, zA, zB, zC])
  refine pu_ (v := .int .i64 len0) (y_run (by rfl) (fun W => by go_simp)) ?_
  (try simp only [zP, zN, zA, zB, zC])
  refine pu_ (v := .bool false) (y_run (by rfl) (fun W => by have d := D21.out; go_simp)) ?_
  (try simp only [zP, zN, zA, zB, zC])
  refine pu_ (v := .bool false) (y_move rfl (by rfl) (by rfl)) ?_
  (try simp only [zP, zN, zA, zB, zC])
  refine pu_ (y_off (by rfl)) ?_
  (try simp only [zP, zN, zA, zB, zC])
  refine pu_ (y_off (by rfl)) ?_
  (try simp only [zP, zN, zA, zB, zC])
  refine pu_ (v := .bool false) (y_pick (t := false) (by rfl) rfl (by rfl) (by rfl)) ?_
  (try simp only [zP, zN, zA, zB, zC])
  refine nl_ (hK562 _ _ ?_); clear hK562 K562
  refine wp_cond_false rfl ?_
  refine wp_exit ?_
  refine th_exit ?_
  refine th_exit ?_
  refine ib_exit ?_
  refine th_norm (hK20 _ _ ?_); try clear hK20 K20
  refine sq_ (fun K563 hK563 => ?_)
  refine startk_ (S := fun W => Blk W g4 (#[x, .int .u64 (s).last, .bool (s).over, .bool (s).done]) 44 ∧ True) (ds := []) #[false, false, false, false, false, false, false, false, false] (by kernel_rfl) rfl rfl (fun W c => ⟨c.blk Fg4.out nin_nil, trivial⟩) (fun w564 C565 hS566 => ?_)
  have C0' := Lib.hid (show Ch [] w w564 from C0.out.trans' C565 (fun x hx => absurd hx (by simp)))
  have PW' := Lib.hid (show WinIs w564 (w.heap.size) b (s) (v) from PW.out.ch C565 nin_nil rnin_nil)
  have RQ' := Lib.hid (show RefIs w564 (s) (x) from RQ.out.ch C565 xnin_nil)
  have Fg4' := Lib.hid (show Blk w564 g4 (#[x, .int .u64 (s).last, .bool (s).over, .bool (s).done]) 44 from C565.blk Fg4.out nin_nil)
  clear C0 PW RQ Fg4
  have C0 := C0'; clear C0'
  have PW := PW'; clear PW'
  have RQ := RQ'; clear RQ'
  have Fg4 := Fg4'; clear Fg4'
  clear C565
  refine pure_ (i := 0) (N := some 161) (v := .pointer (some ⟨b, 0, none⟩)) #[true, false, false, false, false, false, false, false, false] rfl rfl (by kernel_rfl) (fun c a w h => hP c a _ _ w h) (y_move rfl (by rfl) (by rfl)) rfl ?_
  (try simp only [zP, zN, zA, zB, zC])
  refine pure_ (i := 2) (N := some 163) (v := .pointer (some ⟨g4, 2, none⟩)) #[true, false, true, false, false, false, false, false, false] rfl rfl (by kernel_rfl) (fun c a w h => hP c a _ _ w h) (y_run (by rfl) (fun W => by go_simp)) rfl ?_
  (try simp only [zP, zN, zA, zB, zC])
  refine take_ (i := 3) (N := some 164) (v := .bool (s).over) #[true, false, true, true, false, false, false, false, false] rfl rfl (by kernel_rfl) (fun c a w h => hP c a _ _ w h) (y_load (p := ⟨g4, 2, none⟩) rfl (by rfl) (by rfl) (fun W hS => run_load_one ((hS.1.cell 2).trans rfl) Try.underlying4 rfl)) hS566 rfl ?_
  (try simp only [zP, zN, zA, zB, zC])
  refine one_ (i := 1) (N := some 162) #[true, true, true, true, false, false, false, false, false] rfl rfl (by kernel_rfl) (by simp) (fun K567 hK567 => ?_)
  refine e_call Try.func26 (by kernel_rfl) rfl #[.pointer (some ⟨b, 0, none⟩)] (by rfl) rfl rfl (by first | rfl | (simp only [List.map_toArray, List.map_cons, List.map_nil]; first | done | rfl)) (over_all PW.out) ?_
  rintro en w568 ⟨rfl, rfl⟩
  refine ⟨_, rfl, ?_⟩
  refine hK567.out _ _ ⟨Fg4.out, trivial⟩ (fun hS569 => ?_); clear hK567 K567
  (try simp only [zP, zN, zA, zB, zC])
  refine pure_ (i := 4) (N := some 165) (v := .bool true) #[true, true, true, true, true, false, false, false, false] rfl rfl (by kernel_rfl) (fun c a w h => hP c a _ _ w h) (y_run (by rfl) (fun W => by go_simp)) rfl ?_
  (try simp only [zP, zN, zA, zB, zC])
  refine pure_ (i := 5) (N := some 166) (v := .bool true) #[true, true, true, true, true, true, false, false, false] rfl rfl (by kernel_rfl) (fun c a w h => hP c a _ _ w h) (y_move rfl (by rfl) (by rfl)) rfl ?_
  (try simp only [zP, zN, zA, zB, zC])
  refine one_ (i := 6) (N := some 167) #[true, true, true, true, true, true, true, false, false] rfl rfl (by kernel_rfl) (by simp) (fun K570 hK570 => ?_)
  refine e_call Try.func29 (by kernel_rfl) rfl #[] (by rfl) rfl rfl (by first | rfl | (simp only [List.map_toArray, List.map_cons, List.map_nil]; first | done | rfl)) (works_all _) ?_
  rintro en w572 ⟨rfl, cc571⟩
  refine ⟨_, rfl, ?_⟩
  have C0' := Lib.hid (show Ch [] w w572 from C0.out.trans' cc571 (fun x hx => absurd hx (by simp)))
  have PW' := Lib.hid (show WinIs w572 (w.heap.size) b (s) (v) from PW.out.ch cc571 nin_nil rnin_nil)
  have RQ' := Lib.hid (show RefIs w572 (s) (x) from RQ.out.ch cc571 xnin_nil)
  have Fg4' := Lib.hid (show Blk w572 g4 (#[x, .int .u64 (s).last, .bool (s).over, .bool (s).done]) 44 from cc571.blk Fg4.out nin_nil)
  clear C0 PW RQ Fg4
  have C0 := C0'; clear C0'
  have PW := PW'; clear PW'
  have RQ := RQ'; clear RQ'
  have Fg4 := Fg4'; clear Fg4'
  clear cc571
  refine hK570.out _ _ ⟨Fg4.out, trivial⟩ (fun hS573 => ?_); clear hK570 K570
  (try simp only [zP, zN, zA, zB, zC])
  refine pure_ (i := 7) (N := some 168) (v := .bool true) #[true, true, true, true, true, true, true, true, false] rfl rfl (by kernel_rfl) (fun c a w h => hP c a _ _ w h) (y_pick (t := true) (by rfl) rfl (by rfl) (by rfl)) rfl ?_
  (try simp only [zP, zN, zA, zB, zC])
  refine pure_ (i := 8) (N := some 2) (v := .bool true) #[true, true, true, true, true, true, true, true, true] rfl rfl (by kernel_rfl) (fun c a w h => hP c a _ _ w h) (y_assign rfl (by rfl) (by rfl)) rfl ?_
  (try simp only [zP, zN, zA, zB, zC])
  refine done_ (by kernel_rfl) (th_norm (hK563 _ _ ?_)); clear hK563 K563
  refine wp_ret ?_
  refine hQ _ _ _ ?_
  refine bodyPost_ret (res1 rfl (rdv_tmp (v := .bool true) (by rfl))) rfl ?_
  exact ⟨rfl, C0.out⟩
end Go.Proofs.Ytanlbnipbbjheaa.V
