/- The walk of the law FrameStream. -/
import Derived.Test.YtfbecehinloldaaFrW
namespace Go.Proofs.Ytfbecehinloldaa.V
open Go Go.RowKit Go.Proofs.Ytfbecehinloldaa.K Go.Proofs.YtfbecehinloldaaW.PrintLast Go.Proofs.Ytfbecehinloldaa.PFrameOnce
set_option linter.unusedVariables false
set_option linter.unusedSimpArgs false
set_option maxRecDepth 100000
set_option maxHeartbeats 1600000
section
variable {w : World}
theorem toList_nil {s : ByteArray} (h : s.toList = []) : s.size = 0 := by
  rw [ByteArray.toList_eq] at h
  have := lst_len s
  unfold lst at this
  rw [h] at this
  exact this.symm
theorem stream_ {A Au : Option Addr} {z zu : Nat} {L : List ByteArray} {U : List Int} (SL : Hid (SrcIs w (.slice A L.length z) (L.length) (L.flatMap strC) 1)) (UL : Hid (SrcIs w (.slice Au U.length zu) (U.length) (U.flatMap intC) 1)) :
    Calls Try.prog 5 #[.slice A L.length z, .slice Au U.length zu] w fun en w' => en = .returned (.bool true) ∧ Ch [] w w' := by
  have C0 := Lib.hid (Ch.refl [] w)
  obtain ⟨i9, I9⟩ := Info.of info9
  go_enter Try.func5, Try.ntmps5
  refine q_ (fun Q hQ hP => ?_)
  refine s_ (fun K1 hK1 => ?_)
  refine pu_ (v := .bool false) (y_assign rfl (by rfl) (by rfl)) ?_
  (try simp only [zP, zN, zA, zB, zC])
  refine nl_ (hK1 _ _ ?_); clear hK1 K1
  refine sq_ (fun K2 hK2 => ?_)
  refine s_ (fun K3 hK3 => ?_)
  refine ef_ (fun K4 hK4 => ?_)
  refine e_call Try.func6 (by kernel_rfl) rfl #[] (by rfl) rfl rfl (by first | rfl | (simp only [List.map_toArray, List.map_cons, List.map_nil]; first | done | rfl)) (works_c) ?_
  rintro en w6 ⟨rfl, cc5⟩
  refine ⟨_, rfl, ?_⟩
  have C0' := Lib.hid (show Ch [] w w6 from C0.out.trans' cc5 (fun x hx => absurd hx (by simp)))
  have SL' := Lib.hid (show SrcIs w6 (.slice A L.length z) (L.length) (L.flatMap strC) 1 from SL.out.chx cc5 xnin_nil)
  have UL' := Lib.hid (show SrcIs w6 (.slice Au U.length zu) (U.length) (U.flatMap intC) 1 from UL.out.chx cc5 xnin_nil)
  clear C0 SL UL
  have C0 := C0'; clear C0'
  have SL := SL'; clear SL'
  have UL := UL'; clear UL'
  clear cc5
  refine hK4 _ _ ?_; clear hK4 K4
  (try simp only [zP, zN, zA, zB, zC])
  refine pu_ (v := .bool false) (y_run (by rfl) (fun W => by go_simp)) ?_
  (try simp only [zP, zN, zA, zB, zC])
  refine nl_ (hK3 _ _ ?_); clear hK3 K3
  refine wp_cond_false rfl ?_
  refine wp_skip ?_
  refine th_norm (hK2 _ _ ?_); try clear hK2 K2
  refine s_ (fun K7 hK7 => ?_)
  refine ef_ (fun K8 hK8 => ?_)
  refine e_call Try.func9 (by kernel_rfl) rfl #[] (by rfl) rfl rfl (by first | rfl | (simp only [List.map_toArray, List.map_cons, List.map_nil]; first | done | rfl)) new_c ?_
  rintro en w9 ⟨x, rfl, hb, hge, cc⟩
  refine ⟨_, rfl, ?_⟩
  have hxN := Lib.hid (show w.heap.size ≤ x by have := C0.out.size; omega)
  have hxL := Lib.hid (show x ∉ xb (.slice A L.length z) from fun hk => by have := SL.out.lt (by decide) _ hk; omega)
  have hxU := Lib.hid (show x ∉ xb (.slice Au U.length zu) from fun hk => by have := UL.out.lt (by decide) _ hk; omega)
  have C0' := Lib.hid (show Ch [] w w9 from C0.out.trans' cc (fun x hx => absurd hx (by simp)))
  have SL' := Lib.hid (show SrcIs w9 (.slice A L.length z) (L.length) (L.flatMap strC) 1 from SL.out.chx cc xnin_nil)
  have UL' := Lib.hid (show SrcIs w9 (.slice Au U.length zu) (U.length) (U.flatMap intC) 1 from UL.out.chx cc xnin_nil)
  clear C0 SL UL
  have C0 := C0'; clear C0'
  have SL := SL'; clear SL'
  have UL := UL'; clear UL'
  clear cc
  have SX := Lib.hid hb
  clear hb
  refine hK8 _ _ ?_; clear hK8 K8
  (try simp only [zP, zN, zA, zB, zC])
  refine pu_ (v := .pointer (some ⟨x, 0, none⟩)) (y_assign rfl (by rfl) (by rfl)) ?_
  (try simp only [zP, zN, zA, zB, zC])
  refine nl_ (hK7 _ _ ?_); clear hK7 K7
  refine sq_ (fun K10 hK10 => ?_)
  rcases (show 12 < L.length ∨ ¬ 12 < L.length by omega) with h | h
  · have D22 := Lib.hid (show (12 : Int) < (L.length : Int) by omega)
    clear h
    refine s_ (fun K11 hK11 => ?_)
    refine pu_ (v := .pointer (some ⟨x, 0, none⟩)) (y_move rfl (by rfl) (by rfl)) ?_
    (try simp only [zP, zN, zA, zB, zC])
    refine pu_ (v := .bool false) (y_run (by rfl) (fun W => by first | (go_simp; done) | (go_simp; rfl) | (go_simp; decide))) ?_
    (try simp only [zP, zN, zA, zB, zC])
    refine pu_ (v := .bool false) (y_move rfl (by rfl) (by rfl)) ?_
    (try simp only [zP, zN, zA, zB, zC])
    refine pu_ (v := .slice A L.length z) (y_move rfl (by rfl) (by rfl)) ?_
    (try simp only [zP, zN, zA, zB, zC])
    refine pu_ (v := .int .i64 L.length) (y_run (by rfl) (fun W => by go_simp)) ?_
    (try simp only [zP, zN, zA, zB, zC])
    refine pu_ (v := .bool true) (y_run (by rfl) (fun W => by have d := D22.out; go_simp)) ?_
    (try simp only [zP, zN, zA, zB, zC])
    refine pu_ (v := .bool true) (y_pick (t := false) (by rfl) rfl (by rfl) (by rfl)) ?_
    (try simp only [zP, zN, zA, zB, zC])
    refine nl_ (hK11 _ _ ?_); clear hK11 K11
    refine wp_cond_true rfl ?_
    refine s_ (fun K12 hK12 => ?_)
    refine pu_ (v := .pointer (some ⟨x, 0, none⟩)) (y_move rfl (by rfl) (by rfl)) ?_
    (try simp only [zP, zN, zA, zB, zC])
    refine pu_ (v := .bool true) (y_run (by rfl) (fun W => by first | (go_simp; done) | (go_simp; rfl) | (go_simp; decide))) ?_
    (try simp only [zP, zN, zA, zB, zC])
    refine pu_ (v := .bool true) (y_assign rfl (by rfl) (by rfl)) ?_
    (try simp only [zP, zN, zA, zB, zC])
    refine nl_ (hK12 _ _ ?_); clear hK12 K12
    refine wp_ret ?_
    refine th_ret ?_
    refine hQ _ _ _ ?_
    refine bodyPost_ret (res1 rfl (rdv_tmp (v := .bool true) (by rfl))) rfl ?_
    exact ⟨rfl, C0.out⟩
  · have HL := Lib.hid (show L.length ≤ 12 by omega)
    have D22 := Lib.hid (show ¬ (12 : Int) < (L.length : Int) by omega)
    have HSF := Lib.hid (show Smalls (L.map cutT) from fun t ht => by obtain ⟨b, _, rfl⟩ := List.mem_map.1 ht; exact cutT_size b)
    have HFL := Lib.hid (show (L.map cutT).length = L.length from List.length_map _)
    clear h
    refine s_ (fun K13 hK13 => ?_)
    refine pu_ (v := .pointer (some ⟨x, 0, none⟩)) (y_move rfl (by rfl) (by rfl)) ?_
    (try simp only [zP, zN, zA, zB, zC])
    refine pu_ (v := .bool false) (y_run (by rfl) (fun W => by first | (go_simp; done) | (go_simp; rfl) | (go_simp; decide))) ?_
    (try simp only [zP, zN, zA, zB, zC])
    refine pu_ (v := .bool false) (y_move rfl (by rfl) (by rfl)) ?_
    (try simp only [zP, zN, zA, zB, zC])
    refine pu_ (v := .slice A L.length z) (y_move rfl (by rfl) (by rfl)) ?_
    (try simp only [zP, zN, zA, zB, zC])
    refine pu_ (v := .int .i64 L.length) (y_run (by rfl) (fun W => by go_simp)) ?_
    (try simp only [zP, zN, zA, zB, zC])
    refine pu_ (v := .bool false) (y_run (by rfl) (fun W => by have d := D22.out; go_simp)) ?_
    (try simp only [zP, zN, zA, zB, zC])
    refine pu_ (v := .bool false) (y_pick (t := false) (by rfl) rfl (by rfl) (by rfl)) ?_
    (try simp only [zP, zN, zA, zB, zC])
    refine nl_ (hK13 _ _ ?_); clear hK13 K13
    refine wp_cond_false rfl ?_
    refine wp_skip ?_
    refine th_norm (hK10 _ _ ?_); try clear hK10 K10
    refine s_ (fun K14 hK14 => ?_)
    refine pu_ (v := .string {data := #[]}) (y_assign rfl (by rfl) (by rfl)) ?_
    (try simp only [zP, zN, zA, zB, zC])
    refine nl_ (hK14 _ _ ?_); clear hK14 K14
    refine sq_ (fun K15 hK15 => ?_)
    refine s_ (fun K16 hK16 => ?_)
    refine pu_ (v := .slice A L.length z) (y_move rfl (by rfl) (by rfl)) ?_
    (try simp only [zP, zN, zA, zB, zC])
    refine pu_ (v := .int .i64 L.length) (y_run (by rfl) (fun W => by go_simp)) ?_
    (try simp only [zP, zN, zA, zB, zC])
    refine pu_ (v := .int .i64 0) (y_move rfl (by rfl) (by rfl)) ?_
    (try simp only [zP, zN, zA, zB, zC])
    refine nl_ (hK16 _ _ ?_); clear hK16 K16
    refine wp_block ?_
    refine loopk_ (fun (kq : Nat) (a' : Act) (w' : World) => ∃ (k : Nat), ∃ (al : ByteArray), ∃ (us : Nat → Value), a' = ⟨#[.slice A L.length z, .slice Au U.length zu, us 2, us 3, .bool false, .pointer (some ⟨x, 0, none⟩), .string al, us 7, us 8, us 9, us 10, us 11, us 12, us 13, us 14, us 15, us 16, us 17, us 18, us 19, us 20, us 21, us 22, us 23, us 24, us 25, us 26, .int .i64 L.length, .int .i64 k, us 29, us 30, us 31, us 32, us 33, us 34, us 35, us 36, us 37, us 38, us 39, us 40, us 41, us 42, us 43, us 44, us 45, us 46, us 47, us 48, us 49, us 50, us 51, us 52, us 53, us 54, us 55, us 56, us 57, us 58, us 59, us 60, us 61, us 62, us 63, us 64, us 65, us 66, us 67, us 68, us 69, us 70, us 71, us 72, us 73, us 74, us 75, us 76, us 77, us 78, us 79, us 80, us 81, us 82, us 83, us 84, us 85, us 86, us 87, us 88, us 89, us 90, us 91, us 92, us 93, us 94, us 95, us 96, us 97, us 98, us 99, us 100, us 101, us 102, us 103, us 104, us 105, us 106, us 107, us 108, us 109, us 110, us 111, us 112, us 113, us 114, us 115, us 116, us 117], []⟩ ∧ Hid (Ch [] w w') ∧ Hid (SrcIs w' (.slice A L.length z) (L.length) (L.flatMap strC) 1) ∧ Hid (SrcIs w' (.slice Au U.length zu) (U.length) (U.flatMap intC) 1) ∧ Hid (Blk w' x (#[.string E0, .bool false]) 43) ∧ Hid (k ≤ L.length ∧ kq + k = L.length) ∧ Hid (al = cat ((L.map cutT).take k))) (L.length) (⟨0, E0, fun us_ => (#[.slice A L.length z, .slice Au U.length zu, undef, undef, .bool false, .pointer (some ⟨x, 0, none⟩), .string {data := #[]}, undef, undef, undef, undef, undef, undef, undef, .bool true, .bool false, .pointer (some ⟨x, 0, none⟩), .pointer (some ⟨x, 0, none⟩), .bool false, .bool false, .slice A L.length z, .int .i64 L.length, .bool false, .bool false, undef, undef, .slice A L.length z, .int .i64 L.length, .int .i64 0, undef, undef, undef, undef, undef, undef, undef, undef, undef, undef, undef, undef, undef, undef, undef, undef, undef, undef, undef, undef, undef, undef, undef, undef, undef, undef, undef, undef, undef, undef, undef, undef, undef, undef, undef, undef, undef, undef, undef, undef, undef, undef, undef, undef, undef, undef, undef, undef, undef, undef, undef, undef, undef, undef, undef, undef, undef, undef, undef, undef, undef, undef, undef, undef, undef, undef, undef, undef, undef, undef, undef, undef, undef, undef, undef, undef, undef, undef, undef, undef, undef, undef, undef, undef, undef, undef, undef, undef, undef] : Array Value).getD us_ undef, rfl, C0, SL, UL, SX, Lib.hid ⟨by omega, by omega⟩, Lib.hid rfl⟩) ?_
    rintro kq _ w17 ⟨k, al, us, rfl, C0, SL, UL, SX, hk, hal⟩ K18 hK18
    rcases at_ways' hk.out.1 with ⟨b, ho0, hlt0⟩ | h
    · have hlt := Lib.hid hlt0
      have ho := Lib.hid ho0
      clear hlt0 ho0
      obtain ⟨a, hsm_a⟩ := src_some SL.out (by have := hlt.out; omega)
      subst hsm_a
      have D29 := Lib.hid (show (k : Int) < (L.length : Int) by have := hlt.out; omega)
      have Wk := Lib.hid (show IntKind.i64.wrap ((k : Int) + 1) = ((k + 1 : Nat) : Int) by rw [wr64 (by have := hlt.out; have h7 := HL.out; omega)]; omega)
      have HAZ := Lib.hid (show al.size ≤ 4824 by rw [hal.out]; have h9 := cat_size (l := (L.map cutT).take k) (fun t ht => HSF.out t (List.mem_of_mem_take ht)); rw [List.length_take] at h9; have := HL.out; have := HFL.out; omega)
      have D44 := Lib.hid (show al.size + (frm (cutT b)).size ≤ 9223372036854775807 by rw [frm_size]; have := cutT_size b; have := HAZ.out; omega)
      refine s_ (fun K19 hK19 => ?_)
      refine pu_ (v := .bool true) (y_run (by rfl) (fun W => by have d := D29.out; go_simp)) ?_
      (try simp only [zP, zN, zA, zB, zC])
      refine nl_ (hK19 _ _ ?_); clear hK19 K19
      refine sq_ (fun K20 hK20 => ?_)
      refine wp_cond_true rfl ?_
      refine wp_skip ?_
      refine th_norm (hK20 _ _ ?_); try clear hK20 K20
      refine sq_ (fun K21 hK21 => ?_)
      refine wp_block ?_
      refine s_ (fun K22 hK22 => ?_)
      refine pu_ (v := .int .i64 k) (y_move rfl (by rfl) (by rfl)) ?_
      (try simp only [zP, zN, zA, zB, zC])
      refine pu_ (v := .int .i64 k) (y_assign rfl (by rfl) (by rfl)) ?_
      (try simp only [zP, zN, zA, zB, zC])
      refine nl_ (hK22 _ _ ?_); clear hK22 K22
      refine s_ (fun K23 hK23 => ?_)
      refine pu_ (v := .slice (some a) L.length z) (y_move rfl (by rfl) (by rfl)) ?_
      (try simp only [zP, zN, zA, zB, zC])
      refine pu_ (v := .int .i64 k) (y_move rfl (by rfl) (by rfl)) ?_
      (try simp only [zP, zN, zA, zB, zC])
      refine pu_ (v := .pointer (some (a.add k))) (y_run (by rfl) (fun W => by have d := D29.out; go_simp)) ?_
      (try simp only [zP, zN, zA, zB, zC])
      refine ld_ (v := .string b) rfl (by rfl) (by rfl) (run_load_one (one_at (by have h9 := src_at strC_len SL.out ho.out; rw [Nat.mul_one] at h9; exact h9)) Try.underlying9 rfl) ?_
      (try simp only [zP, zN, zA, zB, zC])
      refine ef_ (fun K24 hK24 => ?_)
      refine e_call Try.func14 (by kernel_rfl) rfl #[.string b, .int .i64 400] (by rfl) rfl rfl (by first | rfl | (simp only [List.map_toArray, List.map_cons, List.map_nil]; first | done | rfl)) (cut_) ?_
      rintro en w26 ⟨rfl, cc25⟩
      refine ⟨_, rfl, ?_⟩
      have C0' := Lib.hid (show Ch [] w w26 from C0.out.trans' cc25 (fun x hx => absurd hx (by simp)))
      have SL' := Lib.hid (show SrcIs w26 (.slice (some a) L.length z) (L.length) (L.flatMap strC) 1 from SL.out.chx cc25 xnin_nil)
      have UL' := Lib.hid (show SrcIs w26 (.slice Au U.length zu) (U.length) (U.flatMap intC) 1 from UL.out.chx cc25 xnin_nil)
      have SX' := Lib.hid (show Blk w26 x (#[.string E0, .bool false]) 43 from cc25.blk SX.out nin_nil)
      clear C0 SL UL SX
      have C0 := C0'; clear C0'
      have SL := SL'; clear SL'
      have UL := UL'; clear UL'
      have SX := SX'; clear SX'
      clear cc25
      refine hK24 _ _ ?_; clear hK24 K24
      (try simp only [zP, zN, zA, zB, zC])
      refine ef_ (fun K27 hK27 => ?_)
      refine e_call Try.func7 (by kernel_rfl) rfl #[.string (cutT b)] (by rfl) rfl rfl (by first | rfl | (simp only [List.map_toArray, List.map_cons, List.map_nil]; first | done | rfl)) ((put_c (cutT_size b))) ?_
      rintro en w29 ⟨rfl, cc28⟩
      refine ⟨_, rfl, ?_⟩
      have C0' := Lib.hid (show Ch [] w w29 from C0.out.trans' cc28 (fun x hx => absurd hx (by simp)))
      have SL' := Lib.hid (show SrcIs w29 (.slice (some a) L.length z) (L.length) (L.flatMap strC) 1 from SL.out.chx cc28 xnin_nil)
      have UL' := Lib.hid (show SrcIs w29 (.slice Au U.length zu) (U.length) (U.flatMap intC) 1 from UL.out.chx cc28 xnin_nil)
      have SX' := Lib.hid (show Blk w29 x (#[.string E0, .bool false]) 43 from cc28.blk SX.out nin_nil)
      clear C0 SL UL SX
      have C0 := C0'; clear C0'
      have SL := SL'; clear SL'
      have UL := UL'; clear UL'
      have SX := SX'; clear SX'
      clear cc28
      refine hK27 _ _ ?_; clear hK27 K27
      (try simp only [zP, zN, zA, zB, zC])
      refine pu_ (v := .tuple #[.string (frm (cutT b)), .int .i64 0]) (y_move rfl (by rfl) (by rfl)) ?_
      (try simp only [zP, zN, zA, zB, zC])
      refine pu_ (v := .string (frm (cutT b))) (y_run (by rfl) (fun W => by go_simp)) ?_
      (try simp only [zP, zN, zA, zB, zC])
      refine pu_ (v := .int .i64 0) (y_run (by rfl) (fun W => by go_simp)) ?_
      (try simp only [zP, zN, zA, zB, zC])
      refine pu_ (v := .string (frm (cutT b))) (y_assign rfl (by rfl) (by rfl)) ?_
      (try simp only [zP, zN, zA, zB, zC])
      refine pu_ (v := .int .i64 0) (y_assign rfl (by rfl) (by rfl)) ?_
      (try simp only [zP, zN, zA, zB, zC])
      refine nl_ (hK23 _ _ ?_); clear hK23 K23
      refine sq_ (fun K30 hK30 => ?_)
      refine s_ (fun K31 hK31 => ?_)
      refine pu_ (v := .int .i64 0) (y_move rfl (by rfl) (by rfl)) ?_
      (try simp only [zP, zN, zA, zB, zC])
      refine pu_ (v := .bool false) (y_run (by rfl) (fun W => by first | (go_simp; done) | (go_simp; rfl) | (go_simp; decide))) ?_
      (try simp only [zP, zN, zA, zB, zC])
      refine nl_ (hK31 _ _ ?_); clear hK31 K31
      refine wp_cond_false rfl ?_
      refine wp_skip ?_
      refine th_norm (hK30 _ _ ?_); try clear hK30 K30
      refine r_ ?_
      refine pu_ (v := .string al) (y_move rfl (by rfl) (by rfl)) ?_
      (try simp only [zP, zN, zA, zB, zC])
      refine pu_ (v := .string (frm (cutT b))) (y_move rfl (by rfl) (by rfl)) ?_
      (try simp only [zP, zN, zA, zB, zC])
      refine pu_ (v := .string (al ++ frm (cutT b))) (y_run (by rfl) (fun W => by have d := D44.out; go_simp)) ?_
      (try simp only [zP, zN, zA, zB, zC])
      refine pu_ (v := .string (al ++ frm (cutT b))) (y_assign rfl (by rfl) (by rfl)) ?_
      (try simp only [zP, zN, zA, zB, zC])
      refine nl_ ?_
      refine ib_norm ?_
      refine th_norm (hK21 _ _ ?_); try clear hK21 K21
      refine r_ ?_
      refine pu_ (v := .int .i64 (k + 1 : Nat)) (y_run (by rfl) (fun W => by have d := Wk.out; go_simp)) ?_
      (try simp only [zP, zN, zA, zB, zC])
      refine pu_ (v := .int .i64 (k + 1 : Nat)) (y_move rfl (by rfl) (by rfl)) ?_
      (try simp only [zP, zN, zA, zB, zC])
      refine nl_ ?_
      exact th_norm (hK18 (kq - 1) _ _ (by have := hlt.out; have := hk.out; omega) ⟨k + 1, _, fun us_ => (#[.slice (some a) L.length z, .slice Au U.length zu, us 2, us 3, .bool false, .pointer (some ⟨x, 0, none⟩), .string (al ++ frm (cutT b)), .int .i64 k, .string (frm (cutT b)), .int .i64 0, us 10, us 11, us 12, us 13, us 14, us 15, us 16, us 17, us 18, us 19, us 20, us 21, us 22, us 23, us 24, us 25, us 26, .int .i64 L.length, .int .i64 (k + 1 : Nat), .bool true, .int .i64 k, .tuple #[.string (frm (cutT b)), .int .i64 0], .slice (some a) L.length z, .int .i64 k, .pointer (some (a.add k)), .string b, .string (cutT b), .tuple #[.string (frm (cutT b)), .int .i64 0], .string (frm (cutT b)), .int .i64 0, .int .i64 0, .bool false, .string al, .string (frm (cutT b)), .string (al ++ frm (cutT b)), .int .i64 (k + 1 : Nat), us 46, us 47, us 48, us 49, us 50, us 51, us 52, us 53, us 54, us 55, us 56, us 57, us 58, us 59, us 60, us 61, us 62, us 63, us 64, us 65, us 66, us 67, us 68, us 69, us 70, us 71, us 72, us 73, us 74, us 75, us 76, us 77, us 78, us 79, us 80, us 81, us 82, us 83, us 84, us 85, us 86, us 87, us 88, us 89, us 90, us 91, us 92, us 93, us 94, us 95, us 96, us 97, us 98, us 99, us 100, us 101, us 102, us 103, us 104, us 105, us 106, us 107, us 108, us 109, us 110, us 111, us 112, us 113, us 114, us 115, us 116, us 117] : Array Value).getD us_ undef, rfl, C0, SL, UL, SX, Lib.hid ⟨by have := hlt.out; omega, by have := hlt.out; have := hk.out; omega⟩, Lib.hid (by rw [take_snoc (x := cutT b) (by rw [List.getElem?_map, ho.out]; rfl), cat_snoc, ← hal.out])⟩)
    · have D29 := Lib.hid (show ¬ k < L.length by have := hk.out; omega)
      have HE := Lib.hid h
      clear h
      refine s_ (fun K32 hK32 => ?_)
      refine pu_ (v := .bool false) (y_run (by rfl) (fun W => by have d := D29.out; go_simp)) ?_
      (try simp only [zP, zN, zA, zB, zC])
      refine nl_ (hK32 _ _ ?_); clear hK32 K32
      refine sq_ (fun K33 hK33 => ?_)
      refine wp_cond_false rfl ?_
      refine wp_exit ?_
      refine th_exit ?_
      refine th_exit ?_
      refine ib_exit ?_
      refine th_norm (hK15 _ _ ?_); try clear hK15 K15
      refine s_ (fun K34 hK34 => ?_)
      refine pu_ (v := .slice none 0 0) (y_assign rfl (by rfl) (by rfl)) ?_
      (try simp only [zP, zN, zA, zB, zC])
      refine nl_ (hK34 _ _ ?_); clear hK34 K34
      refine sq_ (fun K35 hK35 => ?_)
      refine s_ (fun K36 hK36 => ?_)
      refine pu_ (v := .int .i64 0) (y_assign rfl (by rfl) (by rfl)) ?_
      (try simp only [zP, zN, zA, zB, zC])
      refine nl_ (hK36 _ _ ?_); clear hK36 K36
      refine wp_block ?_
      have HALL := Lib.hid (show al = cat (L.map cutT) by rw [hal.out, HE.out, List.take_of_length_le (by rw [HFL.out]; exact Nat.le_refl _)])
      have OG0 := Lib.hid (show OwnS w17 w.heap.size 9 1 (.slice none 0 0) 0 (((L.map cutT).take 0).flatMap strC) from OwnS.nil _ _ _ _ _)
      refine loopk_ (fun (kq : Nat) (a' : Act) (w' : World) => ∃ (i : Nat), ∃ (j : Nat), ∃ (al : ByteArray), ∃ (r : ByteArray), ∃ (vg : Value), ∃ (us : Nat → Value), a' = ⟨#[.slice A L.length z, .slice Au U.length zu, us 2, us 3, .bool false, .pointer (some ⟨x, 0, none⟩), .string al, us 7, us 8, us 9, vg, .int .i64 i, us 12, us 13, us 14, us 15, us 16, us 17, us 18, us 19, us 20, us 21, us 22, us 23, us 24, us 25, us 26, us 27, us 28, us 29, us 30, us 31, us 32, us 33, us 34, us 35, us 36, us 37, us 38, us 39, us 40, us 41, us 42, us 43, us 44, us 45, us 46, us 47, us 48, us 49, us 50, us 51, us 52, us 53, us 54, us 55, us 56, us 57, us 58, us 59, us 60, us 61, us 62, us 63, us 64, us 65, us 66, us 67, us 68, us 69, us 70, us 71, us 72, us 73, us 74, us 75, us 76, us 77, us 78, us 79, us 80, us 81, us 82, us 83, us 84, us 85, us 86, us 87, us 88, us 89, us 90, us 91, us 92, us 93, us 94, us 95, us 96, us 97, us 98, us 99, us 100, us 101, us 102, us 103, us 104, us 105, us 106, us 107, us 108, us 109, us 110, us 111, us 112, us 113, us 114, us 115, us 116, us 117], []⟩ ∧ Hid (Ch [] w w') ∧ Hid (SrcIs w' (.slice A L.length z) (L.length) (L.flatMap strC) 1) ∧ Hid (SrcIs w' (.slice Au U.length zu) (U.length) (U.flatMap intC) 1) ∧ Hid (Blk w' x (#[.string r, .bool false]) 43) ∧ Hid (OwnS w' w.heap.size 9 1 (vg) (j) (((L.map cutT).take j).flatMap strC)) ∧ Hid (j ≤ L.length) ∧ Hid (i ≤ 61 ∧ (i ≤ 60 ∨ al.size = 0) ∧ kq = (60 - i) + (if al.size = 0 then 0 else 1)) ∧ Hid (r ++ al = cat ((L.map cutT).drop j)) ∧ Hid (Short r ((L.map cutT).drop j)) ∧ Hid (∀ k, k ∈ xb (.slice A L.length z) → k ∉ rl vg) ∧ Hid (∀ k, k ∈ xb (.slice Au U.length zu) → k ∉ rl vg)) ((60 - 0) + (if al.size = 0 then 0 else 1)) (⟨0, 0, _, E0, _, fun us_ => (#[.slice A L.length z, .slice Au U.length zu, us 2, us 3, .bool false, .pointer (some ⟨x, 0, none⟩), .string al, us 7, us 8, us 9, .slice none 0 0, .int .i64 0, us 12, us 13, us 14, us 15, us 16, us 17, us 18, us 19, us 20, us 21, us 22, us 23, us 24, us 25, us 26, .int .i64 L.length, .int .i64 k, .bool false, us 30, us 31, us 32, us 33, us 34, us 35, us 36, us 37, us 38, us 39, us 40, us 41, us 42, us 43, us 44, us 45, us 46, us 47, us 48, us 49, us 50, us 51, us 52, us 53, us 54, us 55, us 56, us 57, us 58, us 59, us 60, us 61, us 62, us 63, us 64, us 65, us 66, us 67, us 68, us 69, us 70, us 71, us 72, us 73, us 74, us 75, us 76, us 77, us 78, us 79, us 80, us 81, us 82, us 83, us 84, us 85, us 86, us 87, us 88, us 89, us 90, us 91, us 92, us 93, us 94, us 95, us 96, us 97, us 98, us 99, us 100, us 101, us 102, us 103, us 104, us 105, us 106, us 107, us 108, us 109, us 110, us 111, us 112, us 113, us 114, us 115, us 116, us 117] : Array Value).getD us_ undef, rfl, C0, SL, UL, SX, OG0, Lib.hid (by omega), Lib.hid ⟨by omega, by omega, rfl⟩, Lib.hid (by rw [HALL.out, nil_app, List.drop_zero]), Lib.hid ⟨cat (L.map cutT), by rw [nil_app, List.drop_zero], by rw [List.drop_zero]; exact HSF.out, fun t _ => Nat.zero_lt_of_lt (Nat.lt_succ_self _)⟩, Lib.hid (fun k _ hm => absurd hm (by simp [rl])), Lib.hid (fun k _ hm => absurd hm (by simp [rl]))⟩) ?_
      rintro kq _ w37 ⟨i, j, al, r, vg, us, rfl, C0, SL, UL, SX, OG, hj, hi, HRA, HSH, hxr, hur⟩ K38 hK38
      refine sq_ (fun K39 hK39 => ?_)
      rcases (show ¬ al.size = 0 ∨ al.size = 0 by omega) with h | h
      · have HNZ := Lib.hid h
        have D47 := Lib.hid (show ¬ al.toList = [] from fun h9 => h (by rw [toList_nil h9]))
        have HI := Lib.hid (show i ≤ 60 from hi.out.2.1.elim id (fun h9 => absurd h9 h))
        clear h
        have Wi := Lib.hid (show IntKind.i64.wrap ((i : Int) + 1) = ((i + 1 : Nat) : Int) by rw [wr64 (by have := HI.out; omega)]; omega)
        refine s_ (fun K40 hK40 => ?_)
        refine pu_ (v := .string al) (y_move rfl (by rfl) (by rfl)) ?_
        (try simp only [zP, zN, zA, zB, zC])
        refine pu_ (v := .bool true) (y_run (by rfl) (fun W => by have d := D47.out; go_simp)) ?_
        (try simp only [zP, zN, zA, zB, zC])
        refine nl_ (hK40 _ _ ?_); clear hK40 K40
        refine wp_cond_true rfl ?_
        refine wp_skip ?_
        refine th_norm (hK39 _ _ ?_); try clear hK39 K39
        refine sq_ (fun K41 hK41 => ?_)
        refine wp_block ?_
        refine s_ (fun K42 hK42 => ?_)
        refine pu_ (v := .string al) (y_move rfl (by rfl) (by rfl)) ?_
        (try simp only [zP, zN, zA, zB, zC])
        refine pu_ (v := .int .i64 al.size) (y_run (by rfl) (fun W => by go_simp)) ?_
        (try simp only [zP, zN, zA, zB, zC])
        refine pu_ (v := .int .i64 al.size) (y_assign rfl (by rfl) (by rfl)) ?_
        (try simp only [zP, zN, zA, zB, zC])
        refine nl_ (hK42 _ _ ?_); clear hK42 K42
        refine sq_ (fun K43 hK43 => ?_)
        rcases (show U.length ≤ i ∨ (i < U.length ∧ 60 ≤ i) ∨ (i < U.length ∧ i < 60) by omega) with h | h | h
        · have D55 := Lib.hid (show ¬ (i : Int) < (U.length : Int) by omega)
          have HNB := Lib.hid (Nat.le_refl al.size)
          have HNX := Lib.hid (show al.size = al.size ∨ i < 60 from .inl rfl)
          clear h
          have HPZ := Lib.hid (show (r ++ al).size ≤ 4824 by rw [HRA.out]; have h9 := cat_size (l := (L.map cutT).drop j) (fun t ht => HSF.out t (List.mem_of_mem_drop ht)); rw [List.length_drop] at h9; have := HL.out; have := HFL.out; omega)
          have HXS := Lib.hid (show (al.extract al.size al.size).size = al.size - al.size by rw [ByteArray.size_extract]; omega)
          have HES := Lib.hid (show (al.extract 0 al.size).size = al.size by rw [ByteArray.size_extract]; have := HNB.out; omega)
          have HFZ := Lib.hid (show r.size + (al.extract 0 al.size).size ≤ 4824 by have h9 := HPZ.out; rw [ByteArray.size_append] at h9; have := HES.out; have := HNB.out; omega)
          have HPA := Lib.hid (show (r ++ al.extract 0 al.size) ++ al.extract al.size al.size = cat ((L.map cutT).drop j) by rw [ByteArray.append_assoc, ext_parts _ _ HNB.out]; exact HRA.out)
          obtain ⟨m, r2, hm, hu, hrv, hsh⟩ := parse ((L.map cutT).drop j) _ _ (fun t ht => HSF.out t (List.mem_of_mem_drop ht)) HPA.out
          have HM := Lib.hid hm
          have HU := Lib.hid hu
          have HRV := Lib.hid (show r2 ++ al.extract al.size al.size = cat ((L.map cutT).drop (j + m)) by rw [← List.drop_drop]; exact hrv)
          have HSH2 := Lib.hid (show Short r2 ((L.map cutT).drop (j + m)) by rw [← List.drop_drop]; exact hsh)
          clear hm hu hrv hsh
          obtain ⟨T, hT⟩ : ∃ T, T = ((L.map cutT).drop j).take m := ⟨_, rfl⟩
          have HTE := Lib.hid hT
          have HTL := Lib.hid (show T.length = m by rw [hT, List.length_take]; have := HM.out; omega)
          have HUT := Lib.hid (show r ++ al.extract 0 al.size = cat (T.drop 0) ++ r2 by rw [List.drop_zero, hT]; exact HU.out)
          clear hT HU
          have HTS := Lib.hid (show Smalls T from fun t ht => HSF.out t (List.mem_of_mem_drop (List.mem_of_mem_take (by rw [← HTE.out]; exact ht))))
          have HTN := Lib.hid (show T.length ≤ 100 by have h9 := HM.out; rw [List.length_drop] at h9; have := HTL.out; have := HFL.out; have := HL.out; omega)
          have HRS := Lib.hid (show r2.size ≤ 4824 by have h9 := congrArg ByteArray.size HUT.out; rw [ByteArray.size_append, ByteArray.size_append] at h9; have := HFZ.out; omega)
          have HSZ := Lib.hid (show ∀ k, (cat (T.drop k) ++ r2).size ≤ 7000 from fun k => by have h9 := congrArg ByteArray.size HUT.out; rw [List.drop_zero, ByteArray.size_append, ByteArray.size_append, ← List.take_append_drop k T, cat_app, ByteArray.size_append] at h9; rw [ByteArray.size_append]; have := HFZ.out; omega)
          have D71 := Lib.hid (show (al.size : Int) ≤ (al.size : Int) by have := HNB.out; omega)
          refine s_ (fun K44 hK44 => ?_)
          refine pu_ (v := .int .i64 i) (y_move rfl (by rfl) (by rfl)) ?_
          (try simp only [zP, zN, zA, zB, zC])
          refine pu_ (v := .slice Au U.length zu) (y_move rfl (by rfl) (by rfl)) ?_
          (try simp only [zP, zN, zA, zB, zC])
          refine pu_ (v := .int .i64 U.length) (y_run (by rfl) (fun W => by go_simp)) ?_
          (try simp only [zP, zN, zA, zB, zC])
          refine pu_ (v := .bool false) (y_run (by rfl) (fun W => by have d := D55.out; go_simp)) ?_
          (try simp only [zP, zN, zA, zB, zC])
          refine pu_ (v := .bool false) (y_move rfl (by rfl) (by rfl)) ?_
          (try simp only [zP, zN, zA, zB, zC])
          refine pu_ (y_off (by rfl)) ?_
          (try simp only [zP, zN, zA, zB, zC])
          refine pu_ (y_off (by rfl)) ?_
          (try simp only [zP, zN, zA, zB, zC])
          refine pu_ (v := .bool false) (y_pick (t := false) (by rfl) rfl (by rfl) (by rfl)) ?_
          (try simp only [zP, zN, zA, zB, zC])
          refine nl_ (hK44 _ _ ?_); clear hK44 K44
          refine wp_cond_false rfl ?_
          refine wp_skip ?_
          refine th_norm (hK43 _ _ ?_); try clear hK43 K43
          refine sq_ (fun K45 hK45 => ?_)
          refine s_ (fun K46 hK46 => ?_)
          refine pu_ (v := .pointer (some ⟨x, 0, none⟩)) (y_move rfl (by rfl) (by rfl)) ?_
          (try simp only [zP, zN, zA, zB, zC])
          refine pu_ (v := .string al) (y_move rfl (by rfl) (by rfl)) ?_
          (try simp only [zP, zN, zA, zB, zC])
          refine pu_ (v := .int .i64 al.size) (y_move rfl (by rfl) (by rfl)) ?_
          (try simp only [zP, zN, zA, zB, zC])
          refine pu_ (v := .string (al.extract 0 al.size)) (y_run (by rfl) (fun W => by have d := D71.out; go_simp)) ?_
          (try simp only [zP, zN, zA, zB, zC])
          refine ef_ (fun K47 hK47 => ?_)
          refine e_call Try.func11 (by kernel_rfl) rfl #[.pointer (some ⟨x, 0, none⟩), .string (al.extract 0 al.size)] (by rfl) rfl rfl (by first | rfl | (simp only [List.map_toArray, List.map_cons, List.map_nil]; first | done | rfl)) ((feed_c SX.out (by have := HFZ.out; omega))) ?_
          rintro en w50 ⟨rfl, B49, cc48⟩
          refine ⟨_, rfl, ?_⟩
          have C0' := Lib.hid (show Ch [] w w50 from C0.out.trans' cc48 (inw_cons (.inr hxN.out) inw_nil))
          have SL' := Lib.hid (show SrcIs w50 (.slice A L.length z) (L.length) (L.flatMap strC) 1 from SL.out.chx cc48 (xnin_cons hxL.out xnin_nil))
          have UL' := Lib.hid (show SrcIs w50 (.slice Au U.length zu) (U.length) (U.flatMap intC) 1 from UL.out.chx cc48 (xnin_cons hxU.out xnin_nil))
          have OG' := Lib.hid (show OwnS w50 w.heap.size 9 1 (vg) (j) (((L.map cutT).take j).flatMap strC) from OG.out.ch cc48 (rnin_cons (OG.out.ne SX.out (by decide)) rnin_nil))
          clear C0 SL UL OG
          have C0 := C0'; clear C0'
          have SL := SL'; clear SL'
          have UL := UL'; clear UL'
          have OG := OG'; clear OG'
          clear SX
          clear cc48
          have SX := Lib.hid (show Blk w50 x (#[.string (r ++ al.extract 0 al.size), .bool false]) 43 from B49)
          refine hK47 _ _ ?_; clear hK47 K47
          (try simp only [zP, zN, zA, zB, zC])
          refine pu_ (v := .bool false) (y_run (by rfl) (fun W => by first | (go_simp; done) | (go_simp; rfl) | (go_simp; decide))) ?_
          (try simp only [zP, zN, zA, zB, zC])
          refine nl_ (hK46 _ _ ?_); clear hK46 K46
          refine wp_cond_false rfl ?_
          refine wp_skip ?_
          refine th_norm (hK45 _ _ ?_); try clear hK45 K45
          refine s_ (fun K51 hK51 => ?_)
          refine pu_ (v := .string al) (y_move rfl (by rfl) (by rfl)) ?_
          (try simp only [zP, zN, zA, zB, zC])
          refine pu_ (v := .int .i64 al.size) (y_move rfl (by rfl) (by rfl)) ?_
          (try simp only [zP, zN, zA, zB, zC])
          refine pu_ (v := .string (al.extract al.size al.size)) (y_run (by rfl) (fun W => by have d := D71.out; go_simp)) ?_
          (try simp only [zP, zN, zA, zB, zC])
          refine pu_ (v := .string (al.extract al.size al.size)) (y_assign rfl (by rfl) (by rfl)) ?_
          (try simp only [zP, zN, zA, zB, zC])
          refine nl_ (hK51 _ _ ?_); clear hK51 K51
          refine r_ ?_
          refine pu_ (v := vg) (y_move rfl (by rfl) (by rfl)) ?_
          (try simp only [zP, zN, zA, zB, zC])
          refine pu_ (v := .pointer (some ⟨x, 0, none⟩)) (y_move rfl (by rfl) (by rfl)) ?_
          (try simp only [zP, zN, zA, zB, zC])
          refine ef_ (fun K52 hK52 => ?_)
          refine e_call Try.func16 (by kernel_rfl) rfl #[.pointer (some ⟨x, 0, none⟩)] (by rfl) rfl rfl (by first | rfl | (simp only [List.map_toArray, List.map_cons, List.map_nil]; first | done | rfl)) ((texts_ (D := (L.map cutT).drop (j + m)) HTN HTS HSH2 HSZ (Lib.hid (by have h9 := SX.out; rw [HUT.out] at h9; exact h9)))) ?_
          rintro en w56 ⟨vt, rfl, OT0, B55, cc54⟩
          refine ⟨_, rfl, ?_⟩
          have hr53 := OT0.lt
          have rw57 := Lib.hid (show ∀ x, x ∈ rl vt → x ∈ [] ∨ w.heap.size ≤ x from fun x hx => .inr (by have := (fun k hk => (hr53 k hk).1) x hx; have := C0.out.size; omega))
          have xr58 := Lib.hid (show ∀ k, k ∈ xb (.slice A L.length z) → k ∉ rl vt from fun k hk hm => by have := (fun k hk => (hr53 k hk).1) k hm; have := SL.out.lt (by decide) k hk; omega)
          have xr59 := Lib.hid (show ∀ k, k ∈ xb (.slice Au U.length zu) → k ∉ rl vt from fun k hk hm => by have := (fun k hk => (hr53 k hk).1) k hm; have := UL.out.lt (by decide) k hk; omega)
          have rr60 := Lib.hid (show ∀ k, k ∈ rl vg → k ∉ rl vt from fun k hk hm => by have := (fun k hk => (hr53 k hk).1) k hm; have := (OG.out.lt k hk).2; omega)
          have C0' := Lib.hid (show Ch [] w w56 from C0.out.trans' cc54 (inw_cons (.inr hxN.out) inw_nil))
          have SL' := Lib.hid (show SrcIs w56 (.slice A L.length z) (L.length) (L.flatMap strC) 1 from SL.out.chx cc54 (xnin_cons hxL.out xnin_nil))
          have UL' := Lib.hid (show SrcIs w56 (.slice Au U.length zu) (U.length) (U.flatMap intC) 1 from UL.out.chx cc54 (xnin_cons hxU.out xnin_nil))
          have OG' := Lib.hid (show OwnS w56 w.heap.size 9 1 (vg) (j) (((L.map cutT).take j).flatMap strC) from OG.out.ch cc54 (rnin_cons (OG.out.ne SX.out (by decide)) rnin_nil))
          clear C0 SL UL OG
          have C0 := C0'; clear C0'
          have SL := SL'; clear SL'
          have UL := UL'; clear UL'
          have OG := OG'; clear OG'
          clear SX
          clear cc54
          have OT := Lib.hid (show OwnS w56 w50.heap.size 9 1 (vt) (T.length) (T.flatMap strC) from OT0)
          have SX := Lib.hid (show Blk w56 x (#[.string r2, .bool false]) 43 from B55)
          refine hK52 _ _ ?_; clear hK52 K52
          (try simp only [zP, zN, zA, zB, zC])
          refine ef_ (fun K61 hK61 => ?_)
          refine e_append (by rfl) rfl rfl (w.heap.size) 9 _ _ 1 16 Try.underlying29 I9.hi I9.hz I9.hs I9.hb rfl (by decide) (vg) (j) (((L.map cutT).take j).flatMap strC) (by rfl) OG.out (vt) T.length (T.flatMap strC) (by rfl) OT.out.src (flat_one strC_one T) (by unfold maxLen; have := HTN.out; have := hj.out; have := HL.out; omega) (by have := HTN.out; have := hj.out; have := HL.out; omega) C0.out.size ?_
          rintro v62 w63 O64 C65 R66 -
          have xr68 := Lib.hid (show ∀ k, k ∈ xb (.slice A L.length z) → k ∉ rl v62 from fun k hk hm => (R66 k hm).elim (fun h => hxr.out k hk h) (fun h => by have := SL.out.lt (by decide) k hk; omega))
          have xr69 := Lib.hid (show ∀ k, k ∈ xb (.slice Au U.length zu) → k ∉ rl v62 from fun k hk hm => (R66 k hm).elim (fun h => hur.out k hk h) (fun h => by have := UL.out.lt (by decide) k hk; omega))
          have rr70 := Lib.hid (show ∀ k, k ∈ rl (vt) → k ∉ rl v62 from fun k hk hm => (R66 k hm).elim (fun h => (fun k hk hm => rr60.out k hm hk) k hk h) (fun h => by have := (OT.out.lt k hk).2; omega))
          have C0' := Lib.hid (show Ch [] w w63 from C0.out.trans' C65 (fun x hx => .inr (OG.out.lt x hx).1))
          have SL' := Lib.hid (show SrcIs w63 (.slice A L.length z) (L.length) (L.flatMap strC) 1 from SL.out.chx C65 hxr.out)
          have UL' := Lib.hid (show SrcIs w63 (.slice Au U.length zu) (U.length) (U.flatMap intC) 1 from UL.out.chx C65 hur.out)
          have OT' := Lib.hid (show OwnS w63 w50.heap.size 9 1 (vt) (T.length) (T.flatMap strC) from OT.out.ch C65 (fun k hk hm => rr60.out k hm hk))
          have SX' := Lib.hid (show Blk w63 x (#[.string r2, .bool false]) 43 from C65.blk SX.out (OG.out.ne SX.out (by decide)))
          clear C0 SL UL OT SX
          have C0 := C0'; clear C0'
          have SL := SL'; clear SL'
          have UL := UL'; clear UL'
          have OT := OT'; clear OT'
          have SX := SX'; clear SX'
          clear OG
          have OG := Lib.hid (show OwnS w63 w.heap.size 9 1 (v62) (j + T.length) (((L.map cutT).take j).flatMap strC ++ T.flatMap strC) from O64); clear O64 C65
          refine hK61 _ _ ?_; clear hK61 K61
          (try simp only [zP, zN, zA, zB, zC])
          refine pu_ (v := v62) (y_assign rfl (by rfl) (by rfl)) ?_
          (try simp only [zP, zN, zA, zB, zC])
          refine nl_ ?_
          refine ib_norm ?_
          refine th_norm (hK41 _ _ ?_); try clear hK41 K41
          refine r_ ?_
          refine pu_ (v := .int .i64 i) (y_move rfl (by rfl) (by rfl)) ?_
          (try simp only [zP, zN, zA, zB, zC])
          refine pu_ (v := .int .i64 (i + 1 : Nat)) (y_run (by rfl) (fun W => by have d := Wi.out; go_simp)) ?_
          (try simp only [zP, zN, zA, zB, zC])
          refine pu_ (v := .int .i64 (i + 1 : Nat)) (y_assign rfl (by rfl) (by rfl)) ?_
          (try simp only [zP, zN, zA, zB, zC])
          refine nl_ ?_
          exact th_norm (hK38 ((60 - (i + 1)) + (if (al.extract al.size al.size).size = 0 then 0 else 1)) _ _ (by have h1 := hi.out.2.2; rw [if_neg HNZ.out] at h1; have h2 := HXS.out; have h3 := HNX.out; have h4 := HI.out; split <;> omega) ⟨i + 1, j + m, _, r2, _, fun us_ => (#[.slice A L.length z, .slice Au U.length zu, us 2, us 3, .bool false, .pointer (some ⟨x, 0, none⟩), .string (al.extract al.size al.size), us 7, us 8, us 9, v62, .int .i64 (i + 1 : Nat), .int .i64 al.size, us 13, us 14, us 15, us 16, us 17, us 18, us 19, us 20, us 21, us 22, us 23, us 24, us 25, us 26, us 27, us 28, us 29, us 30, us 31, us 32, us 33, us 34, us 35, us 36, us 37, us 38, us 39, us 40, us 41, us 42, us 43, us 44, us 45, .string al, .bool true, .int .i64 i, .int .i64 (i + 1 : Nat), .string al, .int .i64 al.size, .int .i64 i, .slice Au U.length zu, .int .i64 U.length, .bool false, .bool false, undef, undef, .bool false, us 60, us 61, us 62, us 63, us 64, us 65, us 66, us 67, .pointer (some ⟨x, 0, none⟩), .string al, .int .i64 al.size, .string (al.extract 0 al.size), .int .i64 0, .bool false, .string al, .int .i64 al.size, .string (al.extract al.size al.size), vg, .pointer (some ⟨x, 0, none⟩), vt, v62, us 81, us 82, us 83, us 84, us 85, us 86, us 87, us 88, us 89, us 90, us 91, us 92, us 93, us 94, us 95, us 96, us 97, us 98, us 99, us 100, us 101, us 102, us 103, us 104, us 105, us 106, us 107, us 108, us 109, us 110, us 111, us 112, us 113, us 114, us 115, us 116, us 117] : Array Value).getD us_ undef, rfl, C0, SL, UL, SX, Lib.hid (by have h9 := OG.out; rw [← List.flatMap_append, HTL.out, HTE.out, ← List.take_add] at h9; exact h9), Lib.hid (by have := HM.out; rw [List.length_drop] at this; have := HFL.out; have := hj.out; omega), Lib.hid ⟨by have := HI.out; omega, by have h1 := HI.out; have h2 := HXS.out; have h3 := HNX.out; omega, rfl⟩, HRV, HSH2, Lib.hid (xr68.out), Lib.hid (xr69.out)⟩)
        · have D55 := Lib.hid (show (i : Int) < (U.length : Int) by omega)
          have D58 := Lib.hid (show ¬ (i : Int) < 60 by omega)
          have HNB := Lib.hid (Nat.le_refl al.size)
          have HNX := Lib.hid (show al.size = al.size ∨ i < 60 from .inl rfl)
          clear h
          have HPZ := Lib.hid (show (r ++ al).size ≤ 4824 by rw [HRA.out]; have h9 := cat_size (l := (L.map cutT).drop j) (fun t ht => HSF.out t (List.mem_of_mem_drop ht)); rw [List.length_drop] at h9; have := HL.out; have := HFL.out; omega)
          have HXS := Lib.hid (show (al.extract al.size al.size).size = al.size - al.size by rw [ByteArray.size_extract]; omega)
          have HES := Lib.hid (show (al.extract 0 al.size).size = al.size by rw [ByteArray.size_extract]; have := HNB.out; omega)
          have HFZ := Lib.hid (show r.size + (al.extract 0 al.size).size ≤ 4824 by have h9 := HPZ.out; rw [ByteArray.size_append] at h9; have := HES.out; have := HNB.out; omega)
          have HPA := Lib.hid (show (r ++ al.extract 0 al.size) ++ al.extract al.size al.size = cat ((L.map cutT).drop j) by rw [ByteArray.append_assoc, ext_parts _ _ HNB.out]; exact HRA.out)
          obtain ⟨m, r2, hm, hu, hrv, hsh⟩ := parse ((L.map cutT).drop j) _ _ (fun t ht => HSF.out t (List.mem_of_mem_drop ht)) HPA.out
          have HM := Lib.hid hm
          have HU := Lib.hid hu
          have HRV := Lib.hid (show r2 ++ al.extract al.size al.size = cat ((L.map cutT).drop (j + m)) by rw [← List.drop_drop]; exact hrv)
          have HSH2 := Lib.hid (show Short r2 ((L.map cutT).drop (j + m)) by rw [← List.drop_drop]; exact hsh)
          clear hm hu hrv hsh
          obtain ⟨T, hT⟩ : ∃ T, T = ((L.map cutT).drop j).take m := ⟨_, rfl⟩
          have HTE := Lib.hid hT
          have HTL := Lib.hid (show T.length = m by rw [hT, List.length_take]; have := HM.out; omega)
          have HUT := Lib.hid (show r ++ al.extract 0 al.size = cat (T.drop 0) ++ r2 by rw [List.drop_zero, hT]; exact HU.out)
          clear hT HU
          have HTS := Lib.hid (show Smalls T from fun t ht => HSF.out t (List.mem_of_mem_drop (List.mem_of_mem_take (by rw [← HTE.out]; exact ht))))
          have HTN := Lib.hid (show T.length ≤ 100 by have h9 := HM.out; rw [List.length_drop] at h9; have := HTL.out; have := HFL.out; have := HL.out; omega)
          have HRS := Lib.hid (show r2.size ≤ 4824 by have h9 := congrArg ByteArray.size HUT.out; rw [ByteArray.size_append, ByteArray.size_append] at h9; have := HFZ.out; omega)
          have HSZ := Lib.hid (show ∀ k, (cat (T.drop k) ++ r2).size ≤ 7000 from fun k => by have h9 := congrArg ByteArray.size HUT.out; rw [List.drop_zero, ByteArray.size_append, ByteArray.size_append, ← List.take_append_drop k T, cat_app, ByteArray.size_append] at h9; rw [ByteArray.size_append]; have := HFZ.out; omega)
          have D71 := Lib.hid (show (al.size : Int) ≤ (al.size : Int) by have := HNB.out; omega)
          refine s_ (fun K71 hK71 => ?_)
          refine pu_ (v := .int .i64 i) (y_move rfl (by rfl) (by rfl)) ?_
          (try simp only [zP, zN, zA, zB, zC])
          refine pu_ (v := .slice Au U.length zu) (y_move rfl (by rfl) (by rfl)) ?_
          (try simp only [zP, zN, zA, zB, zC])
          refine pu_ (v := .int .i64 U.length) (y_run (by rfl) (fun W => by go_simp)) ?_
          (try simp only [zP, zN, zA, zB, zC])
          refine pu_ (v := .bool true) (y_run (by rfl) (fun W => by have d := D55.out; go_simp)) ?_
          (try simp only [zP, zN, zA, zB, zC])
          refine pu_ (v := .bool true) (y_move rfl (by rfl) (by rfl)) ?_
          (try simp only [zP, zN, zA, zB, zC])
          refine pu_ (v := .int .i64 i) (y_move rfl (by rfl) (by rfl)) ?_
          (try simp only [zP, zN, zA, zB, zC])
          refine pu_ (v := .bool false) (y_run (by rfl) (fun W => by have d := D58.out; go_simp)) ?_
          (try simp only [zP, zN, zA, zB, zC])
          refine pu_ (v := .bool false) (y_pick (t := true) (by rfl) rfl (by rfl) (by rfl)) ?_
          (try simp only [zP, zN, zA, zB, zC])
          refine nl_ (hK71 _ _ ?_); clear hK71 K71
          refine wp_cond_false rfl ?_
          refine wp_skip ?_
          refine th_norm (hK43 _ _ ?_); try clear hK43 K43
          refine sq_ (fun K72 hK72 => ?_)
          refine s_ (fun K73 hK73 => ?_)
          refine pu_ (v := .pointer (some ⟨x, 0, none⟩)) (y_move rfl (by rfl) (by rfl)) ?_
          (try simp only [zP, zN, zA, zB, zC])
          refine pu_ (v := .string al) (y_move rfl (by rfl) (by rfl)) ?_
          (try simp only [zP, zN, zA, zB, zC])
          refine pu_ (v := .int .i64 al.size) (y_move rfl (by rfl) (by rfl)) ?_
          (try simp only [zP, zN, zA, zB, zC])
          refine pu_ (v := .string (al.extract 0 al.size)) (y_run (by rfl) (fun W => by have d := D71.out; go_simp)) ?_
          (try simp only [zP, zN, zA, zB, zC])
          refine ef_ (fun K74 hK74 => ?_)
          refine e_call Try.func11 (by kernel_rfl) rfl #[.pointer (some ⟨x, 0, none⟩), .string (al.extract 0 al.size)] (by rfl) rfl rfl (by first | rfl | (simp only [List.map_toArray, List.map_cons, List.map_nil]; first | done | rfl)) ((feed_c SX.out (by have := HFZ.out; omega))) ?_
          rintro en w77 ⟨rfl, B76, cc75⟩
          refine ⟨_, rfl, ?_⟩
          have C0' := Lib.hid (show Ch [] w w77 from C0.out.trans' cc75 (inw_cons (.inr hxN.out) inw_nil))
          have SL' := Lib.hid (show SrcIs w77 (.slice A L.length z) (L.length) (L.flatMap strC) 1 from SL.out.chx cc75 (xnin_cons hxL.out xnin_nil))
          have UL' := Lib.hid (show SrcIs w77 (.slice Au U.length zu) (U.length) (U.flatMap intC) 1 from UL.out.chx cc75 (xnin_cons hxU.out xnin_nil))
          have OG' := Lib.hid (show OwnS w77 w.heap.size 9 1 (vg) (j) (((L.map cutT).take j).flatMap strC) from OG.out.ch cc75 (rnin_cons (OG.out.ne SX.out (by decide)) rnin_nil))
          clear C0 SL UL OG
          have C0 := C0'; clear C0'
          have SL := SL'; clear SL'
          have UL := UL'; clear UL'
          have OG := OG'; clear OG'
          clear SX
          clear cc75
          have SX := Lib.hid (show Blk w77 x (#[.string (r ++ al.extract 0 al.size), .bool false]) 43 from B76)
          refine hK74 _ _ ?_; clear hK74 K74
          (try simp only [zP, zN, zA, zB, zC])
          refine pu_ (v := .bool false) (y_run (by rfl) (fun W => by first | (go_simp; done) | (go_simp; rfl) | (go_simp; decide))) ?_
          (try simp only [zP, zN, zA, zB, zC])
          refine nl_ (hK73 _ _ ?_); clear hK73 K73
          refine wp_cond_false rfl ?_
          refine wp_skip ?_
          refine th_norm (hK72 _ _ ?_); try clear hK72 K72
          refine s_ (fun K78 hK78 => ?_)
          refine pu_ (v := .string al) (y_move rfl (by rfl) (by rfl)) ?_
          (try simp only [zP, zN, zA, zB, zC])
          refine pu_ (v := .int .i64 al.size) (y_move rfl (by rfl) (by rfl)) ?_
          (try simp only [zP, zN, zA, zB, zC])
          refine pu_ (v := .string (al.extract al.size al.size)) (y_run (by rfl) (fun W => by have d := D71.out; go_simp)) ?_
          (try simp only [zP, zN, zA, zB, zC])
          refine pu_ (v := .string (al.extract al.size al.size)) (y_assign rfl (by rfl) (by rfl)) ?_
          (try simp only [zP, zN, zA, zB, zC])
          refine nl_ (hK78 _ _ ?_); clear hK78 K78
          refine r_ ?_
          refine pu_ (v := vg) (y_move rfl (by rfl) (by rfl)) ?_
          (try simp only [zP, zN, zA, zB, zC])
          refine pu_ (v := .pointer (some ⟨x, 0, none⟩)) (y_move rfl (by rfl) (by rfl)) ?_
          (try simp only [zP, zN, zA, zB, zC])
          refine ef_ (fun K79 hK79 => ?_)
          refine e_call Try.func16 (by kernel_rfl) rfl #[.pointer (some ⟨x, 0, none⟩)] (by rfl) rfl rfl (by first | rfl | (simp only [List.map_toArray, List.map_cons, List.map_nil]; first | done | rfl)) ((texts_ (D := (L.map cutT).drop (j + m)) HTN HTS HSH2 HSZ (Lib.hid (by have h9 := SX.out; rw [HUT.out] at h9; exact h9)))) ?_
          rintro en w83 ⟨vt, rfl, OT0, B82, cc81⟩
          refine ⟨_, rfl, ?_⟩
          have hr80 := OT0.lt
          have rw84 := Lib.hid (show ∀ x, x ∈ rl vt → x ∈ [] ∨ w.heap.size ≤ x from fun x hx => .inr (by have := (fun k hk => (hr80 k hk).1) x hx; have := C0.out.size; omega))
          have xr85 := Lib.hid (show ∀ k, k ∈ xb (.slice A L.length z) → k ∉ rl vt from fun k hk hm => by have := (fun k hk => (hr80 k hk).1) k hm; have := SL.out.lt (by decide) k hk; omega)
          have xr86 := Lib.hid (show ∀ k, k ∈ xb (.slice Au U.length zu) → k ∉ rl vt from fun k hk hm => by have := (fun k hk => (hr80 k hk).1) k hm; have := UL.out.lt (by decide) k hk; omega)
          have rr87 := Lib.hid (show ∀ k, k ∈ rl vg → k ∉ rl vt from fun k hk hm => by have := (fun k hk => (hr80 k hk).1) k hm; have := (OG.out.lt k hk).2; omega)
          have C0' := Lib.hid (show Ch [] w w83 from C0.out.trans' cc81 (inw_cons (.inr hxN.out) inw_nil))
          have SL' := Lib.hid (show SrcIs w83 (.slice A L.length z) (L.length) (L.flatMap strC) 1 from SL.out.chx cc81 (xnin_cons hxL.out xnin_nil))
          have UL' := Lib.hid (show SrcIs w83 (.slice Au U.length zu) (U.length) (U.flatMap intC) 1 from UL.out.chx cc81 (xnin_cons hxU.out xnin_nil))
          have OG' := Lib.hid (show OwnS w83 w.heap.size 9 1 (vg) (j) (((L.map cutT).take j).flatMap strC) from OG.out.ch cc81 (rnin_cons (OG.out.ne SX.out (by decide)) rnin_nil))
          clear C0 SL UL OG
          have C0 := C0'; clear C0'
          have SL := SL'; clear SL'
          have UL := UL'; clear UL'
          have OG := OG'; clear OG'
          clear SX
          clear cc81
          have OT := Lib.hid (show OwnS w83 w77.heap.size 9 1 (vt) (T.length) (T.flatMap strC) from OT0)
          have SX := Lib.hid (show Blk w83 x (#[.string r2, .bool false]) 43 from B82)
          refine hK79 _ _ ?_; clear hK79 K79
          (try simp only [zP, zN, zA, zB, zC])
          refine ef_ (fun K88 hK88 => ?_)
          refine e_append (by rfl) rfl rfl (w.heap.size) 9 _ _ 1 16 Try.underlying29 I9.hi I9.hz I9.hs I9.hb rfl (by decide) (vg) (j) (((L.map cutT).take j).flatMap strC) (by rfl) OG.out (vt) T.length (T.flatMap strC) (by rfl) OT.out.src (flat_one strC_one T) (by unfold maxLen; have := HTN.out; have := hj.out; have := HL.out; omega) (by have := HTN.out; have := hj.out; have := HL.out; omega) C0.out.size ?_
          rintro v89 w90 O91 C92 R93 -
          have xr95 := Lib.hid (show ∀ k, k ∈ xb (.slice A L.length z) → k ∉ rl v89 from fun k hk hm => (R93 k hm).elim (fun h => hxr.out k hk h) (fun h => by have := SL.out.lt (by decide) k hk; omega))
          have xr96 := Lib.hid (show ∀ k, k ∈ xb (.slice Au U.length zu) → k ∉ rl v89 from fun k hk hm => (R93 k hm).elim (fun h => hur.out k hk h) (fun h => by have := UL.out.lt (by decide) k hk; omega))
          have rr97 := Lib.hid (show ∀ k, k ∈ rl (vt) → k ∉ rl v89 from fun k hk hm => (R93 k hm).elim (fun h => (fun k hk hm => rr87.out k hm hk) k hk h) (fun h => by have := (OT.out.lt k hk).2; omega))
          have C0' := Lib.hid (show Ch [] w w90 from C0.out.trans' C92 (fun x hx => .inr (OG.out.lt x hx).1))
          have SL' := Lib.hid (show SrcIs w90 (.slice A L.length z) (L.length) (L.flatMap strC) 1 from SL.out.chx C92 hxr.out)
          have UL' := Lib.hid (show SrcIs w90 (.slice Au U.length zu) (U.length) (U.flatMap intC) 1 from UL.out.chx C92 hur.out)
          have OT' := Lib.hid (show OwnS w90 w77.heap.size 9 1 (vt) (T.length) (T.flatMap strC) from OT.out.ch C92 (fun k hk hm => rr87.out k hm hk))
          have SX' := Lib.hid (show Blk w90 x (#[.string r2, .bool false]) 43 from C92.blk SX.out (OG.out.ne SX.out (by decide)))
          clear C0 SL UL OT SX
          have C0 := C0'; clear C0'
          have SL := SL'; clear SL'
          have UL := UL'; clear UL'
          have OT := OT'; clear OT'
          have SX := SX'; clear SX'
          clear OG
          have OG := Lib.hid (show OwnS w90 w.heap.size 9 1 (v89) (j + T.length) (((L.map cutT).take j).flatMap strC ++ T.flatMap strC) from O91); clear O91 C92
          refine hK88 _ _ ?_; clear hK88 K88
          (try simp only [zP, zN, zA, zB, zC])
          refine pu_ (v := v89) (y_assign rfl (by rfl) (by rfl)) ?_
          (try simp only [zP, zN, zA, zB, zC])
          refine nl_ ?_
          refine ib_norm ?_
          refine th_norm (hK41 _ _ ?_); try clear hK41 K41
          refine r_ ?_
          refine pu_ (v := .int .i64 i) (y_move rfl (by rfl) (by rfl)) ?_
          (try simp only [zP, zN, zA, zB, zC])
          refine pu_ (v := .int .i64 (i + 1 : Nat)) (y_run (by rfl) (fun W => by have d := Wi.out; go_simp)) ?_
          (try simp only [zP, zN, zA, zB, zC])
          refine pu_ (v := .int .i64 (i + 1 : Nat)) (y_assign rfl (by rfl) (by rfl)) ?_
          (try simp only [zP, zN, zA, zB, zC])
          refine nl_ ?_
          exact th_norm (hK38 ((60 - (i + 1)) + (if (al.extract al.size al.size).size = 0 then 0 else 1)) _ _ (by have h1 := hi.out.2.2; rw [if_neg HNZ.out] at h1; have h2 := HXS.out; have h3 := HNX.out; have h4 := HI.out; split <;> omega) ⟨i + 1, j + m, _, r2, _, fun us_ => (#[.slice A L.length z, .slice Au U.length zu, us 2, us 3, .bool false, .pointer (some ⟨x, 0, none⟩), .string (al.extract al.size al.size), us 7, us 8, us 9, v89, .int .i64 (i + 1 : Nat), .int .i64 al.size, us 13, us 14, us 15, us 16, us 17, us 18, us 19, us 20, us 21, us 22, us 23, us 24, us 25, us 26, us 27, us 28, us 29, us 30, us 31, us 32, us 33, us 34, us 35, us 36, us 37, us 38, us 39, us 40, us 41, us 42, us 43, us 44, us 45, .string al, .bool true, .int .i64 i, .int .i64 (i + 1 : Nat), .string al, .int .i64 al.size, .int .i64 i, .slice Au U.length zu, .int .i64 U.length, .bool true, .bool true, .int .i64 i, .bool false, .bool false, us 60, us 61, us 62, us 63, us 64, us 65, us 66, us 67, .pointer (some ⟨x, 0, none⟩), .string al, .int .i64 al.size, .string (al.extract 0 al.size), .int .i64 0, .bool false, .string al, .int .i64 al.size, .string (al.extract al.size al.size), vg, .pointer (some ⟨x, 0, none⟩), vt, v89, us 81, us 82, us 83, us 84, us 85, us 86, us 87, us 88, us 89, us 90, us 91, us 92, us 93, us 94, us 95, us 96, us 97, us 98, us 99, us 100, us 101, us 102, us 103, us 104, us 105, us 106, us 107, us 108, us 109, us 110, us 111, us 112, us 113, us 114, us 115, us 116, us 117] : Array Value).getD us_ undef, rfl, C0, SL, UL, SX, Lib.hid (by have h9 := OG.out; rw [← List.flatMap_append, HTL.out, HTE.out, ← List.take_add] at h9; exact h9), Lib.hid (by have := HM.out; rw [List.length_drop] at this; have := HFL.out; have := hj.out; omega), Lib.hid ⟨by have := HI.out; omega, by have h1 := HI.out; have h2 := HXS.out; have h3 := HNX.out; omega, rfl⟩, HRV, HSH2, Lib.hid (xr95.out), Lib.hid (xr96.out)⟩)
        · have HUU := Lib.hid h.1
          have H60 := Lib.hid h.2
          have D55 := Lib.hid (show (i : Int) < (U.length : Int) by omega)
          have D58 := Lib.hid (show (i : Int) < 60 by omega)
          obtain ⟨c, hc⟩ : ∃ c, U[i]? = some c := ⟨_, List.getElem?_eq_getElem h.1⟩
          have HC := Lib.hid hc
          clear h hc
          obtain ⟨au, hsm_au⟩ := src_some UL.out (by have := HUU.out; omega)
          subst hsm_au
          refine s_ (fun K98 hK98 => ?_)
          refine pu_ (v := .int .i64 i) (y_move rfl (by rfl) (by rfl)) ?_
          (try simp only [zP, zN, zA, zB, zC])
          refine pu_ (v := .slice (some au) U.length zu) (y_move rfl (by rfl) (by rfl)) ?_
          (try simp only [zP, zN, zA, zB, zC])
          refine pu_ (v := .int .i64 U.length) (y_run (by rfl) (fun W => by go_simp)) ?_
          (try simp only [zP, zN, zA, zB, zC])
          refine pu_ (v := .bool true) (y_run (by rfl) (fun W => by have d := D55.out; go_simp)) ?_
          (try simp only [zP, zN, zA, zB, zC])
          refine pu_ (v := .bool true) (y_move rfl (by rfl) (by rfl)) ?_
          (try simp only [zP, zN, zA, zB, zC])
          refine pu_ (v := .int .i64 i) (y_move rfl (by rfl) (by rfl)) ?_
          (try simp only [zP, zN, zA, zB, zC])
          refine pu_ (v := .bool true) (y_run (by rfl) (fun W => by have d := D58.out; go_simp)) ?_
          (try simp only [zP, zN, zA, zB, zC])
          refine pu_ (v := .bool true) (y_pick (t := true) (by rfl) rfl (by rfl) (by rfl)) ?_
          (try simp only [zP, zN, zA, zB, zC])
          refine nl_ (hK98 _ _ ?_); clear hK98 K98
          refine wp_cond_true rfl ?_
          refine r_ ?_
          refine pu_ (v := .slice (some au) U.length zu) (y_move rfl (by rfl) (by rfl)) ?_
          (try simp only [zP, zN, zA, zB, zC])
          refine pu_ (v := .int .i64 i) (y_move rfl (by rfl) (by rfl)) ?_
          (try simp only [zP, zN, zA, zB, zC])
          refine pu_ (v := .pointer (some (au.add i))) (y_run (by rfl) (fun W => by have d := D55.out; go_simp)) ?_
          (try simp only [zP, zN, zA, zB, zC])
          refine ld_ (v := .int .i64 c) rfl (by rfl) (by rfl) (run_load_one (one_at (by have h9 := src_at intC_len UL.out HC.out; rw [Nat.mul_one] at h9; exact h9)) Try.underlying3 rfl) ?_
          (try simp only [zP, zN, zA, zB, zC])
          refine ef_ (fun K99 hK99 => ?_)
          refine e_call Try.func15 (by kernel_rfl) rfl #[.int .i64 c, .int .i64 50] (by rfl) rfl rfl (by first | rfl | (simp only [List.map_toArray, List.map_cons, List.map_nil]; first | done | rfl)) (below_) ?_
          rintro en w101 ⟨v, rfl, hv, cc100⟩
          refine ⟨_, rfl, ?_⟩
          have C0' := Lib.hid (show Ch [] w w101 from C0.out.trans' cc100 (fun x hx => absurd hx (by simp)))
          have SL' := Lib.hid (show SrcIs w101 (.slice A L.length z) (L.length) (L.flatMap strC) 1 from SL.out.chx cc100 xnin_nil)
          have UL' := Lib.hid (show SrcIs w101 (.slice (some au) U.length zu) (U.length) (U.flatMap intC) 1 from UL.out.chx cc100 xnin_nil)
          have SX' := Lib.hid (show Blk w101 x (#[.string r, .bool false]) 43 from cc100.blk SX.out nin_nil)
          have OG' := Lib.hid (show OwnS w101 w.heap.size 9 1 (vg) (j) (((L.map cutT).take j).flatMap strC) from OG.out.ch cc100 rnin_nil)
          clear C0 SL UL SX OG
          have C0 := C0'; clear C0'
          have SL := SL'; clear SL'
          have UL := UL'; clear UL'
          have SX := SX'; clear SX'
          have OG := OG'; clear OG'
          clear cc100
          have HV := Lib.hid hv
          clear hv
          obtain ⟨n, hn⟩ : ∃ n, n = min v al.size := ⟨_, rfl⟩
          have D67 := Lib.hid (show min (v : Int) (al.size : Int) = (n : Int) by rw [hn]; omega)
          have HNB := Lib.hid (show n ≤ al.size by rw [hn]; exact Nat.min_le_right _ _)
          have HNX := Lib.hid (show n = al.size ∨ i < 60 from .inr H60.out)
          clear hn
          have HPZ := Lib.hid (show (r ++ al).size ≤ 4824 by rw [HRA.out]; have h9 := cat_size (l := (L.map cutT).drop j) (fun t ht => HSF.out t (List.mem_of_mem_drop ht)); rw [List.length_drop] at h9; have := HL.out; have := HFL.out; omega)
          have HXS := Lib.hid (show (al.extract n al.size).size = al.size - n by rw [ByteArray.size_extract]; omega)
          have HES := Lib.hid (show (al.extract 0 n).size = n by rw [ByteArray.size_extract]; have := HNB.out; omega)
          have HFZ := Lib.hid (show r.size + (al.extract 0 n).size ≤ 4824 by have h9 := HPZ.out; rw [ByteArray.size_append] at h9; have := HES.out; have := HNB.out; omega)
          have HPA := Lib.hid (show (r ++ al.extract 0 n) ++ al.extract n al.size = cat ((L.map cutT).drop j) by rw [ByteArray.append_assoc, ext_parts _ _ HNB.out]; exact HRA.out)
          obtain ⟨m, r2, hm, hu, hrv, hsh⟩ := parse ((L.map cutT).drop j) _ _ (fun t ht => HSF.out t (List.mem_of_mem_drop ht)) HPA.out
          have HM := Lib.hid hm
          have HU := Lib.hid hu
          have HRV := Lib.hid (show r2 ++ al.extract n al.size = cat ((L.map cutT).drop (j + m)) by rw [← List.drop_drop]; exact hrv)
          have HSH2 := Lib.hid (show Short r2 ((L.map cutT).drop (j + m)) by rw [← List.drop_drop]; exact hsh)
          clear hm hu hrv hsh
          obtain ⟨T, hT⟩ : ∃ T, T = ((L.map cutT).drop j).take m := ⟨_, rfl⟩
          have HTE := Lib.hid hT
          have HTL := Lib.hid (show T.length = m by rw [hT, List.length_take]; have := HM.out; omega)
          have HUT := Lib.hid (show r ++ al.extract 0 n = cat (T.drop 0) ++ r2 by rw [List.drop_zero, hT]; exact HU.out)
          clear hT HU
          have HTS := Lib.hid (show Smalls T from fun t ht => HSF.out t (List.mem_of_mem_drop (List.mem_of_mem_take (by rw [← HTE.out]; exact ht))))
          have HTN := Lib.hid (show T.length ≤ 100 by have h9 := HM.out; rw [List.length_drop] at h9; have := HTL.out; have := HFL.out; have := HL.out; omega)
          have HRS := Lib.hid (show r2.size ≤ 4824 by have h9 := congrArg ByteArray.size HUT.out; rw [ByteArray.size_append, ByteArray.size_append] at h9; have := HFZ.out; omega)
          have HSZ := Lib.hid (show ∀ k, (cat (T.drop k) ++ r2).size ≤ 7000 from fun k => by have h9 := congrArg ByteArray.size HUT.out; rw [List.drop_zero, ByteArray.size_append, ByteArray.size_append, ← List.take_append_drop k T, cat_app, ByteArray.size_append] at h9; rw [ByteArray.size_append]; have := HFZ.out; omega)
          have D71 := Lib.hid (show (n : Int) ≤ (al.size : Int) by have := HNB.out; omega)
          refine hK99 _ _ ?_; clear hK99 K99
          (try simp only [zP, zN, zA, zB, zC])
          refine pu_ (v := .string al) (y_move rfl (by rfl) (by rfl)) ?_
          (try simp only [zP, zN, zA, zB, zC])
          refine pu_ (v := .int .i64 al.size) (y_run (by rfl) (fun W => by go_simp)) ?_
          (try simp only [zP, zN, zA, zB, zC])
          refine pu_ (v := .int .i64 n) (y_run (by rfl) (fun W => by have d := D67.out; go_simp; split <;> omega)) ?_
          (try simp only [zP, zN, zA, zB, zC])
          refine pu_ (v := .int .i64 n) (y_assign rfl (by rfl) (by rfl)) ?_
          (try simp only [zP, zN, zA, zB, zC])
          refine nl_ ?_
          refine th_norm (hK43 _ _ ?_); try clear hK43 K43
          refine sq_ (fun K102 hK102 => ?_)
          refine s_ (fun K103 hK103 => ?_)
          refine pu_ (v := .pointer (some ⟨x, 0, none⟩)) (y_move rfl (by rfl) (by rfl)) ?_
          (try simp only [zP, zN, zA, zB, zC])
          refine pu_ (v := .string al) (y_move rfl (by rfl) (by rfl)) ?_
          (try simp only [zP, zN, zA, zB, zC])
          refine pu_ (v := .int .i64 n) (y_move rfl (by rfl) (by rfl)) ?_
          (try simp only [zP, zN, zA, zB, zC])
          refine pu_ (v := .string (al.extract 0 n)) (y_run (by rfl) (fun W => by have d := D71.out; go_simp)) ?_
          (try simp only [zP, zN, zA, zB, zC])
          refine ef_ (fun K104 hK104 => ?_)
          refine e_call Try.func11 (by kernel_rfl) rfl #[.pointer (some ⟨x, 0, none⟩), .string (al.extract 0 n)] (by rfl) rfl rfl (by first | rfl | (simp only [List.map_toArray, List.map_cons, List.map_nil]; first | done | rfl)) ((feed_c SX.out (by have := HFZ.out; omega))) ?_
          rintro en w107 ⟨rfl, B106, cc105⟩
          refine ⟨_, rfl, ?_⟩
          have C0' := Lib.hid (show Ch [] w w107 from C0.out.trans' cc105 (inw_cons (.inr hxN.out) inw_nil))
          have SL' := Lib.hid (show SrcIs w107 (.slice A L.length z) (L.length) (L.flatMap strC) 1 from SL.out.chx cc105 (xnin_cons hxL.out xnin_nil))
          have UL' := Lib.hid (show SrcIs w107 (.slice (some au) U.length zu) (U.length) (U.flatMap intC) 1 from UL.out.chx cc105 (xnin_cons hxU.out xnin_nil))
          have OG' := Lib.hid (show OwnS w107 w.heap.size 9 1 (vg) (j) (((L.map cutT).take j).flatMap strC) from OG.out.ch cc105 (rnin_cons (OG.out.ne SX.out (by decide)) rnin_nil))
          clear C0 SL UL OG
          have C0 := C0'; clear C0'
          have SL := SL'; clear SL'
          have UL := UL'; clear UL'
          have OG := OG'; clear OG'
          clear SX
          clear cc105
          have SX := Lib.hid (show Blk w107 x (#[.string (r ++ al.extract 0 n), .bool false]) 43 from B106)
          refine hK104 _ _ ?_; clear hK104 K104
          (try simp only [zP, zN, zA, zB, zC])
          refine pu_ (v := .bool false) (y_run (by rfl) (fun W => by first | (go_simp; done) | (go_simp; rfl) | (go_simp; decide))) ?_
          (try simp only [zP, zN, zA, zB, zC])
          refine nl_ (hK103 _ _ ?_); clear hK103 K103
          refine wp_cond_false rfl ?_
          refine wp_skip ?_
          refine th_norm (hK102 _ _ ?_); try clear hK102 K102
          refine s_ (fun K108 hK108 => ?_)
          refine pu_ (v := .string al) (y_move rfl (by rfl) (by rfl)) ?_
          (try simp only [zP, zN, zA, zB, zC])
          refine pu_ (v := .int .i64 n) (y_move rfl (by rfl) (by rfl)) ?_
          (try simp only [zP, zN, zA, zB, zC])
          refine pu_ (v := .string (al.extract n al.size)) (y_run (by rfl) (fun W => by have d := D71.out; go_simp)) ?_
          (try simp only [zP, zN, zA, zB, zC])
          refine pu_ (v := .string (al.extract n al.size)) (y_assign rfl (by rfl) (by rfl)) ?_
          (try simp only [zP, zN, zA, zB, zC])
          refine nl_ (hK108 _ _ ?_); clear hK108 K108
          refine r_ ?_
          refine pu_ (v := vg) (y_move rfl (by rfl) (by rfl)) ?_
          (try simp only [zP, zN, zA, zB, zC])
          refine pu_ (v := .pointer (some ⟨x, 0, none⟩)) (y_move rfl (by rfl) (by rfl)) ?_
          (try simp only [zP, zN, zA, zB, zC])
          refine ef_ (fun K109 hK109 => ?_)
          refine e_call Try.func16 (by kernel_rfl) rfl #[.pointer (some ⟨x, 0, none⟩)] (by rfl) rfl rfl (by first | rfl | (simp only [List.map_toArray, List.map_cons, List.map_nil]; first | done | rfl)) ((texts_ (D := (L.map cutT).drop (j + m)) HTN HTS HSH2 HSZ (Lib.hid (by have h9 := SX.out; rw [HUT.out] at h9; exact h9)))) ?_
          rintro en w113 ⟨vt, rfl, OT0, B112, cc111⟩
          refine ⟨_, rfl, ?_⟩
          have hr110 := OT0.lt
          have rw114 := Lib.hid (show ∀ x, x ∈ rl vt → x ∈ [] ∨ w.heap.size ≤ x from fun x hx => .inr (by have := (fun k hk => (hr110 k hk).1) x hx; have := C0.out.size; omega))
          have xr115 := Lib.hid (show ∀ k, k ∈ xb (.slice A L.length z) → k ∉ rl vt from fun k hk hm => by have := (fun k hk => (hr110 k hk).1) k hm; have := SL.out.lt (by decide) k hk; omega)
          have xr116 := Lib.hid (show ∀ k, k ∈ xb (.slice (some au) U.length zu) → k ∉ rl vt from fun k hk hm => by have := (fun k hk => (hr110 k hk).1) k hm; have := UL.out.lt (by decide) k hk; omega)
          have rr117 := Lib.hid (show ∀ k, k ∈ rl vg → k ∉ rl vt from fun k hk hm => by have := (fun k hk => (hr110 k hk).1) k hm; have := (OG.out.lt k hk).2; omega)
          have C0' := Lib.hid (show Ch [] w w113 from C0.out.trans' cc111 (inw_cons (.inr hxN.out) inw_nil))
          have SL' := Lib.hid (show SrcIs w113 (.slice A L.length z) (L.length) (L.flatMap strC) 1 from SL.out.chx cc111 (xnin_cons hxL.out xnin_nil))
          have UL' := Lib.hid (show SrcIs w113 (.slice (some au) U.length zu) (U.length) (U.flatMap intC) 1 from UL.out.chx cc111 (xnin_cons hxU.out xnin_nil))
          have OG' := Lib.hid (show OwnS w113 w.heap.size 9 1 (vg) (j) (((L.map cutT).take j).flatMap strC) from OG.out.ch cc111 (rnin_cons (OG.out.ne SX.out (by decide)) rnin_nil))
          clear C0 SL UL OG
          have C0 := C0'; clear C0'
          have SL := SL'; clear SL'
          have UL := UL'; clear UL'
          have OG := OG'; clear OG'
          clear SX
          clear cc111
          have OT := Lib.hid (show OwnS w113 w107.heap.size 9 1 (vt) (T.length) (T.flatMap strC) from OT0)
          have SX := Lib.hid (show Blk w113 x (#[.string r2, .bool false]) 43 from B112)
          refine hK109 _ _ ?_; clear hK109 K109
          (try simp only [zP, zN, zA, zB, zC])
          refine ef_ (fun K118 hK118 => ?_)
          refine e_append (by rfl) rfl rfl (w.heap.size) 9 _ _ 1 16 Try.underlying29 I9.hi I9.hz I9.hs I9.hb rfl (by decide) (vg) (j) (((L.map cutT).take j).flatMap strC) (by rfl) OG.out (vt) T.length (T.flatMap strC) (by rfl) OT.out.src (flat_one strC_one T) (by unfold maxLen; have := HTN.out; have := hj.out; have := HL.out; omega) (by have := HTN.out; have := hj.out; have := HL.out; omega) C0.out.size ?_
          rintro v119 w120 O121 C122 R123 -
          have xr125 := Lib.hid (show ∀ k, k ∈ xb (.slice A L.length z) → k ∉ rl v119 from fun k hk hm => (R123 k hm).elim (fun h => hxr.out k hk h) (fun h => by have := SL.out.lt (by decide) k hk; omega))
          have xr126 := Lib.hid (show ∀ k, k ∈ xb (.slice (some au) U.length zu) → k ∉ rl v119 from fun k hk hm => (R123 k hm).elim (fun h => hur.out k hk h) (fun h => by have := UL.out.lt (by decide) k hk; omega))
          have rr127 := Lib.hid (show ∀ k, k ∈ rl (vt) → k ∉ rl v119 from fun k hk hm => (R123 k hm).elim (fun h => (fun k hk hm => rr117.out k hm hk) k hk h) (fun h => by have := (OT.out.lt k hk).2; omega))
          have C0' := Lib.hid (show Ch [] w w120 from C0.out.trans' C122 (fun x hx => .inr (OG.out.lt x hx).1))
          have SL' := Lib.hid (show SrcIs w120 (.slice A L.length z) (L.length) (L.flatMap strC) 1 from SL.out.chx C122 hxr.out)
          have UL' := Lib.hid (show SrcIs w120 (.slice (some au) U.length zu) (U.length) (U.flatMap intC) 1 from UL.out.chx C122 hur.out)
          have OT' := Lib.hid (show OwnS w120 w107.heap.size 9 1 (vt) (T.length) (T.flatMap strC) from OT.out.ch C122 (fun k hk hm => rr117.out k hm hk))
          have SX' := Lib.hid (show Blk w120 x (#[.string r2, .bool false]) 43 from C122.blk SX.out (OG.out.ne SX.out (by decide)))
          clear C0 SL UL OT SX
          have C0 := C0'; clear C0'
          have SL := SL'; clear SL'
          have UL := UL'; clear UL'
          have OT := OT'; clear OT'
          have SX := SX'; clear SX'
          clear OG
          have OG := Lib.hid (show OwnS w120 w.heap.size 9 1 (v119) (j + T.length) (((L.map cutT).take j).flatMap strC ++ T.flatMap strC) from O121); clear O121 C122
          refine hK118 _ _ ?_; clear hK118 K118
          (try simp only [zP, zN, zA, zB, zC])
          refine pu_ (v := v119) (y_assign rfl (by rfl) (by rfl)) ?_
          (try simp only [zP, zN, zA, zB, zC])
          refine nl_ ?_
          refine ib_norm ?_
          refine th_norm (hK41 _ _ ?_); try clear hK41 K41
          refine r_ ?_
          refine pu_ (v := .int .i64 i) (y_move rfl (by rfl) (by rfl)) ?_
          (try simp only [zP, zN, zA, zB, zC])
          refine pu_ (v := .int .i64 (i + 1 : Nat)) (y_run (by rfl) (fun W => by have d := Wi.out; go_simp)) ?_
          (try simp only [zP, zN, zA, zB, zC])
          refine pu_ (v := .int .i64 (i + 1 : Nat)) (y_assign rfl (by rfl) (by rfl)) ?_
          (try simp only [zP, zN, zA, zB, zC])
          refine nl_ ?_
          exact th_norm (hK38 ((60 - (i + 1)) + (if (al.extract n al.size).size = 0 then 0 else 1)) _ _ (by have h1 := hi.out.2.2; rw [if_neg HNZ.out] at h1; have h2 := HXS.out; have h3 := HNX.out; have h4 := HI.out; split <;> omega) ⟨i + 1, j + m, _, r2, _, fun us_ => (#[.slice A L.length z, .slice (some au) U.length zu, us 2, us 3, .bool false, .pointer (some ⟨x, 0, none⟩), .string (al.extract n al.size), us 7, us 8, us 9, v119, .int .i64 (i + 1 : Nat), .int .i64 n, us 13, us 14, us 15, us 16, us 17, us 18, us 19, us 20, us 21, us 22, us 23, us 24, us 25, us 26, us 27, us 28, us 29, us 30, us 31, us 32, us 33, us 34, us 35, us 36, us 37, us 38, us 39, us 40, us 41, us 42, us 43, us 44, us 45, .string al, .bool true, .int .i64 i, .int .i64 (i + 1 : Nat), .string al, .int .i64 al.size, .int .i64 i, .slice (some au) U.length zu, .int .i64 U.length, .bool true, .bool true, .int .i64 i, .bool true, .bool true, .slice (some au) U.length zu, .int .i64 i, .pointer (some (au.add i)), .int .i64 c, .int .i64 v, .string al, .int .i64 al.size, .int .i64 n, .pointer (some ⟨x, 0, none⟩), .string al, .int .i64 n, .string (al.extract 0 n), .int .i64 0, .bool false, .string al, .int .i64 n, .string (al.extract n al.size), vg, .pointer (some ⟨x, 0, none⟩), vt, v119, us 81, us 82, us 83, us 84, us 85, us 86, us 87, us 88, us 89, us 90, us 91, us 92, us 93, us 94, us 95, us 96, us 97, us 98, us 99, us 100, us 101, us 102, us 103, us 104, us 105, us 106, us 107, us 108, us 109, us 110, us 111, us 112, us 113, us 114, us 115, us 116, us 117] : Array Value).getD us_ undef, rfl, C0, SL, UL, SX, Lib.hid (by have h9 := OG.out; rw [← List.flatMap_append, HTL.out, HTE.out, ← List.take_add] at h9; exact h9), Lib.hid (by have := HM.out; rw [List.length_drop] at this; have := HFL.out; have := hj.out; omega), Lib.hid ⟨by have := HI.out; omega, by have h1 := HI.out; have h2 := HXS.out; have h3 := HNX.out; omega, rfl⟩, HRV, HSH2, Lib.hid (xr125.out), Lib.hid (xr126.out)⟩)
      · have HZ := Lib.hid (show al = E0 from size_zero h)
        have HDN := Lib.hid (short_nil HSH.out (by have h9 := HRA.out; rw [size_zero h, app_nil] at h9; exact h9))
        have HJL := Lib.hid (show j = L.length by have h9 := HDN.out.1; have h8 := congrArg List.length h9; rw [List.length_drop, HFL.out] at h8; have := hj.out; simp at h8; omega)
        have D47 := Lib.hid (show (Value.string al) = .string E0 by rw [size_zero h])
        clear h
        refine s_ (fun K128 hK128 => ?_)
        refine pu_ (v := .string al) (y_move rfl (by rfl) (by rfl)) ?_
        (try simp only [zP, zN, zA, zB, zC])
        refine pu_ (v := .bool false) (y_run (by rfl) (fun W => by rw [D47.out]; go_simp)) ?_
        (try simp only [zP, zN, zA, zB, zC])
        refine nl_ (hK128 _ _ ?_); clear hK128 K128
        refine wp_cond_false rfl ?_
        refine wp_exit ?_
        refine th_exit ?_
        refine th_exit ?_
        refine ib_exit ?_
        refine th_norm (hK35 _ _ ?_); try clear hK35 K35
        refine sq_ (fun K129 hK129 => ?_)
        refine s_ (fun K130 hK130 => ?_)
        refine pu_ (v := .slice A L.length z) (y_move rfl (by rfl) (by rfl)) ?_
        (try simp only [zP, zN, zA, zB, zC])
        refine pu_ (v := .int .i64 L.length) (y_run (by rfl) (fun W => by go_simp)) ?_
        (try simp only [zP, zN, zA, zB, zC])
        refine pu_ (v := .int .i64 0) (y_move rfl (by rfl) (by rfl)) ?_
        (try simp only [zP, zN, zA, zB, zC])
        refine nl_ (hK130 _ _ ?_); clear hK130 K130
        refine wp_block ?_
        have OK_ := Lib.hid (show OwnS w37 w.heap.size 9 1 vg L.length ((L.map cutT).flatMap strC) by have h9 := OG.out; rw [HJL.out, List.take_of_length_le (by rw [HFL.out]; exact Nat.le_refl _)] at h9; exact h9)
        have SX0 := Lib.hid (show SplB w37 x E0 by have h9 := SX.out; rw [HDN.out.2] at h9; exact h9)
        obtain ⟨Ag, cg, hvg, -, -⟩ := OK_.out.slice
        subst hvg
        refine loopk_ (fun (kq : Nat) (a' : Act) (w' : World) => ∃ (k : Nat), ∃ (us : Nat → Value), a' = ⟨#[.slice A L.length z, .slice Au U.length zu, us 2, us 3, .bool false, .pointer (some ⟨x, 0, none⟩), us 6, us 7, us 8, us 9, .slice Ag L.length cg, us 11, us 12, us 13, us 14, us 15, us 16, us 17, us 18, us 19, us 20, us 21, us 22, us 23, us 24, us 25, us 26, us 27, us 28, us 29, us 30, us 31, us 32, us 33, us 34, us 35, us 36, us 37, us 38, us 39, us 40, us 41, us 42, us 43, us 44, us 45, us 46, us 47, us 48, us 49, us 50, us 51, us 52, us 53, us 54, us 55, us 56, us 57, us 58, us 59, us 60, us 61, us 62, us 63, us 64, us 65, us 66, us 67, us 68, us 69, us 70, us 71, us 72, us 73, us 74, us 75, us 76, us 77, us 78, us 79, us 80, us 81, .int .i64 L.length, .int .i64 k, us 84, us 85, us 86, us 87, us 88, us 89, us 90, us 91, us 92, us 93, us 94, us 95, us 96, us 97, us 98, us 99, us 100, us 101, us 102, us 103, us 104, us 105, us 106, us 107, us 108, us 109, us 110, us 111, us 112, us 113, us 114, us 115, us 116, us 117], []⟩ ∧ Hid (Ch [] w w') ∧ Hid (SrcIs w' (.slice A L.length z) (L.length) (L.flatMap strC) 1) ∧ Hid (Blk w' x (#[.string E0, .bool false]) 43) ∧ Hid (OwnS w' w.heap.size 9 1 (.slice Ag L.length cg) (L.length) ((L.map cutT).flatMap strC)) ∧ Hid (k ≤ L.length ∧ kq + k = L.length)) (L.length) (⟨0, fun us_ => (#[.slice A L.length z, .slice Au U.length zu, us 2, us 3, .bool false, .pointer (some ⟨x, 0, none⟩), .string al, us 7, us 8, us 9, .slice Ag L.length cg, .int .i64 i, us 12, us 13, us 14, us 15, us 16, us 17, us 18, us 19, us 20, us 21, us 22, us 23, us 24, us 25, us 26, us 27, us 28, us 29, us 30, us 31, us 32, us 33, us 34, us 35, us 36, us 37, us 38, us 39, us 40, us 41, us 42, us 43, us 44, us 45, .string al, .bool false, us 48, us 49, us 50, us 51, us 52, us 53, us 54, us 55, us 56, us 57, us 58, us 59, us 60, us 61, us 62, us 63, us 64, us 65, us 66, us 67, us 68, us 69, us 70, us 71, us 72, us 73, us 74, us 75, us 76, us 77, us 78, us 79, us 80, .slice A L.length z, .int .i64 L.length, .int .i64 0, us 84, us 85, us 86, us 87, us 88, us 89, us 90, us 91, us 92, us 93, us 94, us 95, us 96, us 97, us 98, us 99, us 100, us 101, us 102, us 103, us 104, us 105, us 106, us 107, us 108, us 109, us 110, us 111, us 112, us 113, us 114, us 115, us 116, us 117] : Array Value).getD us_ undef, rfl, C0, SL, SX0, OK_, Lib.hid ⟨by omega, by omega⟩⟩) ?_
        rintro kq _ w131 ⟨k, us, rfl, C0, SL, SX, OK, hk⟩ K132 hK132
        rcases at_ways' hk.out.1 with ⟨b, ho0, hlt0⟩ | h
        · have hlt := Lib.hid hlt0
          have ho := Lib.hid ho0
          clear hlt0 ho0
          obtain ⟨a, hsm_a⟩ := src_some SL.out (by have := hlt.out; omega)
          subst hsm_a
          obtain ⟨gg, cg2, hv, -, -, -, -, -⟩ := OK.out.some_ (by have := hlt.out; omega)
          injection hv with hv1 _ hv3
          subst hv1 hv3
          have D84 := Lib.hid (show (k : Int) < (L.length : Int) by have := hlt.out; omega)
          have Wk := Lib.hid (show IntKind.i64.wrap ((k : Int) + 1) = ((k + 1 : Nat) : Int) by rw [wr64 (by have := hlt.out; have h7 := HL.out; omega)]; omega)
          have D89 := Lib.hid (show ¬ (L.length : Int) ≤ (k : Int) by have := hlt.out; omega)
          refine s_ (fun K133 hK133 => ?_)
          refine pu_ (v := .bool true) (y_run (by rfl) (fun W => by have d := D84.out; go_simp)) ?_
          (try simp only [zP, zN, zA, zB, zC])
          refine nl_ (hK133 _ _ ?_); clear hK133 K133
          refine sq_ (fun K134 hK134 => ?_)
          refine wp_cond_true rfl ?_
          refine wp_skip ?_
          refine th_norm (hK134 _ _ ?_); try clear hK134 K134
          refine sq_ (fun K135 hK135 => ?_)
          refine wp_block ?_
          refine s_ (fun K136 hK136 => ?_)
          refine pu_ (v := .int .i64 k) (y_move rfl (by rfl) (by rfl)) ?_
          (try simp only [zP, zN, zA, zB, zC])
          refine pu_ (v := .int .i64 k) (y_assign rfl (by rfl) (by rfl)) ?_
          (try simp only [zP, zN, zA, zB, zC])
          refine nl_ (hK136 _ _ ?_); clear hK136 K136
          refine sq_ (fun K137 hK137 => ?_)
          refine startk_ (S := fun W => SrcIs W (.slice (some a) L.length z) (L.length) (L.flatMap strC) 1 ∧ OwnS W w.heap.size 9 1 (.slice (some ⟨gg, 0, none⟩) L.length cg) (L.length) ((L.map cutT).flatMap strC) ∧ True) (ds := []) #[false, false, false, false, false, false, false, false, false, false, false, false, false, false, false, false] (by kernel_rfl) rfl rfl (fun W c => ⟨SL.out.chx c xnin_nil, OK.out.ch c rnin_nil, trivial⟩) (fun w138 C139 hS140 => ?_)
          have C0' := Lib.hid (show Ch [] w w138 from C0.out.trans' C139 (fun x hx => absurd hx (by simp)))
          have SL' := Lib.hid (show SrcIs w138 (.slice (some a) L.length z) (L.length) (L.flatMap strC) 1 from SL.out.chx C139 xnin_nil)
          have SX' := Lib.hid (show Blk w138 x (#[.string E0, .bool false]) 43 from C139.blk SX.out nin_nil)
          have OK' := Lib.hid (show OwnS w138 w.heap.size 9 1 (.slice (some ⟨gg, 0, none⟩) L.length cg) (L.length) ((L.map cutT).flatMap strC) from OK.out.ch C139 rnin_nil)
          clear C0 SL SX OK
          have C0 := C0'; clear C0'
          have SL := SL'; clear SL'
          have SX := SX'; clear SX'
          have OK := OK'; clear OK'
          clear C139
          refine pure_ (i := 0) (N := some 86) (v := .int .i64 k) #[true, false, false, false, false, false, false, false, false, false, false, false, false, false, false, false] rfl rfl (by kernel_rfl) (fun c a w h => hP c a _ _ w h) (y_move rfl (by rfl) (by rfl)) rfl ?_
          (try simp only [zP, zN, zA, zB, zC])
          refine pure_ (i := 1) (N := some 87) (v := .slice (some ⟨gg, 0, none⟩) L.length cg) #[true, true, false, false, false, false, false, false, false, false, false, false, false, false, false, false] rfl rfl (by kernel_rfl) (fun c a w h => hP c a _ _ w h) (y_move rfl (by rfl) (by rfl)) rfl ?_
          (try simp only [zP, zN, zA, zB, zC])
          refine pure_ (i := 2) (N := some 88) (v := .int .i64 L.length) #[true, true, true, false, false, false, false, false, false, false, false, false, false, false, false, false] rfl rfl (by kernel_rfl) (fun c a w h => hP c a _ _ w h) (y_run (by rfl) (fun W => by go_simp)) rfl ?_
          (try simp only [zP, zN, zA, zB, zC])
          refine pure_ (i := 3) (N := some 89) (v := .bool false) #[true, true, true, true, false, false, false, false, false, false, false, false, false, false, false, false] rfl rfl (by kernel_rfl) (fun c a w h => hP c a _ _ w h) (y_run (by rfl) (fun W => by have d := D89.out; go_simp)) rfl ?_
          (try simp only [zP, zN, zA, zB, zC])
          refine pure_ (i := 4) (N := some 90) (v := .bool false) #[true, true, true, true, true, false, false, false, false, false, false, false, false, false, false, false] rfl rfl (by kernel_rfl) (fun c a w h => hP c a _ _ w h) (y_move rfl (by rfl) (by rfl)) rfl ?_
          (try simp only [zP, zN, zA, zB, zC])
          refine pure_ (i := 5) (N := some 91) (v := .slice (some ⟨gg, 0, none⟩) L.length cg) #[true, true, true, true, true, true, false, false, false, false, false, false, false, false, false, false] rfl rfl (by kernel_rfl) (fun c a w h => hP c a _ _ w h) (y_move rfl (by rfl) (by rfl)) rfl ?_
          (try simp only [zP, zN, zA, zB, zC])
          refine pure_ (i := 6) (N := some 92) (v := .int .i64 k) #[true, true, true, true, true, true, true, false, false, false, false, false, false, false, false, false] rfl rfl (by kernel_rfl) (fun c a w h => hP c a _ _ w h) (y_move rfl (by rfl) (by rfl)) rfl ?_
          (try simp only [zP, zN, zA, zB, zC])
          refine pure_ (i := 7) (N := some 93) (v := .pointer (some ⟨gg, k, none⟩)) #[true, true, true, true, true, true, true, true, false, false, false, false, false, false, false, false] rfl rfl (by kernel_rfl) (fun c a w h => hP c a _ _ w h) (y_run (by rfl) (fun W => by have d := D84.out; go_simp)) rfl ?_
          (try simp only [zP, zN, zA, zB, zC])
          refine take_ (i := 8) (N := some 94) (v := .string (cutT b)) #[true, true, true, true, true, true, true, true, true, false, false, false, false, false, false, false] rfl rfl (by kernel_rfl) (fun c a w h => hP c a _ _ w h) (y_load (p := ⟨gg, k, none⟩) rfl (by rfl) (by rfl) (fun W hS => run_load_one (one_at (by have h9 := own_at strC_len hS.2.1 (x := cutT b) (k := k) (by rw [List.getElem?_map, ho.out]; rfl); rw [Nat.mul_one] at h9; exact h9)) Try.underlying9 rfl)) hS140 rfl ?_
          (try simp only [zP, zN, zA, zB, zC])
          refine pure_ (i := 9) (N := some 95) (v := .slice (some a) L.length z) #[true, true, true, true, true, true, true, true, true, true, false, false, false, false, false, false] rfl rfl (by kernel_rfl) (fun c a w h => hP c a _ _ w h) (y_move rfl (by rfl) (by rfl)) rfl ?_
          (try simp only [zP, zN, zA, zB, zC])
          refine pure_ (i := 10) (N := some 96) (v := .int .i64 k) #[true, true, true, true, true, true, true, true, true, true, true, false, false, false, false, false] rfl rfl (by kernel_rfl) (fun c a w h => hP c a _ _ w h) (y_move rfl (by rfl) (by rfl)) rfl ?_
          (try simp only [zP, zN, zA, zB, zC])
          refine pure_ (i := 11) (N := some 97) (v := .pointer (some (a.add k))) #[true, true, true, true, true, true, true, true, true, true, true, true, false, false, false, false] rfl rfl (by kernel_rfl) (fun c a w h => hP c a _ _ w h) (y_run (by rfl) (fun W => by have d := D84.out; go_simp)) rfl ?_
          (try simp only [zP, zN, zA, zB, zC])
          refine take_ (i := 12) (N := some 98) (v := .string b) #[true, true, true, true, true, true, true, true, true, true, true, true, true, false, false, false] rfl rfl (by kernel_rfl) (fun c a w h => hP c a _ _ w h) (y_load (p := (a.add k)) rfl (by rfl) (by rfl) (fun W hS => run_load_one (one_at (by have h9 := src_at strC_len hS.1 ho.out; rw [Nat.mul_one] at h9; exact h9)) Try.underlying9 rfl)) hS140 rfl ?_
          (try simp only [zP, zN, zA, zB, zC])
          refine one_ (i := 13) (N := some 99) #[true, true, true, true, true, true, true, true, true, true, true, true, true, true, false, false] rfl rfl (by kernel_rfl) (by simp) (fun K141 hK141 => ?_)
          refine e_call Try.func14 (by kernel_rfl) rfl #[.string b, .int .i64 400] (by rfl) rfl rfl (by first | rfl | (simp only [List.map_toArray, List.map_cons, List.map_nil]; first | done | rfl)) (cut_) ?_
          rintro en w143 ⟨rfl, cc142⟩
          refine ⟨_, rfl, ?_⟩
          have C0' := Lib.hid (show Ch [] w w143 from C0.out.trans' cc142 (fun x hx => absurd hx (by simp)))
          have SL' := Lib.hid (show SrcIs w143 (.slice (some a) L.length z) (L.length) (L.flatMap strC) 1 from SL.out.chx cc142 xnin_nil)
          have SX' := Lib.hid (show Blk w143 x (#[.string E0, .bool false]) 43 from cc142.blk SX.out nin_nil)
          have OK' := Lib.hid (show OwnS w143 w.heap.size 9 1 (.slice (some ⟨gg, 0, none⟩) L.length cg) (L.length) ((L.map cutT).flatMap strC) from OK.out.ch cc142 rnin_nil)
          clear C0 SL SX OK
          have C0 := C0'; clear C0'
          have SL := SL'; clear SL'
          have SX := SX'; clear SX'
          have OK := OK'; clear OK'
          clear cc142
          refine hK141.out _ _ ⟨SL.out, OK.out, trivial⟩ (fun hS144 => ?_); clear hK141 K141
          (try simp only [zP, zN, zA, zB, zC])
          refine pure_ (i := 14) (N := some 100) (v := .bool false) #[true, true, true, true, true, true, true, true, true, true, true, true, true, true, true, false] rfl rfl (by kernel_rfl) (fun c a w h => hP c a _ _ w h) (y_run (by rfl) (fun W => by go_simp)) rfl ?_
          (try simp only [zP, zN, zA, zB, zC])
          refine pure_ (i := 15) (N := some 101) (v := .bool false) #[true, true, true, true, true, true, true, true, true, true, true, true, true, true, true, true] rfl rfl (by kernel_rfl) (fun c a w h => hP c a _ _ w h) (y_pick (t := false) (by rfl) rfl (by rfl) (by rfl)) rfl ?_
          (try simp only [zP, zN, zA, zB, zC])
          refine done_ (by kernel_rfl) (th_norm (hK137 _ _ ?_)); clear hK137 K137
          refine wp_cond_false rfl ?_
          refine wp_skip ?_
          refine ib_norm ?_
          refine th_norm (hK135 _ _ ?_); try clear hK135 K135
          refine r_ ?_
          refine pu_ (v := .int .i64 (k + 1 : Nat)) (y_run (by rfl) (fun W => by have d := Wk.out; go_simp)) ?_
          (try simp only [zP, zN, zA, zB, zC])
          refine pu_ (v := .int .i64 (k + 1 : Nat)) (y_move rfl (by rfl) (by rfl)) ?_
          (try simp only [zP, zN, zA, zB, zC])
          refine nl_ ?_
          exact th_norm (hK132 (kq - 1) _ _ (by have := hlt.out; have := hk.out; omega) ⟨k + 1, fun us_ => (#[.slice (some a) L.length z, .slice Au U.length zu, us 2, us 3, .bool false, .pointer (some ⟨x, 0, none⟩), us 6, us 7, us 8, us 9, .slice (some ⟨gg, 0, none⟩) L.length cg, us 11, us 12, .int .i64 k, us 14, us 15, us 16, us 17, us 18, us 19, us 20, us 21, us 22, us 23, us 24, us 25, us 26, us 27, us 28, us 29, us 30, us 31, us 32, us 33, us 34, us 35, us 36, us 37, us 38, us 39, us 40, us 41, us 42, us 43, us 44, us 45, us 46, us 47, us 48, us 49, us 50, us 51, us 52, us 53, us 54, us 55, us 56, us 57, us 58, us 59, us 60, us 61, us 62, us 63, us 64, us 65, us 66, us 67, us 68, us 69, us 70, us 71, us 72, us 73, us 74, us 75, us 76, us 77, us 78, us 79, us 80, us 81, .int .i64 L.length, .int .i64 (k + 1 : Nat), .bool true, .int .i64 k, .int .i64 k, .slice (some ⟨gg, 0, none⟩) L.length cg, .int .i64 L.length, .bool false, .bool false, .slice (some ⟨gg, 0, none⟩) L.length cg, .int .i64 k, .pointer (some ⟨gg, k, none⟩), .string (cutT b), .slice (some a) L.length z, .int .i64 k, .pointer (some (a.add k)), .string b, .string (cutT b), .bool false, .bool false, .int .i64 (k + 1 : Nat), us 103, us 104, us 105, us 106, us 107, us 108, us 109, us 110, us 111, us 112, us 113, us 114, us 115, us 116, us 117] : Array Value).getD us_ undef, rfl, C0, SL, SX, OK, Lib.hid ⟨by have := hlt.out; omega, by have := hlt.out; have := hk.out; omega⟩⟩)
        · have D84 := Lib.hid (show ¬ k < L.length by have := hk.out; omega)
          have HE := Lib.hid h
          clear h
          refine s_ (fun K145 hK145 => ?_)
          refine pu_ (v := .bool false) (y_run (by rfl) (fun W => by have d := D84.out; go_simp)) ?_
          (try simp only [zP, zN, zA, zB, zC])
          refine nl_ (hK145 _ _ ?_); clear hK145 K145
          refine sq_ (fun K146 hK146 => ?_)
          refine wp_cond_false rfl ?_
          refine wp_exit ?_
          refine th_exit ?_
          refine th_exit ?_
          refine ib_exit ?_
          refine th_norm (hK129 _ _ ?_); try clear hK129 K129
          refine s_ (fun K147 hK147 => ?_)
          refine pu_ (v := .slice Ag L.length cg) (y_move rfl (by rfl) (by rfl)) ?_
          (try simp only [zP, zN, zA, zB, zC])
          refine pu_ (v := .int .i64 L.length) (y_run (by rfl) (fun W => by go_simp)) ?_
          (try simp only [zP, zN, zA, zB, zC])
          refine pu_ (v := .slice A L.length z) (y_move rfl (by rfl) (by rfl)) ?_
          (try simp only [zP, zN, zA, zB, zC])
          refine pu_ (v := .int .i64 L.length) (y_run (by rfl) (fun W => by go_simp)) ?_
          (try simp only [zP, zN, zA, zB, zC])
          refine pu_ (v := .bool true) (y_run (by rfl) (fun W => by first | (go_simp; done) | (go_simp; rfl) | (go_simp; decide))) ?_
          (try simp only [zP, zN, zA, zB, zC])
          refine pu_ (v := .bool true) (y_move rfl (by rfl) (by rfl)) ?_
          (try simp only [zP, zN, zA, zB, zC])
          refine pu_ (v := .pointer (some ⟨x, 0, none⟩)) (y_move rfl (by rfl) (by rfl)) ?_
          (try simp only [zP, zN, zA, zB, zC])
          refine ef_ (fun K148 hK148 => ?_)
          refine e_call Try.func13 (by kernel_rfl) rfl #[.pointer (some ⟨x, 0, none⟩)] (by rfl) rfl rfl (by first | rfl | (simp only [List.map_toArray, List.map_cons, List.map_nil]; first | done | rfl)) ((left_c SX.out)) ?_
          rintro en w151 ⟨rfl, B150, cc149⟩
          refine ⟨_, rfl, ?_⟩
          have C0' := Lib.hid (show Ch [] w w151 from C0.out.trans' cc149 (inw_cons (.inr hxN.out) inw_nil))
          have SL' := Lib.hid (show SrcIs w151 (.slice A L.length z) (L.length) (L.flatMap strC) 1 from SL.out.chx cc149 (xnin_cons hxL.out xnin_nil))
          have OK' := Lib.hid (show OwnS w151 w.heap.size 9 1 (.slice Ag L.length cg) (L.length) ((L.map cutT).flatMap strC) from OK.out.ch cc149 (rnin_cons (OK.out.ne SX.out (by decide)) rnin_nil))
          clear C0 SL OK
          have C0 := C0'; clear C0'
          have SL := SL'; clear SL'
          have OK := OK'; clear OK'
          clear SX
          clear cc149
          have SX := Lib.hid (show Blk w151 x (#[.string E0, .bool false]) 43 from B150)
          refine hK148 _ _ ?_; clear hK148 K148
          (try simp only [zP, zN, zA, zB, zC])
          refine pu_ (v := .bool true) (y_run (by rfl) (fun W => by first | (go_simp; done) | (go_simp; rfl) | (go_simp; decide))) ?_
          (try simp only [zP, zN, zA, zB, zC])
          refine pu_ (v := .bool true) (y_pick (t := true) (by rfl) rfl (by rfl) (by rfl)) ?_
          (try simp only [zP, zN, zA, zB, zC])
          refine pu_ (v := .bool true) (y_move rfl (by rfl) (by rfl)) ?_
          (try simp only [zP, zN, zA, zB, zC])
          refine pu_ (v := .pointer (some ⟨x, 0, none⟩)) (y_move rfl (by rfl) (by rfl)) ?_
          (try simp only [zP, zN, zA, zB, zC])
          refine ef_ (fun K152 hK152 => ?_)
          refine e_call Try.func10 (by kernel_rfl) rfl #[.pointer (some ⟨x, 0, none⟩)] (by rfl) rfl rfl (by first | rfl | (simp only [List.map_toArray, List.map_cons, List.map_nil]; first | done | rfl)) ((closed_c SX.out)) ?_
          rintro en w155 ⟨rfl, B154, cc153⟩
          refine ⟨_, rfl, ?_⟩
          have C0' := Lib.hid (show Ch [] w w155 from C0.out.trans' cc153 (inw_cons (.inr hxN.out) inw_nil))
          have SL' := Lib.hid (show SrcIs w155 (.slice A L.length z) (L.length) (L.flatMap strC) 1 from SL.out.chx cc153 (xnin_cons hxL.out xnin_nil))
          have OK' := Lib.hid (show OwnS w155 w.heap.size 9 1 (.slice Ag L.length cg) (L.length) ((L.map cutT).flatMap strC) from OK.out.ch cc153 (rnin_cons (OK.out.ne SX.out (by decide)) rnin_nil))
          clear C0 SL OK
          have C0 := C0'; clear C0'
          have SL := SL'; clear SL'
          have OK := OK'; clear OK'
          clear SX
          clear cc153
          have SX := Lib.hid (show Blk w155 x (#[.string E0, .bool false]) 43 from B154)
          refine hK152 _ _ ?_; clear hK152 K152
          (try simp only [zP, zN, zA, zB, zC])
          refine pu_ (v := .bool true) (y_run (by rfl) (fun W => by go_simp)) ?_
          (try simp only [zP, zN, zA, zB, zC])
          refine pu_ (v := .bool true) (y_pick (t := true) (by rfl) rfl (by rfl) (by rfl)) ?_
          (try simp only [zP, zN, zA, zB, zC])
          refine pu_ (v := .bool true) (y_assign rfl (by rfl) (by rfl)) ?_
          (try simp only [zP, zN, zA, zB, zC])
          refine nl_ (hK147 _ _ ?_); clear hK147 K147
          refine wp_ret ?_
          refine hQ _ _ _ ?_
          refine bodyPost_ret (res1 rfl (rdv_tmp (v := .bool true) (by rfl))) rfl ?_
          exact ⟨rfl, C0.out⟩
end
end Go.Proofs.Ytfbecehinloldaa.V
