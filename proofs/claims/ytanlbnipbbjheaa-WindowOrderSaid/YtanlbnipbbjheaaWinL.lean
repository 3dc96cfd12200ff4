/- The walks of the window's example, and of its laws. -/
import Derived.Test.YtanlbnipbbjheaaWin3
namespace Go.Proofs.Ytanlbnipbbjheaa.V
open Go Go.RowKit Go.Proofs.Ytanlbnipbbjheaa.K Go.Proofs.YtanlbnipbbjheaaW.PrintLast
set_option linter.unusedVariables false
set_option linter.unusedSimpArgs false
set_option maxRecDepth 100000
set_option maxHeartbeats 1600000
theorem putW_ok {s : Win} {e : Ev} (h : s.over = false) (h2 : s.L.length < 16) : putW s e = (⟨s.L ++ [e], e.r, s.over, s.done⟩, true) := by unfold putW; rw [if_neg (by rw [h]; simp; omega)]
theorem putW_no {s : Win} {e : Ev} (h : s.over = true ∨ 16 ≤ s.L.length) : putW s e = (⟨s.L, s.last, true, s.done⟩, false) := by unfold putW; rw [if_pos h]
theorem ref_one {w : World} {s : Win} {x : Value} (h : RefIs w s x) : x.oneCell' = true := by
  obtain ⟨_, A, c, rfl, _⟩ := h
  rfl
theorem wu64 {x : Int} (h : 0 ≤ x ∧ x ≤ 18446744073709551615) : IntKind.u64.wrap x = x := by
  obtain ⟨n, rfl⟩ := Int.eq_ofNat_of_zero_le h.1
  simp [IntKind.wrap, IntKind.bits, IntKind.signed]
  omega

theorem works_all (w : World) : Calls Try.prog 29 #[] w fun en w' => en = .returned (.bool true) ∧ Ch [] w w' := by
  have C0 := Lib.hid (Ch.refl [] w)
  go_enter Try.func29, Try.ntmps29
  refine q_ (fun Q hQ hP => ?_)
  refine s_ (fun K1 hK1 => ?_)
  refine pu_ (v := .bool false) (y_assign rfl (by rfl) (by rfl)) ?_
  (try simp only [zP, zN, zA, zB, zC])
  refine nl_ (hK1 _ _ ?_); clear hK1 K1
  refine s_ (fun K2 hK2 => ?_)
  refine ef_ (fun K3 hK3 => ?_)
  refine e_call Try.func15 (by kernel_rfl) rfl #[] (by rfl) rfl rfl (by first | rfl | (simp only [List.map_toArray, List.map_cons, List.map_nil]; first | done | rfl)) (new_all _) ?_
  rintro en w4 ⟨b, rfl, hw, hb, cc⟩
  refine ⟨_, rfl, ?_⟩
  have HBN := Lib.hid (show w.heap.size ≤ b by have := C0.out.size; omega); clear hb
  have C0' := Lib.hid (show Ch [] w w4 from C0.out.trans' cc (fun x hx => absurd hx (by simp)))
  clear C0
  have C0 := C0'; clear C0'
  clear cc
  have PW := Lib.hid (show WinIs w4 (w.heap.size) b (⟨[], 0, false, false⟩) (.slice none 0 0) from hw)
  refine hK3 _ _ ?_; clear hK3 K3
  (try simp only [zP, zN, zA, zB, zC])
  refine pu_ (v := .pointer (some ⟨b, 0, none⟩)) (y_assign rfl (by rfl) (by rfl)) ?_
  (try simp only [zP, zN, zA, zB, zC])
  refine nl_ (hK2 _ _ ?_); clear hK2 K2
  refine sq_ (fun K5 hK5 => ?_)
  refine s_ (fun K6 hK6 => ?_)
  refine pu_ (v := .pointer (some ⟨b, 0, none⟩)) (y_move rfl (by rfl) (by rfl)) ?_
  (try simp only [zP, zN, zA, zB, zC])
  refine pu_ (v := .bool false) (y_run (by rfl) (fun W => by go_simp)) ?_
  (try simp only [zP, zN, zA, zB, zC])
  refine nl_ (hK6 _ _ ?_); clear hK6 K6
  refine wp_cond_false rfl ?_
  refine wp_skip ?_
  refine th_norm (hK5 _ _ ?_); try clear hK5 K5
  refine s_ (fun K7 hK7 => ?_)
  refine pu_ (v := .int .i64 0) (y_assign rfl (by rfl) (by rfl)) ?_
  (try simp only [zP, zN, zA, zB, zC])
  refine nl_ (hK7 _ _ ?_); clear hK7 K7
  refine sq_ (fun K8 hK8 => ?_)
  refine s_ (fun K9 hK9 => ?_)
  refine pu_ (v := .int .i64 1) (y_assign rfl (by rfl) (by rfl)) ?_
  (try simp only [zP, zN, zA, zB, zC])
  refine nl_ (hK9 _ _ ?_); clear hK9 K9
  refine wp_block ?_
  refine loopk_ (fun (kq : Nat) (a' : Act) (w' : World) => ∃ (k : Nat), ∃ (i : Int), ∃ (m : Int), ∃ (s : Win), ∃ (v : Value), ∃ (us : Nat → Value), a' = ⟨#[.bool false, .pointer (some ⟨b, 0, none⟩), .int .i64 m, .int .i64 i, us 4, us 5, us 6, us 7, us 8, us 9, us 10, us 11, us 12, us 13, us 14, us 15, us 16, us 17, us 18, us 19, us 20, us 21, us 22, us 23, us 24, us 25, us 26, us 27, us 28, us 29, us 30, us 31, us 32, us 33], []⟩ ∧ Hid (Ch [] w w') ∧ Hid (WinIs w' (w.heap.size) b (s) (v)) ∧ Hid (kq + k = 17) ∧ Hid (i = k + 1) ∧ Hid (m = min k 16) ∧ Hid (s.L.length = min k 16 ∧ s.over = decide (16 < k) ∧ s.done = false)) (17) (⟨0, 1, 0, _, _, fun us_ => (#[.bool false, .pointer (some ⟨b, 0, none⟩), .int .i64 0, .int .i64 1, .pointer (some ⟨b, 0, none⟩), .pointer (some ⟨b, 0, none⟩), .bool false, undef, undef, undef, undef, undef, undef, undef, undef, undef, undef, undef, undef, undef, undef, undef, undef, undef, undef, undef, undef, undef, undef, undef, undef, undef, undef, undef] : Array Value).getD us_ undef, rfl, C0, PW, Lib.hid rfl, Lib.hid rfl, Lib.hid rfl, Lib.hid ⟨rfl, rfl, rfl⟩⟩) ?_
  rintro kq _ w10 ⟨k, i, m, s, v, us, rfl, C0, PW, hk, hi, hm, hs⟩ K11 hK11
  refine sq_ (fun K12 hK12 => ?_)
  rcases (show k < 16 ∨ k = 16 ∨ k = 17 by have := hk.out; omega) with h | h | h
  · have hlt := Lib.hid h
    have D8 := Lib.hid (show decide (i ≤ 17) = true from decide_eq_true (by have := hi.out; omega))
    have WU := Lib.hid (show IntKind.u64.wrap i = i from wu64 (by have := hi.out; omega))
    have WA := Lib.hid (show IntKind.i64.wrap (i + 1) = i + 1 from wr64 (by have := hi.out; omega))
    have WM := Lib.hid (show IntKind.i64.wrap (m + 1) = m + 1 from wr64 (by have := hm.out; omega))
    have HP := Lib.hid (putW_ok (s := s) (e := ⟨1, i, 0, 0⟩) (by rw [hs.out.2.1]; simp; omega) (by rw [hs.out.1]; omega))
    clear h
    refine s_ (fun K13 hK13 => ?_)
    refine pu_ (v := .int .i64 i) (y_move rfl (by rfl) (by rfl)) ?_
    (try simp only [zP, zN, zA, zB, zC])
    refine pu_ (v := .bool true) (y_run (by rfl) (fun W => by have d := D8.out; go_simp)) ?_
    (try simp only [zP, zN, zA, zB, zC])
    refine nl_ (hK13 _ _ ?_); clear hK13 K13
    refine wp_cond_true rfl ?_
    refine wp_skip ?_
    refine th_norm (hK12 _ _ ?_); try clear hK12 K12
    refine sq_ (fun K14 hK14 => ?_)
    refine wp_block ?_
    refine s_ (fun K15 hK15 => ?_)
    refine pu_ (v := .pointer (some ⟨b, 0, none⟩)) (y_move rfl (by rfl) (by rfl)) ?_
    (try simp only [zP, zN, zA, zB, zC])
    refine pu_ (v := .int .i64 i) (y_move rfl (by rfl) (by rfl)) ?_
    (try simp only [zP, zN, zA, zB, zC])
    refine pu_ (v := .int .u64 i) (y_run (by rfl) (fun W => by have d := WU.out; go_simp)) ?_
    (try simp only [zP, zN, zA, zB, zC])
    refine pu_ (v := .agg #[.int .i64 1, .int .u64 i, .int .i64 0, .int .u64 0, .string ⟨#[]⟩, .slice none 0 0, .slice none 0 0, .slice none 0 0, .int .i64 0, .int .i64 0, .int .i64 0, .int .i64 0, .slice none 0 0, .int .i64 0, .int .i64 0]) (y_build (vs := #[(0, .int .i64 1), (1, .int .u64 i)]) (by rfl) rfl (by first | rfl | (simp only [List.map_toArray, List.map_cons, List.map_nil]; first | done | rfl)) (by kernel_rfl)) ?_
    (try simp only [zP, zN, zA, zB, zC])
    refine ef_ (fun K16 hK16 => ?_)
    refine e_call Try.func18 (by kernel_rfl) rfl #[.pointer (some ⟨b, 0, none⟩), .agg #[.int .i64 1, .int .u64 i, .int .i64 0, .int .u64 0, .string ⟨#[]⟩, .slice none 0 0, .slice none 0 0, .slice none 0 0, .int .i64 0, .int .i64 0, .int .i64 0, .int .i64 0, .slice none 0 0, .int .i64 0, .int .i64 0]] (by rfl) rfl rfl (by first | rfl | (simp only [List.map_toArray, List.map_cons, List.map_nil]; first | done | rfl)) ((by have h := put_all ⟨1, i, 0, 0⟩ PW.out C0.out.size (by have := hs.out.1; omega); rw [HP.out] at h; exact h)) ?_
    rintro en w21 ⟨v17, rfl, hw19, cc18, hr20⟩
    refine ⟨_, rfl, ?_⟩
    have C0' := Lib.hid (show Ch [] w w21 from C0.out.trans' cc18 (inw_cons (.inr HBN.out) (fun x hx => .inr (PW.out.2.lt x hx).1)))
    clear C0
    have C0 := C0'; clear C0'
    clear PW
    clear cc18
    have PW := Lib.hid (show WinIs w21 (w.heap.size) b (⟨s.L ++ [⟨1, i, 0, 0⟩], i, s.over, s.done⟩) (v17) from hw19)
    refine hK16 _ _ ?_; clear hK16 K16
    (try simp only [zP, zN, zA, zB, zC])
    refine nl_ (hK15 _ _ ?_); clear hK15 K15
    refine wp_cond_true rfl ?_
    refine r_ ?_
    refine pu_ (v := .int .i64 m) (y_move rfl (by rfl) (by rfl)) ?_
    (try simp only [zP, zN, zA, zB, zC])
    refine pu_ (v := .int .i64 (m + 1)) (y_run (by rfl) (fun W => by have d := WM.out; go_simp)) ?_
    (try simp only [zP, zN, zA, zB, zC])
    refine pu_ (v := .int .i64 (m + 1)) (y_assign rfl (by rfl) (by rfl)) ?_
    (try simp only [zP, zN, zA, zB, zC])
    refine nl_ ?_
    refine ib_norm ?_
    refine th_norm (hK14 _ _ ?_); try clear hK14 K14
    refine r_ ?_
    refine pu_ (v := .int .i64 i) (y_move rfl (by rfl) (by rfl)) ?_
    (try simp only [zP, zN, zA, zB, zC])
    refine pu_ (v := .int .i64 (i + 1)) (y_run (by rfl) (fun W => by have d := WA.out; go_simp)) ?_
    (try simp only [zP, zN, zA, zB, zC])
    refine pu_ (v := .int .i64 (i + 1)) (y_assign rfl (by rfl) (by rfl)) ?_
    (try simp only [zP, zN, zA, zB, zC])
    refine nl_ ?_
    exact th_norm (hK11 (kq - 1) _ _ (by have := hk.out; have := hlt.out; omega) ⟨k + 1, i + 1, m + 1, _, _, fun us_ => (#[.bool false, .pointer (some ⟨b, 0, none⟩), .int .i64 (m + 1), .int .i64 (i + 1), us 4, us 5, us 6, .int .i64 i, .bool true, .int .i64 i, .int .i64 (i + 1), .pointer (some ⟨b, 0, none⟩), .int .i64 i, .int .u64 i, .agg #[.int .i64 1, .int .u64 i, .int .i64 0, .int .u64 0, .string ⟨#[]⟩, .slice none 0 0, .slice none 0 0, .slice none 0 0, .int .i64 0, .int .i64 0, .int .i64 0, .int .i64 0, .slice none 0 0, .int .i64 0, .int .i64 0], .bool true, .int .i64 m, .int .i64 (m + 1), us 18, us 19, us 20, us 21, us 22, us 23, us 24, us 25, us 26, us 27, us 28, us 29, us 30, us 31, us 32, us 33] : Array Value).getD us_ undef, rfl, C0, PW, Lib.hid (show kq - 1 + (k + 1) = 17 by have := hk.out; have := hlt.out; omega), Lib.hid (by have := hi.out; omega), Lib.hid (by have := hm.out; have := hlt.out; omega), Lib.hid ⟨by have h1 := hs.out.1; have h2 := hlt.out; rw [List.length_append, List.length_singleton]; omega, by have h0 := hlt.out; rw [hs.out.2.1, decide_eq_false (by omega), decide_eq_false (by omega)], hs.out.2.2⟩⟩)
  · have hlt := Lib.hid h
    have D8 := Lib.hid (show decide (i ≤ 17) = true from decide_eq_true (by have := hi.out; omega))
    have WU := Lib.hid (show IntKind.u64.wrap i = i from wu64 (by have := hi.out; omega))
    have WA := Lib.hid (show IntKind.i64.wrap (i + 1) = i + 1 from wr64 (by have := hi.out; omega))
    have HP := Lib.hid (putW_no (s := s) (e := ⟨1, i, 0, 0⟩) (.inr (by rw [hs.out.1]; omega)))
    clear h
    refine s_ (fun K22 hK22 => ?_)
    refine pu_ (v := .int .i64 i) (y_move rfl (by rfl) (by rfl)) ?_
    (try simp only [zP, zN, zA, zB, zC])
    refine pu_ (v := .bool true) (y_run (by rfl) (fun W => by have d := D8.out; go_simp)) ?_
    (try simp only [zP, zN, zA, zB, zC])
    refine nl_ (hK22 _ _ ?_); clear hK22 K22
    refine wp_cond_true rfl ?_
    refine wp_skip ?_
    refine th_norm (hK12 _ _ ?_); try clear hK12 K12
    refine sq_ (fun K23 hK23 => ?_)
    refine wp_block ?_
    refine s_ (fun K24 hK24 => ?_)
    refine pu_ (v := .pointer (some ⟨b, 0, none⟩)) (y_move rfl (by rfl) (by rfl)) ?_
    (try simp only [zP, zN, zA, zB, zC])
    refine pu_ (v := .int .i64 i) (y_move rfl (by rfl) (by rfl)) ?_
    (try simp only [zP, zN, zA, zB, zC])
    refine pu_ (v := .int .u64 i) (y_run (by rfl) (fun W => by have d := WU.out; go_simp)) ?_
    (try simp only [zP, zN, zA, zB, zC])
    refine pu_ (v := .agg #[.int .i64 1, .int .u64 i, .int .i64 0, .int .u64 0, .string ⟨#[]⟩, .slice none 0 0, .slice none 0 0, .slice none 0 0, .int .i64 0, .int .i64 0, .int .i64 0, .int .i64 0, .slice none 0 0, .int .i64 0, .int .i64 0]) (y_build (vs := #[(0, .int .i64 1), (1, .int .u64 i)]) (by rfl) rfl (by first | rfl | (simp only [List.map_toArray, List.map_cons, List.map_nil]; first | done | rfl)) (by kernel_rfl)) ?_
    (try simp only [zP, zN, zA, zB, zC])
    refine ef_ (fun K25 hK25 => ?_)
    refine e_call Try.func18 (by kernel_rfl) rfl #[.pointer (some ⟨b, 0, none⟩), .agg #[.int .i64 1, .int .u64 i, .int .i64 0, .int .u64 0, .string ⟨#[]⟩, .slice none 0 0, .slice none 0 0, .slice none 0 0, .int .i64 0, .int .i64 0, .int .i64 0, .int .i64 0, .slice none 0 0, .int .i64 0, .int .i64 0]] (by rfl) rfl rfl (by first | rfl | (simp only [List.map_toArray, List.map_cons, List.map_nil]; first | done | rfl)) ((by have h := put_all ⟨1, i, 0, 0⟩ PW.out C0.out.size (by have := hs.out.1; omega); rw [HP.out] at h; exact h)) ?_
    rintro en w30 ⟨v26, rfl, hw28, cc27, hr29⟩
    refine ⟨_, rfl, ?_⟩
    have C0' := Lib.hid (show Ch [] w w30 from C0.out.trans' cc27 (inw_cons (.inr HBN.out) (fun x hx => .inr (PW.out.2.lt x hx).1)))
    clear C0
    have C0 := C0'; clear C0'
    clear PW
    clear cc27
    have PW := Lib.hid (show WinIs w30 (w.heap.size) b (⟨s.L, s.last, true, s.done⟩) (v26) from hw28)
    refine hK25 _ _ ?_; clear hK25 K25
    (try simp only [zP, zN, zA, zB, zC])
    refine nl_ (hK24 _ _ ?_); clear hK24 K24
    refine wp_cond_false rfl ?_
    refine wp_skip ?_
    refine ib_norm ?_
    refine th_norm (hK23 _ _ ?_); try clear hK23 K23
    refine r_ ?_
    refine pu_ (v := .int .i64 i) (y_move rfl (by rfl) (by rfl)) ?_
    (try simp only [zP, zN, zA, zB, zC])
    refine pu_ (v := .int .i64 (i + 1)) (y_run (by rfl) (fun W => by have d := WA.out; go_simp)) ?_
    (try simp only [zP, zN, zA, zB, zC])
    refine pu_ (v := .int .i64 (i + 1)) (y_assign rfl (by rfl) (by rfl)) ?_
    (try simp only [zP, zN, zA, zB, zC])
    refine nl_ ?_
    exact th_norm (hK11 (kq - 1) _ _ (by have := hk.out; have := hlt.out; omega) ⟨k + 1, i + 1, m, _, _, fun us_ => (#[.bool false, .pointer (some ⟨b, 0, none⟩), .int .i64 m, .int .i64 (i + 1), us 4, us 5, us 6, .int .i64 i, .bool true, .int .i64 i, .int .i64 (i + 1), .pointer (some ⟨b, 0, none⟩), .int .i64 i, .int .u64 i, .agg #[.int .i64 1, .int .u64 i, .int .i64 0, .int .u64 0, .string ⟨#[]⟩, .slice none 0 0, .slice none 0 0, .slice none 0 0, .int .i64 0, .int .i64 0, .int .i64 0, .int .i64 0, .slice none 0 0, .int .i64 0, .int .i64 0], .bool false, us 16, us 17, us 18, us 19, us 20, us 21, us 22, us 23, us 24, us 25, us 26, us 27, us 28, us 29, us 30, us 31, us 32, us 33] : Array Value).getD us_ undef, rfl, C0, PW, Lib.hid (show kq - 1 + (k + 1) = 17 by have := hk.out; have := hlt.out; omega), Lib.hid (by have := hi.out; omega), Lib.hid (by have := hm.out; have := hlt.out; omega), Lib.hid ⟨by show s.L.length = _; have h1 := hs.out.1; have h2 := hlt.out; omega, by have h0 := hlt.out; exact (decide_eq_true (by omega)).symm, hs.out.2.2⟩⟩)
  · have D8 := Lib.hid (show decide (i ≤ 17) = false from decide_eq_false (by have := hi.out; omega))
    have DM := Lib.hid (show (m == 16) = true from beq_iff_eq.2 (by have := hm.out; omega))
    have HO := Lib.hid (show s.over = true by rw [hs.out.2.1]; simp; omega)
    have HD := Lib.hid hs.out.2.2
    have HL := Lib.hid (show lenI s = 17 by unfold lenI; rw [HO.out, HD.out]; have := hs.out.1; simp; omega)
    clear h
    refine s_ (fun K31 hK31 => ?_)
    refine pu_ (v := .int .i64 i) (y_move rfl (by rfl) (by rfl)) ?_
    (try simp only [zP, zN, zA, zB, zC])
    refine pu_ (v := .bool false) (y_run (by rfl) (fun W => by have d := D8.out; go_simp)) ?_
    (try simp only [zP, zN, zA, zB, zC])
    refine nl_ (hK31 _ _ ?_); clear hK31 K31
    refine wp_cond_false rfl ?_
    refine wp_exit ?_
    refine th_exit ?_
    refine th_exit ?_
    refine ib_exit ?_
    refine th_norm (hK8 _ _ ?_); try clear hK8 K8
    refine s_ (fun K32 hK32 => ?_)
    refine pu_ (v := .int .i64 m) (y_move rfl (by rfl) (by rfl)) ?_
    (try simp only [zP, zN, zA, zB, zC])
    refine pu_ (v := .bool true) (y_run (by rfl) (fun W => by have d := DM.out; go_simp)) ?_
    (try simp only [zP, zN, zA, zB, zC])
    refine pu_ (v := .bool true) (y_move rfl (by rfl) (by rfl)) ?_
    (try simp only [zP, zN, zA, zB, zC])
    refine pu_ (v := .pointer (some ⟨b, 0, none⟩)) (y_move rfl (by rfl) (by rfl)) ?_
    (try simp only [zP, zN, zA, zB, zC])
    refine ef_ (fun K33 hK33 => ?_)
    refine e_call Try.func26 (by kernel_rfl) rfl #[.pointer (some ⟨b, 0, none⟩)] (by rfl) rfl rfl (by first | rfl | (simp only [List.map_toArray, List.map_cons, List.map_nil]; first | done | rfl)) ((by have h := over_all PW.out; rw [HO.out] at h; exact h)) ?_
    rintro en w34 ⟨rfl, rfl⟩
    refine ⟨_, rfl, ?_⟩
    refine hK33 _ _ ?_; clear hK33 K33
    (try simp only [zP, zN, zA, zB, zC])
    refine pu_ (v := .bool true) (y_pick (t := true) (by rfl) rfl (by rfl) (by rfl)) ?_
    (try simp only [zP, zN, zA, zB, zC])
    refine pu_ (v := .bool true) (y_move rfl (by rfl) (by rfl)) ?_
    (try simp only [zP, zN, zA, zB, zC])
    refine pu_ (v := .pointer (some ⟨b, 0, none⟩)) (y_move rfl (by rfl) (by rfl)) ?_
    (try simp only [zP, zN, zA, zB, zC])
    refine ef_ (fun K35 hK35 => ?_)
    refine e_call Try.func25 (by kernel_rfl) rfl #[.pointer (some ⟨b, 0, none⟩)] (by rfl) rfl rfl (by first | rfl | (simp only [List.map_toArray, List.map_cons, List.map_nil]; first | done | rfl)) ((by have h := len_all PW.out (by have := hs.out.1; omega); rw [HL.out] at h; exact h)) ?_
    rintro en w36 ⟨rfl, rfl⟩
    refine ⟨_, rfl, ?_⟩
    refine hK35 _ _ ?_; clear hK35 K35
    (try simp only [zP, zN, zA, zB, zC])
    refine pu_ (v := .bool true) (y_run (by rfl) (fun W => by go_simp)) ?_
    (try simp only [zP, zN, zA, zB, zC])
    refine pu_ (v := .bool true) (y_pick (t := true) (by rfl) rfl (by rfl) (by rfl)) ?_
    (try simp only [zP, zN, zA, zB, zC])
    refine pu_ (v := .bool true) (y_move rfl (by rfl) (by rfl)) ?_
    (try simp only [zP, zN, zA, zB, zC])
    refine pu_ (v := .pointer (some ⟨b, 0, none⟩)) (y_move rfl (by rfl) (by rfl)) ?_
    (try simp only [zP, zN, zA, zB, zC])
    refine ef_ (fun K37 hK37 => ?_)
    refine e_call Try.func27 (by kernel_rfl) rfl #[.pointer (some ⟨b, 0, none⟩)] (by rfl) rfl rfl (by first | rfl | (simp only [List.map_toArray, List.map_cons, List.map_nil]; first | done | rfl)) ((by have h := done_all PW.out; rw [HD.out] at h; exact h)) ?_
    rintro en w38 ⟨rfl, rfl⟩
    refine ⟨_, rfl, ?_⟩
    refine hK37 _ _ ?_; clear hK37 K37
    (try simp only [zP, zN, zA, zB, zC])
    refine pu_ (v := .bool true) (y_run (by rfl) (fun W => by go_simp)) ?_
    (try simp only [zP, zN, zA, zB, zC])
    refine pu_ (v := .bool true) (y_pick (t := true) (by rfl) rfl (by rfl) (by rfl)) ?_
    (try simp only [zP, zN, zA, zB, zC])
    refine pu_ (v := .bool true) (y_assign rfl (by rfl) (by rfl)) ?_
    (try simp only [zP, zN, zA, zB, zC])
    refine nl_ (hK32 _ _ ?_); clear hK32 K32
    refine wp_ret ?_
    refine hQ _ _ _ ?_
    refine bodyPost_ret (res1 rfl (rdv_tmp (v := .bool true) (by rfl))) rfl ?_
    exact ⟨rfl, C0.out⟩
theorem putW_le {s : Win} (e : Ev) (h : s.L.length ≤ 16) : (putW s e).1.L.length ≤ 16 := by
  unfold putW
  split
  · exact h
  · rename_i h1
    show (s.L ++ [e]).length ≤ 16
    simp at h1 ⊢
    omega
theorem turn_len (L : List Ev) (rev : Int) : (turn L rev).length = L.length := by
  rcases last_cases L with rfl | ⟨I, e, rfl⟩
  · rfl
  · rw [turn_last]; simp
theorem markW_le {s : Win} (rev : Int) (h : s.L.length ≤ 16) : (markW s rev).1.L.length ≤ 16 := by
  unfold markW
  split
  · exact h
  · split
    · show (turn s.L rev).length ≤ 16
      rw [turn_len]; exact h
    · split
      · exact h
      · rename_i h1
        show (s.L ++ [_]).length ≤ 16
        simp at h1 ⊢
        omega
theorem takeW_le {s : Win} (h : s.L.length ≤ 16) : (takeW s).1.L.length ≤ 16 := by
  unfold takeW
  split
  · rename_i e T he
    rw [he] at h
    simp at h ⊢
    omega
  · split
    · simp
    · exact h
/-- What is told of the acts that come in: so many, each of three numbers. -/
def Acts (w : World) (a : Option Addr) (len : Nat) : Prop := len = 0 ∨ ∃ b off, a = some ⟨b, off, none⟩ ∧ b < w.heap.size ∧ ∀ i, i < len → (∃ z : Int, w.cell? ⟨b, off + (i * 3 + 0), none⟩ = some (.int .i64 z) ∧ (Lit.int .i64 z).wf = true) ∧ (∃ z : Int, w.cell? ⟨b, off + (i * 3 + 1), none⟩ = some (.int .i64 z) ∧ (Lit.int .i64 z).wf = true) ∧ (∃ z : Int, w.cell? ⟨b, off + (i * 3 + 2), none⟩ = some (.int .u64 z) ∧ (Lit.int .u64 z).wf = true)
theorem acts_at {w : World} {a : Option Addr} {len : Nat} (h : Acts w a len) {i : Nat} (hi : i < len) : ∃ b off kz nz rz, a = some ⟨b, off, none⟩ ∧ CellsAt w ⟨b, off + i * 3, none⟩ [.int .i64 kz, .int .i64 nz, .int .u64 rz] ∧ b < w.heap.size := by
  rcases h with h | ⟨b, off, rfl, hb, h⟩
  · omega
  · obtain ⟨⟨kz, h0, _⟩, ⟨nz, h1, _⟩, ⟨rz, h2, _⟩⟩ := h i hi
    refine ⟨b, off, kz, nz, rz, rfl, fun j u hu => ?_, hb⟩
    rw [add_plain, Nat.add_assoc]
    match j with
    | 0 => rw [h0]; exact hu
    | 1 => rw [h1]; exact hu
    | 2 => rw [h2]; exact hu
    | j + 3 => simp at hu
end Go.Proofs.Ytanlbnipbbjheaa.V
