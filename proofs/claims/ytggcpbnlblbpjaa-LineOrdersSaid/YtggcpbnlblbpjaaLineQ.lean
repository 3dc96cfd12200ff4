/- The walks of what orders operations, and cuts them. -/
import Derived.Test.YtggcpbnlblbpjaaLineR
namespace Go.Proofs.Ytggcpbnlblbpjaa.L
open Go Go.RowKit Go.Proofs.Ytggcpbnlblbpjaa.K Go.Proofs.Ytggcpbnlblbpjaa.H Go.Proofs.YtggcpbnlblbpjaaW.PrintLast
set_option linter.unusedVariables false
set_option linter.unusedSimpArgs false
set_option maxRecDepth 100000
set_option maxHeartbeats 1600000
section
variable {w : World}
theorem stable_ {a : Addr} {c bx gx cx n base : Nat} {L : List HOp} {X : List Int} (HN : Hid (n ≤ 30)) (HXL : Hid (X.length = n)) (HIN : Hid (∀ z ∈ X, inL L z)) (HRI : Hid (X.Pairwise (· < ·))) (HXR : Hid (∀ k, k ∈ xb (.slice (some a) L.length c) → k ∉ rl (.slice (some ⟨gx, 0, none⟩) n cx))) (FX : Hid (Blk w bx (#[.slice (some a) L.length c]) 45)) (SL : Hid (SrcIs w (.slice (some a) L.length c) (L.length) ((L).flatMap opC) 28)) (OX : Hid (OwnS w base 3 1 (.slice (some ⟨gx, 0, none⟩) n cx) (n) ((X).map vi))) :
    Calls Try.prog 62 #[.slice (some ⟨gx, 0, none⟩) n cx, .int .i64 n, .func (.func 54) #[] #[.pointer (some ⟨bx, 0, none⟩)]] w fun en w' => en = .returned (.tuple #[]) ∧ ∃ X', sorts L X X' ∧ OwnS w' base 3 1 (.slice (some ⟨gx, 0, none⟩) n cx) n (X'.map vi) ∧ Ch (rl (.slice (some ⟨gx, 0, none⟩) n cx)) w w' := by
  have C0 := Lib.hid (Ch.refl (rl (.slice (some ⟨gx, 0, none⟩) n cx)) w)
  go_enter Try.func62, Try.ntmps62
  refine q_ (fun Q hQ hP => ?_)
  refine s_ (fun K1 hK1 => ?_)
  refine pu_ (v := .int .i64 20) (y_assign rfl (by rfl) (by rfl)) ?_
  (try simp only [zP, zN, zA, zB, zC])
  refine nl_ (hK1 _ _ ?_); clear hK1 K1
  refine s_ (fun K2 hK2 => ?_)
  refine pu_ (v := .int .i64 20) (y_move rfl (by rfl) (by rfl)) ?_
  (try simp only [zP, zN, zA, zB, zC])
  refine pu_ (v := .int .i64 0) (y_assign rfl (by rfl) (by rfl)) ?_
  (try simp only [zP, zN, zA, zB, zC])
  refine pu_ (v := .int .i64 20) (y_assign rfl (by rfl) (by rfl)) ?_
  (try simp only [zP, zN, zA, zB, zC])
  refine nl_ (hK2 _ _ ?_); clear hK2 K2
  refine sq_ (fun K3 hK3 => ?_)
  refine wp_block ?_
  refine loopk_ (fun (kq : Nat) (a' : Act) (w' : World) => ∃ (u : Nat), ∃ (R : List Int), ∃ (us : Nat → Value), a' = ⟨#[.slice (some ⟨gx, 0, none⟩) n cx, .int .i64 n, .func (.func 54) #[] #[.pointer (some ⟨bx, 0, none⟩)], us 3, us 4, us 5, .int .i64 20, .int .i64 (20 * u : Nat), .int .i64 (20 * u + 20 : Nat), us 9, us 10, us 11, us 12, us 13, us 14, us 15, us 16, us 17, us 18, us 19, us 20, us 21, us 22, us 23, us 24, us 25, us 26, us 27, us 28, us 29, us 30, us 31, us 32, us 33, us 34, us 35, us 36, us 37, us 38, us 39, us 40, us 41, us 42, us 43, us 44, us 45, us 46, us 47, us 48, us 49, us 50, us 51, us 52, us 53, us 54, us 55, us 56, us 57, us 58, us 59, us 60, us 61, us 62], []⟩ ∧ Hid (Ch (rl (.slice (some ⟨gx, 0, none⟩) n cx)) w w') ∧ Hid (Blk w' bx (#[.slice (some a) L.length c]) 45) ∧ Hid (SrcIs w' (.slice (some a) L.length c) (L.length) ((L).flatMap opC) 28) ∧ Hid (OwnS w' base 3 1 (.slice (some ⟨gx, 0, none⟩) n cx) (n) ((R).map vi)) ∧ Hid ((u = 0 ∧ R = X ∧ kq = 1) ∨ (u = 1 ∧ 20 ≤ n ∧ ∃ A1, sorts L (X.take 20) A1 ∧ R = A1 ++ X.drop 20))) (1) (⟨0, X, fun us_ => (#[.slice (some ⟨gx, 0, none⟩) n cx, .int .i64 n, .func (.func 54) #[] #[.pointer (some ⟨bx, 0, none⟩)], undef, undef, undef, .int .i64 20, .int .i64 0, .int .i64 20, undef, .int .i64 20, undef, undef, undef, undef, undef, undef, undef, undef, undef, undef, undef, undef, undef, undef, undef, undef, undef, undef, undef, undef, undef, undef, undef, undef, undef, undef, undef, undef, undef, undef, undef, undef, undef, undef, undef, undef, undef, undef, undef, undef, undef, undef, undef, undef, undef, undef, undef, undef, undef, undef, undef, undef] : Array Value).getD us_ undef, rfl, C0, FX, SL, OX, Lib.hid (.inl ⟨rfl, rfl, rfl⟩)⟩) ?_
  rintro kq _ w4 ⟨u, R, us, rfl, C0, FX, SL, OX, hu⟩ K5 hK5
  refine sq_ (fun K6 hK6 => ?_)
  rcases (show ((u = 0 ∧ R = X ∧ kq = 1) ∧ 20 ≤ n) ∨ ((u = 0 ∧ R = X ∧ kq = 1) ∧ n < 20) ∨ ((u = 1 ∧ 20 ≤ n ∧ ∃ A1, sorts L (X.take 20) A1 ∧ R = A1 ++ X.drop 20) ∧ True) by rcases hu.out with h | h; (rcases Nat.lt_or_ge n 20 with h2 | h2; exact .inr (.inl ⟨h, h2⟩); exact .inl ⟨h, h2⟩); exact .inr (.inr ⟨h, trivial⟩)) with ⟨hl, hr⟩ | ⟨hl, hr⟩ | ⟨hl, hr⟩
  · obtain ⟨hu0, hR, hkq⟩ := hl
    have hR2 := hR.symm; clear hR; subst hu0 hR2 hkq
    have hn := Lib.hid hr
    clear hu hr
    have D13 := Lib.hid (show (20 : Int) ≤ (n : Int) by have := hn.out; omega)
    refine s_ (fun K7 hK7 => ?_)
    refine pu_ (v := .int .i64 (20 * 0 + 20 : Nat)) (y_move rfl (by rfl) (by rfl)) ?_
    (try simp only [zP, zN, zA, zB, zC])
    refine pu_ (v := .int .i64 n) (y_move rfl (by rfl) (by rfl)) ?_
    (try simp only [zP, zN, zA, zB, zC])
    refine pu_ (v := .bool true) (y_run (by rfl) (fun W => by have d := D13.out; go_simp)) ?_
    (try simp only [zP, zN, zA, zB, zC])
    refine nl_ (hK7 _ _ ?_); clear hK7 K7
    refine wp_cond_true rfl ?_
    refine wp_skip ?_
    refine th_norm (hK6 _ _ ?_); try clear hK6 K6
    refine wp_block ?_
    refine s_ (fun K8 hK8 => ?_)
    refine pu_ (v := .slice (some ⟨gx, 0, none⟩) n cx) (y_move rfl (by rfl) (by rfl)) ?_
    (try simp only [zP, zN, zA, zB, zC])
    refine pu_ (v := .int .i64 (20 * 0 : Nat)) (y_move rfl (by rfl) (by rfl)) ?_
    (try simp only [zP, zN, zA, zB, zC])
    refine pu_ (v := .int .i64 (20 * 0 + 20 : Nat)) (y_move rfl (by rfl) (by rfl)) ?_
    (try simp only [zP, zN, zA, zB, zC])
    refine pu_ (v := .func (.func 54) #[] #[.pointer (some ⟨bx, 0, none⟩)]) (y_move rfl (by rfl) (by rfl)) ?_
    (try simp only [zP, zN, zA, zB, zC])
    refine ef_ (fun K9 hK9 => ?_)
    refine e_call Try.func67 (by kernel_rfl) rfl #[.slice (some ⟨gx, 0, none⟩) n cx, .int .i64 (20 * 0 : Nat), .int .i64 (20 * 0 + 20 : Nat), .func (.func 54) #[] #[.pointer (some ⟨bx, 0, none⟩)]] (by rfl) rfl rfl (by first | rfl | (simp only [List.map_toArray, List.map_cons, List.map_nil]; first | done | rfl)) ((isort_ (U := []) (A := X.take 20) (T := X.drop 20) (p0 := 20 * 0) (q0 := 20 * 0 + 20) (Lib.hid (by refine ⟨rfl, ?_⟩; rw [List.length_take, HXL.out]; have := hn.out; simp only [List.length_nil]; omega)) (Lib.hid (by have := HN.out; omega)) (Lib.hid (fun z hz => HIN.out z (List.mem_of_mem_take hz))) (Lib.hid (HRI.out.sublist (List.take_sublist 20 X))) HXR FX SL (Lib.hid (by have h := OX.out; rw [List.nil_append, List.take_append_drop]; exact h)))) ?_
    rintro en w12 ⟨rfl, A1, A10, O11, cc10⟩
    refine ⟨_, rfl, ?_⟩
    have C0' := Lib.hid (show Ch (rl (.slice (some ⟨gx, 0, none⟩) n cx)) w w12 from C0.out.trans' cc10 (fun x hx => .inl hx))
    have FX' := Lib.hid (show Blk w12 bx (#[.slice (some a) L.length c]) 45 from cc10.blk FX.out (OX.out.ne FX.out (by decide)))
    have SL' := Lib.hid (show SrcIs w12 (.slice (some a) L.length c) (L.length) ((L).flatMap opC) 28 from SL.out.chx cc10 HXR.out)
    clear C0 FX SL
    have C0 := C0'; clear C0'
    have FX := FX'; clear FX'
    have SL := SL'; clear SL'
    clear OX
    clear cc10
    have OX := Lib.hid (show OwnS w12 base 3 1 (.slice (some ⟨gx, 0, none⟩) n cx) (n) (([] ++ (A1 ++ X.drop 20)).map vi) from O11)
    have HA1 := Lib.hid A10; clear A10
    refine hK9 _ _ ?_; clear hK9 K9
    (try simp only [zP, zN, zA, zB, zC])
    refine nl_ (hK8 _ _ ?_); clear hK8 K8
    refine s_ (fun K13 hK13 => ?_)
    refine pu_ (v := .int .i64 (20 * 0 + 20 : Nat)) (y_move rfl (by rfl) (by rfl)) ?_
    (try simp only [zP, zN, zA, zB, zC])
    refine pu_ (v := .int .i64 (20 * 0 + 20 : Nat)) (y_assign rfl (by rfl) (by rfl)) ?_
    (try simp only [zP, zN, zA, zB, zC])
    refine nl_ (hK13 _ _ ?_); clear hK13 K13
    refine r_ ?_
    refine pu_ (v := .int .i64 (20 * 0 + 20 : Nat)) (y_move rfl (by rfl) (by rfl)) ?_
    (try simp only [zP, zN, zA, zB, zC])
    refine pu_ (v := .int .i64 20) (y_move rfl (by rfl) (by rfl)) ?_
    (try simp only [zP, zN, zA, zB, zC])
    refine pu_ (v := .int .i64 (20 * 1 + 20 : Nat)) (y_run (by rfl) (fun W => by have d : IntKind.i64.wrap 40 = 40 := (by decide); go_simp)) ?_
    (try simp only [zP, zN, zA, zB, zC])
    refine pu_ (v := .int .i64 (20 * 1 + 20 : Nat)) (y_assign rfl (by rfl) (by rfl)) ?_
    (try simp only [zP, zN, zA, zB, zC])
    refine nl_ ?_
    refine ib_norm ?_
    exact th_norm (hK5 (0) _ _ (by omega) ⟨1, A1 ++ X.drop 20, fun us_ => (#[.slice (some ⟨gx, 0, none⟩) n cx, .int .i64 n, .func (.func 54) #[] #[.pointer (some ⟨bx, 0, none⟩)], us 3, us 4, us 5, .int .i64 20, .int .i64 (20 * 0 + 20 : Nat), .int .i64 (20 * 1 + 20 : Nat), us 9, us 10, .int .i64 (20 * 0 + 20 : Nat), .int .i64 n, .bool true, .slice (some ⟨gx, 0, none⟩) n cx, .int .i64 (20 * 0 : Nat), .int .i64 (20 * 0 + 20 : Nat), .func (.func 54) #[] #[.pointer (some ⟨bx, 0, none⟩)], .tuple #[], .int .i64 (20 * 0 + 20 : Nat), .int .i64 (20 * 0 + 20 : Nat), .int .i64 20, .int .i64 (20 * 1 + 20 : Nat), us 23, us 24, us 25, us 26, us 27, us 28, us 29, us 30, us 31, us 32, us 33, us 34, us 35, us 36, us 37, us 38, us 39, us 40, us 41, us 42, us 43, us 44, us 45, us 46, us 47, us 48, us 49, us 50, us 51, us 52, us 53, us 54, us 55, us 56, us 57, us 58, us 59, us 60, us 61, us 62] : Array Value).getD us_ undef, rfl, C0, FX, SL, Lib.hid (by have h := OX.out; rw [List.nil_append] at h; exact h), Lib.hid (.inr ⟨rfl, hn.out, A1, HA1.out, rfl⟩)⟩)
  · obtain ⟨hu0, hR, hkq⟩ := hl
    have hR2 := hR.symm; clear hR; subst hu0 hR2 hkq
    have hn := Lib.hid hr
    clear hu hr
    have D13 := Lib.hid (show (n : Int) < 20 by have := hn.out; have := HN.out; omega)
    have D30 := Lib.hid (show (n : Int) ≤ 20 by have := hn.out; omega)
    refine s_ (fun K14 hK14 => ?_)
    refine pu_ (v := .int .i64 (20 * 0 + 20 : Nat)) (y_move rfl (by rfl) (by rfl)) ?_
    (try simp only [zP, zN, zA, zB, zC])
    refine pu_ (v := .int .i64 n) (y_move rfl (by rfl) (by rfl)) ?_
    (try simp only [zP, zN, zA, zB, zC])
    refine pu_ (v := .bool false) (y_run (by rfl) (fun W => by have d := D13.out; go_simp)) ?_
    (try simp only [zP, zN, zA, zB, zC])
    refine nl_ (hK14 _ _ ?_); clear hK14 K14
    refine wp_cond_false rfl ?_
    refine wp_exit ?_
    refine th_exit ?_
    refine th_exit ?_
    refine ib_exit ?_
    refine th_norm (hK3 _ _ ?_); try clear hK3 K3
    refine s_ (fun K15 hK15 => ?_)
    refine pu_ (v := .slice (some ⟨gx, 0, none⟩) n cx) (y_move rfl (by rfl) (by rfl)) ?_
    (try simp only [zP, zN, zA, zB, zC])
    refine pu_ (v := .int .i64 (20 * 0 : Nat)) (y_move rfl (by rfl) (by rfl)) ?_
    (try simp only [zP, zN, zA, zB, zC])
    refine pu_ (v := .int .i64 n) (y_move rfl (by rfl) (by rfl)) ?_
    (try simp only [zP, zN, zA, zB, zC])
    refine pu_ (v := .func (.func 54) #[] #[.pointer (some ⟨bx, 0, none⟩)]) (y_move rfl (by rfl) (by rfl)) ?_
    (try simp only [zP, zN, zA, zB, zC])
    refine ef_ (fun K16 hK16 => ?_)
    refine e_call Try.func67 (by kernel_rfl) rfl #[.slice (some ⟨gx, 0, none⟩) n cx, .int .i64 (20 * 0 : Nat), .int .i64 n, .func (.func 54) #[] #[.pointer (some ⟨bx, 0, none⟩)]] (by rfl) rfl rfl (by first | rfl | (simp only [List.map_toArray, List.map_cons, List.map_nil]; first | done | rfl)) ((isort_ (U := []) (A := X) (T := []) (p0 := 20 * 0) (q0 := n) (Lib.hid (by refine ⟨rfl, ?_⟩; rw [HXL.out]; simp only [List.length_nil]; omega)) (Lib.hid (by have := HN.out; omega)) (Lib.hid (HIN.out)) (Lib.hid (HRI.out)) HXR FX SL (Lib.hid (by have h := OX.out; rw [List.nil_append, List.append_nil]; exact h)))) ?_
    rintro en w19 ⟨rfl, S1, S10, O18, cc17⟩
    refine ⟨_, rfl, ?_⟩
    have C0' := Lib.hid (show Ch (rl (.slice (some ⟨gx, 0, none⟩) n cx)) w w19 from C0.out.trans' cc17 (fun x hx => .inl hx))
    have FX' := Lib.hid (show Blk w19 bx (#[.slice (some a) L.length c]) 45 from cc17.blk FX.out (OX.out.ne FX.out (by decide)))
    have SL' := Lib.hid (show SrcIs w19 (.slice (some a) L.length c) (L.length) ((L).flatMap opC) 28 from SL.out.chx cc17 HXR.out)
    clear C0 FX SL
    have C0 := C0'; clear C0'
    have FX := FX'; clear FX'
    have SL := SL'; clear SL'
    clear OX
    clear cc17
    have OX := Lib.hid (show OwnS w19 base 3 1 (.slice (some ⟨gx, 0, none⟩) n cx) (n) (([] ++ (S1 ++ [])).map vi) from O18)
    have HS1 := Lib.hid S10; clear S10
    refine hK16 _ _ ?_; clear hK16 K16
    (try simp only [zP, zN, zA, zB, zC])
    refine nl_ (hK15 _ _ ?_); clear hK15 K15
    refine wp_block ?_
    refine loop_none ?_
    refine sq_ (fun K20 hK20 => ?_)
    skip
    · refine s_ (fun K21 hK21 => ?_)
      refine pu_ (v := .int .i64 20) (y_move rfl (by rfl) (by rfl)) ?_
      (try simp only [zP, zN, zA, zB, zC])
      refine pu_ (v := .int .i64 n) (y_move rfl (by rfl) (by rfl)) ?_
      (try simp only [zP, zN, zA, zB, zC])
      refine pu_ (v := .bool false) (y_run (by rfl) (fun W => by have d := D30.out; first | (go_simp; done) | (go_simp; omega))) ?_
      (try simp only [zP, zN, zA, zB, zC])
      refine nl_ (hK21 _ _ ?_); clear hK21 K21
      refine wp_cond_false rfl ?_
      refine wp_exit ?_
      refine th_exit ?_
      refine th_exit ?_
      refine ib_exit ?_
      refine hQ _ _ _ ?_
      refine bodyPost_end (res0 rfl) rfl ?_
      exact ⟨rfl, S1, HS1.out, by have h := OX.out; rw [List.nil_append, List.append_nil] at h; exact h, C0.out⟩
  · obtain ⟨hu0, hn20, A1, hA1, hR⟩ := hl
    subst hu0 hR
    have HA1 := Lib.hid hA1
    have hn := Lib.hid (And.intro hn20 hr)
    have HA1L := Lib.hid (show A1.length = 20 by rw [hA1.1.length_eq, List.length_take, HXL.out]; omega)
    clear hu hr hA1
    have D13 := Lib.hid (show (n : Int) < 40 by have := hn.out; have := HN.out; omega)
    refine s_ (fun K22 hK22 => ?_)
    refine pu_ (v := .int .i64 (20 * 1 + 20 : Nat)) (y_move rfl (by rfl) (by rfl)) ?_
    (try simp only [zP, zN, zA, zB, zC])
    refine pu_ (v := .int .i64 n) (y_move rfl (by rfl) (by rfl)) ?_
    (try simp only [zP, zN, zA, zB, zC])
    refine pu_ (v := .bool false) (y_run (by rfl) (fun W => by have d := D13.out; go_simp)) ?_
    (try simp only [zP, zN, zA, zB, zC])
    refine nl_ (hK22 _ _ ?_); clear hK22 K22
    refine wp_cond_false rfl ?_
    refine wp_exit ?_
    refine th_exit ?_
    refine th_exit ?_
    refine ib_exit ?_
    refine th_norm (hK3 _ _ ?_); try clear hK3 K3
    refine s_ (fun K23 hK23 => ?_)
    refine pu_ (v := .slice (some ⟨gx, 0, none⟩) n cx) (y_move rfl (by rfl) (by rfl)) ?_
    (try simp only [zP, zN, zA, zB, zC])
    refine pu_ (v := .int .i64 (20 * 1 : Nat)) (y_move rfl (by rfl) (by rfl)) ?_
    (try simp only [zP, zN, zA, zB, zC])
    refine pu_ (v := .int .i64 n) (y_move rfl (by rfl) (by rfl)) ?_
    (try simp only [zP, zN, zA, zB, zC])
    refine pu_ (v := .func (.func 54) #[] #[.pointer (some ⟨bx, 0, none⟩)]) (y_move rfl (by rfl) (by rfl)) ?_
    (try simp only [zP, zN, zA, zB, zC])
    refine ef_ (fun K24 hK24 => ?_)
    refine e_call Try.func67 (by kernel_rfl) rfl #[.slice (some ⟨gx, 0, none⟩) n cx, .int .i64 (20 * 1 : Nat), .int .i64 n, .func (.func 54) #[] #[.pointer (some ⟨bx, 0, none⟩)]] (by rfl) rfl rfl (by first | rfl | (simp only [List.map_toArray, List.map_cons, List.map_nil]; first | done | rfl)) ((isort_ (U := A1) (A := X.drop 20) (T := []) (p0 := 20 * 1) (q0 := n) (Lib.hid (by rw [HA1L.out, List.length_drop, HXL.out]; have := hn.out; omega)) (Lib.hid (by have := HN.out; omega)) (Lib.hid (fun z hz => HIN.out z (List.mem_of_mem_drop hz))) (Lib.hid (HRI.out.sublist (List.drop_sublist 20 X))) HXR FX SL (Lib.hid (by have h := OX.out; rw [List.append_nil]; exact h)))) ?_
    rintro en w27 ⟨rfl, B1, B10, O26, cc25⟩
    refine ⟨_, rfl, ?_⟩
    have C0' := Lib.hid (show Ch (rl (.slice (some ⟨gx, 0, none⟩) n cx)) w w27 from C0.out.trans' cc25 (fun x hx => .inl hx))
    have FX' := Lib.hid (show Blk w27 bx (#[.slice (some a) L.length c]) 45 from cc25.blk FX.out (OX.out.ne FX.out (by decide)))
    have SL' := Lib.hid (show SrcIs w27 (.slice (some a) L.length c) (L.length) ((L).flatMap opC) 28 from SL.out.chx cc25 HXR.out)
    clear C0 FX SL
    have C0 := C0'; clear C0'
    have FX := FX'; clear FX'
    have SL := SL'; clear SL'
    clear OX
    clear cc25
    have OX := Lib.hid (show OwnS w27 base 3 1 (.slice (some ⟨gx, 0, none⟩) n cx) (n) ((A1 ++ (B1 ++ [])).map vi) from O26)
    have HB1 := Lib.hid B10; clear B10
    refine hK24 _ _ ?_; clear hK24 K24
    (try simp only [zP, zN, zA, zB, zC])
    refine nl_ (hK23 _ _ ?_); clear hK23 K23
    refine wp_block ?_
    have OX' := Lib.hid (show OwnS w27 base 3 1 (.slice (some ⟨gx, 0, none⟩) n cx) (n) ((A1 ++ B1).map vi) from by have h := OX.out; rw [List.append_nil] at h; exact h); clear OX; have OX := OX'; clear OX'
    have HB1L := Lib.hid (show B1.length = n - 20 by rw [HB1.out.1.length_eq, List.length_drop, HXL.out])
    refine loopk_ (fun (kq : Nat) (a' : Act) (w' : World) => ∃ (bs : Nat), ∃ (R : List Int), ∃ (us : Nat → Value), a' = ⟨#[.slice (some ⟨gx, 0, none⟩) n cx, .int .i64 n, .func (.func 54) #[] #[.pointer (some ⟨bx, 0, none⟩)], us 3, us 4, us 5, .int .i64 bs, us 7, us 8, us 9, us 10, us 11, us 12, us 13, us 14, us 15, us 16, us 17, us 18, us 19, us 20, us 21, us 22, us 23, us 24, us 25, us 26, us 27, us 28, us 29, us 30, us 31, us 32, us 33, us 34, us 35, us 36, us 37, us 38, us 39, us 40, us 41, us 42, us 43, us 44, us 45, us 46, us 47, us 48, us 49, us 50, us 51, us 52, us 53, us 54, us 55, us 56, us 57, us 58, us 59, us 60, us 61, us 62], []⟩ ∧ Hid (Ch (rl (.slice (some ⟨gx, 0, none⟩) n cx)) w w') ∧ Hid (Blk w' bx (#[.slice (some a) L.length c]) 45) ∧ Hid (SrcIs w' (.slice (some a) L.length c) (L.length) ((L).flatMap opC) 28) ∧ Hid (OwnS w' base 3 1 (.slice (some ⟨gx, 0, none⟩) n cx) (n) ((R).map vi)) ∧ Hid ((bs = 20 ∧ R = A1 ++ B1 ∧ kq = 1) ∨ (bs = 40 ∧ sorts L X R))) (1) (⟨20, A1 ++ B1, fun us_ => (#[.slice (some ⟨gx, 0, none⟩) n cx, .int .i64 n, .func (.func 54) #[] #[.pointer (some ⟨bx, 0, none⟩)], us 3, us 4, us 5, .int .i64 20, .int .i64 (20 * 1 : Nat), .int .i64 (20 * 1 + 20 : Nat), us 9, us 10, .int .i64 (20 * 1 + 20 : Nat), .int .i64 n, .bool false, us 14, us 15, us 16, us 17, us 18, us 19, us 20, us 21, us 22, .slice (some ⟨gx, 0, none⟩) n cx, .int .i64 (20 * 1 : Nat), .int .i64 n, .func (.func 54) #[] #[.pointer (some ⟨bx, 0, none⟩)], .tuple #[], us 28, us 29, us 30, us 31, us 32, us 33, us 34, us 35, us 36, us 37, us 38, us 39, us 40, us 41, us 42, us 43, us 44, us 45, us 46, us 47, us 48, us 49, us 50, us 51, us 52, us 53, us 54, us 55, us 56, us 57, us 58, us 59, us 60, us 61, us 62] : Array Value).getD us_ undef, rfl, C0, FX, SL, OX, Lib.hid (.inl ⟨rfl, rfl, rfl⟩)⟩) ?_
    rintro kq _ w28 ⟨bs, R, us, rfl, C0, FX, SL, OX, hv⟩ K29 hK29
    refine sq_ (fun K30 hK30 => ?_)
    rcases (show ((bs = 20 ∧ R = A1 ++ B1 ∧ kq = 1) ∧ 20 < n) ∨ ((bs = 20 ∧ R = A1 ++ B1 ∧ kq = 1) ∧ n ≤ 20) ∨ (bs = 40 ∧ sorts L X R) by rcases hv.out with h | h; (rcases Nat.lt_or_ge 20 n with h2 | h2; exact .inl ⟨h, h2⟩; exact .inr (.inl ⟨h, h2⟩)); exact .inr (.inr h)) with ⟨hl, hr⟩ | ⟨hl, hr⟩ | h
    · obtain ⟨hb, hR, hkq⟩ := hl
      subst hb hR hkq
      have hn2 := Lib.hid hr
      clear hv hr
      have D30 := Lib.hid (show (20 : Int) < (n : Int) by have := hn2.out; omega)
      have D35 := Lib.hid (show (n : Int) < 40 by have := HN.out; omega)
      refine s_ (fun K31 hK31 => ?_)
      refine pu_ (v := .int .i64 20) (y_move rfl (by rfl) (by rfl)) ?_
      (try simp only [zP, zN, zA, zB, zC])
      refine pu_ (v := .int .i64 n) (y_move rfl (by rfl) (by rfl)) ?_
      (try simp only [zP, zN, zA, zB, zC])
      refine pu_ (v := .bool true) (y_run (by rfl) (fun W => by have d := D30.out; first | (go_simp; done) | (go_simp; omega))) ?_
      (try simp only [zP, zN, zA, zB, zC])
      refine nl_ (hK31 _ _ ?_); clear hK31 K31
      refine wp_cond_true rfl ?_
      refine wp_skip ?_
      refine th_norm (hK30 _ _ ?_); try clear hK30 K30
      refine wp_block ?_
      refine s_ (fun K32 hK32 => ?_)
      refine pu_ (v := .int .i64 20) (y_move rfl (by rfl) (by rfl)) ?_
      (try simp only [zP, zN, zA, zB, zC])
      refine pu_ (v := .int .i64 40) (y_run (by rfl) (fun W => by have d : IntKind.i64.wrap 40 = 40 := (by decide); go_simp)) ?_
      (try simp only [zP, zN, zA, zB, zC])
      refine pu_ (v := .int .i64 0) (y_assign rfl (by rfl) (by rfl)) ?_
      (try simp only [zP, zN, zA, zB, zC])
      refine pu_ (v := .int .i64 40) (y_assign rfl (by rfl) (by rfl)) ?_
      (try simp only [zP, zN, zA, zB, zC])
      refine nl_ (hK32 _ _ ?_); clear hK32 K32
      refine sq_ (fun K33 hK33 => ?_)
      refine wp_block ?_
      refine loop_none ?_
      refine sq_ (fun K34 hK34 => ?_)
      refine s_ (fun K35 hK35 => ?_)
      refine pu_ (v := .int .i64 40) (y_move rfl (by rfl) (by rfl)) ?_
      (try simp only [zP, zN, zA, zB, zC])
      refine pu_ (v := .int .i64 n) (y_move rfl (by rfl) (by rfl)) ?_
      (try simp only [zP, zN, zA, zB, zC])
      refine pu_ (v := .bool false) (y_run (by rfl) (fun W => by have d := D35.out; first | (go_simp; done) | (go_simp; omega))) ?_
      (try simp only [zP, zN, zA, zB, zC])
      refine nl_ (hK35 _ _ ?_); clear hK35 K35
      refine wp_cond_false rfl ?_
      refine wp_exit ?_
      refine th_exit ?_
      refine th_exit ?_
      refine ib_exit ?_
      refine th_norm (hK33 _ _ ?_); try clear hK33 K33
      refine sq_ (fun K36 hK36 => ?_)
      refine s_ (fun K37 hK37 => ?_)
      refine pu_ (v := .int .i64 0) (y_move rfl (by rfl) (by rfl)) ?_
      (try simp only [zP, zN, zA, zB, zC])
      refine pu_ (v := .int .i64 20) (y_move rfl (by rfl) (by rfl)) ?_
      (try simp only [zP, zN, zA, zB, zC])
      refine pu_ (v := .int .i64 20) (y_run (by rfl) (fun W => by have d : IntKind.i64.wrap 20 = 20 := (by decide); go_simp)) ?_
      (try simp only [zP, zN, zA, zB, zC])
      refine pu_ (v := .int .i64 20) (y_assign rfl (by rfl) (by rfl)) ?_
      (try simp only [zP, zN, zA, zB, zC])
      refine nl_ (hK37 _ _ ?_); clear hK37 K37
      refine s_ (fun K38 hK38 => ?_)
      refine pu_ (v := .int .i64 20) (y_move rfl (by rfl) (by rfl)) ?_
      (try simp only [zP, zN, zA, zB, zC])
      refine pu_ (v := .int .i64 n) (y_move rfl (by rfl) (by rfl)) ?_
      (try simp only [zP, zN, zA, zB, zC])
      refine pu_ (v := .bool true) (y_run (by rfl) (fun W => by have d := D30.out; first | (go_simp; done) | (go_simp; omega))) ?_
      (try simp only [zP, zN, zA, zB, zC])
      refine nl_ (hK38 _ _ ?_); clear hK38 K38
      refine wp_cond_true rfl ?_
      refine r_ ?_
      refine pu_ (v := .slice (some ⟨gx, 0, none⟩) n cx) (y_move rfl (by rfl) (by rfl)) ?_
      (try simp only [zP, zN, zA, zB, zC])
      refine pu_ (v := .int .i64 0) (y_move rfl (by rfl) (by rfl)) ?_
      (try simp only [zP, zN, zA, zB, zC])
      refine pu_ (v := .int .i64 20) (y_move rfl (by rfl) (by rfl)) ?_
      (try simp only [zP, zN, zA, zB, zC])
      refine pu_ (v := .int .i64 n) (y_move rfl (by rfl) (by rfl)) ?_
      (try simp only [zP, zN, zA, zB, zC])
      refine pu_ (v := .func (.func 54) #[] #[.pointer (some ⟨bx, 0, none⟩)]) (y_move rfl (by rfl) (by rfl)) ?_
      (try simp only [zP, zN, zA, zB, zC])
      refine ef_ (fun K39 hK39 => ?_)
      refine e_call Try.func68 (by kernel_rfl) rfl #[.slice (some ⟨gx, 0, none⟩) n cx, .int .i64 0, .int .i64 20, .int .i64 n, .func (.func 54) #[] #[.pointer (some ⟨bx, 0, none⟩)]] (by rfl) rfl rfl (by first | rfl | (simp only [List.map_toArray, List.map_cons, List.map_nil]; first | done | rfl)) ((symm_ 31 (U := []) (A := A1) (B := B1) (T := []) (a0 := 0) (m0 := 20) (b0 := n) (Lib.hid (by have := HA1L.out; have := HB1L.out; have := hn2.out; refine ⟨rfl, ?_⟩; simp only [List.length_nil]; omega)) (Lib.hid (by have := HN.out; omega)) (Lib.hid (fun z hz => HIN.out z (by rcases List.mem_append.1 hz with hz | hz; exact List.mem_of_mem_take (HA1.out.1.mem_iff.1 hz); exact List.mem_of_mem_drop (HB1.out.1.mem_iff.1 hz)))) (Lib.hid HA1.out.2) (Lib.hid HB1.out.2) (Lib.hid (sorts_ahead (rise_ahead HRI.out 20) HA1.out HB1.out)) HXR FX SL (Lib.hid (by have h := OX.out; rw [List.nil_append, List.append_nil]; exact h)) (Lib.hid (by have := HA1L.out; have := HB1L.out; have := HN.out; omega)))) ?_
      rintro en w42 ⟨rfl, M, M0, O41, cc40⟩
      refine ⟨_, rfl, ?_⟩
      have C0' := Lib.hid (show Ch (rl (.slice (some ⟨gx, 0, none⟩) n cx)) w w42 from C0.out.trans' cc40 (fun x hx => .inl hx))
      have FX' := Lib.hid (show Blk w42 bx (#[.slice (some a) L.length c]) 45 from cc40.blk FX.out (OX.out.ne FX.out (by decide)))
      have SL' := Lib.hid (show SrcIs w42 (.slice (some a) L.length c) (L.length) ((L).flatMap opC) 28 from SL.out.chx cc40 HXR.out)
      clear C0 FX SL
      have C0 := C0'; clear C0'
      have FX := FX'; clear FX'
      have SL := SL'; clear SL'
      clear OX
      clear cc40
      have OX := Lib.hid (show OwnS w42 base 3 1 (.slice (some ⟨gx, 0, none⟩) n cx) (n) (([] ++ (M ++ [])).map vi) from O41)
      have HM := Lib.hid M0; clear M0
      refine hK39 _ _ ?_; clear hK39 K39
      (try simp only [zP, zN, zA, zB, zC])
      refine nl_ ?_
      refine th_norm (hK36 _ _ ?_); try clear hK36 K36
      refine r_ ?_
      refine pu_ (v := .int .i64 20) (y_move rfl (by rfl) (by rfl)) ?_
      (try simp only [zP, zN, zA, zB, zC])
      refine pu_ (v := .int .i64 40) (y_run (by rfl) (fun W => by have d : IntKind.i64.wrap 40 = 40 := (by decide); go_simp)) ?_
      (try simp only [zP, zN, zA, zB, zC])
      refine pu_ (v := .int .i64 40) (y_assign rfl (by rfl) (by rfl)) ?_
      (try simp only [zP, zN, zA, zB, zC])
      refine nl_ ?_
      refine ib_norm ?_
      exact th_norm (hK29 (0) _ _ (by omega) ⟨40, M, fun us_ => (#[.slice (some ⟨gx, 0, none⟩) n cx, .int .i64 n, .func (.func 54) #[] #[.pointer (some ⟨bx, 0, none⟩)], us 3, us 4, us 5, .int .i64 40, .int .i64 0, .int .i64 40, .int .i64 20, us 10, us 11, us 12, us 13, us 14, us 15, us 16, us 17, us 18, us 19, us 20, us 21, us 22, us 23, us 24, us 25, us 26, us 27, .int .i64 20, .int .i64 n, .bool true, .int .i64 20, .int .i64 40, .int .i64 40, .int .i64 n, .bool false, us 36, us 37, us 38, us 39, us 40, us 41, us 42, us 43, us 44, us 45, us 46, us 47, us 48, .int .i64 0, .int .i64 20, .int .i64 20, .int .i64 20, .int .i64 n, .bool true, .slice (some ⟨gx, 0, none⟩) n cx, .int .i64 0, .int .i64 20, .int .i64 n, .func (.func 54) #[] #[.pointer (some ⟨bx, 0, none⟩)], .tuple #[], .int .i64 20, .int .i64 40] : Array Value).getD us_ undef, rfl, C0, FX, SL, Lib.hid (by have h := OX.out; rw [List.nil_append, List.append_nil] at h; exact h), Lib.hid (.inr ⟨rfl, by have h := sorts_trans HA1.out HB1.out HM.out; rw [List.take_append_drop] at h; exact h⟩)⟩)
    · obtain ⟨hb, hR, hkq⟩ := hl
      subst hb hR hkq
      have hn2 := Lib.hid hr
      clear hv hr
      have HRES := Lib.hid (show sorts L X (A1 ++ B1) from by have hz : B1 = [] := List.eq_nil_of_length_eq_zero (by have := HB1L.out; have := hn2.out; omega); have hz2 : X.drop 20 = [] := List.drop_of_length_le (by rw [HXL.out]; have := hn2.out; omega); have h := HA1.out; rw [List.take_of_length_le (by rw [HXL.out]; have := hn2.out; omega)] at h; rw [hz, List.append_nil]; exact h)
      have D30 := Lib.hid (show (n : Int) ≤ 20 by have := hn2.out; omega)
      refine s_ (fun K43 hK43 => ?_)
      refine pu_ (v := .int .i64 20) (y_move rfl (by rfl) (by rfl)) ?_
      (try simp only [zP, zN, zA, zB, zC])
      refine pu_ (v := .int .i64 n) (y_move rfl (by rfl) (by rfl)) ?_
      (try simp only [zP, zN, zA, zB, zC])
      refine pu_ (v := .bool false) (y_run (by rfl) (fun W => by have d := D30.out; first | (go_simp; done) | (go_simp; omega))) ?_
      (try simp only [zP, zN, zA, zB, zC])
      refine nl_ (hK43 _ _ ?_); clear hK43 K43
      refine wp_cond_false rfl ?_
      refine wp_exit ?_
      refine th_exit ?_
      refine th_exit ?_
      refine ib_exit ?_
      refine hQ _ _ _ ?_
      refine bodyPost_end (res0 rfl) rfl ?_
      exact ⟨rfl, _, HRES.out, OX.out, C0.out⟩
    · obtain ⟨hb, hR⟩ := h
      subst hb
      have HRES := Lib.hid hR
      clear hv hR
      have D30 := Lib.hid (show (n : Int) ≤ 40 by have := HN.out; omega)
      refine s_ (fun K44 hK44 => ?_)
      refine pu_ (v := .int .i64 40) (y_move rfl (by rfl) (by rfl)) ?_
      (try simp only [zP, zN, zA, zB, zC])
      refine pu_ (v := .int .i64 n) (y_move rfl (by rfl) (by rfl)) ?_
      (try simp only [zP, zN, zA, zB, zC])
      refine pu_ (v := .bool false) (y_run (by rfl) (fun W => by have d := D30.out; first | (go_simp; done) | (go_simp; omega))) ?_
      (try simp only [zP, zN, zA, zB, zC])
      refine nl_ (hK44 _ _ ?_); clear hK44 K44
      refine wp_cond_false rfl ?_
      refine wp_exit ?_
      refine th_exit ?_
      refine th_exit ?_
      refine ib_exit ?_
      refine hQ _ _ _ ?_
      refine bodyPost_end (res0 rfl) rfl ?_
      exact ⟨rfl, _, HRES.out, OX.out, C0.out⟩
theorem sortst_ {a : Addr} {c bx gx cx n base : Nat} {L : List HOp} {X : List Int} (HN : Hid (n ≤ 30)) (HXL : Hid (X.length = n)) (HIN : Hid (∀ z ∈ X, inL L z)) (HRI : Hid (X.Pairwise (· < ·))) (HXR : Hid (∀ k, k ∈ xb (.slice (some a) L.length c) → k ∉ rl (.slice (some ⟨gx, 0, none⟩) n cx))) (FX : Hid (Blk w bx (#[.slice (some a) L.length c]) 45)) (SL : Hid (SrcIs w (.slice (some a) L.length c) (L.length) ((L).flatMap opC) 28)) (OX : Hid (OwnS w base 3 1 (.slice (some ⟨gx, 0, none⟩) n cx) (n) ((X).map vi))) :
    Calls Try.prog 53 #[.slice (some ⟨gx, 0, none⟩) n cx, .func (.func 54) #[] #[.pointer (some ⟨bx, 0, none⟩)]] w fun en w' => en = .returned (.tuple #[]) ∧ ∃ X', sorts L X X' ∧ OwnS w' base 3 1 (.slice (some ⟨gx, 0, none⟩) n cx) n (X'.map vi) ∧ Ch (rl (.slice (some ⟨gx, 0, none⟩) n cx)) w w' := by
  have C0 := Lib.hid (Ch.refl (rl (.slice (some ⟨gx, 0, none⟩) n cx)) w)
  go_enter Try.func53, Try.ntmps53
  refine q_ (fun Q hQ hP => ?_)
  refine r_ ?_
  refine pu_ (v := .slice (some ⟨gx, 0, none⟩) n cx) (y_move rfl (by rfl) (by rfl)) ?_
  (try simp only [zP, zN, zA, zB, zC])
  refine pu_ (v := .slice (some ⟨gx, 0, none⟩) n cx) (y_move rfl (by rfl) (by rfl)) ?_
  (try simp only [zP, zN, zA, zB, zC])
  refine pu_ (v := .int .i64 n) (y_run (by rfl) (fun W => by go_simp)) ?_
  (try simp only [zP, zN, zA, zB, zC])
  refine pu_ (v := .func (.func 54) #[] #[.pointer (some ⟨bx, 0, none⟩)]) (y_move rfl (by rfl) (by rfl)) ?_
  (try simp only [zP, zN, zA, zB, zC])
  refine ef_ (fun K1 hK1 => ?_)
  refine e_call Try.func62 (by kernel_rfl) rfl #[.slice (some ⟨gx, 0, none⟩) n cx, .int .i64 n, .func (.func 54) #[] #[.pointer (some ⟨bx, 0, none⟩)]] (by rfl) rfl rfl (by first | rfl | (simp only [List.map_toArray, List.map_cons, List.map_nil]; first | done | rfl)) ((stable_ HN HXL HIN HRI HXR FX SL OX)) ?_
  rintro en w2 ⟨rfl, X2, H2, O2, cc⟩
  refine ⟨_, rfl, ?_⟩
  have C0' := Lib.hid (show Ch (rl (.slice (some ⟨gx, 0, none⟩) n cx)) w w2 from C0.out.trans' cc (fun x hx => .inl hx))
  have FX' := Lib.hid (show Blk w2 bx (#[.slice (some a) L.length c]) 45 from cc.blk FX.out (OX.out.ne FX.out (by decide)))
  have SL' := Lib.hid (show SrcIs w2 (.slice (some a) L.length c) (L.length) ((L).flatMap opC) 28 from SL.out.chx cc HXR.out)
  clear C0 FX SL
  have C0 := C0'; clear C0'
  have FX := FX'; clear FX'
  have SL := SL'; clear SL'
  clear OX
  clear cc
  have OX := Lib.hid (show OwnS w2 base 3 1 (.slice (some ⟨gx, 0, none⟩) n cx) (n) ((X2).map vi) from O2)
  refine hK1 _ _ ?_; clear hK1 K1
  (try simp only [zP, zN, zA, zB, zC])
  refine nl_ ?_
  refine hQ _ _ _ ?_
  refine bodyPost_end (res0 rfl) rfl ?_
  exact ⟨rfl, X2, H2, OX.out, C0.out⟩
theorem isort_nil {A : Option Addr} {c bx : Nat}  :
    Calls Try.prog 67 #[.slice A 0 c, .int .i64 0, .int .i64 0, .func (.func 54) #[] #[.pointer (some ⟨bx, 0, none⟩)]] w fun en w' => en = .returned (.tuple #[]) ∧ Ch [] w w' := by
  have C0 := Lib.hid (Ch.refl [] w)
  go_enter Try.func67, Try.ntmps67
  refine q_ (fun Q hQ hP => ?_)
  refine s_ (fun K1 hK1 => ?_)
  refine pu_ (v := .int .i64 0) (y_move rfl (by rfl) (by rfl)) ?_
  (try simp only [zP, zN, zA, zB, zC])
  refine pu_ (v := .int .i64 1) (y_run (by rfl) (fun W => by have d : IntKind.i64.wrap 1 = 1 := (by decide); go_simp)) ?_
  (try simp only [zP, zN, zA, zB, zC])
  refine pu_ (v := .int .i64 1) (y_assign rfl (by rfl) (by rfl)) ?_
  (try simp only [zP, zN, zA, zB, zC])
  refine nl_ (hK1 _ _ ?_); clear hK1 K1
  refine wp_block ?_
  refine loop_none ?_
  refine sq_ (fun K2 hK2 => ?_)
  refine s_ (fun K3 hK3 => ?_)
  refine pu_ (v := .int .i64 1) (y_move rfl (by rfl) (by rfl)) ?_
  (try simp only [zP, zN, zA, zB, zC])
  refine pu_ (v := .int .i64 0) (y_move rfl (by rfl) (by rfl)) ?_
  (try simp only [zP, zN, zA, zB, zC])
  refine pu_ (v := .bool false) (y_run (by rfl) (fun W => by go_simp)) ?_
  (try simp only [zP, zN, zA, zB, zC])
  refine nl_ (hK3 _ _ ?_); clear hK3 K3
  refine wp_cond_false rfl ?_
  refine wp_exit ?_
  refine th_exit ?_
  refine th_exit ?_
  refine ib_exit ?_
  refine hQ _ _ _ ?_
  refine bodyPost_end (res0 rfl) rfl ?_
  exact ⟨rfl, C0.out⟩
theorem stable_nil {A : Option Addr} {c bx : Nat}  :
    Calls Try.prog 62 #[.slice A 0 c, .int .i64 0, .func (.func 54) #[] #[.pointer (some ⟨bx, 0, none⟩)]] w fun en w' => en = .returned (.tuple #[]) ∧ Ch [] w w' := by
  have C0 := Lib.hid (Ch.refl [] w)
  go_enter Try.func62, Try.ntmps62
  refine q_ (fun Q hQ hP => ?_)
  refine s_ (fun K1 hK1 => ?_)
  refine pu_ (v := .int .i64 20) (y_assign rfl (by rfl) (by rfl)) ?_
  (try simp only [zP, zN, zA, zB, zC])
  refine nl_ (hK1 _ _ ?_); clear hK1 K1
  refine s_ (fun K2 hK2 => ?_)
  refine pu_ (v := .int .i64 20) (y_move rfl (by rfl) (by rfl)) ?_
  (try simp only [zP, zN, zA, zB, zC])
  refine pu_ (v := .int .i64 0) (y_assign rfl (by rfl) (by rfl)) ?_
  (try simp only [zP, zN, zA, zB, zC])
  refine pu_ (v := .int .i64 20) (y_assign rfl (by rfl) (by rfl)) ?_
  (try simp only [zP, zN, zA, zB, zC])
  refine nl_ (hK2 _ _ ?_); clear hK2 K2
  refine sq_ (fun K3 hK3 => ?_)
  refine wp_block ?_
  refine loop_none ?_
  refine sq_ (fun K4 hK4 => ?_)
  refine s_ (fun K5 hK5 => ?_)
  refine pu_ (v := .int .i64 20) (y_move rfl (by rfl) (by rfl)) ?_
  (try simp only [zP, zN, zA, zB, zC])
  refine pu_ (v := .int .i64 0) (y_move rfl (by rfl) (by rfl)) ?_
  (try simp only [zP, zN, zA, zB, zC])
  refine pu_ (v := .bool false) (y_run (by rfl) (fun W => by go_simp)) ?_
  (try simp only [zP, zN, zA, zB, zC])
  refine nl_ (hK5 _ _ ?_); clear hK5 K5
  refine wp_cond_false rfl ?_
  refine wp_exit ?_
  refine th_exit ?_
  refine th_exit ?_
  refine ib_exit ?_
  refine th_norm (hK3 _ _ ?_); try clear hK3 K3
  refine s_ (fun K6 hK6 => ?_)
  refine pu_ (v := .slice A 0 c) (y_move rfl (by rfl) (by rfl)) ?_
  (try simp only [zP, zN, zA, zB, zC])
  refine pu_ (v := .int .i64 0) (y_move rfl (by rfl) (by rfl)) ?_
  (try simp only [zP, zN, zA, zB, zC])
  refine pu_ (v := .int .i64 0) (y_move rfl (by rfl) (by rfl)) ?_
  (try simp only [zP, zN, zA, zB, zC])
  refine pu_ (v := .func (.func 54) #[] #[.pointer (some ⟨bx, 0, none⟩)]) (y_move rfl (by rfl) (by rfl)) ?_
  (try simp only [zP, zN, zA, zB, zC])
  refine ef_ (fun K7 hK7 => ?_)
  refine e_call Try.func67 (by kernel_rfl) rfl #[.slice A 0 c, .int .i64 0, .int .i64 0, .func (.func 54) #[] #[.pointer (some ⟨bx, 0, none⟩)]] (by rfl) rfl rfl (by first | rfl | (simp only [List.map_toArray, List.map_cons, List.map_nil]; first | done | rfl)) (isort_nil) ?_
  rintro en w9 ⟨rfl, cc8⟩
  refine ⟨_, rfl, ?_⟩
  have C0' := Lib.hid (show Ch [] w w9 from C0.out.trans' cc8 (fun x hx => absurd hx (by simp)))
  clear C0
  have C0 := C0'; clear C0'
  clear cc8
  refine hK7 _ _ ?_; clear hK7 K7
  (try simp only [zP, zN, zA, zB, zC])
  refine nl_ (hK6 _ _ ?_); clear hK6 K6
  refine wp_block ?_
  refine loop_none ?_
  refine sq_ (fun K10 hK10 => ?_)
  refine s_ (fun K11 hK11 => ?_)
  refine pu_ (v := .int .i64 20) (y_move rfl (by rfl) (by rfl)) ?_
  (try simp only [zP, zN, zA, zB, zC])
  refine pu_ (v := .int .i64 0) (y_move rfl (by rfl) (by rfl)) ?_
  (try simp only [zP, zN, zA, zB, zC])
  refine pu_ (v := .bool false) (y_run (by rfl) (fun W => by go_simp)) ?_
  (try simp only [zP, zN, zA, zB, zC])
  refine nl_ (hK11 _ _ ?_); clear hK11 K11
  refine wp_cond_false rfl ?_
  refine wp_exit ?_
  refine th_exit ?_
  refine th_exit ?_
  refine ib_exit ?_
  refine hQ _ _ _ ?_
  refine bodyPost_end (res0 rfl) rfl ?_
  exact ⟨rfl, C0.out⟩
theorem sortst_nil {A : Option Addr} {c bx : Nat}  :
    Calls Try.prog 53 #[.slice A 0 c, .func (.func 54) #[] #[.pointer (some ⟨bx, 0, none⟩)]] w fun en w' => en = .returned (.tuple #[]) ∧ Ch [] w w' := by
  have C0 := Lib.hid (Ch.refl [] w)
  go_enter Try.func53, Try.ntmps53
  refine q_ (fun Q hQ hP => ?_)
  refine r_ ?_
  refine pu_ (v := .slice A 0 c) (y_move rfl (by rfl) (by rfl)) ?_
  (try simp only [zP, zN, zA, zB, zC])
  refine pu_ (v := .slice A 0 c) (y_move rfl (by rfl) (by rfl)) ?_
  (try simp only [zP, zN, zA, zB, zC])
  refine pu_ (v := .int .i64 0) (y_run (by rfl) (fun W => by go_simp)) ?_
  (try simp only [zP, zN, zA, zB, zC])
  refine pu_ (v := .func (.func 54) #[] #[.pointer (some ⟨bx, 0, none⟩)]) (y_move rfl (by rfl) (by rfl)) ?_
  (try simp only [zP, zN, zA, zB, zC])
  refine ef_ (fun K1 hK1 => ?_)
  refine e_call Try.func62 (by kernel_rfl) rfl #[.slice A 0 c, .int .i64 0, .func (.func 54) #[] #[.pointer (some ⟨bx, 0, none⟩)]] (by rfl) rfl rfl (by first | rfl | (simp only [List.map_toArray, List.map_cons, List.map_nil]; first | done | rfl)) (stable_nil) ?_
  rintro en w3 ⟨rfl, cc2⟩
  refine ⟨_, rfl, ?_⟩
  have C0' := Lib.hid (show Ch [] w w3 from C0.out.trans' cc2 (fun x hx => absurd hx (by simp)))
  clear C0
  have C0 := C0'; clear C0'
  clear cc2
  refine hK1 _ _ ?_; clear hK1 K1
  (try simp only [zP, zN, zA, zB, zC])
  refine nl_ ?_
  refine hQ _ _ _ ?_
  refine bodyPost_end (res0 rfl) rfl ?_
  exact ⟨rfl, C0.out⟩
theorem order_ {A : Option Addr} {c : Nat} {L : List HOp} (HN : Hid (L.length ≤ 1000)) (HP : Hid (L.length ≤ 30)) (SL : Hid (SrcIs w (.slice A L.length c) (L.length) ((L).flatMap opC) 28)) :
    Calls Try.prog 31 #[.slice A L.length c] w fun en w' => ∃ v' X', en = .returned v' ∧ OwnS w' w.heap.size 3 1 v' X'.length (X'.map vi) ∧ sorts L (doneI L L.length) X' ∧ Ch [] w w' := by
  have C0 := Lib.hid (Ch.refl [] w)
  obtain ⟨i3, I3⟩ := Info.of info3
  go_enter Try.func31, Try.ntmps31
  refine q_ (fun Q hQ hP => ?_)
  refine s_ (fun K1 hK1 => ?_)
  refine ef_ (fun K2 hK2 => ?_)
  refine e_boxN (by rfl) rfl rfl (cs := #[.slice A L.length c]) (v := .slice A L.length c) (by rfl) rfl ?_
  rintro g3 w4 HG5 B6 C7
  have nw8 := Lib.hid (show w.heap.size ≤ g3 by have := C0.out.size; have := HG5.out; omega)
  have nx9 := Lib.hid (SL.out.ne_new (by decide) HG5)
  have C0' := Lib.hid (show Ch [] w w4 from C0.out.trans' C7 (fun x hx => absurd hx (by simp)))
  have SL' := Lib.hid (show SrcIs w4 (.slice A L.length c) (L.length) ((L).flatMap opC) 28 from SL.out.chx C7 xnin_nil)
  clear C0 SL
  have C0 := C0'; clear C0'
  have SL := SL'; clear SL'
  have Fg3 := Lib.hid (show Blk w4 g3 (#[.slice A L.length c]) 45 from B6); clear B6 C7
  refine hK2 _ _ ?_; clear hK2 K2
  (try simp only [zP, zN, zA, zB, zC])
  refine pu_ (v := .slice none 0 0) (y_assign rfl (by rfl) (by rfl)) ?_
  (try simp only [zP, zN, zA, zB, zC])
  refine nl_ (hK1 _ _ ?_); clear hK1 K1
  refine s_ (fun K10 hK10 => ?_)
  refine pu_ (v := .slice none 0 0) (y_assign rfl (by rfl) (by rfl)) ?_
  (try simp only [zP, zN, zA, zB, zC])
  refine nl_ (hK10 _ _ ?_); clear hK10 K10
  refine sq_ (fun K11 hK11 => ?_)
  refine s_ (fun K12 hK12 => ?_)
  refine ld_ (v := .slice A L.length c) rfl (by rfl) (by rfl) (run_load_one ((Fg3.out.cell 0).trans rfl) Try.underlying45 rfl) ?_
  (try simp only [zP, zN, zA, zB, zC])
  refine pu_ (v := .int .i64 L.length) (y_run (by rfl) (fun W => by go_simp)) ?_
  (try simp only [zP, zN, zA, zB, zC])
  refine pu_ (v := .int .i64 0) (y_move rfl (by rfl) (by rfl)) ?_
  (try simp only [zP, zN, zA, zB, zC])
  refine nl_ (hK12 _ _ ?_); clear hK12 K12
  refine wp_block ?_
  have OT0 := Lib.hid (show OwnS w4 w.heap.size 3 1 (.slice none 0 0) 0 ([] : List Value) from OwnS.nil _ _ _ _ _)
  refine loopk_ (fun (kq : Nat) (a' : Act) (w' : World) => ∃ (k : Nat), ∃ (bx : Nat), ∃ (vt : Value), ∃ (us : Nat → Value), a' = ⟨#[.slice A L.length c, .pointer (some ⟨bx, 0, none⟩), .slice none 0 0, vt, us 4, us 5, .slice A L.length c, .int .i64 L.length, .int .i64 k, us 9, us 10, us 11, us 12, us 13, us 14, us 15, us 16, us 17, us 18, us 19, us 20, us 21, us 22, us 23, us 24], []⟩ ∧ Hid (Ch [] w w') ∧ Hid (SrcIs w' (.slice A L.length c) (L.length) ((L).flatMap opC) 28) ∧ Hid (Blk w' bx (#[.slice A L.length c]) 45) ∧ Hid (OwnS w' w.heap.size 3 1 (vt) ((doneI L k).length) ((doneI L k).map (Value.int .i64))) ∧ Hid (k ≤ L.length ∧ kq + k = L.length) ∧ Hid (bx ∉ xb (.slice A L.length c)) ∧ Hid (∀ k, k ∈ xb (.slice A L.length c) → k ∉ rl vt)) (L.length) (⟨0, g3, _, fun us_ => (#[.slice A L.length c, .pointer (some ⟨g3, 0, none⟩), .slice none 0 0, .slice none 0 0, undef, undef, .slice A L.length c, .int .i64 L.length, .int .i64 0, undef, undef, undef, undef, undef, undef, undef, undef, undef, undef, undef, undef, undef, undef, undef, undef] : Array Value).getD us_ undef, rfl, C0, SL, Fg3, OT0, Lib.hid ⟨by omega, by omega⟩, nx9, Lib.hid (fun k _ hm => absurd hm (by simp [rl]))⟩) ?_
  rintro kq _ w13 ⟨k, bx, vt, us, rfl, C0, SL, FX, OT, hk, hbx, hxr⟩ K14 hK14
  rcases at_ways hk.out.1 with ⟨o, hlt0, ho0⟩ | h; rcases Classical.em (o.d > 0) with h | h
  · have hlt := Lib.hid hlt0
    have ho := Lib.hid ho0
    have hd := Lib.hid h
    clear hlt0 ho0 h
    obtain ⟨a, hsm_a⟩ := src_some SL.out (by have := hlt.out; omega)
    subst hsm_a
    have D9 := Lib.hid (show (k : Int) < (L.length : Int) by have := hlt.out; omega)
    have Wk := Lib.hid (show IntKind.i64.wrap ((k : Int) + 1) = ((k + 1 : Nat) : Int) by rw [wr64 (by have := hlt.out; have := HN.out; omega)]; omega)
    have D15 := Lib.hid (show decide (o.d > 0) = true from decide_eq_true hd.out)
    have HDN := Lib.hid (done_yes ho.out hd.out)
    refine s_ (fun K15 hK15 => ?_)
    refine pu_ (v := .bool true) (y_run (by rfl) (fun W => by have d := D9.out; go_simp)) ?_
    (try simp only [zP, zN, zA, zB, zC])
    refine nl_ (hK15 _ _ ?_); clear hK15 K15
    refine sq_ (fun K16 hK16 => ?_)
    refine wp_cond_true rfl ?_
    refine wp_skip ?_
    refine th_norm (hK16 _ _ ?_); try clear hK16 K16
    refine sq_ (fun K17 hK17 => ?_)
    refine wp_block ?_
    refine s_ (fun K18 hK18 => ?_)
    refine pu_ (v := .int .i64 k) (y_move rfl (by rfl) (by rfl)) ?_
    (try simp only [zP, zN, zA, zB, zC])
    refine pu_ (v := .pointer (some (a.add (k * 28)))) (y_run (by rfl) (fun W => by have d := D9.out; go_simp)) ?_
    (try simp only [zP, zN, zA, zB, zC])
    refine ld_ (v := .agg (opC o).toArray) rfl (by rfl) (by rfl) (run_loadVar_at (src_elem SL.out ho.out) Try.underlying49 rfl (by rw [opC_len]; kernel_rfl)) ?_
    (try simp only [zP, zN, zA, zB, zC])
    refine ef_ (fun K19 hK19 => ?_)
    refine e_alloc (by rfl) rfl rfl (cs := #[.int .i64 0, .int .i64 0, .int .i64 0, .int .i64 0, .int .i64 0, .int .i64 0, .int .i64 0, .int .u64 0, .string ⟨#[]⟩, .slice none 0 0, .slice none 0 0, .slice none 0 0, .int .i64 0, .int .i64 0, .int .i64 0, .int .i64 0, .int .i64 0, .int .i64 0, .int .i64 0, .string ⟨#[]⟩, .slice none 0 0, .int .i64 0, .int .i64 0, .int .i64 0, .int .u64 0, .string ⟨#[]⟩, .slice none 0 0, .slice none 0 0]) (by kernel_rfl) ?_
    rintro g20 w21 HG22 B23 C24
    have nw25 := Lib.hid (show w.heap.size ≤ g20 by have := C0.out.size; have := HG22.out; omega)
    have nx26 := Lib.hid (SL.out.ne_new (by decide) HG22)
    have C0' := Lib.hid (show Ch [] w w21 from C0.out.trans' C24 (fun x hx => absurd hx (by simp)))
    have SL' := Lib.hid (show SrcIs w21 (.slice (some a) L.length c) (L.length) ((L).flatMap opC) 28 from SL.out.chx C24 xnin_nil)
    have FX' := Lib.hid (show Blk w21 bx (#[.slice (some a) L.length c]) 45 from C24.blk FX.out nin_nil)
    have OT' := Lib.hid (show OwnS w21 w.heap.size 3 1 (vt) ((doneI L k).length) ((doneI L k).map (Value.int .i64)) from OT.out.ch C24 rnin_nil)
    clear C0 SL FX OT
    have C0 := C0'; clear C0'
    have SL := SL'; clear SL'
    have FX := FX'; clear FX'
    have OT := OT'; clear OT'
    have Fg20 := Lib.hid (show Blk w21 g20 (#[.int .i64 0, .int .i64 0, .int .i64 0, .int .i64 0, .int .i64 0, .int .i64 0, .int .i64 0, .int .u64 0, .string ⟨#[]⟩, .slice none 0 0, .slice none 0 0, .slice none 0 0, .int .i64 0, .int .i64 0, .int .i64 0, .int .i64 0, .int .i64 0, .int .i64 0, .int .i64 0, .string ⟨#[]⟩, .slice none 0 0, .int .i64 0, .int .i64 0, .int .i64 0, .int .u64 0, .string ⟨#[]⟩, .slice none 0 0, .slice none 0 0]) 49 from B23); clear B23 C24
    refine hK19 _ _ ?_; clear hK19 K19
    (try simp only [zP, zN, zA, zB, zC])
    refine pu_ (v := .int .i64 k) (y_assign rfl (by rfl) (by rfl)) ?_
    (try simp only [zP, zN, zA, zB, zC])
    refine ef_ (fun K27 hK27 => ?_)
    refine e_storeN (cells := (opC o).toArray) (by rfl) rfl rfl (by rfl) (by rfl) Fg20.out (sz49 o) (by rw [show (opC o).toArray.size = 28 by rw [List.size_toArray, opC_len]]; rfl) (by simpa using opC_one o) ?_
    rintro w28 B29 C30
    have C0' := Lib.hid (show Ch [] w w28 from C0.out.trans' C30 (inw_cons (.inr nw25.out) inw_nil))
    have SL' := Lib.hid (show SrcIs w28 (.slice (some a) L.length c) (L.length) ((L).flatMap opC) 28 from SL.out.chx C30 (xnin_cons nx26.out xnin_nil))
    have FX' := Lib.hid (show Blk w28 bx (#[.slice (some a) L.length c]) 45 from C30.blk FX.out (nin_cons (Blk.ne_type FX.out Fg20.out (by decide)) nin_nil))
    have OT' := Lib.hid (show OwnS w28 w.heap.size 3 1 (vt) ((doneI L k).length) ((doneI L k).map (Value.int .i64)) from OT.out.ch C30 (rnin_cons (OT.out.ne Fg20.out (by decide)) rnin_nil))
    clear C0 SL FX OT
    have C0 := C0'; clear C0'
    have SL := SL'; clear SL'
    have FX := FX'; clear FX'
    have OT := OT'; clear OT'
    clear Fg20; have Fg20 := Lib.hid (show Blk w28 g20 ((opC o).toArray) 49 from B29); clear B29 C30
    refine hK27 _ _ ?_; clear hK27 K27
    (try simp only [zP, zN, zA, zB, zC])
    refine nl_ (hK18 _ _ ?_); clear hK18 K18
    refine s_ (fun K31 hK31 => ?_)
    refine pu_ (v := .pointer (some ⟨g20, 3, none⟩)) (y_run (by rfl) (fun W => by go_simp)) ?_
    (try simp only [zP, zN, zA, zB, zC])
    refine ld_ (v := .int .i64 o.d) rfl (by rfl) (by rfl) (run_load_one ((Fg20.out.cell 3).trans (by simp [opC])) Try.underlying3 rfl) ?_
    (try simp only [zP, zN, zA, zB, zC])
    refine pu_ (v := .bool true) (y_run (by rfl) (fun W => by have d := D15.out; go_simp)) ?_
    (try simp only [zP, zN, zA, zB, zC])
    refine nl_ (hK31 _ _ ?_); clear hK31 K31
    refine wp_cond_true rfl ?_
    refine r_ ?_
    refine pu_ (v := vt) (y_move rfl (by rfl) (by rfl)) ?_
    (try simp only [zP, zN, zA, zB, zC])
    refine pu_ (v := .int .i64 k) (y_move rfl (by rfl) (by rfl)) ?_
    (try simp only [zP, zN, zA, zB, zC])
    refine ef_ (fun K32 hK32 => ?_)
    refine e_buildS (parts := #[(0, .int .i64 k)]) (cells := #[.int .i64 k]) (by rfl) rfl rfl (by first | rfl | (simp only [List.map_toArray, List.map_cons, List.map_nil]; first | done | rfl)) Try.underlying44 I3.hi I3.hz I3.hs (by decide) (by decide) (by kernel_rfl) ?_
    rintro g33 w34 HG35 B36 C37
    have nw38 := Lib.hid (show w.heap.size ≤ g33 by have := C0.out.size; have := HG35.out; omega)
    have nx39 := Lib.hid (SL.out.ne_new (by decide) HG35)
    have nr40 := Lib.hid (OT.out.ne_new HG35)
    have C0' := Lib.hid (show Ch [] w w34 from C0.out.trans' C37 (fun x hx => absurd hx (by simp)))
    have SL' := Lib.hid (show SrcIs w34 (.slice (some a) L.length c) (L.length) ((L).flatMap opC) 28 from SL.out.chx C37 xnin_nil)
    have FX' := Lib.hid (show Blk w34 bx (#[.slice (some a) L.length c]) 45 from C37.blk FX.out nin_nil)
    have OT' := Lib.hid (show OwnS w34 w.heap.size 3 1 (vt) ((doneI L k).length) ((doneI L k).map (Value.int .i64)) from OT.out.ch C37 rnin_nil)
    have Fg20' := Lib.hid (show Blk w34 g20 ((opC o).toArray) 49 from C37.blk Fg20.out nin_nil)
    clear C0 SL FX OT Fg20
    have C0 := C0'; clear C0'
    have SL := SL'; clear SL'
    have FX := FX'; clear FX'
    have OT := OT'; clear OT'
    have Fg20 := Fg20'; clear Fg20'
    have Fg33 := Lib.hid (show Blk w34 g33 (#[.int .i64 k]) 3 from B36); clear B36 C37
    refine hK32 _ _ ?_; clear hK32 K32
    (try simp only [zP, zN, zA, zB, zC])
    refine ef_ (fun K41 hK41 => ?_)
    refine e_append (by rfl) rfl rfl (w.heap.size) 3 _ _ 1 8 Try.underlying44 I3.hi I3.hz I3.hs I3.hb rfl (by decide) (vt) ((doneI L k).length) ((doneI L k).map (Value.int .i64)) (by rfl) OT.out (.slice (some ⟨g33, 0, none⟩) 1 1) 1 ([Value.int .i64 (k : Nat)]) (by rfl) ⟨rfl, .inr ⟨_, _, rfl, CellsAt.blk Fg33.out 0⟩⟩ (ones_cons rfl ones_nil) (by have h8 := done_len L k; have := HN.out; have := hlt.out; unfold maxLen; omega) (by have h8 := done_len L k; have := HN.out; have := hlt.out; omega) C0.out.size ?_
    rintro v42 w43 O44 C45 R46 -
    have xr48 := Lib.hid (show ∀ k, k ∈ xb (.slice (some a) L.length c) → k ∉ rl v42 from fun k hk hm => (R46 k hm).elim (fun h => hxr.out k hk h) (fun h => by have := SL.out.lt (by decide) k hk; omega))
    have nr49 := Lib.hid (show g33 ∉ rl v42 from fun hk => (R46 _ hk).elim nr40.out (fun h => by have := Fg33.out.lt; omega))
    have C0' := Lib.hid (show Ch [] w w43 from C0.out.trans' C45 (fun x hx => .inr (OT.out.lt x hx).1))
    have SL' := Lib.hid (show SrcIs w43 (.slice (some a) L.length c) (L.length) ((L).flatMap opC) 28 from SL.out.chx C45 hxr.out)
    have FX' := Lib.hid (show Blk w43 bx (#[.slice (some a) L.length c]) 45 from C45.blk FX.out (OT.out.ne FX.out (by decide)))
    have Fg20' := Lib.hid (show Blk w43 g20 ((opC o).toArray) 49 from C45.blk Fg20.out (OT.out.ne Fg20.out (by decide)))
    have Fg33' := Lib.hid (show Blk w43 g33 (#[.int .i64 k]) 3 from C45.blk Fg33.out nr40.out)
    clear C0 SL FX Fg20 Fg33
    have C0 := C0'; clear C0'
    have SL := SL'; clear SL'
    have FX := FX'; clear FX'
    have Fg20 := Fg20'; clear Fg20'
    have Fg33 := Fg33'; clear Fg33'
    clear OT
    have OT := Lib.hid (show OwnS w43 w.heap.size 3 1 (v42) ((doneI L k).length + 1) ((doneI L k).map (Value.int .i64) ++ [Value.int .i64 (k : Nat)]) from O44); clear O44 C45
    refine hK41 _ _ ?_; clear hK41 K41
    (try simp only [zP, zN, zA, zB, zC])
    refine pu_ (v := v42) (y_assign rfl (by rfl) (by rfl)) ?_
    (try simp only [zP, zN, zA, zB, zC])
    refine nl_ ?_
    refine ib_norm ?_
    refine th_norm (hK17 _ _ ?_); try clear hK17 K17
    refine r_ ?_
    refine pu_ (v := .int .i64 (k + 1 : Nat)) (y_run (by rfl) (fun W => by have d := Wk.out; go_simp)) ?_
    (try simp only [zP, zN, zA, zB, zC])
    refine pu_ (v := .int .i64 (k + 1 : Nat)) (y_move rfl (by rfl) (by rfl)) ?_
    (try simp only [zP, zN, zA, zB, zC])
    refine nl_ ?_
    exact th_norm (hK14 (kq - 1) _ _ (by have := hlt.out; have := hk.out; omega) ⟨k + 1, bx, _, fun us_ => (#[.slice (some a) L.length c, .pointer (some ⟨bx, 0, none⟩), .slice none 0 0, v42, .int .i64 k, .pointer (some ⟨g20, 0, none⟩), .slice (some a) L.length c, .int .i64 L.length, .int .i64 (k + 1 : Nat), .bool true, .int .i64 k, .pointer (some (a.add (k * 28))), .agg (opC o).toArray, .pointer (some ⟨g20, 3, none⟩), .int .i64 o.d, .bool true, vt, .int .i64 k, .slice (some ⟨g33, 0, none⟩) 1 1, v42, .int .i64 (k + 1 : Nat), us 21, us 22, us 23, us 24] : Array Value).getD us_ undef, rfl, C0, SL, FX, Lib.hid (by have h := OT.out; rw [HDN.out, List.map_append, List.length_append]; exact h), Lib.hid ⟨by have := hlt.out; omega, by have := hlt.out; have := hk.out; omega⟩, hbx, Lib.hid (xr48.out)⟩)
  · have hlt := Lib.hid hlt0
    have ho := Lib.hid ho0
    have hd := Lib.hid h
    clear hlt0 ho0 h
    obtain ⟨a, hsm_a⟩ := src_some SL.out (by have := hlt.out; omega)
    subst hsm_a
    have D9 := Lib.hid (show (k : Int) < (L.length : Int) by have := hlt.out; omega)
    have Wk := Lib.hid (show IntKind.i64.wrap ((k : Int) + 1) = ((k + 1 : Nat) : Int) by rw [wr64 (by have := hlt.out; have := HN.out; omega)]; omega)
    have D15 := Lib.hid (show decide (o.d > 0) = false from decide_eq_false hd.out)
    have HDN := Lib.hid (done_no ho.out hd.out)
    refine s_ (fun K50 hK50 => ?_)
    refine pu_ (v := .bool true) (y_run (by rfl) (fun W => by have d := D9.out; go_simp)) ?_
    (try simp only [zP, zN, zA, zB, zC])
    refine nl_ (hK50 _ _ ?_); clear hK50 K50
    refine sq_ (fun K51 hK51 => ?_)
    refine wp_cond_true rfl ?_
    refine wp_skip ?_
    refine th_norm (hK51 _ _ ?_); try clear hK51 K51
    refine sq_ (fun K52 hK52 => ?_)
    refine wp_block ?_
    refine s_ (fun K53 hK53 => ?_)
    refine pu_ (v := .int .i64 k) (y_move rfl (by rfl) (by rfl)) ?_
    (try simp only [zP, zN, zA, zB, zC])
    refine pu_ (v := .pointer (some (a.add (k * 28)))) (y_run (by rfl) (fun W => by have d := D9.out; go_simp)) ?_
    (try simp only [zP, zN, zA, zB, zC])
    refine ld_ (v := .agg (opC o).toArray) rfl (by rfl) (by rfl) (run_loadVar_at (src_elem SL.out ho.out) Try.underlying49 rfl (by rw [opC_len]; kernel_rfl)) ?_
    (try simp only [zP, zN, zA, zB, zC])
    refine ef_ (fun K54 hK54 => ?_)
    refine e_alloc (by rfl) rfl rfl (cs := #[.int .i64 0, .int .i64 0, .int .i64 0, .int .i64 0, .int .i64 0, .int .i64 0, .int .i64 0, .int .u64 0, .string ⟨#[]⟩, .slice none 0 0, .slice none 0 0, .slice none 0 0, .int .i64 0, .int .i64 0, .int .i64 0, .int .i64 0, .int .i64 0, .int .i64 0, .int .i64 0, .string ⟨#[]⟩, .slice none 0 0, .int .i64 0, .int .i64 0, .int .i64 0, .int .u64 0, .string ⟨#[]⟩, .slice none 0 0, .slice none 0 0]) (by kernel_rfl) ?_
    rintro g55 w56 HG57 B58 C59
    have nw60 := Lib.hid (show w.heap.size ≤ g55 by have := C0.out.size; have := HG57.out; omega)
    have nx61 := Lib.hid (SL.out.ne_new (by decide) HG57)
    have C0' := Lib.hid (show Ch [] w w56 from C0.out.trans' C59 (fun x hx => absurd hx (by simp)))
    have SL' := Lib.hid (show SrcIs w56 (.slice (some a) L.length c) (L.length) ((L).flatMap opC) 28 from SL.out.chx C59 xnin_nil)
    have FX' := Lib.hid (show Blk w56 bx (#[.slice (some a) L.length c]) 45 from C59.blk FX.out nin_nil)
    have OT' := Lib.hid (show OwnS w56 w.heap.size 3 1 (vt) ((doneI L k).length) ((doneI L k).map (Value.int .i64)) from OT.out.ch C59 rnin_nil)
    clear C0 SL FX OT
    have C0 := C0'; clear C0'
    have SL := SL'; clear SL'
    have FX := FX'; clear FX'
    have OT := OT'; clear OT'
    have Fg55 := Lib.hid (show Blk w56 g55 (#[.int .i64 0, .int .i64 0, .int .i64 0, .int .i64 0, .int .i64 0, .int .i64 0, .int .i64 0, .int .u64 0, .string ⟨#[]⟩, .slice none 0 0, .slice none 0 0, .slice none 0 0, .int .i64 0, .int .i64 0, .int .i64 0, .int .i64 0, .int .i64 0, .int .i64 0, .int .i64 0, .string ⟨#[]⟩, .slice none 0 0, .int .i64 0, .int .i64 0, .int .i64 0, .int .u64 0, .string ⟨#[]⟩, .slice none 0 0, .slice none 0 0]) 49 from B58); clear B58 C59
    refine hK54 _ _ ?_; clear hK54 K54
    (try simp only [zP, zN, zA, zB, zC])
    refine pu_ (v := .int .i64 k) (y_assign rfl (by rfl) (by rfl)) ?_
    (try simp only [zP, zN, zA, zB, zC])
    refine ef_ (fun K62 hK62 => ?_)
    refine e_storeN (cells := (opC o).toArray) (by rfl) rfl rfl (by rfl) (by rfl) Fg55.out (sz49 o) (by rw [show (opC o).toArray.size = 28 by rw [List.size_toArray, opC_len]]; rfl) (by simpa using opC_one o) ?_
    rintro w63 B64 C65
    have C0' := Lib.hid (show Ch [] w w63 from C0.out.trans' C65 (inw_cons (.inr nw60.out) inw_nil))
    have SL' := Lib.hid (show SrcIs w63 (.slice (some a) L.length c) (L.length) ((L).flatMap opC) 28 from SL.out.chx C65 (xnin_cons nx61.out xnin_nil))
    have FX' := Lib.hid (show Blk w63 bx (#[.slice (some a) L.length c]) 45 from C65.blk FX.out (nin_cons (Blk.ne_type FX.out Fg55.out (by decide)) nin_nil))
    have OT' := Lib.hid (show OwnS w63 w.heap.size 3 1 (vt) ((doneI L k).length) ((doneI L k).map (Value.int .i64)) from OT.out.ch C65 (rnin_cons (OT.out.ne Fg55.out (by decide)) rnin_nil))
    clear C0 SL FX OT
    have C0 := C0'; clear C0'
    have SL := SL'; clear SL'
    have FX := FX'; clear FX'
    have OT := OT'; clear OT'
    clear Fg55; have Fg55 := Lib.hid (show Blk w63 g55 ((opC o).toArray) 49 from B64); clear B64 C65
    refine hK62 _ _ ?_; clear hK62 K62
    (try simp only [zP, zN, zA, zB, zC])
    refine nl_ (hK53 _ _ ?_); clear hK53 K53
    refine s_ (fun K66 hK66 => ?_)
    refine pu_ (v := .pointer (some ⟨g55, 3, none⟩)) (y_run (by rfl) (fun W => by go_simp)) ?_
    (try simp only [zP, zN, zA, zB, zC])
    refine ld_ (v := .int .i64 o.d) rfl (by rfl) (by rfl) (run_load_one ((Fg55.out.cell 3).trans (by simp [opC])) Try.underlying3 rfl) ?_
    (try simp only [zP, zN, zA, zB, zC])
    refine pu_ (v := .bool false) (y_run (by rfl) (fun W => by have d := D15.out; go_simp)) ?_
    (try simp only [zP, zN, zA, zB, zC])
    refine nl_ (hK66 _ _ ?_); clear hK66 K66
    refine wp_cond_false rfl ?_
    refine wp_skip ?_
    refine ib_norm ?_
    refine th_norm (hK52 _ _ ?_); try clear hK52 K52
    refine r_ ?_
    refine pu_ (v := .int .i64 (k + 1 : Nat)) (y_run (by rfl) (fun W => by have d := Wk.out; go_simp)) ?_
    (try simp only [zP, zN, zA, zB, zC])
    refine pu_ (v := .int .i64 (k + 1 : Nat)) (y_move rfl (by rfl) (by rfl)) ?_
    (try simp only [zP, zN, zA, zB, zC])
    refine nl_ ?_
    exact th_norm (hK14 (kq - 1) _ _ (by have := hlt.out; have := hk.out; omega) ⟨k + 1, bx, _, fun us_ => (#[.slice (some a) L.length c, .pointer (some ⟨bx, 0, none⟩), .slice none 0 0, vt, .int .i64 k, .pointer (some ⟨g55, 0, none⟩), .slice (some a) L.length c, .int .i64 L.length, .int .i64 (k + 1 : Nat), .bool true, .int .i64 k, .pointer (some (a.add (k * 28))), .agg (opC o).toArray, .pointer (some ⟨g55, 3, none⟩), .int .i64 o.d, .bool false, us 16, us 17, us 18, us 19, .int .i64 (k + 1 : Nat), us 21, us 22, us 23, us 24] : Array Value).getD us_ undef, rfl, C0, SL, FX, Lib.hid (by have h := OT.out; rw [HDN.out]; exact h), Lib.hid ⟨by have := hlt.out; omega, by have := hlt.out; have := hk.out; omega⟩, hbx, Lib.hid (hxr.out)⟩)
  · have D9 := Lib.hid (show ¬ k < L.length by have := hk.out; omega)
    have HE := Lib.hid h
    clear h
    refine s_ (fun K67 hK67 => ?_)
    refine pu_ (v := .bool false) (y_run (by rfl) (fun W => by have d := D9.out; go_simp)) ?_
    (try simp only [zP, zN, zA, zB, zC])
    refine nl_ (hK67 _ _ ?_); clear hK67 K67
    refine sq_ (fun K68 hK68 => ?_)
    refine wp_cond_false rfl ?_
    refine wp_exit ?_
    refine th_exit ?_
    refine th_exit ?_
    refine ib_exit ?_
    refine th_norm (hK11 _ _ ?_); try clear hK11 K11
    rcases Nat.lt_or_ge 0 (doneI L L.length).length with h | h
    · have HXL := Lib.hid (show doneI L k = doneI L L.length by rw [HE.out])
      obtain ⟨X, hX⟩ : ∃ X, doneI L L.length = X := ⟨_, rfl⟩
      have HX := Lib.hid hX
      have HIN := Lib.hid (show ∀ z ∈ X, inL L z from by rw [← hX]; exact done_in)
      have HRI := Lib.hid (show X.Pairwise (· < ·) from by rw [← hX]; exact done_rise L _)
      have OX := Lib.hid (show OwnS w13 w.heap.size 3 1 vt X.length (X.map vi) from by have h := OT.out; rw [HXL.out, hX] at h; exact h)
      have HXN := Lib.hid (show X.length ≤ 30 from by rw [← hX]; exact Nat.le_trans (done_len _ _) HP.out)
      clear OT hX
      have hpos := Lib.hid (show 0 < X.length by rw [← HX.out]; exact h)
      clear h
      obtain ⟨gx, cx, hv, -, -, -, -, -⟩ := OX.out.some_ hpos.out
      subst hv
      have hpl := Lib.hid (show 0 < L.length from Nat.lt_of_lt_of_le hpos.out (by rw [← HX.out]; exact done_len _ _))
      obtain ⟨a, hsm_a⟩ := src_some SL.out (hpl.out)
      subst hsm_a
      refine s_ (fun K69 hK69 => ?_)
      refine pu_ (v := .slice (some ⟨gx, 0, none⟩) X.length cx) (y_move rfl (by rfl) (by rfl)) ?_
      (try simp only [zP, zN, zA, zB, zC])
      refine pu_ (v := .func (.func 54) #[] #[.pointer (some ⟨bx, 0, none⟩)]) (y_run (by rfl) (fun W => by first | (go_simp; done) | (go_simp; rfl))) ?_
      (try simp only [zP, zN, zA, zB, zC])
      refine ef_ (fun K70 hK70 => ?_)
      refine e_call Try.func53 (by kernel_rfl) rfl #[.slice (some ⟨gx, 0, none⟩) X.length cx, .func (.func 54) #[] #[.pointer (some ⟨bx, 0, none⟩)]] (by rfl) rfl rfl (by first | rfl | (simp only [List.map_toArray, List.map_cons, List.map_nil]; first | done | rfl)) ((sortst_ (n := X.length) HXN (Lib.hid rfl) HIN HRI (Lib.hid (hxr.out)) FX SL OX)) ?_
      rintro en w71 ⟨rfl, X2, H20, O2, cc⟩
      refine ⟨_, rfl, ?_⟩
      have C0' := Lib.hid (show Ch [] w w71 from C0.out.trans' cc (fun x hx => .inr (OX.out.lt x hx).1))
      have SL' := Lib.hid (show SrcIs w71 (.slice (some a) L.length c) (L.length) ((L).flatMap opC) 28 from SL.out.chx cc hxr.out)
      have FX' := Lib.hid (show Blk w71 bx (#[.slice (some a) L.length c]) 45 from cc.blk FX.out (OX.out.ne FX.out (by decide)))
      clear C0 SL FX
      have C0 := C0'; clear C0'
      have SL := SL'; clear SL'
      have FX := FX'; clear FX'
      clear OX
      clear cc
      have OX := Lib.hid (show OwnS w71 w.heap.size 3 1 (.slice (some ⟨gx, 0, none⟩) X.length cx) (X.length) (X2.map vi) from O2)
      have H2 := Lib.hid H20; clear H20
      refine hK70 _ _ ?_; clear hK70 K70
      (try simp only [zP, zN, zA, zB, zC])
      refine nl_ (hK69 _ _ ?_); clear hK69 K69
      refine s_ (fun K72 hK72 => ?_)
      refine pu_ (v := .slice (some ⟨gx, 0, none⟩) X.length cx) (y_move rfl (by rfl) (by rfl)) ?_
      (try simp only [zP, zN, zA, zB, zC])
      refine pu_ (v := .slice (some ⟨gx, 0, none⟩) X.length cx) (y_assign rfl (by rfl) (by rfl)) ?_
      (try simp only [zP, zN, zA, zB, zC])
      refine nl_ (hK72 _ _ ?_); clear hK72 K72
      refine wp_ret ?_
      refine hQ _ _ _ ?_
      refine bodyPost_ret (res1 rfl (rdv_tmp (v := .slice (some ⟨gx, 0, none⟩) X.length cx) (by rfl))) rfl ?_
      exact ⟨_, X2, rfl, own_len OX.out H2.out.1.length_eq.symm, by rw [HX.out]; exact H2.out, C0.out⟩
    · have HXL := Lib.hid (show doneI L k = doneI L L.length by rw [HE.out])
      obtain ⟨X, hX⟩ : ∃ X, doneI L L.length = X := ⟨_, rfl⟩
      have HX := Lib.hid hX
      have HIN := Lib.hid (show ∀ z ∈ X, inL L z from by rw [← hX]; exact done_in)
      have HRI := Lib.hid (show X.Pairwise (· < ·) from by rw [← hX]; exact done_rise L _)
      have OX := Lib.hid (show OwnS w13 w.heap.size 3 1 vt X.length (X.map vi) from by have h := OT.out; rw [HXL.out, hX] at h; exact h)
      have HXN := Lib.hid (show X.length ≤ 30 from by rw [← hX]; exact Nat.le_trans (done_len _ _) HP.out)
      clear OT hX
      have hz : X.length = 0 := by rw [← HX.out]; omega
      have HX0 := Lib.hid (List.eq_nil_of_length_eq_zero hz)
      obtain ⟨Av, cv, hv, -, -⟩ := OX.out.slice
      rw [hz] at hv
      subst hv
      clear h hz
      refine s_ (fun K73 hK73 => ?_)
      refine pu_ (v := .slice Av 0 cv) (y_move rfl (by rfl) (by rfl)) ?_
      (try simp only [zP, zN, zA, zB, zC])
      refine pu_ (v := .func (.func 54) #[] #[.pointer (some ⟨bx, 0, none⟩)]) (y_run (by rfl) (fun W => by first | (go_simp; done) | (go_simp; rfl))) ?_
      (try simp only [zP, zN, zA, zB, zC])
      refine ef_ (fun K74 hK74 => ?_)
      refine e_call Try.func53 (by kernel_rfl) rfl #[.slice Av 0 cv, .func (.func 54) #[] #[.pointer (some ⟨bx, 0, none⟩)]] (by rfl) rfl rfl (by first | rfl | (simp only [List.map_toArray, List.map_cons, List.map_nil]; first | done | rfl)) (sortst_nil) ?_
      rintro en w76 ⟨rfl, cc75⟩
      refine ⟨_, rfl, ?_⟩
      have C0' := Lib.hid (show Ch [] w w76 from C0.out.trans' cc75 (fun x hx => absurd hx (by simp)))
      have SL' := Lib.hid (show SrcIs w76 (.slice A L.length c) (L.length) ((L).flatMap opC) 28 from SL.out.chx cc75 xnin_nil)
      have FX' := Lib.hid (show Blk w76 bx (#[.slice A L.length c]) 45 from cc75.blk FX.out nin_nil)
      have OX' := Lib.hid (show OwnS w76 w.heap.size 3 1 (.slice Av 0 cv) (X.length) (X.map vi) from OX.out.ch cc75 rnin_nil)
      clear C0 SL FX OX
      have C0 := C0'; clear C0'
      have SL := SL'; clear SL'
      have FX := FX'; clear FX'
      have OX := OX'; clear OX'
      clear cc75
      refine hK74 _ _ ?_; clear hK74 K74
      (try simp only [zP, zN, zA, zB, zC])
      refine nl_ (hK73 _ _ ?_); clear hK73 K73
      refine s_ (fun K77 hK77 => ?_)
      refine pu_ (v := .slice Av 0 cv) (y_move rfl (by rfl) (by rfl)) ?_
      (try simp only [zP, zN, zA, zB, zC])
      refine pu_ (v := .slice Av 0 cv) (y_assign rfl (by rfl) (by rfl)) ?_
      (try simp only [zP, zN, zA, zB, zC])
      refine nl_ (hK77 _ _ ?_); clear hK77 K77
      refine wp_ret ?_
      refine hQ _ _ _ ?_
      refine bodyPost_ret (res1 rfl (rdv_tmp (v := .slice Av 0 cv) (by rfl))) rfl ?_
      exact ⟨_, [], rfl, own_zero OX.out HX0.out, by rw [HX.out, HX0.out]; exact sorts_nil L, C0.out⟩
theorem index_ {B : Option Addr} {d : Nat} {M : List Int} {z : Int} (HM : Hid (M.length ≤ 1000)) (SM : Hid (SrcIs w (.slice B M.length d) (M.length) ((M).map (Value.int .i64)) 1)) :
    Calls Try.prog 64 #[.slice B M.length d, .int .i64 z] w fun en w' => ∃ r, en = .returned (.int .i64 r) ∧ (0 ≤ r ↔ z ∈ M) ∧ Ch [] w w' := by
  have C0 := Lib.hid (Ch.refl [] w)
  go_enter Try.func64, Try.ntmps64
  refine q_ (fun Q hQ hP => ?_)
  refine s_ (fun K1 hK1 => ?_)
  refine pu_ (v := .int .i64 0) (y_assign rfl (by rfl) (by rfl)) ?_
  (try simp only [zP, zN, zA, zB, zC])
  refine nl_ (hK1 _ _ ?_); clear hK1 K1
  refine sq_ (fun K2 hK2 => ?_)
  refine s_ (fun K3 hK3 => ?_)
  refine pu_ (v := .slice B M.length d) (y_move rfl (by rfl) (by rfl)) ?_
  (try simp only [zP, zN, zA, zB, zC])
  refine pu_ (v := .int .i64 M.length) (y_run (by rfl) (fun W => by go_simp)) ?_
  (try simp only [zP, zN, zA, zB, zC])
  refine pu_ (v := .int .i64 0) (y_move rfl (by rfl) (by rfl)) ?_
  (try simp only [zP, zN, zA, zB, zC])
  refine nl_ (hK3 _ _ ?_); clear hK3 K3
  refine wp_block ?_
  refine loopk_ (fun (kq : Nat) (a' : Act) (w' : World) => ∃ (k : Nat), ∃ (us : Nat → Value), a' = ⟨#[.slice B M.length d, .int .i64 z, us 2, us 3, .int .i64 0, us 5, .slice B M.length d, .int .i64 M.length, .int .i64 k, us 9, us 10, us 11, us 12, us 13, us 14, us 15, us 16, us 17, us 18], []⟩ ∧ Hid (Ch [] w w') ∧ Hid (SrcIs w' (.slice B M.length d) (M.length) ((M).map (Value.int .i64)) 1) ∧ Hid (k ≤ M.length ∧ kq + k = M.length) ∧ Hid (¬ z ∈ M.take k)) (M.length) (⟨0, fun us_ => (#[.slice B M.length d, .int .i64 z, undef, undef, .int .i64 0, undef, .slice B M.length d, .int .i64 M.length, .int .i64 0, undef, undef, undef, undef, undef, undef, undef, undef, undef, undef] : Array Value).getD us_ undef, rfl, C0, SM, Lib.hid ⟨by omega, by omega⟩, Lib.hid (by simp)⟩) ?_
  rintro kq _ w4 ⟨k, us, rfl, C0, SM, hk, hm⟩ K5 hK5
  rcases at_ways hk.out.1 with ⟨q, hlt0, ho0⟩ | h; rcases Classical.em (z = q) with h | h
  · have hlt := Lib.hid hlt0
    have ho := Lib.hid ho0
    have heq := Lib.hid h
    clear hlt0 ho0 h
    obtain ⟨b, hsm_b⟩ := src_some SM.out (by have := hlt.out; omega)
    subst hsm_b
    have D9 := Lib.hid (show (k : Int) < (M.length : Int) by have := hlt.out; omega)
    have Wk := Lib.hid (show IntKind.i64.wrap ((k : Int) + 1) = ((k + 1 : Nat) : Int) by rw [wr64 (by have := hlt.out; have := HM.out; omega)]; omega)
    have D16 := Lib.hid (show (z == q) = true from beq_iff_eq.2 heq.out)
    have HR := Lib.hid (show (0 : Int) ≤ (k : Int) ↔ z ∈ M from ⟨fun _ => by rw [heq.out]; exact List.mem_of_getElem? ho.out, fun _ => by omega⟩)
    refine s_ (fun K6 hK6 => ?_)
    refine pu_ (v := .bool true) (y_run (by rfl) (fun W => by have d := D9.out; go_simp)) ?_
    (try simp only [zP, zN, zA, zB, zC])
    refine nl_ (hK6 _ _ ?_); clear hK6 K6
    refine sq_ (fun K7 hK7 => ?_)
    refine wp_cond_true rfl ?_
    refine wp_skip ?_
    refine th_norm (hK7 _ _ ?_); try clear hK7 K7
    refine sq_ (fun K8 hK8 => ?_)
    refine wp_block ?_
    refine s_ (fun K9 hK9 => ?_)
    refine pu_ (v := .int .i64 k) (y_move rfl (by rfl) (by rfl)) ?_
    (try simp only [zP, zN, zA, zB, zC])
    refine pu_ (v := .int .i64 k) (y_assign rfl (by rfl) (by rfl)) ?_
    (try simp only [zP, zN, zA, zB, zC])
    refine nl_ (hK9 _ _ ?_); clear hK9 K9
    refine s_ (fun K10 hK10 => ?_)
    refine pu_ (v := .int .i64 z) (y_move rfl (by rfl) (by rfl)) ?_
    (try simp only [zP, zN, zA, zB, zC])
    refine pu_ (v := .slice (some b) M.length d) (y_move rfl (by rfl) (by rfl)) ?_
    (try simp only [zP, zN, zA, zB, zC])
    refine pu_ (v := .int .i64 k) (y_move rfl (by rfl) (by rfl)) ?_
    (try simp only [zP, zN, zA, zB, zC])
    refine pu_ (v := .pointer (some (b.add (k)))) (y_run (by rfl) (fun W => by have d := D9.out; go_simp)) ?_
    (try simp only [zP, zN, zA, zB, zC])
    refine ld_ (v := .int .i64 q) rfl (by rfl) (by rfl) (run_load_one (src_int SM.out ho.out) Try.underlying3 rfl) ?_
    (try simp only [zP, zN, zA, zB, zC])
    refine pu_ (v := .bool true) (y_run (by rfl) (fun W => by have d := D16.out; go_simp)) ?_
    (try simp only [zP, zN, zA, zB, zC])
    refine nl_ (hK10 _ _ ?_); clear hK10 K10
    refine wp_cond_true rfl ?_
    refine s_ (fun K11 hK11 => ?_)
    refine pu_ (v := .int .i64 k) (y_move rfl (by rfl) (by rfl)) ?_
    (try simp only [zP, zN, zA, zB, zC])
    refine pu_ (v := .int .i64 k) (y_assign rfl (by rfl) (by rfl)) ?_
    (try simp only [zP, zN, zA, zB, zC])
    refine nl_ (hK11 _ _ ?_); clear hK11 K11
    refine wp_ret ?_
    refine ib_ret ?_
    refine th_ret ?_
    refine th_ret ?_
    refine ib_ret ?_
    refine th_ret ?_
    refine hQ _ _ _ ?_
    refine bodyPost_ret (res1 rfl (rdv_tmp (v := .int .i64 k) (by rfl))) rfl ?_
    exact ⟨_, rfl, HR.out, C0.out⟩
  · have hlt := Lib.hid hlt0
    have ho := Lib.hid ho0
    have heq := Lib.hid h
    clear hlt0 ho0 h
    obtain ⟨b, hsm_b⟩ := src_some SM.out (by have := hlt.out; omega)
    subst hsm_b
    have D9 := Lib.hid (show (k : Int) < (M.length : Int) by have := hlt.out; omega)
    have Wk := Lib.hid (show IntKind.i64.wrap ((k : Int) + 1) = ((k + 1 : Nat) : Int) by rw [wr64 (by have := hlt.out; have := HM.out; omega)]; omega)
    have D16 := Lib.hid (show (z == q) = false from beq_eq_false_iff_ne.2 heq.out)
    refine s_ (fun K12 hK12 => ?_)
    refine pu_ (v := .bool true) (y_run (by rfl) (fun W => by have d := D9.out; go_simp)) ?_
    (try simp only [zP, zN, zA, zB, zC])
    refine nl_ (hK12 _ _ ?_); clear hK12 K12
    refine sq_ (fun K13 hK13 => ?_)
    refine wp_cond_true rfl ?_
    refine wp_skip ?_
    refine th_norm (hK13 _ _ ?_); try clear hK13 K13
    refine sq_ (fun K14 hK14 => ?_)
    refine wp_block ?_
    refine s_ (fun K15 hK15 => ?_)
    refine pu_ (v := .int .i64 k) (y_move rfl (by rfl) (by rfl)) ?_
    (try simp only [zP, zN, zA, zB, zC])
    refine pu_ (v := .int .i64 k) (y_assign rfl (by rfl) (by rfl)) ?_
    (try simp only [zP, zN, zA, zB, zC])
    refine nl_ (hK15 _ _ ?_); clear hK15 K15
    refine s_ (fun K16 hK16 => ?_)
    refine pu_ (v := .int .i64 z) (y_move rfl (by rfl) (by rfl)) ?_
    (try simp only [zP, zN, zA, zB, zC])
    refine pu_ (v := .slice (some b) M.length d) (y_move rfl (by rfl) (by rfl)) ?_
    (try simp only [zP, zN, zA, zB, zC])
    refine pu_ (v := .int .i64 k) (y_move rfl (by rfl) (by rfl)) ?_
    (try simp only [zP, zN, zA, zB, zC])
    refine pu_ (v := .pointer (some (b.add (k)))) (y_run (by rfl) (fun W => by have d := D9.out; go_simp)) ?_
    (try simp only [zP, zN, zA, zB, zC])
    refine ld_ (v := .int .i64 q) rfl (by rfl) (by rfl) (run_load_one (src_int SM.out ho.out) Try.underlying3 rfl) ?_
    (try simp only [zP, zN, zA, zB, zC])
    refine pu_ (v := .bool false) (y_run (by rfl) (fun W => by have d := D16.out; go_simp)) ?_
    (try simp only [zP, zN, zA, zB, zC])
    refine nl_ (hK16 _ _ ?_); clear hK16 K16
    refine wp_cond_false rfl ?_
    refine wp_skip ?_
    refine ib_norm ?_
    refine th_norm (hK14 _ _ ?_); try clear hK14 K14
    refine r_ ?_
    refine pu_ (v := .int .i64 (k + 1 : Nat)) (y_run (by rfl) (fun W => by have d := Wk.out; go_simp)) ?_
    (try simp only [zP, zN, zA, zB, zC])
    refine pu_ (v := .int .i64 (k + 1 : Nat)) (y_move rfl (by rfl) (by rfl)) ?_
    (try simp only [zP, zN, zA, zB, zC])
    refine nl_ ?_
    exact th_norm (hK5 (kq - 1) _ _ (by have := hlt.out; have := hk.out; omega) ⟨k + 1, fun us_ => (#[.slice (some b) M.length d, .int .i64 z, us 2, us 3, .int .i64 0, .int .i64 k, .slice (some b) M.length d, .int .i64 M.length, .int .i64 (k + 1 : Nat), .bool true, .int .i64 k, .int .i64 z, .slice (some b) M.length d, .int .i64 k, .pointer (some (b.add (k))), .int .i64 q, .bool false, us 17, .int .i64 (k + 1 : Nat)] : Array Value).getD us_ undef, rfl, C0, SM, Lib.hid ⟨by have := hlt.out; omega, by have := hlt.out; have := hk.out; omega⟩, Lib.hid (by rw [take_snoc ho.out, List.mem_append, List.mem_singleton]; exact fun h9 => h9.elim hm.out heq.out)⟩)
  · have D9 := Lib.hid (show ¬ k < M.length by have := hk.out; omega)
    have HR := Lib.hid (show (0 : Int) ≤ -1 ↔ z ∈ M from ⟨fun h9 => absurd h9 (by decide), fun h9 => absurd (show z ∈ M.take k by rw [h, List.take_length]; exact h9) hm.out⟩)
    clear h
    refine s_ (fun K17 hK17 => ?_)
    refine pu_ (v := .bool false) (y_run (by rfl) (fun W => by have d := D9.out; go_simp)) ?_
    (try simp only [zP, zN, zA, zB, zC])
    refine nl_ (hK17 _ _ ?_); clear hK17 K17
    refine sq_ (fun K18 hK18 => ?_)
    refine wp_cond_false rfl ?_
    refine wp_exit ?_
    refine th_exit ?_
    refine th_exit ?_
    refine ib_exit ?_
    refine th_norm (hK2 _ _ ?_); try clear hK2 K2
    refine s_ (fun K19 hK19 => ?_)
    refine pu_ (v := .int .i64 (-1)) (y_assign rfl (by rfl) (by rfl)) ?_
    (try simp only [zP, zN, zA, zB, zC])
    refine nl_ (hK19 _ _ ?_); clear hK19 K19
    refine wp_ret ?_
    refine hQ _ _ _ ?_
    refine bodyPost_ret (res1 rfl (rdv_tmp (v := .int .i64 (-1)) (by rfl))) rfl ?_
    exact ⟨_, rfl, HR.out, C0.out⟩
theorem ixT {f : FuncId} {args : Array Value} {p : Prop} (h : Calls Try.prog f args w fun en w' => ∃ r : Int, en = .returned (.int .i64 r) ∧ (0 ≤ r ↔ p) ∧ Ch [] w w') : Calls Try.prog f args w fun en w' => ∃ r : Int, en = .returned (.int .i64 r) ∧ (0 ≤ r ↔ p) ∧ Ch [] w w' := h
theorem contains_ {B : Option Addr} {d : Nat} {M : List Int} {z : Int} (HM : Hid (M.length ≤ 1000)) (SM : Hid (SrcIs w (.slice B M.length d) (M.length) ((M).map (Value.int .i64)) 1)) :
    Calls Try.prog 56 #[.slice B M.length d, .int .i64 z] w fun en w' => ∃ b, en = .returned (.bool b) ∧ (b = true ↔ z ∈ M) ∧ Ch [] w w' := by
  have C0 := Lib.hid (Ch.refl [] w)
  go_enter Try.func56, Try.ntmps56
  refine q_ (fun Q hQ hP => ?_)
  refine s_ (fun K1 hK1 => ?_)
  refine pu_ (v := .bool false) (y_assign rfl (by rfl) (by rfl)) ?_
  (try simp only [zP, zN, zA, zB, zC])
  refine nl_ (hK1 _ _ ?_); clear hK1 K1
  rcases Classical.em (z ∈ M) with h | h
  · have hmem := Lib.hid h
    clear h
    refine s_ (fun K2 hK2 => ?_)
    refine pu_ (v := .slice B M.length d) (y_move rfl (by rfl) (by rfl)) ?_
    (try simp only [zP, zN, zA, zB, zC])
    refine pu_ (v := .int .i64 z) (y_move rfl (by rfl) (by rfl)) ?_
    (try simp only [zP, zN, zA, zB, zC])
    refine ef_ (fun K3 hK3 => ?_)
    refine e_call Try.func64 (by kernel_rfl) rfl #[.slice B M.length d, .int .i64 z] (by rfl) rfl rfl (by first | rfl | (simp only [List.map_toArray, List.map_cons, List.map_nil]; first | done | rfl)) (index_ HM SM) ?_
    rintro en w4 ⟨r, rfl, hr0, cc⟩
    refine ⟨_, rfl, ?_⟩
    have C0' := Lib.hid (show Ch [] w w4 from C0.out.trans' cc (fun x hx => absurd hx (by simp)))
    have SM' := Lib.hid (show SrcIs w4 (.slice B M.length d) (M.length) ((M).map (Value.int .i64)) 1 from SM.out.chx cc xnin_nil)
    clear C0 SM
    have C0 := C0'; clear C0'
    have SM := SM'; clear SM'
    clear cc
    have D8 := Lib.hid (show decide (r ≥ 0) = true from decide_eq_true (hr0.2 hmem.out))
    clear hr0
    refine hK3 _ _ ?_; clear hK3 K3
    (try simp only [zP, zN, zA, zB, zC])
    refine pu_ (v := .bool true) (y_run (by rfl) (fun W => by have d := D8.out; go_simp)) ?_
    (try simp only [zP, zN, zA, zB, zC])
    refine pu_ (v := .bool true) (y_assign rfl (by rfl) (by rfl)) ?_
    (try simp only [zP, zN, zA, zB, zC])
    refine nl_ (hK2 _ _ ?_); clear hK2 K2
    refine wp_ret ?_
    refine hQ _ _ _ ?_
    refine bodyPost_ret (res1 rfl (rdv_tmp (v := .bool true) (by rfl))) rfl ?_
    exact ⟨_, rfl, ⟨fun _ => hmem.out, fun _ => rfl⟩, C0.out⟩
  · have hmem := Lib.hid h
    clear h
    refine s_ (fun K5 hK5 => ?_)
    refine pu_ (v := .slice B M.length d) (y_move rfl (by rfl) (by rfl)) ?_
    (try simp only [zP, zN, zA, zB, zC])
    refine pu_ (v := .int .i64 z) (y_move rfl (by rfl) (by rfl)) ?_
    (try simp only [zP, zN, zA, zB, zC])
    refine ef_ (fun K6 hK6 => ?_)
    refine e_call Try.func64 (by kernel_rfl) rfl #[.slice B M.length d, .int .i64 z] (by rfl) rfl rfl (by first | rfl | (simp only [List.map_toArray, List.map_cons, List.map_nil]; first | done | rfl)) (index_ HM SM) ?_
    rintro en w7 ⟨r, rfl, hr0, cc⟩
    refine ⟨_, rfl, ?_⟩
    have C0' := Lib.hid (show Ch [] w w7 from C0.out.trans' cc (fun x hx => absurd hx (by simp)))
    have SM' := Lib.hid (show SrcIs w7 (.slice B M.length d) (M.length) ((M).map (Value.int .i64)) 1 from SM.out.chx cc xnin_nil)
    clear C0 SM
    have C0 := C0'; clear C0'
    have SM := SM'; clear SM'
    clear cc
    have D8 := Lib.hid (show decide (r ≥ 0) = false from decide_eq_false (fun h9 => hmem.out (hr0.1 h9)))
    clear hr0
    refine hK6 _ _ ?_; clear hK6 K6
    (try simp only [zP, zN, zA, zB, zC])
    refine pu_ (v := .bool false) (y_run (by rfl) (fun W => by have d := D8.out; go_simp)) ?_
    (try simp only [zP, zN, zA, zB, zC])
    refine pu_ (v := .bool false) (y_assign rfl (by rfl) (by rfl)) ?_
    (try simp only [zP, zN, zA, zB, zC])
    refine nl_ (hK5 _ _ ?_); clear hK5 K5
    refine wp_ret ?_
    refine hQ _ _ _ ?_
    refine bodyPost_ret (res1 rfl (rdv_tmp (v := .bool false) (by rfl))) rfl ?_
    exact ⟨_, rfl, ⟨fun h9 => absurd h9 (by decide), fun h9 => absurd h9 hmem.out⟩, C0.out⟩
theorem whole_ {A B : Option Addr} {c d : Nat} {L : List HOp} {M : List Int} (HN : Hid (L.length ≤ 1000)) (HM : Hid (M.length ≤ 1000)) (SL : Hid (SrcIs w (.slice A L.length c) (L.length) ((L).flatMap opC) 28)) (SM : Hid (SrcIs w (.slice B M.length d) (M.length) ((M).map (Value.int .i64)) 1)) :
    Calls Try.prog 40 #[.slice A L.length c, .slice B M.length d] w fun en w' => ∃ b, en = .returned (.bool b) ∧ (b = true ↔ wholeP L M) ∧ Ch [] w w' := by
  have C0 := Lib.hid (Ch.refl [] w)
  go_enter Try.func40, Try.ntmps40
  refine q_ (fun Q hQ hP => ?_)
  refine s_ (fun K1 hK1 => ?_)
  refine pu_ (v := .bool false) (y_assign rfl (by rfl) (by rfl)) ?_
  (try simp only [zP, zN, zA, zB, zC])
  refine nl_ (hK1 _ _ ?_); clear hK1 K1
  refine sq_ (fun K2 hK2 => ?_)
  refine s_ (fun K3 hK3 => ?_)
  refine pu_ (v := .slice A L.length c) (y_move rfl (by rfl) (by rfl)) ?_
  (try simp only [zP, zN, zA, zB, zC])
  refine pu_ (v := .int .i64 L.length) (y_run (by rfl) (fun W => by go_simp)) ?_
  (try simp only [zP, zN, zA, zB, zC])
  refine pu_ (v := .int .i64 0) (y_move rfl (by rfl) (by rfl)) ?_
  (try simp only [zP, zN, zA, zB, zC])
  refine nl_ (hK3 _ _ ?_); clear hK3 K3
  refine wp_block ?_
  refine loopk_ (fun (kq : Nat) (a' : Act) (w' : World) => ∃ (k : Nat), ∃ (us : Nat → Value), a' = ⟨#[.slice A L.length c, .slice B M.length d, us 2, us 3, .bool false, us 5, us 6, .slice A L.length c, .int .i64 L.length, .int .i64 k, us 10, us 11, us 12, us 13, us 14, us 15, us 16, us 17, us 18, us 19, us 20, us 21, us 22, us 23], []⟩ ∧ Hid (Ch [] w w') ∧ Hid (SrcIs w' (.slice A L.length c) (L.length) ((L).flatMap opC) 28) ∧ Hid (SrcIs w' (.slice B M.length d) (M.length) ((M).map (Value.int .i64)) 1) ∧ Hid (k ≤ L.length ∧ kq + k = L.length) ∧ Hid (wholeP (L.take k) M)) (L.length) (⟨0, fun us_ => (#[.slice A L.length c, .slice B M.length d, undef, undef, .bool false, undef, undef, .slice A L.length c, .int .i64 L.length, .int .i64 0, undef, undef, undef, undef, undef, undef, undef, undef, undef, undef, undef, undef, undef, undef] : Array Value).getD us_ undef, rfl, C0, SL, SM, Lib.hid ⟨by omega, by omega⟩, Lib.hid (whole_nil M)⟩) ?_
  rintro kq _ w4 ⟨k, us, rfl, C0, SL, SM, hk, hw⟩ K5 hK5
  rcases at_ways hk.out.1 with ⟨o, hlt0, ho0⟩ | h; rcases whole_ways o.t M k with h | h | h
  · have hlt := Lib.hid hlt0
    have ho := Lib.hid ho0
    have hc := Lib.hid h
    clear hlt0 ho0 h
    obtain ⟨a, hsm_a⟩ := src_some SL.out (by have := hlt.out; omega)
    subst hsm_a
    have D10 := Lib.hid (show (k : Int) < (L.length : Int) by have := hlt.out; omega)
    have Wk := Lib.hid (show IntKind.i64.wrap ((k : Int) + 1) = ((k + 1 : Nat) : Int) by rw [wr64 (by have := hlt.out; have := HN.out; omega)]; omega)
    have D16 := Lib.hid (show decide (o.t > 0) = false from decide_eq_false hc.out)
    refine s_ (fun K6 hK6 => ?_)
    refine pu_ (v := .bool true) (y_run (by rfl) (fun W => by have d := D10.out; go_simp)) ?_
    (try simp only [zP, zN, zA, zB, zC])
    refine nl_ (hK6 _ _ ?_); clear hK6 K6
    refine sq_ (fun K7 hK7 => ?_)
    refine wp_cond_true rfl ?_
    refine wp_skip ?_
    refine th_norm (hK7 _ _ ?_); try clear hK7 K7
    refine sq_ (fun K8 hK8 => ?_)
    refine wp_block ?_
    refine s_ (fun K9 hK9 => ?_)
    refine pu_ (v := .int .i64 k) (y_move rfl (by rfl) (by rfl)) ?_
    (try simp only [zP, zN, zA, zB, zC])
    refine pu_ (v := .pointer (some (a.add (k * 28)))) (y_run (by rfl) (fun W => by have d := D10.out; go_simp)) ?_
    (try simp only [zP, zN, zA, zB, zC])
    refine ld_ (v := .agg (opC o).toArray) rfl (by rfl) (by rfl) (run_loadVar_at (src_elem SL.out ho.out) Try.underlying49 rfl (by rw [opC_len]; kernel_rfl)) ?_
    (try simp only [zP, zN, zA, zB, zC])
    refine ef_ (fun K10 hK10 => ?_)
    refine e_alloc (by rfl) rfl rfl (cs := #[.int .i64 0, .int .i64 0, .int .i64 0, .int .i64 0, .int .i64 0, .int .i64 0, .int .i64 0, .int .u64 0, .string ⟨#[]⟩, .slice none 0 0, .slice none 0 0, .slice none 0 0, .int .i64 0, .int .i64 0, .int .i64 0, .int .i64 0, .int .i64 0, .int .i64 0, .int .i64 0, .string ⟨#[]⟩, .slice none 0 0, .int .i64 0, .int .i64 0, .int .i64 0, .int .u64 0, .string ⟨#[]⟩, .slice none 0 0, .slice none 0 0]) (by kernel_rfl) ?_
    rintro g11 w12 HG13 B14 C15
    have nw16 := Lib.hid (show w.heap.size ≤ g11 by have := C0.out.size; have := HG13.out; omega)
    have nx17 := Lib.hid (SL.out.ne_new (by decide) HG13)
    have nx18 := Lib.hid (SM.out.ne_new (by decide) HG13)
    have C0' := Lib.hid (show Ch [] w w12 from C0.out.trans' C15 (fun x hx => absurd hx (by simp)))
    have SL' := Lib.hid (show SrcIs w12 (.slice (some a) L.length c) (L.length) ((L).flatMap opC) 28 from SL.out.chx C15 xnin_nil)
    have SM' := Lib.hid (show SrcIs w12 (.slice B M.length d) (M.length) ((M).map (Value.int .i64)) 1 from SM.out.chx C15 xnin_nil)
    clear C0 SL SM
    have C0 := C0'; clear C0'
    have SL := SL'; clear SL'
    have SM := SM'; clear SM'
    have Fg11 := Lib.hid (show Blk w12 g11 (#[.int .i64 0, .int .i64 0, .int .i64 0, .int .i64 0, .int .i64 0, .int .i64 0, .int .i64 0, .int .u64 0, .string ⟨#[]⟩, .slice none 0 0, .slice none 0 0, .slice none 0 0, .int .i64 0, .int .i64 0, .int .i64 0, .int .i64 0, .int .i64 0, .int .i64 0, .int .i64 0, .string ⟨#[]⟩, .slice none 0 0, .int .i64 0, .int .i64 0, .int .i64 0, .int .u64 0, .string ⟨#[]⟩, .slice none 0 0, .slice none 0 0]) 49 from B14); clear B14 C15
    refine hK10 _ _ ?_; clear hK10 K10
    (try simp only [zP, zN, zA, zB, zC])
    refine pu_ (v := .int .i64 k) (y_assign rfl (by rfl) (by rfl)) ?_
    (try simp only [zP, zN, zA, zB, zC])
    refine ef_ (fun K19 hK19 => ?_)
    refine e_storeN (cells := (opC o).toArray) (by rfl) rfl rfl (by rfl) (by rfl) Fg11.out (sz49 o) (by rw [show (opC o).toArray.size = 28 by rw [List.size_toArray, opC_len]]; rfl) (by simpa using opC_one o) ?_
    rintro w20 B21 C22
    have C0' := Lib.hid (show Ch [] w w20 from C0.out.trans' C22 (inw_cons (.inr nw16.out) inw_nil))
    have SL' := Lib.hid (show SrcIs w20 (.slice (some a) L.length c) (L.length) ((L).flatMap opC) 28 from SL.out.chx C22 (xnin_cons nx17.out xnin_nil))
    have SM' := Lib.hid (show SrcIs w20 (.slice B M.length d) (M.length) ((M).map (Value.int .i64)) 1 from SM.out.chx C22 (xnin_cons nx18.out xnin_nil))
    clear C0 SL SM
    have C0 := C0'; clear C0'
    have SL := SL'; clear SL'
    have SM := SM'; clear SM'
    clear Fg11; have Fg11 := Lib.hid (show Blk w20 g11 ((opC o).toArray) 49 from B21); clear B21 C22
    refine hK19 _ _ ?_; clear hK19 K19
    (try simp only [zP, zN, zA, zB, zC])
    refine nl_ (hK9 _ _ ?_); clear hK9 K9
    refine s_ (fun K23 hK23 => ?_)
    refine pu_ (v := .pointer (some ⟨g11, 4, none⟩)) (y_run (by rfl) (fun W => by go_simp)) ?_
    (try simp only [zP, zN, zA, zB, zC])
    refine ld_ (v := .int .i64 o.t) rfl (by rfl) (by rfl) (run_load_one ((Fg11.out.cell 4).trans (by simp [opC])) Try.underlying3 rfl) ?_
    (try simp only [zP, zN, zA, zB, zC])
    refine pu_ (v := .bool false) (y_run (by rfl) (fun W => by have d := D16.out; go_simp)) ?_
    (try simp only [zP, zN, zA, zB, zC])
    refine pu_ (v := .bool false) (y_move rfl (by rfl) (by rfl)) ?_
    (try simp only [zP, zN, zA, zB, zC])
    refine pu_ (y_off (by rfl)) ?_
    (try simp only [zP, zN, zA, zB, zC])
    refine pu_ (y_off (by rfl)) ?_
    (try simp only [zP, zN, zA, zB, zC])
    refine pu_ (y_off (by rfl)) ?_
    (try simp only [zP, zN, zA, zB, zC])
    refine pu_ (y_off (by rfl)) ?_
    (try simp only [zP, zN, zA, zB, zC])
    refine pu_ (v := .bool false) (y_pick (t := false) (by rfl) rfl (by rfl) (by rfl)) ?_
    (try simp only [zP, zN, zA, zB, zC])
    refine nl_ (hK23 _ _ ?_); clear hK23 K23
    refine wp_cond_false rfl ?_
    refine wp_skip ?_
    refine ib_norm ?_
    refine th_norm (hK8 _ _ ?_); try clear hK8 K8
    refine r_ ?_
    refine pu_ (v := .int .i64 (k + 1 : Nat)) (y_run (by rfl) (fun W => by have d := Wk.out; go_simp)) ?_
    (try simp only [zP, zN, zA, zB, zC])
    refine pu_ (v := .int .i64 (k + 1 : Nat)) (y_move rfl (by rfl) (by rfl)) ?_
    (try simp only [zP, zN, zA, zB, zC])
    refine nl_ ?_
    exact th_norm (hK5 (kq - 1) _ _ (by have := hlt.out; have := hk.out; omega) ⟨k + 1, fun us_ => (#[.slice (some a) L.length c, .slice B M.length d, us 2, us 3, .bool false, .int .i64 k, .pointer (some ⟨g11, 0, none⟩), .slice (some a) L.length c, .int .i64 L.length, .int .i64 (k + 1 : Nat), .bool true, .int .i64 k, .pointer (some (a.add (k * 28))), .agg (opC o).toArray, .pointer (some ⟨g11, 4, none⟩), .int .i64 o.t, .bool false, .bool false, undef, undef, undef, undef, .bool false, .int .i64 (k + 1 : Nat)] : Array Value).getD us_ undef, rfl, C0, SL, SM, Lib.hid ⟨by have := hlt.out; omega, by have := hlt.out; have := hk.out; omega⟩, Lib.hid (whole_snoc ho.out hw.out (fun h9 => absurd h9 hc.out))⟩)
  · have hlt := Lib.hid hlt0
    have ho := Lib.hid ho0
    have hc := Lib.hid h
    clear hlt0 ho0 h
    obtain ⟨a, hsm_a⟩ := src_some SL.out (by have := hlt.out; omega)
    subst hsm_a
    have D10 := Lib.hid (show (k : Int) < (L.length : Int) by have := hlt.out; omega)
    have Wk := Lib.hid (show IntKind.i64.wrap ((k : Int) + 1) = ((k + 1 : Nat) : Int) by rw [wr64 (by have := hlt.out; have := HN.out; omega)]; omega)
    have D16 := Lib.hid (show decide (o.t > 0) = true from decide_eq_true hc.out.1)
    refine s_ (fun K24 hK24 => ?_)
    refine pu_ (v := .bool true) (y_run (by rfl) (fun W => by have d := D10.out; go_simp)) ?_
    (try simp only [zP, zN, zA, zB, zC])
    refine nl_ (hK24 _ _ ?_); clear hK24 K24
    refine sq_ (fun K25 hK25 => ?_)
    refine wp_cond_true rfl ?_
    refine wp_skip ?_
    refine th_norm (hK25 _ _ ?_); try clear hK25 K25
    refine sq_ (fun K26 hK26 => ?_)
    refine wp_block ?_
    refine s_ (fun K27 hK27 => ?_)
    refine pu_ (v := .int .i64 k) (y_move rfl (by rfl) (by rfl)) ?_
    (try simp only [zP, zN, zA, zB, zC])
    refine pu_ (v := .pointer (some (a.add (k * 28)))) (y_run (by rfl) (fun W => by have d := D10.out; go_simp)) ?_
    (try simp only [zP, zN, zA, zB, zC])
    refine ld_ (v := .agg (opC o).toArray) rfl (by rfl) (by rfl) (run_loadVar_at (src_elem SL.out ho.out) Try.underlying49 rfl (by rw [opC_len]; kernel_rfl)) ?_
    (try simp only [zP, zN, zA, zB, zC])
    refine ef_ (fun K28 hK28 => ?_)
    refine e_alloc (by rfl) rfl rfl (cs := #[.int .i64 0, .int .i64 0, .int .i64 0, .int .i64 0, .int .i64 0, .int .i64 0, .int .i64 0, .int .u64 0, .string ⟨#[]⟩, .slice none 0 0, .slice none 0 0, .slice none 0 0, .int .i64 0, .int .i64 0, .int .i64 0, .int .i64 0, .int .i64 0, .int .i64 0, .int .i64 0, .string ⟨#[]⟩, .slice none 0 0, .int .i64 0, .int .i64 0, .int .i64 0, .int .u64 0, .string ⟨#[]⟩, .slice none 0 0, .slice none 0 0]) (by kernel_rfl) ?_
    rintro g29 w30 HG31 B32 C33
    have nw34 := Lib.hid (show w.heap.size ≤ g29 by have := C0.out.size; have := HG31.out; omega)
    have nx35 := Lib.hid (SL.out.ne_new (by decide) HG31)
    have nx36 := Lib.hid (SM.out.ne_new (by decide) HG31)
    have C0' := Lib.hid (show Ch [] w w30 from C0.out.trans' C33 (fun x hx => absurd hx (by simp)))
    have SL' := Lib.hid (show SrcIs w30 (.slice (some a) L.length c) (L.length) ((L).flatMap opC) 28 from SL.out.chx C33 xnin_nil)
    have SM' := Lib.hid (show SrcIs w30 (.slice B M.length d) (M.length) ((M).map (Value.int .i64)) 1 from SM.out.chx C33 xnin_nil)
    clear C0 SL SM
    have C0 := C0'; clear C0'
    have SL := SL'; clear SL'
    have SM := SM'; clear SM'
    have Fg29 := Lib.hid (show Blk w30 g29 (#[.int .i64 0, .int .i64 0, .int .i64 0, .int .i64 0, .int .i64 0, .int .i64 0, .int .i64 0, .int .u64 0, .string ⟨#[]⟩, .slice none 0 0, .slice none 0 0, .slice none 0 0, .int .i64 0, .int .i64 0, .int .i64 0, .int .i64 0, .int .i64 0, .int .i64 0, .int .i64 0, .string ⟨#[]⟩, .slice none 0 0, .int .i64 0, .int .i64 0, .int .i64 0, .int .u64 0, .string ⟨#[]⟩, .slice none 0 0, .slice none 0 0]) 49 from B32); clear B32 C33
    refine hK28 _ _ ?_; clear hK28 K28
    (try simp only [zP, zN, zA, zB, zC])
    refine pu_ (v := .int .i64 k) (y_assign rfl (by rfl) (by rfl)) ?_
    (try simp only [zP, zN, zA, zB, zC])
    refine ef_ (fun K37 hK37 => ?_)
    refine e_storeN (cells := (opC o).toArray) (by rfl) rfl rfl (by rfl) (by rfl) Fg29.out (sz49 o) (by rw [show (opC o).toArray.size = 28 by rw [List.size_toArray, opC_len]]; rfl) (by simpa using opC_one o) ?_
    rintro w38 B39 C40
    have C0' := Lib.hid (show Ch [] w w38 from C0.out.trans' C40 (inw_cons (.inr nw34.out) inw_nil))
    have SL' := Lib.hid (show SrcIs w38 (.slice (some a) L.length c) (L.length) ((L).flatMap opC) 28 from SL.out.chx C40 (xnin_cons nx35.out xnin_nil))
    have SM' := Lib.hid (show SrcIs w38 (.slice B M.length d) (M.length) ((M).map (Value.int .i64)) 1 from SM.out.chx C40 (xnin_cons nx36.out xnin_nil))
    clear C0 SL SM
    have C0 := C0'; clear C0'
    have SL := SL'; clear SL'
    have SM := SM'; clear SM'
    clear Fg29; have Fg29 := Lib.hid (show Blk w38 g29 ((opC o).toArray) 49 from B39); clear B39 C40
    refine hK37 _ _ ?_; clear hK37 K37
    (try simp only [zP, zN, zA, zB, zC])
    refine nl_ (hK27 _ _ ?_); clear hK27 K27
    refine s_ (fun K41 hK41 => ?_)
    refine pu_ (v := .pointer (some ⟨g29, 4, none⟩)) (y_run (by rfl) (fun W => by go_simp)) ?_
    (try simp only [zP, zN, zA, zB, zC])
    refine ld_ (v := .int .i64 o.t) rfl (by rfl) (by rfl) (run_load_one ((Fg29.out.cell 4).trans (by simp [opC])) Try.underlying3 rfl) ?_
    (try simp only [zP, zN, zA, zB, zC])
    refine pu_ (v := .bool true) (y_run (by rfl) (fun W => by have d := D16.out; go_simp)) ?_
    (try simp only [zP, zN, zA, zB, zC])
    refine pu_ (v := .bool true) (y_move rfl (by rfl) (by rfl)) ?_
    (try simp only [zP, zN, zA, zB, zC])
    refine pu_ (v := .slice B M.length d) (y_move rfl (by rfl) (by rfl)) ?_
    (try simp only [zP, zN, zA, zB, zC])
    refine pu_ (v := .int .i64 k) (y_move rfl (by rfl) (by rfl)) ?_
    (try simp only [zP, zN, zA, zB, zC])
    refine ef_ (fun K42 hK42 => ?_)
    refine e_call Try.func56 (by kernel_rfl) rfl #[.slice B M.length d, .int .i64 k] (by rfl) rfl rfl (by first | rfl | (simp only [List.map_toArray, List.map_cons, List.map_nil]; first | done | rfl)) ((ynT (contains_ (z := (k : Int)) HM SM) hc.out.2)) ?_
    rintro en w44 ⟨rfl, cc43⟩
    refine ⟨_, rfl, ?_⟩
    have C0' := Lib.hid (show Ch [] w w44 from C0.out.trans' cc43 (fun x hx => absurd hx (by simp)))
    have SL' := Lib.hid (show SrcIs w44 (.slice (some a) L.length c) (L.length) ((L).flatMap opC) 28 from SL.out.chx cc43 xnin_nil)
    have SM' := Lib.hid (show SrcIs w44 (.slice B M.length d) (M.length) ((M).map (Value.int .i64)) 1 from SM.out.chx cc43 xnin_nil)
    have Fg29' := Lib.hid (show Blk w44 g29 ((opC o).toArray) 49 from cc43.blk Fg29.out nin_nil)
    clear C0 SL SM Fg29
    have C0 := C0'; clear C0'
    have SL := SL'; clear SL'
    have SM := SM'; clear SM'
    have Fg29 := Fg29'; clear Fg29'
    clear cc43
    refine hK42 _ _ ?_; clear hK42 K42
    (try simp only [zP, zN, zA, zB, zC])
    refine pu_ (v := .bool false) (y_run (by rfl) (fun W => by go_simp)) ?_
    (try simp only [zP, zN, zA, zB, zC])
    refine pu_ (v := .bool false) (y_pick (t := true) (by rfl) rfl (by rfl) (by rfl)) ?_
    (try simp only [zP, zN, zA, zB, zC])
    refine nl_ (hK41 _ _ ?_); clear hK41 K41
    refine wp_cond_false rfl ?_
    refine wp_skip ?_
    refine ib_norm ?_
    refine th_norm (hK26 _ _ ?_); try clear hK26 K26
    refine r_ ?_
    refine pu_ (v := .int .i64 (k + 1 : Nat)) (y_run (by rfl) (fun W => by have d := Wk.out; go_simp)) ?_
    (try simp only [zP, zN, zA, zB, zC])
    refine pu_ (v := .int .i64 (k + 1 : Nat)) (y_move rfl (by rfl) (by rfl)) ?_
    (try simp only [zP, zN, zA, zB, zC])
    refine nl_ ?_
    exact th_norm (hK5 (kq - 1) _ _ (by have := hlt.out; have := hk.out; omega) ⟨k + 1, fun us_ => (#[.slice (some a) L.length c, .slice B M.length d, us 2, us 3, .bool false, .int .i64 k, .pointer (some ⟨g29, 0, none⟩), .slice (some a) L.length c, .int .i64 L.length, .int .i64 (k + 1 : Nat), .bool true, .int .i64 k, .pointer (some (a.add (k * 28))), .agg (opC o).toArray, .pointer (some ⟨g29, 4, none⟩), .int .i64 o.t, .bool true, .bool true, .slice B M.length d, .int .i64 k, .bool true, .bool false, .bool false, .int .i64 (k + 1 : Nat)] : Array Value).getD us_ undef, rfl, C0, SL, SM, Lib.hid ⟨by have := hlt.out; omega, by have := hlt.out; have := hk.out; omega⟩, Lib.hid (whole_snoc ho.out hw.out (fun _ => hc.out.2))⟩)
  · have hlt := Lib.hid hlt0
    have ho := Lib.hid ho0
    have hc := Lib.hid h
    clear hlt0 ho0 h
    obtain ⟨a, hsm_a⟩ := src_some SL.out (by have := hlt.out; omega)
    subst hsm_a
    have D10 := Lib.hid (show (k : Int) < (L.length : Int) by have := hlt.out; omega)
    have Wk := Lib.hid (show IntKind.i64.wrap ((k : Int) + 1) = ((k + 1 : Nat) : Int) by rw [wr64 (by have := hlt.out; have := HN.out; omega)]; omega)
    have D16 := Lib.hid (show decide (o.t > 0) = true from decide_eq_true hc.out.1)
    refine s_ (fun K45 hK45 => ?_)
    refine pu_ (v := .bool true) (y_run (by rfl) (fun W => by have d := D10.out; go_simp)) ?_
    (try simp only [zP, zN, zA, zB, zC])
    refine nl_ (hK45 _ _ ?_); clear hK45 K45
    refine sq_ (fun K46 hK46 => ?_)
    refine wp_cond_true rfl ?_
    refine wp_skip ?_
    refine th_norm (hK46 _ _ ?_); try clear hK46 K46
    refine sq_ (fun K47 hK47 => ?_)
    refine wp_block ?_
    refine s_ (fun K48 hK48 => ?_)
    refine pu_ (v := .int .i64 k) (y_move rfl (by rfl) (by rfl)) ?_
    (try simp only [zP, zN, zA, zB, zC])
    refine pu_ (v := .pointer (some (a.add (k * 28)))) (y_run (by rfl) (fun W => by have d := D10.out; go_simp)) ?_
    (try simp only [zP, zN, zA, zB, zC])
    refine ld_ (v := .agg (opC o).toArray) rfl (by rfl) (by rfl) (run_loadVar_at (src_elem SL.out ho.out) Try.underlying49 rfl (by rw [opC_len]; kernel_rfl)) ?_
    (try simp only [zP, zN, zA, zB, zC])
    refine ef_ (fun K49 hK49 => ?_)
    refine e_alloc (by rfl) rfl rfl (cs := #[.int .i64 0, .int .i64 0, .int .i64 0, .int .i64 0, .int .i64 0, .int .i64 0, .int .i64 0, .int .u64 0, .string ⟨#[]⟩, .slice none 0 0, .slice none 0 0, .slice none 0 0, .int .i64 0, .int .i64 0, .int .i64 0, .int .i64 0, .int .i64 0, .int .i64 0, .int .i64 0, .string ⟨#[]⟩, .slice none 0 0, .int .i64 0, .int .i64 0, .int .i64 0, .int .u64 0, .string ⟨#[]⟩, .slice none 0 0, .slice none 0 0]) (by kernel_rfl) ?_
    rintro g50 w51 HG52 B53 C54
    have nw55 := Lib.hid (show w.heap.size ≤ g50 by have := C0.out.size; have := HG52.out; omega)
    have nx56 := Lib.hid (SL.out.ne_new (by decide) HG52)
    have nx57 := Lib.hid (SM.out.ne_new (by decide) HG52)
    have C0' := Lib.hid (show Ch [] w w51 from C0.out.trans' C54 (fun x hx => absurd hx (by simp)))
    have SL' := Lib.hid (show SrcIs w51 (.slice (some a) L.length c) (L.length) ((L).flatMap opC) 28 from SL.out.chx C54 xnin_nil)
    have SM' := Lib.hid (show SrcIs w51 (.slice B M.length d) (M.length) ((M).map (Value.int .i64)) 1 from SM.out.chx C54 xnin_nil)
    clear C0 SL SM
    have C0 := C0'; clear C0'
    have SL := SL'; clear SL'
    have SM := SM'; clear SM'
    have Fg50 := Lib.hid (show Blk w51 g50 (#[.int .i64 0, .int .i64 0, .int .i64 0, .int .i64 0, .int .i64 0, .int .i64 0, .int .i64 0, .int .u64 0, .string ⟨#[]⟩, .slice none 0 0, .slice none 0 0, .slice none 0 0, .int .i64 0, .int .i64 0, .int .i64 0, .int .i64 0, .int .i64 0, .int .i64 0, .int .i64 0, .string ⟨#[]⟩, .slice none 0 0, .int .i64 0, .int .i64 0, .int .i64 0, .int .u64 0, .string ⟨#[]⟩, .slice none 0 0, .slice none 0 0]) 49 from B53); clear B53 C54
    refine hK49 _ _ ?_; clear hK49 K49
    (try simp only [zP, zN, zA, zB, zC])
    refine pu_ (v := .int .i64 k) (y_assign rfl (by rfl) (by rfl)) ?_
    (try simp only [zP, zN, zA, zB, zC])
    refine ef_ (fun K58 hK58 => ?_)
    refine e_storeN (cells := (opC o).toArray) (by rfl) rfl rfl (by rfl) (by rfl) Fg50.out (sz49 o) (by rw [show (opC o).toArray.size = 28 by rw [List.size_toArray, opC_len]]; rfl) (by simpa using opC_one o) ?_
    rintro w59 B60 C61
    have C0' := Lib.hid (show Ch [] w w59 from C0.out.trans' C61 (inw_cons (.inr nw55.out) inw_nil))
    have SL' := Lib.hid (show SrcIs w59 (.slice (some a) L.length c) (L.length) ((L).flatMap opC) 28 from SL.out.chx C61 (xnin_cons nx56.out xnin_nil))
    have SM' := Lib.hid (show SrcIs w59 (.slice B M.length d) (M.length) ((M).map (Value.int .i64)) 1 from SM.out.chx C61 (xnin_cons nx57.out xnin_nil))
    clear C0 SL SM
    have C0 := C0'; clear C0'
    have SL := SL'; clear SL'
    have SM := SM'; clear SM'
    clear Fg50; have Fg50 := Lib.hid (show Blk w59 g50 ((opC o).toArray) 49 from B60); clear B60 C61
    refine hK58 _ _ ?_; clear hK58 K58
    (try simp only [zP, zN, zA, zB, zC])
    refine nl_ (hK48 _ _ ?_); clear hK48 K48
    refine s_ (fun K62 hK62 => ?_)
    refine pu_ (v := .pointer (some ⟨g50, 4, none⟩)) (y_run (by rfl) (fun W => by go_simp)) ?_
    (try simp only [zP, zN, zA, zB, zC])
    refine ld_ (v := .int .i64 o.t) rfl (by rfl) (by rfl) (run_load_one ((Fg50.out.cell 4).trans (by simp [opC])) Try.underlying3 rfl) ?_
    (try simp only [zP, zN, zA, zB, zC])
    refine pu_ (v := .bool true) (y_run (by rfl) (fun W => by have d := D16.out; go_simp)) ?_
    (try simp only [zP, zN, zA, zB, zC])
    refine pu_ (v := .bool true) (y_move rfl (by rfl) (by rfl)) ?_
    (try simp only [zP, zN, zA, zB, zC])
    refine pu_ (v := .slice B M.length d) (y_move rfl (by rfl) (by rfl)) ?_
    (try simp only [zP, zN, zA, zB, zC])
    refine pu_ (v := .int .i64 k) (y_move rfl (by rfl) (by rfl)) ?_
    (try simp only [zP, zN, zA, zB, zC])
    refine ef_ (fun K63 hK63 => ?_)
    refine e_call Try.func56 (by kernel_rfl) rfl #[.slice B M.length d, .int .i64 k] (by rfl) rfl rfl (by first | rfl | (simp only [List.map_toArray, List.map_cons, List.map_nil]; first | done | rfl)) ((ynF (contains_ (z := (k : Int)) HM SM) hc.out.2)) ?_
    rintro en w65 ⟨rfl, cc64⟩
    refine ⟨_, rfl, ?_⟩
    have C0' := Lib.hid (show Ch [] w w65 from C0.out.trans' cc64 (fun x hx => absurd hx (by simp)))
    have SL' := Lib.hid (show SrcIs w65 (.slice (some a) L.length c) (L.length) ((L).flatMap opC) 28 from SL.out.chx cc64 xnin_nil)
    have SM' := Lib.hid (show SrcIs w65 (.slice B M.length d) (M.length) ((M).map (Value.int .i64)) 1 from SM.out.chx cc64 xnin_nil)
    have Fg50' := Lib.hid (show Blk w65 g50 ((opC o).toArray) 49 from cc64.blk Fg50.out nin_nil)
    clear C0 SL SM Fg50
    have C0 := C0'; clear C0'
    have SL := SL'; clear SL'
    have SM := SM'; clear SM'
    have Fg50 := Fg50'; clear Fg50'
    clear cc64
    refine hK63 _ _ ?_; clear hK63 K63
    (try simp only [zP, zN, zA, zB, zC])
    refine pu_ (v := .bool true) (y_run (by rfl) (fun W => by go_simp)) ?_
    (try simp only [zP, zN, zA, zB, zC])
    refine pu_ (v := .bool true) (y_pick (t := true) (by rfl) rfl (by rfl) (by rfl)) ?_
    (try simp only [zP, zN, zA, zB, zC])
    refine nl_ (hK62 _ _ ?_); clear hK62 K62
    refine wp_cond_true rfl ?_
    refine s_ (fun K66 hK66 => ?_)
    refine pu_ (v := .bool false) (y_assign rfl (by rfl) (by rfl)) ?_
    (try simp only [zP, zN, zA, zB, zC])
    refine nl_ (hK66 _ _ ?_); clear hK66 K66
    refine wp_ret ?_
    refine ib_ret ?_
    refine th_ret ?_
    refine th_ret ?_
    refine ib_ret ?_
    refine th_ret ?_
    refine hQ _ _ _ ?_
    refine bodyPost_ret (res1 rfl (rdv_tmp (v := .bool false) (by rfl))) rfl ?_
    exact ⟨_, rfl, ⟨fun h9 => absurd h9 (by decide), fun h9 => absurd (h9 k o ho.out hc.out.1) hc.out.2⟩, C0.out⟩
  · have D10 := Lib.hid (show ¬ k < L.length by have := hk.out; omega)
    have HR := Lib.hid (show wholeP L M from by have h9 := hw.out; rw [h, List.take_length] at h9; exact h9)
    clear h
    refine s_ (fun K67 hK67 => ?_)
    refine pu_ (v := .bool false) (y_run (by rfl) (fun W => by have d := D10.out; go_simp)) ?_
    (try simp only [zP, zN, zA, zB, zC])
    refine nl_ (hK67 _ _ ?_); clear hK67 K67
    refine sq_ (fun K68 hK68 => ?_)
    refine wp_cond_false rfl ?_
    refine wp_exit ?_
    refine th_exit ?_
    refine th_exit ?_
    refine ib_exit ?_
    refine th_norm (hK2 _ _ ?_); try clear hK2 K2
    refine s_ (fun K69 hK69 => ?_)
    refine pu_ (v := .bool true) (y_assign rfl (by rfl) (by rfl)) ?_
    (try simp only [zP, zN, zA, zB, zC])
    refine nl_ (hK69 _ _ ?_); clear hK69 K69
    refine wp_ret ?_
    refine hQ _ _ _ ?_
    refine bodyPost_ret (res1 rfl (rdv_tmp (v := .bool true) (by rfl))) rfl ?_
    exact ⟨_, rfl, ⟨fun _ => HR.out, fun _ => rfl⟩, C0.out⟩
end
end Go.Proofs.Ytggcpbnlblbpjaa.L
