/- The walk of the law LineOrders. -/
import Derived.Test.YtggcpbnlblbpjaaLineF
import Derived.Test.YtggcpbnlblbpjaaLineW
import Derived.Test.YtggcpbnlblbpjaaLineX
import Derived.Test.YtggcpbnlblbpjaaLineV
namespace Go.Proofs.Ytggcpbnlblbpjaa.L
open Go Go.RowKit Go.Proofs.Ytggcpbnlblbpjaa.K Go.Proofs.Ytggcpbnlblbpjaa.H Go.Proofs.YtggcpbnlblbpjaaW.PrintLast
set_option linter.unusedVariables false
set_option linter.unusedSimpArgs false
set_option maxRecDepth 100000
set_option maxHeartbeats 1600000
section
variable {w : World}
theorem ord_ways (L : List HOp) (rs : Nat → Bool) (ns : Nat → Nat) (M : List Int) : ¬ lightP L rs ns ∨ (lightP L rs ns ∧ 40 < M.length) ∨ (lightP L rs ns ∧ M.length ≤ 40) := by
  by_cases h1 : lightP L rs ns
  · rcases Nat.lt_or_ge 40 M.length with h2 | h2
    · exact .inr (.inl ⟨h1, h2⟩)
    · exact .inr (.inr ⟨h1, h2⟩)
  · exact .inl h1
theorem pair2_ways (L : List HOp) (k : Nat) : (∃ o p, k + 1 < L.length ∧ L[k]? = some o ∧ L[k + 1]? = some p) ∨ ¬ k + 1 < L.length := by
  by_cases h : k + 1 < L.length
  · exact .inl ⟨_, _, h, List.getElem?_eq_getElem (by omega), List.getElem?_eq_getElem h⟩
  · exact .inr h
theorem op_all (o : HOp) : Calls Try.prog 34 #[.agg (opC o).toArray] w fun en w' => en = .returned (.agg (opC o).toArray) ∧ Ch [] w w' := by
  obtain ⟨x0, x1, x2, x3, x4, x5, x6, x7, x8, x9, x10, x11, x12, x13, x14, x15, hcl0⟩ := lits16 o.cl
  obtain ⟨x16, x17, x18, x19, x20, x21, x22, hrp0⟩ := lits7 o.rp
  have HOL : opC o = [.int .i64 o.c, .int .i64 o.n, .int .i64 o.a, .int .i64 o.d, .int .i64 o.t, x0, x1, x2, x3, x4, x5, x6, x7, x8, x9, x10, x11, x12, x13, x14, x15, x16, x17, x18, x19, x20, x21, x22] := by simp [opC, hcl0, hrp0]
  have HON : ∀ u ∈ [.int .i64 o.c, .int .i64 o.n, .int .i64 o.a, .int .i64 o.d, .int .i64 o.t, x0, x1, x2, x3, x4, x5, x6, x7, x8, x9, x10, x11, x12, x13, x14, x15, x16, x17, x18, x19, x20, x21, x22], u.oneCell' = true := by rw [← HOL]; exact opC_one o
  rw [HOL]
  exact op_lit o.c o.n o.a o.d o.t x0 x1 x2 x3 x4 x5 x6 x7 x8 x9 x10 x11 x12 x13 x14 x15 x16 x17 x18 x19 x20 x21 x22 (HON x0 (by simp)) (HON x1 (by simp)) (HON x2 (by simp)) (HON x3 (by simp)) (HON x4 (by simp)) (HON x5 (by simp)) (HON x6 (by simp)) (HON x7 (by simp)) (HON x8 (by simp)) (HON x9 (by simp)) (HON x10 (by simp)) (HON x11 (by simp)) (HON x12 (by simp)) (HON x13 (by simp)) (HON x14 (by simp)) (HON x15 (by simp)) (HON x16 (by simp)) (HON x17 (by simp)) (HON x18 (by simp)) (HON x19 (by simp)) (HON x20 (by simp)) (HON x21 (by simp)) (HON x22 (by simp))
theorem orders_ {A B : Option Addr} {c d : Nat} {L : List HOp} {M : List Int} {rs : Nat → Bool} {ns : Nat → Nat} (HML : Hid (L.length ≤ maxLen)) (HB : Hid (L.length * 344 ≤ 140737488351232)) (HLL : Hid (∀ i o, L[i]? = some o → opLits w o (rs i) (ns i))) (HD : Hid (M.length ≤ d ∧ d ≤ maxLen)) (SL : Hid (SrcIs w (.slice A L.length c) (L.length) ((L).flatMap opC) 28)) (SM : Hid (SrcIs w (.slice B M.length d) (M.length) ((M).map (Value.int .i64)) 1)) :
    Calls Try.prog 6 #[.slice A L.length c, .slice B M.length d] w fun en w' => en = .returned (.bool true) ∧ Ch [] w w' := by
  have C0 := Lib.hid (Ch.refl [] w)
  go_enter Try.func6, Try.ntmps6
  refine q_ (fun Q hQ hP => ?_)
  refine s_ (fun K1 hK1 => ?_)
  refine pu_ (v := .bool false) (y_assign rfl (by rfl) (by rfl)) ?_
  (try simp only [zP, zN, zA, zB, zC])
  refine nl_ (hK1 _ _ ?_); clear hK1 K1
  refine sq_ (fun K2 hK2 => ?_)
  rcases ord_ways L rs ns M with h | h | h
  · have hPL := Lib.hid h
    clear h
    refine s_ (fun K3 hK3 => ?_)
    refine pu_ (v := .slice A L.length c) (y_move rfl (by rfl) (by rfl)) ?_
    (try simp only [zP, zN, zA, zB, zC])
    refine ef_ (fun K4 hK4 => ?_)
    refine e_call Try.func32 (by kernel_rfl) rfl #[.slice A L.length c] (by rfl) rfl rfl (by first | rfl | (simp only [List.map_toArray, List.map_cons, List.map_nil]; first | done | rfl)) ((ynF (light_ (w := w) (rs := rs) (ns := ns) (Lib.hid (fun i o h9 => (HLL.out i o h9).from_ C0.out.below0)) SL) hPL.out)) ?_
    rintro en w6 ⟨rfl, cc5⟩
    refine ⟨_, rfl, ?_⟩
    have C0' := Lib.hid (show Ch [] w w6 from C0.out.trans' cc5 (fun x hx => absurd hx (by simp)))
    have SL' := Lib.hid (show SrcIs w6 (.slice A L.length c) (L.length) ((L).flatMap opC) 28 from SL.out.chx cc5 xnin_nil)
    have SM' := Lib.hid (show SrcIs w6 (.slice B M.length d) (M.length) ((M).map (Value.int .i64)) 1 from SM.out.chx cc5 xnin_nil)
    clear C0 SL SM
    have C0 := C0'; clear C0'
    have SL := SL'; clear SL'
    have SM := SM'; clear SM'
    clear cc5
    refine hK4 _ _ ?_; clear hK4 K4
    (try simp only [zP, zN, zA, zB, zC])
    refine pu_ (v := .bool true) (y_run (by rfl) (fun W => by go_simp)) ?_
    (try simp only [zP, zN, zA, zB, zC])
    refine pu_ (v := .bool true) (y_move rfl (by rfl) (by rfl)) ?_
    (try simp only [zP, zN, zA, zB, zC])
    refine pu_ (y_off (by rfl)) ?_
    (try simp only [zP, zN, zA, zB, zC])
    refine pu_ (y_off (by rfl)) ?_
    (try simp only [zP, zN, zA, zB, zC])
    refine pu_ (y_off (by rfl)) ?_
    (try simp only [zP, zN, zA, zB, zC])
    refine pu_ (v := .bool true) (y_pick (t := true) (by rfl) rfl (by rfl) (by rfl)) ?_
    (try simp only [zP, zN, zA, zB, zC])
    refine nl_ (hK3 _ _ ?_); clear hK3 K3
    refine wp_cond_true rfl ?_
    refine s_ (fun K7 hK7 => ?_)
    refine ef_ (fun K8 hK8 => ?_)
    refine e_call Try.func27 (by kernel_rfl) rfl #[] (by rfl) rfl rfl (by first | rfl | (simp only [List.map_toArray, List.map_cons, List.map_nil]; first | done | rfl)) (works_) ?_
    rintro en w10 ⟨rfl, cc9⟩
    refine ⟨_, rfl, ?_⟩
    have C0' := Lib.hid (show Ch [] w w10 from C0.out.trans' cc9 (fun x hx => absurd hx (by simp)))
    have SL' := Lib.hid (show SrcIs w10 (.slice A L.length c) (L.length) ((L).flatMap opC) 28 from SL.out.chx cc9 xnin_nil)
    have SM' := Lib.hid (show SrcIs w10 (.slice B M.length d) (M.length) ((M).map (Value.int .i64)) 1 from SM.out.chx cc9 xnin_nil)
    clear C0 SL SM
    have C0 := C0'; clear C0'
    have SL := SL'; clear SL'
    have SM := SM'; clear SM'
    clear cc9
    refine hK8 _ _ ?_; clear hK8 K8
    (try simp only [zP, zN, zA, zB, zC])
    refine pu_ (v := .bool true) (y_assign rfl (by rfl) (by rfl)) ?_
    (try simp only [zP, zN, zA, zB, zC])
    refine nl_ (hK7 _ _ ?_); clear hK7 K7
    refine wp_ret ?_
    refine th_ret ?_
    refine hQ _ _ _ ?_
    refine bodyPost_ret (res1 rfl (rdv_tmp (v := .bool true) (by rfl))) rfl ?_
    exact ⟨rfl, C0.out⟩
  · have hPL := Lib.hid h.1
    have hM := Lib.hid h.2
    clear h
    have D12 := Lib.hid (show 40 < (M.length : Int) by have := hM.out; omega)
    refine s_ (fun K11 hK11 => ?_)
    refine pu_ (v := .slice A L.length c) (y_move rfl (by rfl) (by rfl)) ?_
    (try simp only [zP, zN, zA, zB, zC])
    refine ef_ (fun K12 hK12 => ?_)
    refine e_call Try.func32 (by kernel_rfl) rfl #[.slice A L.length c] (by rfl) rfl rfl (by first | rfl | (simp only [List.map_toArray, List.map_cons, List.map_nil]; first | done | rfl)) ((ynT (light_ (w := w) (rs := rs) (ns := ns) (Lib.hid (fun i o h9 => (HLL.out i o h9).from_ C0.out.below0)) SL) hPL.out)) ?_
    rintro en w14 ⟨rfl, cc13⟩
    refine ⟨_, rfl, ?_⟩
    have C0' := Lib.hid (show Ch [] w w14 from C0.out.trans' cc13 (fun x hx => absurd hx (by simp)))
    have SL' := Lib.hid (show SrcIs w14 (.slice A L.length c) (L.length) ((L).flatMap opC) 28 from SL.out.chx cc13 xnin_nil)
    have SM' := Lib.hid (show SrcIs w14 (.slice B M.length d) (M.length) ((M).map (Value.int .i64)) 1 from SM.out.chx cc13 xnin_nil)
    clear C0 SL SM
    have C0 := C0'; clear C0'
    have SL := SL'; clear SL'
    have SM := SM'; clear SM'
    clear cc13
    refine hK12 _ _ ?_; clear hK12 K12
    (try simp only [zP, zN, zA, zB, zC])
    refine pu_ (v := .bool false) (y_run (by rfl) (fun W => by go_simp)) ?_
    (try simp only [zP, zN, zA, zB, zC])
    refine pu_ (v := .bool false) (y_move rfl (by rfl) (by rfl)) ?_
    (try simp only [zP, zN, zA, zB, zC])
    refine pu_ (v := .slice B M.length d) (y_move rfl (by rfl) (by rfl)) ?_
    (try simp only [zP, zN, zA, zB, zC])
    refine pu_ (v := .int .i64 M.length) (y_run (by rfl) (fun W => by go_simp)) ?_
    (try simp only [zP, zN, zA, zB, zC])
    refine pu_ (v := .bool true) (y_run (by rfl) (fun W => by have d := D12.out; go_simp)) ?_
    (try simp only [zP, zN, zA, zB, zC])
    refine pu_ (v := .bool true) (y_pick (t := false) (by rfl) rfl (by rfl) (by rfl)) ?_
    (try simp only [zP, zN, zA, zB, zC])
    refine nl_ (hK11 _ _ ?_); clear hK11 K11
    refine wp_cond_true rfl ?_
    refine s_ (fun K15 hK15 => ?_)
    refine ef_ (fun K16 hK16 => ?_)
    refine e_call Try.func27 (by kernel_rfl) rfl #[] (by rfl) rfl rfl (by first | rfl | (simp only [List.map_toArray, List.map_cons, List.map_nil]; first | done | rfl)) (works_) ?_
    rintro en w18 ⟨rfl, cc17⟩
    refine ⟨_, rfl, ?_⟩
    have C0' := Lib.hid (show Ch [] w w18 from C0.out.trans' cc17 (fun x hx => absurd hx (by simp)))
    have SL' := Lib.hid (show SrcIs w18 (.slice A L.length c) (L.length) ((L).flatMap opC) 28 from SL.out.chx cc17 xnin_nil)
    have SM' := Lib.hid (show SrcIs w18 (.slice B M.length d) (M.length) ((M).map (Value.int .i64)) 1 from SM.out.chx cc17 xnin_nil)
    clear C0 SL SM
    have C0 := C0'; clear C0'
    have SL := SL'; clear SL'
    have SM := SM'; clear SM'
    clear cc17
    refine hK16 _ _ ?_; clear hK16 K16
    (try simp only [zP, zN, zA, zB, zC])
    refine pu_ (v := .bool true) (y_assign rfl (by rfl) (by rfl)) ?_
    (try simp only [zP, zN, zA, zB, zC])
    refine nl_ (hK15 _ _ ?_); clear hK15 K15
    refine wp_ret ?_
    refine th_ret ?_
    refine hQ _ _ _ ?_
    refine bodyPost_ret (res1 rfl (rdv_tmp (v := .bool true) (by rfl))) rfl ?_
    exact ⟨rfl, C0.out⟩
  · have hPL := Lib.hid h.1
    have hM := Lib.hid h.2
    clear h
    have D12 := Lib.hid (show ¬ 40 < (M.length : Int) by have := hM.out; omega)
    have HN := Lib.hid (show L.length ≤ 30 from hPL.out.1)
    refine s_ (fun K19 hK19 => ?_)
    refine pu_ (v := .slice A L.length c) (y_move rfl (by rfl) (by rfl)) ?_
    (try simp only [zP, zN, zA, zB, zC])
    refine ef_ (fun K20 hK20 => ?_)
    refine e_call Try.func32 (by kernel_rfl) rfl #[.slice A L.length c] (by rfl) rfl rfl (by first | rfl | (simp only [List.map_toArray, List.map_cons, List.map_nil]; first | done | rfl)) ((ynT (light_ (w := w) (rs := rs) (ns := ns) (Lib.hid (fun i o h9 => (HLL.out i o h9).from_ C0.out.below0)) SL) hPL.out)) ?_
    rintro en w22 ⟨rfl, cc21⟩
    refine ⟨_, rfl, ?_⟩
    have C0' := Lib.hid (show Ch [] w w22 from C0.out.trans' cc21 (fun x hx => absurd hx (by simp)))
    have SL' := Lib.hid (show SrcIs w22 (.slice A L.length c) (L.length) ((L).flatMap opC) 28 from SL.out.chx cc21 xnin_nil)
    have SM' := Lib.hid (show SrcIs w22 (.slice B M.length d) (M.length) ((M).map (Value.int .i64)) 1 from SM.out.chx cc21 xnin_nil)
    clear C0 SL SM
    have C0 := C0'; clear C0'
    have SL := SL'; clear SL'
    have SM := SM'; clear SM'
    clear cc21
    refine hK20 _ _ ?_; clear hK20 K20
    (try simp only [zP, zN, zA, zB, zC])
    refine pu_ (v := .bool false) (y_run (by rfl) (fun W => by go_simp)) ?_
    (try simp only [zP, zN, zA, zB, zC])
    refine pu_ (v := .bool false) (y_move rfl (by rfl) (by rfl)) ?_
    (try simp only [zP, zN, zA, zB, zC])
    refine pu_ (v := .slice B M.length d) (y_move rfl (by rfl) (by rfl)) ?_
    (try simp only [zP, zN, zA, zB, zC])
    refine pu_ (v := .int .i64 M.length) (y_run (by rfl) (fun W => by go_simp)) ?_
    (try simp only [zP, zN, zA, zB, zC])
    refine pu_ (v := .bool false) (y_run (by rfl) (fun W => by have d := D12.out; go_simp)) ?_
    (try simp only [zP, zN, zA, zB, zC])
    refine pu_ (v := .bool false) (y_pick (t := false) (by rfl) rfl (by rfl) (by rfl)) ?_
    (try simp only [zP, zN, zA, zB, zC])
    refine nl_ (hK19 _ _ ?_); clear hK19 K19
    refine wp_cond_false rfl ?_
    refine wp_skip ?_
    refine th_norm (hK2 _ _ ?_); try clear hK2 K2
    refine sq_ (fun K23 hK23 => ?_)
    refine s_ (fun K24 hK24 => ?_)
    refine pu_ (v := .int .i64 0) (y_assign rfl (by rfl) (by rfl)) ?_
    (try simp only [zP, zN, zA, zB, zC])
    refine nl_ (hK24 _ _ ?_); clear hK24 K24
    refine wp_block ?_
    refine loopk_ (fun (kq : Nat) (a' : Act) (w' : World) => ∃ (k : Nat), ∃ (us : Nat → Value), a' = ⟨#[.slice A L.length c, .slice B M.length d, us 2, us 3, .bool false, .int .i64 k, us 6, us 7, us 8, us 9, us 10, us 11, us 12, us 13, us 14, us 15, us 16, us 17, us 18, us 19, us 20, us 21, us 22, us 23, us 24, us 25, us 26, us 27, us 28, us 29, us 30, us 31, us 32, us 33, us 34, us 35, us 36, us 37, us 38, us 39, us 40, us 41, us 42, us 43, us 44, us 45, us 46, us 47, us 48, us 49, us 50, us 51, us 52, us 53, us 54, us 55, us 56, us 57, us 58, us 59, us 60, us 61, us 62, us 63, us 64, us 65, us 66, us 67, us 68, us 69, us 70, us 71, us 72, us 73], []⟩ ∧ Hid (Ch [] w w') ∧ Hid (SrcIs w' (.slice A L.length c) (L.length) ((L).flatMap opC) 28) ∧ Hid (SrcIs w' (.slice B M.length d) (M.length) ((M).map (Value.int .i64)) 1) ∧ Hid (k ≤ L.length ∧ kq + k = L.length)) (L.length) (⟨0, fun us_ => (#[.slice A L.length c, .slice B M.length d, undef, undef, .bool false, .int .i64 0, .slice A L.length c, .bool true, .bool false, .bool false, .slice B M.length d, .int .i64 M.length, .bool false, .bool false, undef, undef, undef, undef, undef, undef, undef, undef, undef, undef, undef, undef, undef, undef, undef, undef, undef, undef, undef, undef, undef, undef, undef, undef, undef, undef, undef, undef, undef, undef, undef, undef, undef, undef, undef, undef, undef, undef, undef, undef, undef, undef, undef, undef, undef, undef, undef, undef, undef, undef, undef, undef, undef, undef, undef, undef, undef, undef, undef, undef] : Array Value).getD us_ undef, rfl, C0, SL, SM, Lib.hid ⟨by omega, by omega⟩⟩) ?_
    rintro kq _ w25 ⟨k, us, rfl, C0, SL, SM, hk⟩ K26 hK26
    refine sq_ (fun K27 hK27 => ?_)
    rcases pair2_ways L k with ⟨o, p, hlt0, ho0, hp0⟩ | h
    · obtain ⟨n1, hn10⟩ : ∃ n1, n1 = k + 1 := ⟨_, rfl⟩
      have HN1 := Lib.hid hn10
      clear hn10
      have Wn := Lib.hid (show IntKind.i64.wrap ((k : Int) + 1) = (n1 : Int) by have h9 := HN1.out; rw [wr64 (by have := hk.out; have := HN.out; omega)]; omega)
      have hlt := Lib.hid hlt0
      have ho := Lib.hid ho0
      have hp := Lib.hid (show L[n1]? = some p by rw [HN1.out]; exact hp0)
      clear hlt0 ho0 hp0
      obtain ⟨a, hsm_a⟩ := src_some SL.out (by have := hlt.out; omega)
      subst hsm_a
      have D19 := Lib.hid (show n1 < L.length by have := hlt.out; have := HN1.out; omega)
      have DK := Lib.hid (show (k : Int) < (L.length : Int) by have := hlt.out; omega)
      have DN := Lib.hid (show (n1 : Int) < (L.length : Int) by have := D19.out; omega)
      refine s_ (fun K28 hK28 => ?_)
      refine pu_ (v := .int .i64 k) (y_move rfl (by rfl) (by rfl)) ?_
      (try simp only [zP, zN, zA, zB, zC])
      refine pu_ (v := .int .i64 n1) (y_run (by rfl) (fun W => by have d := Wn.out; go_simp)) ?_
      (try simp only [zP, zN, zA, zB, zC])
      refine pu_ (v := .slice (some a) L.length c) (y_move rfl (by rfl) (by rfl)) ?_
      (try simp only [zP, zN, zA, zB, zC])
      refine pu_ (v := .int .i64 L.length) (y_run (by rfl) (fun W => by go_simp)) ?_
      (try simp only [zP, zN, zA, zB, zC])
      refine pu_ (v := .bool true) (y_run (by rfl) (fun W => by have d := D19.out; go_simp)) ?_
      (try simp only [zP, zN, zA, zB, zC])
      refine nl_ (hK28 _ _ ?_); clear hK28 K28
      refine wp_cond_true rfl ?_
      refine wp_skip ?_
      refine th_norm (hK27 _ _ ?_); try clear hK27 K27
      refine sq_ (fun K29 hK29 => ?_)
      refine wp_block ?_
      refine sq_ (fun K30 hK30 => ?_)
      refine startk_ (S := fun W => SrcIs W (.slice (some a) L.length c) (L.length) ((L).flatMap opC) 28 ∧ True) (ds := []) #[false, false, false, false, false, false, false, false, false, false, false, false, false, false, false, false, false, false, false, false, false, false, false] (by kernel_rfl) rfl rfl (fun W c => ⟨SL.out.chx c xnin_nil, trivial⟩) (fun w31 C32 hS33 => ?_)
      have C0' := Lib.hid (show Ch [] w w31 from C0.out.trans' C32 (fun x hx => absurd hx (by simp)))
      have SL' := Lib.hid (show SrcIs w31 (.slice (some a) L.length c) (L.length) ((L).flatMap opC) 28 from SL.out.chx C32 xnin_nil)
      have SM' := Lib.hid (show SrcIs w31 (.slice B M.length d) (M.length) ((M).map (Value.int .i64)) 1 from SM.out.chx C32 xnin_nil)
      clear C0 SL SM
      have C0 := C0'; clear C0'
      have SL := SL'; clear SL'
      have SM := SM'; clear SM'
      clear C32
      refine pure_ (i := 0) (N := some 22) (v := .slice (some a) L.length c) #[true, false, false, false, false, false, false, false, false, false, false, false, false, false, false, false, false, false, false, false, false, false, false] rfl rfl (by kernel_rfl) (fun c a w h => hP c a _ _ w h) (y_move rfl (by rfl) (by rfl)) rfl ?_
      (try simp only [zP, zN, zA, zB, zC])
      refine pure_ (i := 1) (N := some 23) (v := .int .i64 k) #[true, true, false, false, false, false, false, false, false, false, false, false, false, false, false, false, false, false, false, false, false, false, false] rfl rfl (by kernel_rfl) (fun c a w h => hP c a _ _ w h) (y_move rfl (by rfl) (by rfl)) rfl ?_
      (try simp only [zP, zN, zA, zB, zC])
      refine pure_ (i := 2) (N := some 24) (v := .pointer (some (a.add (k * 28)))) #[true, true, true, false, false, false, false, false, false, false, false, false, false, false, false, false, false, false, false, false, false, false, false] rfl rfl (by kernel_rfl) (fun c a w h => hP c a _ _ w h) (y_run (by rfl) (fun W => by have d := DK.out; go_simp)) rfl ?_
      (try simp only [zP, zN, zA, zB, zC])
      refine take_ (i := 3) (N := some 25) (v := .agg (opC o).toArray) #[true, true, true, true, false, false, false, false, false, false, false, false, false, false, false, false, false, false, false, false, false, false, false] rfl rfl (by kernel_rfl) (fun c a w h => hP c a _ _ w h) (y_load (p := (a.add (k * 28))) rfl (by rfl) (by rfl) (fun W hS => run_loadVar_at (src_elem hS.1 ho.out) Try.underlying59 rfl (by rw [opC_len]; kernel_rfl))) hS33 rfl ?_
      (try simp only [zP, zN, zA, zB, zC])
      refine pure_ (i := 5) (N := some 27) (v := .slice (some a) L.length c) #[true, true, true, true, false, true, false, false, false, false, false, false, false, false, false, false, false, false, false, false, false, false, false] rfl rfl (by kernel_rfl) (fun c a w h => hP c a _ _ w h) (y_move rfl (by rfl) (by rfl)) rfl ?_
      (try simp only [zP, zN, zA, zB, zC])
      refine pure_ (i := 6) (N := some 28) (v := .int .i64 k) #[true, true, true, true, false, true, true, false, false, false, false, false, false, false, false, false, false, false, false, false, false, false, false] rfl rfl (by kernel_rfl) (fun c a w h => hP c a _ _ w h) (y_move rfl (by rfl) (by rfl)) rfl ?_
      (try simp only [zP, zN, zA, zB, zC])
      refine pure_ (i := 7) (N := some 29) (v := .int .i64 n1) #[true, true, true, true, false, true, true, true, false, false, false, false, false, false, false, false, false, false, false, false, false, false, false] rfl rfl (by kernel_rfl) (fun c a w h => hP c a _ _ w h) (y_run (by rfl) (fun W => by have d := Wn.out; go_simp)) rfl ?_
      (try simp only [zP, zN, zA, zB, zC])
      refine pure_ (i := 8) (N := some 30) (v := .pointer (some (a.add (n1 * 28)))) #[true, true, true, true, false, true, true, true, true, false, false, false, false, false, false, false, false, false, false, false, false, false, false] rfl rfl (by kernel_rfl) (fun c a w h => hP c a _ _ w h) (y_run (by rfl) (fun W => by have d := DN.out; go_simp)) rfl ?_
      (try simp only [zP, zN, zA, zB, zC])
      refine take_ (i := 9) (N := some 31) (v := .agg (opC p).toArray) #[true, true, true, true, false, true, true, true, true, true, false, false, false, false, false, false, false, false, false, false, false, false, false] rfl rfl (by kernel_rfl) (fun c a w h => hP c a _ _ w h) (y_load (p := (a.add (n1 * 28))) rfl (by rfl) (by rfl) (fun W hS => run_loadVar_at (src_elem hS.1 hp.out) Try.underlying59 rfl (by rw [opC_len]; kernel_rfl))) hS33 rfl ?_
      (try simp only [zP, zN, zA, zB, zC])
      refine pure_ (i := 12) (N := some 34) (v := .slice (some a) L.length c) #[true, true, true, true, false, true, true, true, true, true, false, false, true, false, false, false, false, false, false, false, false, false, false] rfl rfl (by kernel_rfl) (fun c a w h => hP c a _ _ w h) (y_move rfl (by rfl) (by rfl)) rfl ?_
      (try simp only [zP, zN, zA, zB, zC])
      refine pure_ (i := 13) (N := some 35) (v := .int .i64 k) #[true, true, true, true, false, true, true, true, true, true, false, false, true, true, false, false, false, false, false, false, false, false, false] rfl rfl (by kernel_rfl) (fun c a w h => hP c a _ _ w h) (y_move rfl (by rfl) (by rfl)) rfl ?_
      (try simp only [zP, zN, zA, zB, zC])
      refine pure_ (i := 14) (N := some 36) (v := .pointer (some (a.add (k * 28)))) #[true, true, true, true, false, true, true, true, true, true, false, false, true, true, true, false, false, false, false, false, false, false, false] rfl rfl (by kernel_rfl) (fun c a w h => hP c a _ _ w h) (y_run (by rfl) (fun W => by have d := DK.out; go_simp)) rfl ?_
      (try simp only [zP, zN, zA, zB, zC])
      refine take_ (i := 15) (N := some 37) (v := .agg (opC o).toArray) #[true, true, true, true, false, true, true, true, true, true, false, false, true, true, true, true, false, false, false, false, false, false, false] rfl rfl (by kernel_rfl) (fun c a w h => hP c a _ _ w h) (y_load (p := (a.add (k * 28))) rfl (by rfl) (by rfl) (fun W hS => run_loadVar_at (src_elem hS.1 ho.out) Try.underlying59 rfl (by rw [opC_len]; kernel_rfl))) hS33 rfl ?_
      (try simp only [zP, zN, zA, zB, zC])
      refine pure_ (i := 16) (N := some 38) (v := .slice (some a) L.length c) #[true, true, true, true, false, true, true, true, true, true, false, false, true, true, true, true, true, false, false, false, false, false, false] rfl rfl (by kernel_rfl) (fun c a w h => hP c a _ _ w h) (y_move rfl (by rfl) (by rfl)) rfl ?_
      (try simp only [zP, zN, zA, zB, zC])
      refine pure_ (i := 17) (N := some 39) (v := .int .i64 k) #[true, true, true, true, false, true, true, true, true, true, false, false, true, true, true, true, true, true, false, false, false, false, false] rfl rfl (by kernel_rfl) (fun c a w h => hP c a _ _ w h) (y_move rfl (by rfl) (by rfl)) rfl ?_
      (try simp only [zP, zN, zA, zB, zC])
      refine pure_ (i := 18) (N := some 40) (v := .int .i64 n1) #[true, true, true, true, false, true, true, true, true, true, false, false, true, true, true, true, true, true, true, false, false, false, false] rfl rfl (by kernel_rfl) (fun c a w h => hP c a _ _ w h) (y_run (by rfl) (fun W => by have d := Wn.out; go_simp)) rfl ?_
      (try simp only [zP, zN, zA, zB, zC])
      refine pure_ (i := 19) (N := some 41) (v := .pointer (some (a.add (n1 * 28)))) #[true, true, true, true, false, true, true, true, true, true, false, false, true, true, true, true, true, true, true, true, false, false, false] rfl rfl (by kernel_rfl) (fun c a w h => hP c a _ _ w h) (y_run (by rfl) (fun W => by have d := DN.out; go_simp)) rfl ?_
      (try simp only [zP, zN, zA, zB, zC])
      refine take_ (i := 20) (N := some 42) (v := .agg (opC p).toArray) #[true, true, true, true, false, true, true, true, true, true, false, false, true, true, true, true, true, true, true, true, true, false, false] rfl rfl (by kernel_rfl) (fun c a w h => hP c a _ _ w h) (y_load (p := (a.add (n1 * 28))) rfl (by rfl) (by rfl) (fun W hS => run_loadVar_at (src_elem hS.1 hp.out) Try.underlying59 rfl (by rw [opC_len]; kernel_rfl))) hS33 rfl ?_
      (try simp only [zP, zN, zA, zB, zC])
      refine one_ (i := 4) (N := some 26) #[true, true, true, true, true, true, true, true, true, true, false, false, true, true, true, true, true, true, true, true, true, false, false] rfl rfl (by kernel_rfl) (by simp) (fun K34 hK34 => ?_)
      refine e_call Try.func34 (by kernel_rfl) rfl #[.agg (opC o).toArray] (by rfl) rfl rfl (by first | rfl | (simp only [List.map_toArray, List.map_cons, List.map_nil]; first | done | rfl)) ((op_all o)) ?_
      rintro en w36 ⟨rfl, cc35⟩
      refine ⟨_, rfl, ?_⟩
      have C0' := Lib.hid (show Ch [] w w36 from C0.out.trans' cc35 (fun x hx => absurd hx (by simp)))
      have SL' := Lib.hid (show SrcIs w36 (.slice (some a) L.length c) (L.length) ((L).flatMap opC) 28 from SL.out.chx cc35 xnin_nil)
      have SM' := Lib.hid (show SrcIs w36 (.slice B M.length d) (M.length) ((M).map (Value.int .i64)) 1 from SM.out.chx cc35 xnin_nil)
      clear C0 SL SM
      have C0 := C0'; clear C0'
      have SL := SL'; clear SL'
      have SM := SM'; clear SM'
      clear cc35
      refine hK34.out _ _ ⟨SL.out, trivial⟩ (fun hS37 => ?_); clear hK34 K34
      (try simp only [zP, zN, zA, zB, zC])
      refine one_ (i := 10) (N := some 32) #[true, true, true, true, true, true, true, true, true, true, true, false, true, true, true, true, true, true, true, true, true, false, false] rfl rfl (by kernel_rfl) (by simp) (fun K38 hK38 => ?_)
      refine e_call Try.func34 (by kernel_rfl) rfl #[.agg (opC p).toArray] (by rfl) rfl rfl (by first | rfl | (simp only [List.map_toArray, List.map_cons, List.map_nil]; first | done | rfl)) ((op_all p)) ?_
      rintro en w40 ⟨rfl, cc39⟩
      refine ⟨_, rfl, ?_⟩
      have C0' := Lib.hid (show Ch [] w w40 from C0.out.trans' cc39 (fun x hx => absurd hx (by simp)))
      have SL' := Lib.hid (show SrcIs w40 (.slice (some a) L.length c) (L.length) ((L).flatMap opC) 28 from SL.out.chx cc39 xnin_nil)
      have SM' := Lib.hid (show SrcIs w40 (.slice B M.length d) (M.length) ((M).map (Value.int .i64)) 1 from SM.out.chx cc39 xnin_nil)
      clear C0 SL SM
      have C0 := C0'; clear C0'
      have SL := SL'; clear SL'
      have SM := SM'; clear SM'
      clear cc39
      refine hK38.out _ _ ⟨SL.out, trivial⟩ (fun hS41 => ?_); clear hK38 K38
      (try simp only [zP, zN, zA, zB, zC])
      refine one_ (i := 11) (N := some 33) #[true, true, true, true, true, true, true, true, true, true, true, true, true, true, true, true, true, true, true, true, true, false, false] rfl rfl (by kernel_rfl) (by simp) (fun K42 hK42 => ?_)
      refine e_call Try.func33 (by kernel_rfl) rfl #[.agg (opC o).toArray, .agg (opC p).toArray] (by rfl) rfl rfl (by first | rfl | (simp only [List.map_toArray, List.map_cons, List.map_nil]; first | done | rfl)) ((may_ o p)) ?_
      rintro en w44 ⟨rfl, cc43⟩
      refine ⟨_, rfl, ?_⟩
      have C0' := Lib.hid (show Ch [] w w44 from C0.out.trans' cc43 (fun x hx => absurd hx (by simp)))
      have SL' := Lib.hid (show SrcIs w44 (.slice (some a) L.length c) (L.length) ((L).flatMap opC) 28 from SL.out.chx cc43 xnin_nil)
      have SM' := Lib.hid (show SrcIs w44 (.slice B M.length d) (M.length) ((M).map (Value.int .i64)) 1 from SM.out.chx cc43 xnin_nil)
      clear C0 SL SM
      have C0 := C0'; clear C0'
      have SL := SL'; clear SL'
      have SM := SM'; clear SM'
      clear cc43
      refine hK42.out _ _ ⟨SL.out, trivial⟩ (fun hS45 => ?_); clear hK42 K42
      (try simp only [zP, zN, zA, zB, zC])
      refine one_ (i := 21) (N := some 43) #[true, true, true, true, true, true, true, true, true, true, true, true, true, true, true, true, true, true, true, true, true, true, false] rfl rfl (by kernel_rfl) (by simp) (fun K46 hK46 => ?_)
      refine e_call Try.func35 (by kernel_rfl) rfl #[.agg (opC o).toArray, .agg (opC p).toArray] (by rfl) rfl rfl (by first | rfl | (simp only [List.map_toArray, List.map_cons, List.map_nil]; first | done | rfl)) ((rmay_ o p)) ?_
      rintro en w48 ⟨rfl, cc47⟩
      refine ⟨_, rfl, ?_⟩
      have C0' := Lib.hid (show Ch [] w w48 from C0.out.trans' cc47 (fun x hx => absurd hx (by simp)))
      have SL' := Lib.hid (show SrcIs w48 (.slice (some a) L.length c) (L.length) ((L).flatMap opC) 28 from SL.out.chx cc47 xnin_nil)
      have SM' := Lib.hid (show SrcIs w48 (.slice B M.length d) (M.length) ((M).map (Value.int .i64)) 1 from SM.out.chx cc47 xnin_nil)
      clear C0 SL SM
      have C0 := C0'; clear C0'
      have SL := SL'; clear SL'
      have SM := SM'; clear SM'
      clear cc47
      refine hK46.out _ _ ⟨SL.out, trivial⟩ (fun hS49 => ?_); clear hK46 K46
      (try simp only [zP, zN, zA, zB, zC])
      refine pure_ (i := 22) (N := some 44) (v := .bool false) #[true, true, true, true, true, true, true, true, true, true, true, true, true, true, true, true, true, true, true, true, true, true, true] rfl rfl (by kernel_rfl) (fun c a w h => hP c a _ _ w h) (y_run (by rfl) (fun W => by go_simp)) rfl ?_
      (try simp only [zP, zN, zA, zB, zC])
      refine done_ (by kernel_rfl) (th_norm (hK30 _ _ ?_)); clear hK30 K30
      refine wp_cond_false rfl ?_
      refine wp_skip ?_
      refine ib_norm ?_
      refine th_norm (hK29 _ _ ?_); try clear hK29 K29
      refine r_ ?_
      refine pu_ (v := .int .i64 k) (y_move rfl (by rfl) (by rfl)) ?_
      (try simp only [zP, zN, zA, zB, zC])
      refine pu_ (v := .int .i64 n1) (y_run (by rfl) (fun W => by have d := Wn.out; go_simp)) ?_
      (try simp only [zP, zN, zA, zB, zC])
      refine pu_ (v := .int .i64 n1) (y_assign rfl (by rfl) (by rfl)) ?_
      (try simp only [zP, zN, zA, zB, zC])
      refine nl_ ?_
      exact th_norm (hK26 (kq - 1) _ _ (by have := hlt.out; have := hk.out; omega) ⟨n1, fun us_ => (#[.slice (some a) L.length c, .slice B M.length d, us 2, us 3, .bool false, .int .i64 n1, us 6, us 7, us 8, us 9, us 10, us 11, us 12, us 13, us 14, .int .i64 k, .int .i64 n1, .slice (some a) L.length c, .int .i64 L.length, .bool true, .int .i64 k, .int .i64 n1, .slice (some a) L.length c, .int .i64 k, .pointer (some (a.add (k * 28))), .agg (opC o).toArray, .agg (opC o).toArray, .slice (some a) L.length c, .int .i64 k, .int .i64 n1, .pointer (some (a.add (n1 * 28))), .agg (opC p).toArray, .agg (opC p).toArray, .bool (mayB o p), .slice (some a) L.length c, .int .i64 k, .pointer (some (a.add (k * 28))), .agg (opC o).toArray, .slice (some a) L.length c, .int .i64 k, .int .i64 n1, .pointer (some (a.add (n1 * 28))), .agg (opC p).toArray, .bool (mayB o p), .bool false, us 45, us 46, us 47, us 48, us 49, us 50, us 51, us 52, us 53, us 54, us 55, us 56, us 57, us 58, us 59, us 60, us 61, us 62, us 63, us 64, us 65, us 66, us 67, us 68, us 69, us 70, us 71, us 72, us 73] : Array Value).getD us_ undef, rfl, C0, SL, SM, Lib.hid ⟨by have := hlt.out; have := HN1.out; omega, by have := hlt.out; have := HN1.out; have := hk.out; omega⟩⟩)
    · obtain ⟨n1, hn10⟩ : ∃ n1, n1 = k + 1 := ⟨_, rfl⟩
      have HN1 := Lib.hid hn10
      clear hn10
      have Wn := Lib.hid (show IntKind.i64.wrap ((k : Int) + 1) = (n1 : Int) by have h9 := HN1.out; rw [wr64 (by have := hk.out; have := HN.out; omega)]; omega)
      have D19 := Lib.hid (show L.length ≤ n1 by have := HN1.out; omega)
      clear h
      refine s_ (fun K50 hK50 => ?_)
      refine pu_ (v := .int .i64 k) (y_move rfl (by rfl) (by rfl)) ?_
      (try simp only [zP, zN, zA, zB, zC])
      refine pu_ (v := .int .i64 n1) (y_run (by rfl) (fun W => by have d := Wn.out; go_simp)) ?_
      (try simp only [zP, zN, zA, zB, zC])
      refine pu_ (v := .slice A L.length c) (y_move rfl (by rfl) (by rfl)) ?_
      (try simp only [zP, zN, zA, zB, zC])
      refine pu_ (v := .int .i64 L.length) (y_run (by rfl) (fun W => by go_simp)) ?_
      (try simp only [zP, zN, zA, zB, zC])
      refine pu_ (v := .bool false) (y_run (by rfl) (fun W => by have d := D19.out; go_simp)) ?_
      (try simp only [zP, zN, zA, zB, zC])
      refine nl_ (hK50 _ _ ?_); clear hK50 K50
      refine wp_cond_false rfl ?_
      refine wp_exit ?_
      refine th_exit ?_
      refine th_exit ?_
      refine ib_exit ?_
      refine th_norm (hK23 _ _ ?_); try clear hK23 K23
      rcases Classical.em (respP L M) with h1 | h1 <;> rcases Classical.em (wholeP L M) with h2 | h2
      · have hR := Lib.hid h1
        have hWQ := Lib.hid h2
        clear h1 h2
        refine s_ (fun K51 hK51 => ?_)
        refine pu_ (v := .slice A L.length c) (y_move rfl (by rfl) (by rfl)) ?_
        (try simp only [zP, zN, zA, zB, zC])
        refine ef_ (fun K52 hK52 => ?_)
        refine e_call Try.func37 (by kernel_rfl) rfl #[.slice A L.length c] (by rfl) rfl rfl (by first | rfl | (simp only [List.map_toArray, List.map_cons, List.map_nil]; first | done | rfl)) ((to_ HML HB SL)) ?_
        rintro en w54 ⟨v5, rfl, O50, cc53⟩
        refine ⟨_, rfl, ?_⟩
        obtain ⟨A5, c5, hv5, hc51, hc52⟩ := O50.slice
        subst hv5
        have C0' := Lib.hid (show Ch [] w w54 from C0.out.trans' cc53 (fun x hx => absurd hx (by simp)))
        have SL' := Lib.hid (show SrcIs w54 (.slice A L.length c) (L.length) ((L).flatMap opC) 28 from SL.out.chx cc53 xnin_nil)
        have SM' := Lib.hid (show SrcIs w54 (.slice B M.length d) (M.length) ((M).map (Value.int .i64)) 1 from SM.out.chx cc53 xnin_nil)
        clear C0 SL SM
        have C0 := C0'; clear C0'
        have SL := SL'; clear SL'
        have SM := SM'; clear SM'
        clear cc53
        have O5 := Lib.hid O50
        clear O50 hc51 hc52
        refine hK52 _ _ ?_; clear hK52 K52
        (try simp only [zP, zN, zA, zB, zC])
        refine ef_ (fun K55 hK55 => ?_)
        refine e_call Try.func31 (by kernel_rfl) rfl #[.slice A5 L.length c5] (by rfl) rfl rfl (by first | rfl | (simp only [List.map_toArray, List.map_cons, List.map_nil]; first | done | rfl)) ((order_ (w := w54) (A := A5) (c := c5) (L := L) (Lib.hid (by have := hPL.out.1; omega)) (Lib.hid hPL.out.1) (Lib.hid O5.out.src))) ?_
        rintro en w57 ⟨vX, X, rfl, OX0, HSX0, cc56⟩
        refine ⟨_, rfl, ?_⟩
        obtain ⟨AX, cX, hv, hc1, hc2⟩ := OX0.slice
        subst hv
        have C0' := Lib.hid (show Ch [] w w57 from C0.out.trans' cc56 (fun x hx => absurd hx (by simp)))
        have SL' := Lib.hid (show SrcIs w57 (.slice A L.length c) (L.length) ((L).flatMap opC) 28 from SL.out.chx cc56 xnin_nil)
        have SM' := Lib.hid (show SrcIs w57 (.slice B M.length d) (M.length) ((M).map (Value.int .i64)) 1 from SM.out.chx cc56 xnin_nil)
        have O5' := Lib.hid (show OwnS w57 w25.heap.size 49 28 (.slice A5 L.length c5) (L.length) ((L).flatMap opC) from O5.out.ch cc56 rnin_nil)
        clear C0 SL SM O5
        have C0 := C0'; clear C0'
        have SL := SL'; clear SL'
        have SM := SM'; clear SM'
        have O5 := O5'; clear O5'
        clear cc56
        have OX := Lib.hid OX0
        have HSX := Lib.hid HSX0
        have HDX := Lib.hid (And.intro hc1 hc2)
        have HLX := Lib.hid (show X.length ≤ 30 from by rw [HSX.out.1.length_eq]; exact Nat.le_trans (done_len _ _) hPL.out.1)
        clear OX0 HSX0 hc1 hc2
        refine hK55 _ _ ?_; clear hK55 K55
        (try simp only [zP, zN, zA, zB, zC])
        refine pu_ (v := .slice A L.length c) (y_move rfl (by rfl) (by rfl)) ?_
        (try simp only [zP, zN, zA, zB, zC])
        refine ef_ (fun K58 hK58 => ?_)
        refine e_call Try.func38 (by kernel_rfl) rfl #[.slice A L.length c] (by rfl) rfl rfl (by first | rfl | (simp only [List.map_toArray, List.map_cons, List.map_nil]; first | done | rfl)) ((rorder_ (w := w57) (Lib.hid (by have := HN.out; omega)) SL)) ?_
        rintro en w60 ⟨v9, Y, rfl, O90, HS90, cc59⟩
        refine ⟨_, rfl, ?_⟩
        have hYX : Y = X := sorted_eq (HS90.1.trans HSX.out.1.symm) HS90.2 HSX.out.2
        rw [hYX] at O90
        obtain ⟨A9, c9, hv9, hc91, hc92⟩ := O90.slice
        subst hv9
        have C0' := Lib.hid (show Ch [] w w60 from C0.out.trans' cc59 (fun x hx => absurd hx (by simp)))
        have SL' := Lib.hid (show SrcIs w60 (.slice A L.length c) (L.length) ((L).flatMap opC) 28 from SL.out.chx cc59 xnin_nil)
        have SM' := Lib.hid (show SrcIs w60 (.slice B M.length d) (M.length) ((M).map (Value.int .i64)) 1 from SM.out.chx cc59 xnin_nil)
        have O5' := Lib.hid (show OwnS w60 w25.heap.size 49 28 (.slice A5 L.length c5) (L.length) ((L).flatMap opC) from O5.out.ch cc59 rnin_nil)
        have OX' := Lib.hid (show OwnS w60 w54.heap.size 3 1 (.slice AX X.length cX) (X.length) (X.map vi) from OX.out.ch cc59 rnin_nil)
        clear C0 SL SM O5 OX
        have C0 := C0'; clear C0'
        have SL := SL'; clear SL'
        have SM := SM'; clear SM'
        have O5 := O5'; clear O5'
        have OX := OX'; clear OX'
        clear cc59
        have O9 := Lib.hid O90
        clear O90 HS90 hYX hc91 hc92
        refine hK58 _ _ ?_; clear hK58 K58
        (try simp only [zP, zN, zA, zB, zC])
        refine ef_ (fun K61 hK61 => ?_)
        refine e_call Try.func36 (by kernel_rfl) rfl #[.slice AX X.length cX, .slice A9 X.length c9] (by rfl) rfl rfl (by first | rfl | (simp only [List.map_toArray, List.map_cons, List.map_nil]; first | done | rfl)) ((same_ (M := X) (A := AX) (c := cX) (B := A9) (d := c9) (Lib.hid (by have := HLX.out; omega)) (Lib.hid OX.out.src) (Lib.hid O9.out.src))) ?_
        rintro en w63 ⟨rfl, cc62⟩
        refine ⟨_, rfl, ?_⟩
        have C0' := Lib.hid (show Ch [] w w63 from C0.out.trans' cc62 (fun x hx => absurd hx (by simp)))
        have SL' := Lib.hid (show SrcIs w63 (.slice A L.length c) (L.length) ((L).flatMap opC) 28 from SL.out.chx cc62 xnin_nil)
        have SM' := Lib.hid (show SrcIs w63 (.slice B M.length d) (M.length) ((M).map (Value.int .i64)) 1 from SM.out.chx cc62 xnin_nil)
        have O5' := Lib.hid (show OwnS w63 w25.heap.size 49 28 (.slice A5 L.length c5) (L.length) ((L).flatMap opC) from O5.out.ch cc62 rnin_nil)
        have OX' := Lib.hid (show OwnS w63 w54.heap.size 3 1 (.slice AX X.length cX) (X.length) (X.map vi) from OX.out.ch cc62 rnin_nil)
        have O9' := Lib.hid (show OwnS w63 w57.heap.size 3 1 (.slice A9 X.length c9) (X.length) (X.map vi) from O9.out.ch cc62 rnin_nil)
        clear C0 SL SM O5 OX O9
        have C0 := C0'; clear C0'
        have SL := SL'; clear SL'
        have SM := SM'; clear SM'
        have O5 := O5'; clear O5'
        have OX := OX'; clear OX'
        have O9 := O9'; clear O9'
        clear cc62
        refine hK61 _ _ ?_; clear hK61 K61
        (try simp only [zP, zN, zA, zB, zC])
        refine pu_ (v := .bool true) (y_move rfl (by rfl) (by rfl)) ?_
        (try simp only [zP, zN, zA, zB, zC])
        refine pu_ (v := .slice A L.length c) (y_move rfl (by rfl) (by rfl)) ?_
        (try simp only [zP, zN, zA, zB, zC])
        refine ef_ (fun K64 hK64 => ?_)
        refine e_call Try.func37 (by kernel_rfl) rfl #[.slice A L.length c] (by rfl) rfl rfl (by first | rfl | (simp only [List.map_toArray, List.map_cons, List.map_nil]; first | done | rfl)) ((to_ HML HB SL)) ?_
        rintro en w66 ⟨v6, rfl, O60, cc65⟩
        refine ⟨_, rfl, ?_⟩
        obtain ⟨A6, c6, hv5, hc51, hc52⟩ := O60.slice
        subst hv5
        have C0' := Lib.hid (show Ch [] w w66 from C0.out.trans' cc65 (fun x hx => absurd hx (by simp)))
        have SL' := Lib.hid (show SrcIs w66 (.slice A L.length c) (L.length) ((L).flatMap opC) 28 from SL.out.chx cc65 xnin_nil)
        have SM' := Lib.hid (show SrcIs w66 (.slice B M.length d) (M.length) ((M).map (Value.int .i64)) 1 from SM.out.chx cc65 xnin_nil)
        have O5' := Lib.hid (show OwnS w66 w25.heap.size 49 28 (.slice A5 L.length c5) (L.length) ((L).flatMap opC) from O5.out.ch cc65 rnin_nil)
        have OX' := Lib.hid (show OwnS w66 w54.heap.size 3 1 (.slice AX X.length cX) (X.length) (X.map vi) from OX.out.ch cc65 rnin_nil)
        have O9' := Lib.hid (show OwnS w66 w57.heap.size 3 1 (.slice A9 X.length c9) (X.length) (X.map vi) from O9.out.ch cc65 rnin_nil)
        clear C0 SL SM O5 OX O9
        have C0 := C0'; clear C0'
        have SL := SL'; clear SL'
        have SM := SM'; clear SM'
        have O5 := O5'; clear O5'
        have OX := OX'; clear OX'
        have O9 := O9'; clear O9'
        clear cc65
        have O6 := Lib.hid O60
        clear O60 hc51 hc52
        refine hK64 _ _ ?_; clear hK64 K64
        (try simp only [zP, zN, zA, zB, zC])
        refine pu_ (v := .slice B M.length d) (y_move rfl (by rfl) (by rfl)) ?_
        (try simp only [zP, zN, zA, zB, zC])
        refine ef_ (fun K67 hK67 => ?_)
        refine e_call Try.func29 (by kernel_rfl) rfl #[.slice A6 L.length c6, .slice B M.length d] (by rfl) rfl rfl (by first | rfl | (simp only [List.map_toArray, List.map_cons, List.map_nil]; first | done | rfl)) ((ynT (respects_ (A := A6) (c := c6) (B := B) (d := d) (L := L) (M := M) (Lib.hid (by have := HN.out; omega)) (Lib.hid (by have := hM.out; omega)) HD (Lib.hid O6.out.src) SM) hR.out)) ?_
        rintro en w69 ⟨rfl, cc68⟩
        refine ⟨_, rfl, ?_⟩
        have C0' := Lib.hid (show Ch [] w w69 from C0.out.trans' cc68 (fun x hx => absurd hx (by simp)))
        have SL' := Lib.hid (show SrcIs w69 (.slice A L.length c) (L.length) ((L).flatMap opC) 28 from SL.out.chx cc68 xnin_nil)
        have SM' := Lib.hid (show SrcIs w69 (.slice B M.length d) (M.length) ((M).map (Value.int .i64)) 1 from SM.out.chx cc68 xnin_nil)
        have O5' := Lib.hid (show OwnS w69 w25.heap.size 49 28 (.slice A5 L.length c5) (L.length) ((L).flatMap opC) from O5.out.ch cc68 rnin_nil)
        have OX' := Lib.hid (show OwnS w69 w54.heap.size 3 1 (.slice AX X.length cX) (X.length) (X.map vi) from OX.out.ch cc68 rnin_nil)
        have O9' := Lib.hid (show OwnS w69 w57.heap.size 3 1 (.slice A9 X.length c9) (X.length) (X.map vi) from O9.out.ch cc68 rnin_nil)
        have O6' := Lib.hid (show OwnS w69 w63.heap.size 49 28 (.slice A6 L.length c6) (L.length) ((L).flatMap opC) from O6.out.ch cc68 rnin_nil)
        clear C0 SL SM O5 OX O9 O6
        have C0 := C0'; clear C0'
        have SL := SL'; clear SL'
        have SM := SM'; clear SM'
        have O5 := O5'; clear O5'
        have OX := OX'; clear OX'
        have O9 := O9'; clear O9'
        have O6 := O6'; clear O6'
        clear cc68
        refine hK67 _ _ ?_; clear hK67 K67
        (try simp only [zP, zN, zA, zB, zC])
        refine pu_ (v := .slice A L.length c) (y_move rfl (by rfl) (by rfl)) ?_
        (try simp only [zP, zN, zA, zB, zC])
        refine pu_ (v := .slice B M.length d) (y_move rfl (by rfl) (by rfl)) ?_
        (try simp only [zP, zN, zA, zB, zC])
        refine ef_ (fun K70 hK70 => ?_)
        refine e_call Try.func39 (by kernel_rfl) rfl #[.slice A L.length c, .slice B M.length d] (by rfl) rfl rfl (by first | rfl | (simp only [List.map_toArray, List.map_cons, List.map_nil]; first | done | rfl)) ((ynT (rresp_ (L := L) (M := M) (Lib.hid (by have := HN.out; omega)) (Lib.hid (by have := hM.out; omega)) SL SM) hR.out)) ?_
        rintro en w72 ⟨rfl, cc71⟩
        refine ⟨_, rfl, ?_⟩
        have C0' := Lib.hid (show Ch [] w w72 from C0.out.trans' cc71 (fun x hx => absurd hx (by simp)))
        have SL' := Lib.hid (show SrcIs w72 (.slice A L.length c) (L.length) ((L).flatMap opC) 28 from SL.out.chx cc71 xnin_nil)
        have SM' := Lib.hid (show SrcIs w72 (.slice B M.length d) (M.length) ((M).map (Value.int .i64)) 1 from SM.out.chx cc71 xnin_nil)
        have O5' := Lib.hid (show OwnS w72 w25.heap.size 49 28 (.slice A5 L.length c5) (L.length) ((L).flatMap opC) from O5.out.ch cc71 rnin_nil)
        have OX' := Lib.hid (show OwnS w72 w54.heap.size 3 1 (.slice AX X.length cX) (X.length) (X.map vi) from OX.out.ch cc71 rnin_nil)
        have O9' := Lib.hid (show OwnS w72 w57.heap.size 3 1 (.slice A9 X.length c9) (X.length) (X.map vi) from O9.out.ch cc71 rnin_nil)
        have O6' := Lib.hid (show OwnS w72 w63.heap.size 49 28 (.slice A6 L.length c6) (L.length) ((L).flatMap opC) from O6.out.ch cc71 rnin_nil)
        clear C0 SL SM O5 OX O9 O6
        have C0 := C0'; clear C0'
        have SL := SL'; clear SL'
        have SM := SM'; clear SM'
        have O5 := O5'; clear O5'
        have OX := OX'; clear OX'
        have O9 := O9'; clear O9'
        have O6 := O6'; clear O6'
        clear cc71
        refine hK70 _ _ ?_; clear hK70 K70
        (try simp only [zP, zN, zA, zB, zC])
        refine pu_ (v := .bool true) (y_run (by rfl) (fun W => by go_simp)) ?_
        (try simp only [zP, zN, zA, zB, zC])
        refine pu_ (v := .bool true) (y_pick (t := true) (by rfl) rfl (by rfl) (by rfl)) ?_
        (try simp only [zP, zN, zA, zB, zC])
        refine pu_ (v := .bool true) (y_move rfl (by rfl) (by rfl)) ?_
        (try simp only [zP, zN, zA, zB, zC])
        refine pu_ (v := .slice A L.length c) (y_move rfl (by rfl) (by rfl)) ?_
        (try simp only [zP, zN, zA, zB, zC])
        refine ef_ (fun K73 hK73 => ?_)
        refine e_call Try.func37 (by kernel_rfl) rfl #[.slice A L.length c] (by rfl) rfl rfl (by first | rfl | (simp only [List.map_toArray, List.map_cons, List.map_nil]; first | done | rfl)) ((to_ HML HB SL)) ?_
        rintro en w75 ⟨v7, rfl, O70, cc74⟩
        refine ⟨_, rfl, ?_⟩
        obtain ⟨A7, c7, hv5, hc51, hc52⟩ := O70.slice
        subst hv5
        have C0' := Lib.hid (show Ch [] w w75 from C0.out.trans' cc74 (fun x hx => absurd hx (by simp)))
        have SL' := Lib.hid (show SrcIs w75 (.slice A L.length c) (L.length) ((L).flatMap opC) 28 from SL.out.chx cc74 xnin_nil)
        have SM' := Lib.hid (show SrcIs w75 (.slice B M.length d) (M.length) ((M).map (Value.int .i64)) 1 from SM.out.chx cc74 xnin_nil)
        have O5' := Lib.hid (show OwnS w75 w25.heap.size 49 28 (.slice A5 L.length c5) (L.length) ((L).flatMap opC) from O5.out.ch cc74 rnin_nil)
        have OX' := Lib.hid (show OwnS w75 w54.heap.size 3 1 (.slice AX X.length cX) (X.length) (X.map vi) from OX.out.ch cc74 rnin_nil)
        have O9' := Lib.hid (show OwnS w75 w57.heap.size 3 1 (.slice A9 X.length c9) (X.length) (X.map vi) from O9.out.ch cc74 rnin_nil)
        have O6' := Lib.hid (show OwnS w75 w63.heap.size 49 28 (.slice A6 L.length c6) (L.length) ((L).flatMap opC) from O6.out.ch cc74 rnin_nil)
        clear C0 SL SM O5 OX O9 O6
        have C0 := C0'; clear C0'
        have SL := SL'; clear SL'
        have SM := SM'; clear SM'
        have O5 := O5'; clear O5'
        have OX := OX'; clear OX'
        have O9 := O9'; clear O9'
        have O6 := O6'; clear O6'
        clear cc74
        have O7 := Lib.hid O70
        clear O70 hc51 hc52
        refine hK73 _ _ ?_; clear hK73 K73
        (try simp only [zP, zN, zA, zB, zC])
        refine pu_ (v := .slice B M.length d) (y_move rfl (by rfl) (by rfl)) ?_
        (try simp only [zP, zN, zA, zB, zC])
        refine ef_ (fun K76 hK76 => ?_)
        refine e_call Try.func40 (by kernel_rfl) rfl #[.slice A7 L.length c7, .slice B M.length d] (by rfl) rfl rfl (by first | rfl | (simp only [List.map_toArray, List.map_cons, List.map_nil]; first | done | rfl)) ((ynT (whole_ (A := A7) (c := c7) (B := B) (d := d) (L := L) (M := M) (Lib.hid (by have := HN.out; omega)) (Lib.hid (by have := hM.out; omega)) (Lib.hid O7.out.src) SM) hWQ.out)) ?_
        rintro en w78 ⟨rfl, cc77⟩
        refine ⟨_, rfl, ?_⟩
        have C0' := Lib.hid (show Ch [] w w78 from C0.out.trans' cc77 (fun x hx => absurd hx (by simp)))
        have SL' := Lib.hid (show SrcIs w78 (.slice A L.length c) (L.length) ((L).flatMap opC) 28 from SL.out.chx cc77 xnin_nil)
        have SM' := Lib.hid (show SrcIs w78 (.slice B M.length d) (M.length) ((M).map (Value.int .i64)) 1 from SM.out.chx cc77 xnin_nil)
        have O5' := Lib.hid (show OwnS w78 w25.heap.size 49 28 (.slice A5 L.length c5) (L.length) ((L).flatMap opC) from O5.out.ch cc77 rnin_nil)
        have OX' := Lib.hid (show OwnS w78 w54.heap.size 3 1 (.slice AX X.length cX) (X.length) (X.map vi) from OX.out.ch cc77 rnin_nil)
        have O9' := Lib.hid (show OwnS w78 w57.heap.size 3 1 (.slice A9 X.length c9) (X.length) (X.map vi) from O9.out.ch cc77 rnin_nil)
        have O6' := Lib.hid (show OwnS w78 w63.heap.size 49 28 (.slice A6 L.length c6) (L.length) ((L).flatMap opC) from O6.out.ch cc77 rnin_nil)
        have O7' := Lib.hid (show OwnS w78 w72.heap.size 49 28 (.slice A7 L.length c7) (L.length) ((L).flatMap opC) from O7.out.ch cc77 rnin_nil)
        clear C0 SL SM O5 OX O9 O6 O7
        have C0 := C0'; clear C0'
        have SL := SL'; clear SL'
        have SM := SM'; clear SM'
        have O5 := O5'; clear O5'
        have OX := OX'; clear OX'
        have O9 := O9'; clear O9'
        have O6 := O6'; clear O6'
        have O7 := O7'; clear O7'
        clear cc77
        refine hK76 _ _ ?_; clear hK76 K76
        (try simp only [zP, zN, zA, zB, zC])
        refine pu_ (v := .slice A L.length c) (y_move rfl (by rfl) (by rfl)) ?_
        (try simp only [zP, zN, zA, zB, zC])
        refine pu_ (v := .slice B M.length d) (y_move rfl (by rfl) (by rfl)) ?_
        (try simp only [zP, zN, zA, zB, zC])
        refine ef_ (fun K79 hK79 => ?_)
        refine e_call Try.func41 (by kernel_rfl) rfl #[.slice A L.length c, .slice B M.length d] (by rfl) rfl rfl (by first | rfl | (simp only [List.map_toArray, List.map_cons, List.map_nil]; first | done | rfl)) ((ynT (rwhole_ (L := L) (M := M) (Lib.hid (by have := HN.out; omega)) (Lib.hid (by have := hM.out; omega)) SL SM) hWQ.out)) ?_
        rintro en w81 ⟨rfl, cc80⟩
        refine ⟨_, rfl, ?_⟩
        have C0' := Lib.hid (show Ch [] w w81 from C0.out.trans' cc80 (fun x hx => absurd hx (by simp)))
        have SL' := Lib.hid (show SrcIs w81 (.slice A L.length c) (L.length) ((L).flatMap opC) 28 from SL.out.chx cc80 xnin_nil)
        have SM' := Lib.hid (show SrcIs w81 (.slice B M.length d) (M.length) ((M).map (Value.int .i64)) 1 from SM.out.chx cc80 xnin_nil)
        have O5' := Lib.hid (show OwnS w81 w25.heap.size 49 28 (.slice A5 L.length c5) (L.length) ((L).flatMap opC) from O5.out.ch cc80 rnin_nil)
        have OX' := Lib.hid (show OwnS w81 w54.heap.size 3 1 (.slice AX X.length cX) (X.length) (X.map vi) from OX.out.ch cc80 rnin_nil)
        have O9' := Lib.hid (show OwnS w81 w57.heap.size 3 1 (.slice A9 X.length c9) (X.length) (X.map vi) from O9.out.ch cc80 rnin_nil)
        have O6' := Lib.hid (show OwnS w81 w63.heap.size 49 28 (.slice A6 L.length c6) (L.length) ((L).flatMap opC) from O6.out.ch cc80 rnin_nil)
        have O7' := Lib.hid (show OwnS w81 w72.heap.size 49 28 (.slice A7 L.length c7) (L.length) ((L).flatMap opC) from O7.out.ch cc80 rnin_nil)
        clear C0 SL SM O5 OX O9 O6 O7
        have C0 := C0'; clear C0'
        have SL := SL'; clear SL'
        have SM := SM'; clear SM'
        have O5 := O5'; clear O5'
        have OX := OX'; clear OX'
        have O9 := O9'; clear O9'
        have O6 := O6'; clear O6'
        have O7 := O7'; clear O7'
        clear cc80
        refine hK79 _ _ ?_; clear hK79 K79
        (try simp only [zP, zN, zA, zB, zC])
        refine pu_ (v := .bool true) (y_run (by rfl) (fun W => by go_simp)) ?_
        (try simp only [zP, zN, zA, zB, zC])
        refine pu_ (v := .bool true) (y_pick (t := true) (by rfl) rfl (by rfl) (by rfl)) ?_
        (try simp only [zP, zN, zA, zB, zC])
        refine pu_ (v := .bool true) (y_move rfl (by rfl) (by rfl)) ?_
        (try simp only [zP, zN, zA, zB, zC])
        refine ef_ (fun K82 hK82 => ?_)
        refine e_call Try.func27 (by kernel_rfl) rfl #[] (by rfl) rfl rfl (by first | rfl | (simp only [List.map_toArray, List.map_cons, List.map_nil]; first | done | rfl)) (works_) ?_
        rintro en w84 ⟨rfl, cc83⟩
        refine ⟨_, rfl, ?_⟩
        have C0' := Lib.hid (show Ch [] w w84 from C0.out.trans' cc83 (fun x hx => absurd hx (by simp)))
        have SL' := Lib.hid (show SrcIs w84 (.slice A L.length c) (L.length) ((L).flatMap opC) 28 from SL.out.chx cc83 xnin_nil)
        have SM' := Lib.hid (show SrcIs w84 (.slice B M.length d) (M.length) ((M).map (Value.int .i64)) 1 from SM.out.chx cc83 xnin_nil)
        have O5' := Lib.hid (show OwnS w84 w25.heap.size 49 28 (.slice A5 L.length c5) (L.length) ((L).flatMap opC) from O5.out.ch cc83 rnin_nil)
        have OX' := Lib.hid (show OwnS w84 w54.heap.size 3 1 (.slice AX X.length cX) (X.length) (X.map vi) from OX.out.ch cc83 rnin_nil)
        have O9' := Lib.hid (show OwnS w84 w57.heap.size 3 1 (.slice A9 X.length c9) (X.length) (X.map vi) from O9.out.ch cc83 rnin_nil)
        have O6' := Lib.hid (show OwnS w84 w63.heap.size 49 28 (.slice A6 L.length c6) (L.length) ((L).flatMap opC) from O6.out.ch cc83 rnin_nil)
        have O7' := Lib.hid (show OwnS w84 w72.heap.size 49 28 (.slice A7 L.length c7) (L.length) ((L).flatMap opC) from O7.out.ch cc83 rnin_nil)
        clear C0 SL SM O5 OX O9 O6 O7
        have C0 := C0'; clear C0'
        have SL := SL'; clear SL'
        have SM := SM'; clear SM'
        have O5 := O5'; clear O5'
        have OX := OX'; clear OX'
        have O9 := O9'; clear O9'
        have O6 := O6'; clear O6'
        have O7 := O7'; clear O7'
        clear cc83
        refine hK82 _ _ ?_; clear hK82 K82
        (try simp only [zP, zN, zA, zB, zC])
        refine pu_ (v := .bool true) (y_pick (t := true) (by rfl) rfl (by rfl) (by rfl)) ?_
        (try simp only [zP, zN, zA, zB, zC])
        refine pu_ (v := .bool true) (y_assign rfl (by rfl) (by rfl)) ?_
        (try simp only [zP, zN, zA, zB, zC])
        refine nl_ (hK51 _ _ ?_); clear hK51 K51
        refine wp_ret ?_
        refine hQ _ _ _ ?_
        refine bodyPost_ret (res1 rfl (rdv_tmp (v := .bool true) (by rfl))) rfl ?_
        exact ⟨rfl, C0.out⟩
      · have hR := Lib.hid h1
        have hWQ := Lib.hid h2
        clear h1 h2
        refine s_ (fun K85 hK85 => ?_)
        refine pu_ (v := .slice A L.length c) (y_move rfl (by rfl) (by rfl)) ?_
        (try simp only [zP, zN, zA, zB, zC])
        refine ef_ (fun K86 hK86 => ?_)
        refine e_call Try.func37 (by kernel_rfl) rfl #[.slice A L.length c] (by rfl) rfl rfl (by first | rfl | (simp only [List.map_toArray, List.map_cons, List.map_nil]; first | done | rfl)) ((to_ HML HB SL)) ?_
        rintro en w88 ⟨v5, rfl, O50, cc87⟩
        refine ⟨_, rfl, ?_⟩
        obtain ⟨A5, c5, hv5, hc51, hc52⟩ := O50.slice
        subst hv5
        have C0' := Lib.hid (show Ch [] w w88 from C0.out.trans' cc87 (fun x hx => absurd hx (by simp)))
        have SL' := Lib.hid (show SrcIs w88 (.slice A L.length c) (L.length) ((L).flatMap opC) 28 from SL.out.chx cc87 xnin_nil)
        have SM' := Lib.hid (show SrcIs w88 (.slice B M.length d) (M.length) ((M).map (Value.int .i64)) 1 from SM.out.chx cc87 xnin_nil)
        clear C0 SL SM
        have C0 := C0'; clear C0'
        have SL := SL'; clear SL'
        have SM := SM'; clear SM'
        clear cc87
        have O5 := Lib.hid O50
        clear O50 hc51 hc52
        refine hK86 _ _ ?_; clear hK86 K86
        (try simp only [zP, zN, zA, zB, zC])
        refine ef_ (fun K89 hK89 => ?_)
        refine e_call Try.func31 (by kernel_rfl) rfl #[.slice A5 L.length c5] (by rfl) rfl rfl (by first | rfl | (simp only [List.map_toArray, List.map_cons, List.map_nil]; first | done | rfl)) ((order_ (w := w88) (A := A5) (c := c5) (L := L) (Lib.hid (by have := hPL.out.1; omega)) (Lib.hid hPL.out.1) (Lib.hid O5.out.src))) ?_
        rintro en w91 ⟨vX, X, rfl, OX0, HSX0, cc90⟩
        refine ⟨_, rfl, ?_⟩
        obtain ⟨AX, cX, hv, hc1, hc2⟩ := OX0.slice
        subst hv
        have C0' := Lib.hid (show Ch [] w w91 from C0.out.trans' cc90 (fun x hx => absurd hx (by simp)))
        have SL' := Lib.hid (show SrcIs w91 (.slice A L.length c) (L.length) ((L).flatMap opC) 28 from SL.out.chx cc90 xnin_nil)
        have SM' := Lib.hid (show SrcIs w91 (.slice B M.length d) (M.length) ((M).map (Value.int .i64)) 1 from SM.out.chx cc90 xnin_nil)
        have O5' := Lib.hid (show OwnS w91 w25.heap.size 49 28 (.slice A5 L.length c5) (L.length) ((L).flatMap opC) from O5.out.ch cc90 rnin_nil)
        clear C0 SL SM O5
        have C0 := C0'; clear C0'
        have SL := SL'; clear SL'
        have SM := SM'; clear SM'
        have O5 := O5'; clear O5'
        clear cc90
        have OX := Lib.hid OX0
        have HSX := Lib.hid HSX0
        have HDX := Lib.hid (And.intro hc1 hc2)
        have HLX := Lib.hid (show X.length ≤ 30 from by rw [HSX.out.1.length_eq]; exact Nat.le_trans (done_len _ _) hPL.out.1)
        clear OX0 HSX0 hc1 hc2
        refine hK89 _ _ ?_; clear hK89 K89
        (try simp only [zP, zN, zA, zB, zC])
        refine pu_ (v := .slice A L.length c) (y_move rfl (by rfl) (by rfl)) ?_
        (try simp only [zP, zN, zA, zB, zC])
        refine ef_ (fun K92 hK92 => ?_)
        refine e_call Try.func38 (by kernel_rfl) rfl #[.slice A L.length c] (by rfl) rfl rfl (by first | rfl | (simp only [List.map_toArray, List.map_cons, List.map_nil]; first | done | rfl)) ((rorder_ (w := w91) (Lib.hid (by have := HN.out; omega)) SL)) ?_
        rintro en w94 ⟨v9, Y, rfl, O90, HS90, cc93⟩
        refine ⟨_, rfl, ?_⟩
        have hYX : Y = X := sorted_eq (HS90.1.trans HSX.out.1.symm) HS90.2 HSX.out.2
        rw [hYX] at O90
        obtain ⟨A9, c9, hv9, hc91, hc92⟩ := O90.slice
        subst hv9
        have C0' := Lib.hid (show Ch [] w w94 from C0.out.trans' cc93 (fun x hx => absurd hx (by simp)))
        have SL' := Lib.hid (show SrcIs w94 (.slice A L.length c) (L.length) ((L).flatMap opC) 28 from SL.out.chx cc93 xnin_nil)
        have SM' := Lib.hid (show SrcIs w94 (.slice B M.length d) (M.length) ((M).map (Value.int .i64)) 1 from SM.out.chx cc93 xnin_nil)
        have O5' := Lib.hid (show OwnS w94 w25.heap.size 49 28 (.slice A5 L.length c5) (L.length) ((L).flatMap opC) from O5.out.ch cc93 rnin_nil)
        have OX' := Lib.hid (show OwnS w94 w88.heap.size 3 1 (.slice AX X.length cX) (X.length) (X.map vi) from OX.out.ch cc93 rnin_nil)
        clear C0 SL SM O5 OX
        have C0 := C0'; clear C0'
        have SL := SL'; clear SL'
        have SM := SM'; clear SM'
        have O5 := O5'; clear O5'
        have OX := OX'; clear OX'
        clear cc93
        have O9 := Lib.hid O90
        clear O90 HS90 hYX hc91 hc92
        refine hK92 _ _ ?_; clear hK92 K92
        (try simp only [zP, zN, zA, zB, zC])
        refine ef_ (fun K95 hK95 => ?_)
        refine e_call Try.func36 (by kernel_rfl) rfl #[.slice AX X.length cX, .slice A9 X.length c9] (by rfl) rfl rfl (by first | rfl | (simp only [List.map_toArray, List.map_cons, List.map_nil]; first | done | rfl)) ((same_ (M := X) (A := AX) (c := cX) (B := A9) (d := c9) (Lib.hid (by have := HLX.out; omega)) (Lib.hid OX.out.src) (Lib.hid O9.out.src))) ?_
        rintro en w97 ⟨rfl, cc96⟩
        refine ⟨_, rfl, ?_⟩
        have C0' := Lib.hid (show Ch [] w w97 from C0.out.trans' cc96 (fun x hx => absurd hx (by simp)))
        have SL' := Lib.hid (show SrcIs w97 (.slice A L.length c) (L.length) ((L).flatMap opC) 28 from SL.out.chx cc96 xnin_nil)
        have SM' := Lib.hid (show SrcIs w97 (.slice B M.length d) (M.length) ((M).map (Value.int .i64)) 1 from SM.out.chx cc96 xnin_nil)
        have O5' := Lib.hid (show OwnS w97 w25.heap.size 49 28 (.slice A5 L.length c5) (L.length) ((L).flatMap opC) from O5.out.ch cc96 rnin_nil)
        have OX' := Lib.hid (show OwnS w97 w88.heap.size 3 1 (.slice AX X.length cX) (X.length) (X.map vi) from OX.out.ch cc96 rnin_nil)
        have O9' := Lib.hid (show OwnS w97 w91.heap.size 3 1 (.slice A9 X.length c9) (X.length) (X.map vi) from O9.out.ch cc96 rnin_nil)
        clear C0 SL SM O5 OX O9
        have C0 := C0'; clear C0'
        have SL := SL'; clear SL'
        have SM := SM'; clear SM'
        have O5 := O5'; clear O5'
        have OX := OX'; clear OX'
        have O9 := O9'; clear O9'
        clear cc96
        refine hK95 _ _ ?_; clear hK95 K95
        (try simp only [zP, zN, zA, zB, zC])
        refine pu_ (v := .bool true) (y_move rfl (by rfl) (by rfl)) ?_
        (try simp only [zP, zN, zA, zB, zC])
        refine pu_ (v := .slice A L.length c) (y_move rfl (by rfl) (by rfl)) ?_
        (try simp only [zP, zN, zA, zB, zC])
        refine ef_ (fun K98 hK98 => ?_)
        refine e_call Try.func37 (by kernel_rfl) rfl #[.slice A L.length c] (by rfl) rfl rfl (by first | rfl | (simp only [List.map_toArray, List.map_cons, List.map_nil]; first | done | rfl)) ((to_ HML HB SL)) ?_
        rintro en w100 ⟨v6, rfl, O60, cc99⟩
        refine ⟨_, rfl, ?_⟩
        obtain ⟨A6, c6, hv5, hc51, hc52⟩ := O60.slice
        subst hv5
        have C0' := Lib.hid (show Ch [] w w100 from C0.out.trans' cc99 (fun x hx => absurd hx (by simp)))
        have SL' := Lib.hid (show SrcIs w100 (.slice A L.length c) (L.length) ((L).flatMap opC) 28 from SL.out.chx cc99 xnin_nil)
        have SM' := Lib.hid (show SrcIs w100 (.slice B M.length d) (M.length) ((M).map (Value.int .i64)) 1 from SM.out.chx cc99 xnin_nil)
        have O5' := Lib.hid (show OwnS w100 w25.heap.size 49 28 (.slice A5 L.length c5) (L.length) ((L).flatMap opC) from O5.out.ch cc99 rnin_nil)
        have OX' := Lib.hid (show OwnS w100 w88.heap.size 3 1 (.slice AX X.length cX) (X.length) (X.map vi) from OX.out.ch cc99 rnin_nil)
        have O9' := Lib.hid (show OwnS w100 w91.heap.size 3 1 (.slice A9 X.length c9) (X.length) (X.map vi) from O9.out.ch cc99 rnin_nil)
        clear C0 SL SM O5 OX O9
        have C0 := C0'; clear C0'
        have SL := SL'; clear SL'
        have SM := SM'; clear SM'
        have O5 := O5'; clear O5'
        have OX := OX'; clear OX'
        have O9 := O9'; clear O9'
        clear cc99
        have O6 := Lib.hid O60
        clear O60 hc51 hc52
        refine hK98 _ _ ?_; clear hK98 K98
        (try simp only [zP, zN, zA, zB, zC])
        refine pu_ (v := .slice B M.length d) (y_move rfl (by rfl) (by rfl)) ?_
        (try simp only [zP, zN, zA, zB, zC])
        refine ef_ (fun K101 hK101 => ?_)
        refine e_call Try.func29 (by kernel_rfl) rfl #[.slice A6 L.length c6, .slice B M.length d] (by rfl) rfl rfl (by first | rfl | (simp only [List.map_toArray, List.map_cons, List.map_nil]; first | done | rfl)) ((ynT (respects_ (A := A6) (c := c6) (B := B) (d := d) (L := L) (M := M) (Lib.hid (by have := HN.out; omega)) (Lib.hid (by have := hM.out; omega)) HD (Lib.hid O6.out.src) SM) hR.out)) ?_
        rintro en w103 ⟨rfl, cc102⟩
        refine ⟨_, rfl, ?_⟩
        have C0' := Lib.hid (show Ch [] w w103 from C0.out.trans' cc102 (fun x hx => absurd hx (by simp)))
        have SL' := Lib.hid (show SrcIs w103 (.slice A L.length c) (L.length) ((L).flatMap opC) 28 from SL.out.chx cc102 xnin_nil)
        have SM' := Lib.hid (show SrcIs w103 (.slice B M.length d) (M.length) ((M).map (Value.int .i64)) 1 from SM.out.chx cc102 xnin_nil)
        have O5' := Lib.hid (show OwnS w103 w25.heap.size 49 28 (.slice A5 L.length c5) (L.length) ((L).flatMap opC) from O5.out.ch cc102 rnin_nil)
        have OX' := Lib.hid (show OwnS w103 w88.heap.size 3 1 (.slice AX X.length cX) (X.length) (X.map vi) from OX.out.ch cc102 rnin_nil)
        have O9' := Lib.hid (show OwnS w103 w91.heap.size 3 1 (.slice A9 X.length c9) (X.length) (X.map vi) from O9.out.ch cc102 rnin_nil)
        have O6' := Lib.hid (show OwnS w103 w97.heap.size 49 28 (.slice A6 L.length c6) (L.length) ((L).flatMap opC) from O6.out.ch cc102 rnin_nil)
        clear C0 SL SM O5 OX O9 O6
        have C0 := C0'; clear C0'
        have SL := SL'; clear SL'
        have SM := SM'; clear SM'
        have O5 := O5'; clear O5'
        have OX := OX'; clear OX'
        have O9 := O9'; clear O9'
        have O6 := O6'; clear O6'
        clear cc102
        refine hK101 _ _ ?_; clear hK101 K101
        (try simp only [zP, zN, zA, zB, zC])
        refine pu_ (v := .slice A L.length c) (y_move rfl (by rfl) (by rfl)) ?_
        (try simp only [zP, zN, zA, zB, zC])
        refine pu_ (v := .slice B M.length d) (y_move rfl (by rfl) (by rfl)) ?_
        (try simp only [zP, zN, zA, zB, zC])
        refine ef_ (fun K104 hK104 => ?_)
        refine e_call Try.func39 (by kernel_rfl) rfl #[.slice A L.length c, .slice B M.length d] (by rfl) rfl rfl (by first | rfl | (simp only [List.map_toArray, List.map_cons, List.map_nil]; first | done | rfl)) ((ynT (rresp_ (L := L) (M := M) (Lib.hid (by have := HN.out; omega)) (Lib.hid (by have := hM.out; omega)) SL SM) hR.out)) ?_
        rintro en w106 ⟨rfl, cc105⟩
        refine ⟨_, rfl, ?_⟩
        have C0' := Lib.hid (show Ch [] w w106 from C0.out.trans' cc105 (fun x hx => absurd hx (by simp)))
        have SL' := Lib.hid (show SrcIs w106 (.slice A L.length c) (L.length) ((L).flatMap opC) 28 from SL.out.chx cc105 xnin_nil)
        have SM' := Lib.hid (show SrcIs w106 (.slice B M.length d) (M.length) ((M).map (Value.int .i64)) 1 from SM.out.chx cc105 xnin_nil)
        have O5' := Lib.hid (show OwnS w106 w25.heap.size 49 28 (.slice A5 L.length c5) (L.length) ((L).flatMap opC) from O5.out.ch cc105 rnin_nil)
        have OX' := Lib.hid (show OwnS w106 w88.heap.size 3 1 (.slice AX X.length cX) (X.length) (X.map vi) from OX.out.ch cc105 rnin_nil)
        have O9' := Lib.hid (show OwnS w106 w91.heap.size 3 1 (.slice A9 X.length c9) (X.length) (X.map vi) from O9.out.ch cc105 rnin_nil)
        have O6' := Lib.hid (show OwnS w106 w97.heap.size 49 28 (.slice A6 L.length c6) (L.length) ((L).flatMap opC) from O6.out.ch cc105 rnin_nil)
        clear C0 SL SM O5 OX O9 O6
        have C0 := C0'; clear C0'
        have SL := SL'; clear SL'
        have SM := SM'; clear SM'
        have O5 := O5'; clear O5'
        have OX := OX'; clear OX'
        have O9 := O9'; clear O9'
        have O6 := O6'; clear O6'
        clear cc105
        refine hK104 _ _ ?_; clear hK104 K104
        (try simp only [zP, zN, zA, zB, zC])
        refine pu_ (v := .bool true) (y_run (by rfl) (fun W => by go_simp)) ?_
        (try simp only [zP, zN, zA, zB, zC])
        refine pu_ (v := .bool true) (y_pick (t := true) (by rfl) rfl (by rfl) (by rfl)) ?_
        (try simp only [zP, zN, zA, zB, zC])
        refine pu_ (v := .bool true) (y_move rfl (by rfl) (by rfl)) ?_
        (try simp only [zP, zN, zA, zB, zC])
        refine pu_ (v := .slice A L.length c) (y_move rfl (by rfl) (by rfl)) ?_
        (try simp only [zP, zN, zA, zB, zC])
        refine ef_ (fun K107 hK107 => ?_)
        refine e_call Try.func37 (by kernel_rfl) rfl #[.slice A L.length c] (by rfl) rfl rfl (by first | rfl | (simp only [List.map_toArray, List.map_cons, List.map_nil]; first | done | rfl)) ((to_ HML HB SL)) ?_
        rintro en w109 ⟨v7, rfl, O70, cc108⟩
        refine ⟨_, rfl, ?_⟩
        obtain ⟨A7, c7, hv5, hc51, hc52⟩ := O70.slice
        subst hv5
        have C0' := Lib.hid (show Ch [] w w109 from C0.out.trans' cc108 (fun x hx => absurd hx (by simp)))
        have SL' := Lib.hid (show SrcIs w109 (.slice A L.length c) (L.length) ((L).flatMap opC) 28 from SL.out.chx cc108 xnin_nil)
        have SM' := Lib.hid (show SrcIs w109 (.slice B M.length d) (M.length) ((M).map (Value.int .i64)) 1 from SM.out.chx cc108 xnin_nil)
        have O5' := Lib.hid (show OwnS w109 w25.heap.size 49 28 (.slice A5 L.length c5) (L.length) ((L).flatMap opC) from O5.out.ch cc108 rnin_nil)
        have OX' := Lib.hid (show OwnS w109 w88.heap.size 3 1 (.slice AX X.length cX) (X.length) (X.map vi) from OX.out.ch cc108 rnin_nil)
        have O9' := Lib.hid (show OwnS w109 w91.heap.size 3 1 (.slice A9 X.length c9) (X.length) (X.map vi) from O9.out.ch cc108 rnin_nil)
        have O6' := Lib.hid (show OwnS w109 w97.heap.size 49 28 (.slice A6 L.length c6) (L.length) ((L).flatMap opC) from O6.out.ch cc108 rnin_nil)
        clear C0 SL SM O5 OX O9 O6
        have C0 := C0'; clear C0'
        have SL := SL'; clear SL'
        have SM := SM'; clear SM'
        have O5 := O5'; clear O5'
        have OX := OX'; clear OX'
        have O9 := O9'; clear O9'
        have O6 := O6'; clear O6'
        clear cc108
        have O7 := Lib.hid O70
        clear O70 hc51 hc52
        refine hK107 _ _ ?_; clear hK107 K107
        (try simp only [zP, zN, zA, zB, zC])
        refine pu_ (v := .slice B M.length d) (y_move rfl (by rfl) (by rfl)) ?_
        (try simp only [zP, zN, zA, zB, zC])
        refine ef_ (fun K110 hK110 => ?_)
        refine e_call Try.func40 (by kernel_rfl) rfl #[.slice A7 L.length c7, .slice B M.length d] (by rfl) rfl rfl (by first | rfl | (simp only [List.map_toArray, List.map_cons, List.map_nil]; first | done | rfl)) ((ynF (whole_ (A := A7) (c := c7) (B := B) (d := d) (L := L) (M := M) (Lib.hid (by have := HN.out; omega)) (Lib.hid (by have := hM.out; omega)) (Lib.hid O7.out.src) SM) hWQ.out)) ?_
        rintro en w112 ⟨rfl, cc111⟩
        refine ⟨_, rfl, ?_⟩
        have C0' := Lib.hid (show Ch [] w w112 from C0.out.trans' cc111 (fun x hx => absurd hx (by simp)))
        have SL' := Lib.hid (show SrcIs w112 (.slice A L.length c) (L.length) ((L).flatMap opC) 28 from SL.out.chx cc111 xnin_nil)
        have SM' := Lib.hid (show SrcIs w112 (.slice B M.length d) (M.length) ((M).map (Value.int .i64)) 1 from SM.out.chx cc111 xnin_nil)
        have O5' := Lib.hid (show OwnS w112 w25.heap.size 49 28 (.slice A5 L.length c5) (L.length) ((L).flatMap opC) from O5.out.ch cc111 rnin_nil)
        have OX' := Lib.hid (show OwnS w112 w88.heap.size 3 1 (.slice AX X.length cX) (X.length) (X.map vi) from OX.out.ch cc111 rnin_nil)
        have O9' := Lib.hid (show OwnS w112 w91.heap.size 3 1 (.slice A9 X.length c9) (X.length) (X.map vi) from O9.out.ch cc111 rnin_nil)
        have O6' := Lib.hid (show OwnS w112 w97.heap.size 49 28 (.slice A6 L.length c6) (L.length) ((L).flatMap opC) from O6.out.ch cc111 rnin_nil)
        have O7' := Lib.hid (show OwnS w112 w106.heap.size 49 28 (.slice A7 L.length c7) (L.length) ((L).flatMap opC) from O7.out.ch cc111 rnin_nil)
        clear C0 SL SM O5 OX O9 O6 O7
        have C0 := C0'; clear C0'
        have SL := SL'; clear SL'
        have SM := SM'; clear SM'
        have O5 := O5'; clear O5'
        have OX := OX'; clear OX'
        have O9 := O9'; clear O9'
        have O6 := O6'; clear O6'
        have O7 := O7'; clear O7'
        clear cc111
        refine hK110 _ _ ?_; clear hK110 K110
        (try simp only [zP, zN, zA, zB, zC])
        refine pu_ (v := .slice A L.length c) (y_move rfl (by rfl) (by rfl)) ?_
        (try simp only [zP, zN, zA, zB, zC])
        refine pu_ (v := .slice B M.length d) (y_move rfl (by rfl) (by rfl)) ?_
        (try simp only [zP, zN, zA, zB, zC])
        refine ef_ (fun K113 hK113 => ?_)
        refine e_call Try.func41 (by kernel_rfl) rfl #[.slice A L.length c, .slice B M.length d] (by rfl) rfl rfl (by first | rfl | (simp only [List.map_toArray, List.map_cons, List.map_nil]; first | done | rfl)) ((ynF (rwhole_ (L := L) (M := M) (Lib.hid (by have := HN.out; omega)) (Lib.hid (by have := hM.out; omega)) SL SM) hWQ.out)) ?_
        rintro en w115 ⟨rfl, cc114⟩
        refine ⟨_, rfl, ?_⟩
        have C0' := Lib.hid (show Ch [] w w115 from C0.out.trans' cc114 (fun x hx => absurd hx (by simp)))
        have SL' := Lib.hid (show SrcIs w115 (.slice A L.length c) (L.length) ((L).flatMap opC) 28 from SL.out.chx cc114 xnin_nil)
        have SM' := Lib.hid (show SrcIs w115 (.slice B M.length d) (M.length) ((M).map (Value.int .i64)) 1 from SM.out.chx cc114 xnin_nil)
        have O5' := Lib.hid (show OwnS w115 w25.heap.size 49 28 (.slice A5 L.length c5) (L.length) ((L).flatMap opC) from O5.out.ch cc114 rnin_nil)
        have OX' := Lib.hid (show OwnS w115 w88.heap.size 3 1 (.slice AX X.length cX) (X.length) (X.map vi) from OX.out.ch cc114 rnin_nil)
        have O9' := Lib.hid (show OwnS w115 w91.heap.size 3 1 (.slice A9 X.length c9) (X.length) (X.map vi) from O9.out.ch cc114 rnin_nil)
        have O6' := Lib.hid (show OwnS w115 w97.heap.size 49 28 (.slice A6 L.length c6) (L.length) ((L).flatMap opC) from O6.out.ch cc114 rnin_nil)
        have O7' := Lib.hid (show OwnS w115 w106.heap.size 49 28 (.slice A7 L.length c7) (L.length) ((L).flatMap opC) from O7.out.ch cc114 rnin_nil)
        clear C0 SL SM O5 OX O9 O6 O7
        have C0 := C0'; clear C0'
        have SL := SL'; clear SL'
        have SM := SM'; clear SM'
        have O5 := O5'; clear O5'
        have OX := OX'; clear OX'
        have O9 := O9'; clear O9'
        have O6 := O6'; clear O6'
        have O7 := O7'; clear O7'
        clear cc114
        refine hK113 _ _ ?_; clear hK113 K113
        (try simp only [zP, zN, zA, zB, zC])
        refine pu_ (v := .bool true) (y_run (by rfl) (fun W => by go_simp)) ?_
        (try simp only [zP, zN, zA, zB, zC])
        refine pu_ (v := .bool true) (y_pick (t := true) (by rfl) rfl (by rfl) (by rfl)) ?_
        (try simp only [zP, zN, zA, zB, zC])
        refine pu_ (v := .bool true) (y_move rfl (by rfl) (by rfl)) ?_
        (try simp only [zP, zN, zA, zB, zC])
        refine ef_ (fun K116 hK116 => ?_)
        refine e_call Try.func27 (by kernel_rfl) rfl #[] (by rfl) rfl rfl (by first | rfl | (simp only [List.map_toArray, List.map_cons, List.map_nil]; first | done | rfl)) (works_) ?_
        rintro en w118 ⟨rfl, cc117⟩
        refine ⟨_, rfl, ?_⟩
        have C0' := Lib.hid (show Ch [] w w118 from C0.out.trans' cc117 (fun x hx => absurd hx (by simp)))
        have SL' := Lib.hid (show SrcIs w118 (.slice A L.length c) (L.length) ((L).flatMap opC) 28 from SL.out.chx cc117 xnin_nil)
        have SM' := Lib.hid (show SrcIs w118 (.slice B M.length d) (M.length) ((M).map (Value.int .i64)) 1 from SM.out.chx cc117 xnin_nil)
        have O5' := Lib.hid (show OwnS w118 w25.heap.size 49 28 (.slice A5 L.length c5) (L.length) ((L).flatMap opC) from O5.out.ch cc117 rnin_nil)
        have OX' := Lib.hid (show OwnS w118 w88.heap.size 3 1 (.slice AX X.length cX) (X.length) (X.map vi) from OX.out.ch cc117 rnin_nil)
        have O9' := Lib.hid (show OwnS w118 w91.heap.size 3 1 (.slice A9 X.length c9) (X.length) (X.map vi) from O9.out.ch cc117 rnin_nil)
        have O6' := Lib.hid (show OwnS w118 w97.heap.size 49 28 (.slice A6 L.length c6) (L.length) ((L).flatMap opC) from O6.out.ch cc117 rnin_nil)
        have O7' := Lib.hid (show OwnS w118 w106.heap.size 49 28 (.slice A7 L.length c7) (L.length) ((L).flatMap opC) from O7.out.ch cc117 rnin_nil)
        clear C0 SL SM O5 OX O9 O6 O7
        have C0 := C0'; clear C0'
        have SL := SL'; clear SL'
        have SM := SM'; clear SM'
        have O5 := O5'; clear O5'
        have OX := OX'; clear OX'
        have O9 := O9'; clear O9'
        have O6 := O6'; clear O6'
        have O7 := O7'; clear O7'
        clear cc117
        refine hK116 _ _ ?_; clear hK116 K116
        (try simp only [zP, zN, zA, zB, zC])
        refine pu_ (v := .bool true) (y_pick (t := true) (by rfl) rfl (by rfl) (by rfl)) ?_
        (try simp only [zP, zN, zA, zB, zC])
        refine pu_ (v := .bool true) (y_assign rfl (by rfl) (by rfl)) ?_
        (try simp only [zP, zN, zA, zB, zC])
        refine nl_ (hK85 _ _ ?_); clear hK85 K85
        refine wp_ret ?_
        refine hQ _ _ _ ?_
        refine bodyPost_ret (res1 rfl (rdv_tmp (v := .bool true) (by rfl))) rfl ?_
        exact ⟨rfl, C0.out⟩
      · have hR := Lib.hid h1
        have hWQ := Lib.hid h2
        clear h1 h2
        refine s_ (fun K119 hK119 => ?_)
        refine pu_ (v := .slice A L.length c) (y_move rfl (by rfl) (by rfl)) ?_
        (try simp only [zP, zN, zA, zB, zC])
        refine ef_ (fun K120 hK120 => ?_)
        refine e_call Try.func37 (by kernel_rfl) rfl #[.slice A L.length c] (by rfl) rfl rfl (by first | rfl | (simp only [List.map_toArray, List.map_cons, List.map_nil]; first | done | rfl)) ((to_ HML HB SL)) ?_
        rintro en w122 ⟨v5, rfl, O50, cc121⟩
        refine ⟨_, rfl, ?_⟩
        obtain ⟨A5, c5, hv5, hc51, hc52⟩ := O50.slice
        subst hv5
        have C0' := Lib.hid (show Ch [] w w122 from C0.out.trans' cc121 (fun x hx => absurd hx (by simp)))
        have SL' := Lib.hid (show SrcIs w122 (.slice A L.length c) (L.length) ((L).flatMap opC) 28 from SL.out.chx cc121 xnin_nil)
        have SM' := Lib.hid (show SrcIs w122 (.slice B M.length d) (M.length) ((M).map (Value.int .i64)) 1 from SM.out.chx cc121 xnin_nil)
        clear C0 SL SM
        have C0 := C0'; clear C0'
        have SL := SL'; clear SL'
        have SM := SM'; clear SM'
        clear cc121
        have O5 := Lib.hid O50
        clear O50 hc51 hc52
        refine hK120 _ _ ?_; clear hK120 K120
        (try simp only [zP, zN, zA, zB, zC])
        refine ef_ (fun K123 hK123 => ?_)
        refine e_call Try.func31 (by kernel_rfl) rfl #[.slice A5 L.length c5] (by rfl) rfl rfl (by first | rfl | (simp only [List.map_toArray, List.map_cons, List.map_nil]; first | done | rfl)) ((order_ (w := w122) (A := A5) (c := c5) (L := L) (Lib.hid (by have := hPL.out.1; omega)) (Lib.hid hPL.out.1) (Lib.hid O5.out.src))) ?_
        rintro en w125 ⟨vX, X, rfl, OX0, HSX0, cc124⟩
        refine ⟨_, rfl, ?_⟩
        obtain ⟨AX, cX, hv, hc1, hc2⟩ := OX0.slice
        subst hv
        have C0' := Lib.hid (show Ch [] w w125 from C0.out.trans' cc124 (fun x hx => absurd hx (by simp)))
        have SL' := Lib.hid (show SrcIs w125 (.slice A L.length c) (L.length) ((L).flatMap opC) 28 from SL.out.chx cc124 xnin_nil)
        have SM' := Lib.hid (show SrcIs w125 (.slice B M.length d) (M.length) ((M).map (Value.int .i64)) 1 from SM.out.chx cc124 xnin_nil)
        have O5' := Lib.hid (show OwnS w125 w25.heap.size 49 28 (.slice A5 L.length c5) (L.length) ((L).flatMap opC) from O5.out.ch cc124 rnin_nil)
        clear C0 SL SM O5
        have C0 := C0'; clear C0'
        have SL := SL'; clear SL'
        have SM := SM'; clear SM'
        have O5 := O5'; clear O5'
        clear cc124
        have OX := Lib.hid OX0
        have HSX := Lib.hid HSX0
        have HDX := Lib.hid (And.intro hc1 hc2)
        have HLX := Lib.hid (show X.length ≤ 30 from by rw [HSX.out.1.length_eq]; exact Nat.le_trans (done_len _ _) hPL.out.1)
        clear OX0 HSX0 hc1 hc2
        refine hK123 _ _ ?_; clear hK123 K123
        (try simp only [zP, zN, zA, zB, zC])
        refine pu_ (v := .slice A L.length c) (y_move rfl (by rfl) (by rfl)) ?_
        (try simp only [zP, zN, zA, zB, zC])
        refine ef_ (fun K126 hK126 => ?_)
        refine e_call Try.func38 (by kernel_rfl) rfl #[.slice A L.length c] (by rfl) rfl rfl (by first | rfl | (simp only [List.map_toArray, List.map_cons, List.map_nil]; first | done | rfl)) ((rorder_ (w := w125) (Lib.hid (by have := HN.out; omega)) SL)) ?_
        rintro en w128 ⟨v9, Y, rfl, O90, HS90, cc127⟩
        refine ⟨_, rfl, ?_⟩
        have hYX : Y = X := sorted_eq (HS90.1.trans HSX.out.1.symm) HS90.2 HSX.out.2
        rw [hYX] at O90
        obtain ⟨A9, c9, hv9, hc91, hc92⟩ := O90.slice
        subst hv9
        have C0' := Lib.hid (show Ch [] w w128 from C0.out.trans' cc127 (fun x hx => absurd hx (by simp)))
        have SL' := Lib.hid (show SrcIs w128 (.slice A L.length c) (L.length) ((L).flatMap opC) 28 from SL.out.chx cc127 xnin_nil)
        have SM' := Lib.hid (show SrcIs w128 (.slice B M.length d) (M.length) ((M).map (Value.int .i64)) 1 from SM.out.chx cc127 xnin_nil)
        have O5' := Lib.hid (show OwnS w128 w25.heap.size 49 28 (.slice A5 L.length c5) (L.length) ((L).flatMap opC) from O5.out.ch cc127 rnin_nil)
        have OX' := Lib.hid (show OwnS w128 w122.heap.size 3 1 (.slice AX X.length cX) (X.length) (X.map vi) from OX.out.ch cc127 rnin_nil)
        clear C0 SL SM O5 OX
        have C0 := C0'; clear C0'
        have SL := SL'; clear SL'
        have SM := SM'; clear SM'
        have O5 := O5'; clear O5'
        have OX := OX'; clear OX'
        clear cc127
        have O9 := Lib.hid O90
        clear O90 HS90 hYX hc91 hc92
        refine hK126 _ _ ?_; clear hK126 K126
        (try simp only [zP, zN, zA, zB, zC])
        refine ef_ (fun K129 hK129 => ?_)
        refine e_call Try.func36 (by kernel_rfl) rfl #[.slice AX X.length cX, .slice A9 X.length c9] (by rfl) rfl rfl (by first | rfl | (simp only [List.map_toArray, List.map_cons, List.map_nil]; first | done | rfl)) ((same_ (M := X) (A := AX) (c := cX) (B := A9) (d := c9) (Lib.hid (by have := HLX.out; omega)) (Lib.hid OX.out.src) (Lib.hid O9.out.src))) ?_
        rintro en w131 ⟨rfl, cc130⟩
        refine ⟨_, rfl, ?_⟩
        have C0' := Lib.hid (show Ch [] w w131 from C0.out.trans' cc130 (fun x hx => absurd hx (by simp)))
        have SL' := Lib.hid (show SrcIs w131 (.slice A L.length c) (L.length) ((L).flatMap opC) 28 from SL.out.chx cc130 xnin_nil)
        have SM' := Lib.hid (show SrcIs w131 (.slice B M.length d) (M.length) ((M).map (Value.int .i64)) 1 from SM.out.chx cc130 xnin_nil)
        have O5' := Lib.hid (show OwnS w131 w25.heap.size 49 28 (.slice A5 L.length c5) (L.length) ((L).flatMap opC) from O5.out.ch cc130 rnin_nil)
        have OX' := Lib.hid (show OwnS w131 w122.heap.size 3 1 (.slice AX X.length cX) (X.length) (X.map vi) from OX.out.ch cc130 rnin_nil)
        have O9' := Lib.hid (show OwnS w131 w125.heap.size 3 1 (.slice A9 X.length c9) (X.length) (X.map vi) from O9.out.ch cc130 rnin_nil)
        clear C0 SL SM O5 OX O9
        have C0 := C0'; clear C0'
        have SL := SL'; clear SL'
        have SM := SM'; clear SM'
        have O5 := O5'; clear O5'
        have OX := OX'; clear OX'
        have O9 := O9'; clear O9'
        clear cc130
        refine hK129 _ _ ?_; clear hK129 K129
        (try simp only [zP, zN, zA, zB, zC])
        refine pu_ (v := .bool true) (y_move rfl (by rfl) (by rfl)) ?_
        (try simp only [zP, zN, zA, zB, zC])
        refine pu_ (v := .slice A L.length c) (y_move rfl (by rfl) (by rfl)) ?_
        (try simp only [zP, zN, zA, zB, zC])
        refine ef_ (fun K132 hK132 => ?_)
        refine e_call Try.func37 (by kernel_rfl) rfl #[.slice A L.length c] (by rfl) rfl rfl (by first | rfl | (simp only [List.map_toArray, List.map_cons, List.map_nil]; first | done | rfl)) ((to_ HML HB SL)) ?_
        rintro en w134 ⟨v6, rfl, O60, cc133⟩
        refine ⟨_, rfl, ?_⟩
        obtain ⟨A6, c6, hv5, hc51, hc52⟩ := O60.slice
        subst hv5
        have C0' := Lib.hid (show Ch [] w w134 from C0.out.trans' cc133 (fun x hx => absurd hx (by simp)))
        have SL' := Lib.hid (show SrcIs w134 (.slice A L.length c) (L.length) ((L).flatMap opC) 28 from SL.out.chx cc133 xnin_nil)
        have SM' := Lib.hid (show SrcIs w134 (.slice B M.length d) (M.length) ((M).map (Value.int .i64)) 1 from SM.out.chx cc133 xnin_nil)
        have O5' := Lib.hid (show OwnS w134 w25.heap.size 49 28 (.slice A5 L.length c5) (L.length) ((L).flatMap opC) from O5.out.ch cc133 rnin_nil)
        have OX' := Lib.hid (show OwnS w134 w122.heap.size 3 1 (.slice AX X.length cX) (X.length) (X.map vi) from OX.out.ch cc133 rnin_nil)
        have O9' := Lib.hid (show OwnS w134 w125.heap.size 3 1 (.slice A9 X.length c9) (X.length) (X.map vi) from O9.out.ch cc133 rnin_nil)
        clear C0 SL SM O5 OX O9
        have C0 := C0'; clear C0'
        have SL := SL'; clear SL'
        have SM := SM'; clear SM'
        have O5 := O5'; clear O5'
        have OX := OX'; clear OX'
        have O9 := O9'; clear O9'
        clear cc133
        have O6 := Lib.hid O60
        clear O60 hc51 hc52
        refine hK132 _ _ ?_; clear hK132 K132
        (try simp only [zP, zN, zA, zB, zC])
        refine pu_ (v := .slice B M.length d) (y_move rfl (by rfl) (by rfl)) ?_
        (try simp only [zP, zN, zA, zB, zC])
        refine ef_ (fun K135 hK135 => ?_)
        refine e_call Try.func29 (by kernel_rfl) rfl #[.slice A6 L.length c6, .slice B M.length d] (by rfl) rfl rfl (by first | rfl | (simp only [List.map_toArray, List.map_cons, List.map_nil]; first | done | rfl)) ((ynF (respects_ (A := A6) (c := c6) (B := B) (d := d) (L := L) (M := M) (Lib.hid (by have := HN.out; omega)) (Lib.hid (by have := hM.out; omega)) HD (Lib.hid O6.out.src) SM) hR.out)) ?_
        rintro en w137 ⟨rfl, cc136⟩
        refine ⟨_, rfl, ?_⟩
        have C0' := Lib.hid (show Ch [] w w137 from C0.out.trans' cc136 (fun x hx => absurd hx (by simp)))
        have SL' := Lib.hid (show SrcIs w137 (.slice A L.length c) (L.length) ((L).flatMap opC) 28 from SL.out.chx cc136 xnin_nil)
        have SM' := Lib.hid (show SrcIs w137 (.slice B M.length d) (M.length) ((M).map (Value.int .i64)) 1 from SM.out.chx cc136 xnin_nil)
        have O5' := Lib.hid (show OwnS w137 w25.heap.size 49 28 (.slice A5 L.length c5) (L.length) ((L).flatMap opC) from O5.out.ch cc136 rnin_nil)
        have OX' := Lib.hid (show OwnS w137 w122.heap.size 3 1 (.slice AX X.length cX) (X.length) (X.map vi) from OX.out.ch cc136 rnin_nil)
        have O9' := Lib.hid (show OwnS w137 w125.heap.size 3 1 (.slice A9 X.length c9) (X.length) (X.map vi) from O9.out.ch cc136 rnin_nil)
        have O6' := Lib.hid (show OwnS w137 w131.heap.size 49 28 (.slice A6 L.length c6) (L.length) ((L).flatMap opC) from O6.out.ch cc136 rnin_nil)
        clear C0 SL SM O5 OX O9 O6
        have C0 := C0'; clear C0'
        have SL := SL'; clear SL'
        have SM := SM'; clear SM'
        have O5 := O5'; clear O5'
        have OX := OX'; clear OX'
        have O9 := O9'; clear O9'
        have O6 := O6'; clear O6'
        clear cc136
        refine hK135 _ _ ?_; clear hK135 K135
        (try simp only [zP, zN, zA, zB, zC])
        refine pu_ (v := .slice A L.length c) (y_move rfl (by rfl) (by rfl)) ?_
        (try simp only [zP, zN, zA, zB, zC])
        refine pu_ (v := .slice B M.length d) (y_move rfl (by rfl) (by rfl)) ?_
        (try simp only [zP, zN, zA, zB, zC])
        refine ef_ (fun K138 hK138 => ?_)
        refine e_call Try.func39 (by kernel_rfl) rfl #[.slice A L.length c, .slice B M.length d] (by rfl) rfl rfl (by first | rfl | (simp only [List.map_toArray, List.map_cons, List.map_nil]; first | done | rfl)) ((ynF (rresp_ (L := L) (M := M) (Lib.hid (by have := HN.out; omega)) (Lib.hid (by have := hM.out; omega)) SL SM) hR.out)) ?_
        rintro en w140 ⟨rfl, cc139⟩
        refine ⟨_, rfl, ?_⟩
        have C0' := Lib.hid (show Ch [] w w140 from C0.out.trans' cc139 (fun x hx => absurd hx (by simp)))
        have SL' := Lib.hid (show SrcIs w140 (.slice A L.length c) (L.length) ((L).flatMap opC) 28 from SL.out.chx cc139 xnin_nil)
        have SM' := Lib.hid (show SrcIs w140 (.slice B M.length d) (M.length) ((M).map (Value.int .i64)) 1 from SM.out.chx cc139 xnin_nil)
        have O5' := Lib.hid (show OwnS w140 w25.heap.size 49 28 (.slice A5 L.length c5) (L.length) ((L).flatMap opC) from O5.out.ch cc139 rnin_nil)
        have OX' := Lib.hid (show OwnS w140 w122.heap.size 3 1 (.slice AX X.length cX) (X.length) (X.map vi) from OX.out.ch cc139 rnin_nil)
        have O9' := Lib.hid (show OwnS w140 w125.heap.size 3 1 (.slice A9 X.length c9) (X.length) (X.map vi) from O9.out.ch cc139 rnin_nil)
        have O6' := Lib.hid (show OwnS w140 w131.heap.size 49 28 (.slice A6 L.length c6) (L.length) ((L).flatMap opC) from O6.out.ch cc139 rnin_nil)
        clear C0 SL SM O5 OX O9 O6
        have C0 := C0'; clear C0'
        have SL := SL'; clear SL'
        have SM := SM'; clear SM'
        have O5 := O5'; clear O5'
        have OX := OX'; clear OX'
        have O9 := O9'; clear O9'
        have O6 := O6'; clear O6'
        clear cc139
        refine hK138 _ _ ?_; clear hK138 K138
        (try simp only [zP, zN, zA, zB, zC])
        refine pu_ (v := .bool true) (y_run (by rfl) (fun W => by go_simp)) ?_
        (try simp only [zP, zN, zA, zB, zC])
        refine pu_ (v := .bool true) (y_pick (t := true) (by rfl) rfl (by rfl) (by rfl)) ?_
        (try simp only [zP, zN, zA, zB, zC])
        refine pu_ (v := .bool true) (y_move rfl (by rfl) (by rfl)) ?_
        (try simp only [zP, zN, zA, zB, zC])
        refine pu_ (v := .slice A L.length c) (y_move rfl (by rfl) (by rfl)) ?_
        (try simp only [zP, zN, zA, zB, zC])
        refine ef_ (fun K141 hK141 => ?_)
        refine e_call Try.func37 (by kernel_rfl) rfl #[.slice A L.length c] (by rfl) rfl rfl (by first | rfl | (simp only [List.map_toArray, List.map_cons, List.map_nil]; first | done | rfl)) ((to_ HML HB SL)) ?_
        rintro en w143 ⟨v7, rfl, O70, cc142⟩
        refine ⟨_, rfl, ?_⟩
        obtain ⟨A7, c7, hv5, hc51, hc52⟩ := O70.slice
        subst hv5
        have C0' := Lib.hid (show Ch [] w w143 from C0.out.trans' cc142 (fun x hx => absurd hx (by simp)))
        have SL' := Lib.hid (show SrcIs w143 (.slice A L.length c) (L.length) ((L).flatMap opC) 28 from SL.out.chx cc142 xnin_nil)
        have SM' := Lib.hid (show SrcIs w143 (.slice B M.length d) (M.length) ((M).map (Value.int .i64)) 1 from SM.out.chx cc142 xnin_nil)
        have O5' := Lib.hid (show OwnS w143 w25.heap.size 49 28 (.slice A5 L.length c5) (L.length) ((L).flatMap opC) from O5.out.ch cc142 rnin_nil)
        have OX' := Lib.hid (show OwnS w143 w122.heap.size 3 1 (.slice AX X.length cX) (X.length) (X.map vi) from OX.out.ch cc142 rnin_nil)
        have O9' := Lib.hid (show OwnS w143 w125.heap.size 3 1 (.slice A9 X.length c9) (X.length) (X.map vi) from O9.out.ch cc142 rnin_nil)
        have O6' := Lib.hid (show OwnS w143 w131.heap.size 49 28 (.slice A6 L.length c6) (L.length) ((L).flatMap opC) from O6.out.ch cc142 rnin_nil)
        clear C0 SL SM O5 OX O9 O6
        have C0 := C0'; clear C0'
        have SL := SL'; clear SL'
        have SM := SM'; clear SM'
        have O5 := O5'; clear O5'
        have OX := OX'; clear OX'
        have O9 := O9'; clear O9'
        have O6 := O6'; clear O6'
        clear cc142
        have O7 := Lib.hid O70
        clear O70 hc51 hc52
        refine hK141 _ _ ?_; clear hK141 K141
        (try simp only [zP, zN, zA, zB, zC])
        refine pu_ (v := .slice B M.length d) (y_move rfl (by rfl) (by rfl)) ?_
        (try simp only [zP, zN, zA, zB, zC])
        refine ef_ (fun K144 hK144 => ?_)
        refine e_call Try.func40 (by kernel_rfl) rfl #[.slice A7 L.length c7, .slice B M.length d] (by rfl) rfl rfl (by first | rfl | (simp only [List.map_toArray, List.map_cons, List.map_nil]; first | done | rfl)) ((ynT (whole_ (A := A7) (c := c7) (B := B) (d := d) (L := L) (M := M) (Lib.hid (by have := HN.out; omega)) (Lib.hid (by have := hM.out; omega)) (Lib.hid O7.out.src) SM) hWQ.out)) ?_
        rintro en w146 ⟨rfl, cc145⟩
        refine ⟨_, rfl, ?_⟩
        have C0' := Lib.hid (show Ch [] w w146 from C0.out.trans' cc145 (fun x hx => absurd hx (by simp)))
        have SL' := Lib.hid (show SrcIs w146 (.slice A L.length c) (L.length) ((L).flatMap opC) 28 from SL.out.chx cc145 xnin_nil)
        have SM' := Lib.hid (show SrcIs w146 (.slice B M.length d) (M.length) ((M).map (Value.int .i64)) 1 from SM.out.chx cc145 xnin_nil)
        have O5' := Lib.hid (show OwnS w146 w25.heap.size 49 28 (.slice A5 L.length c5) (L.length) ((L).flatMap opC) from O5.out.ch cc145 rnin_nil)
        have OX' := Lib.hid (show OwnS w146 w122.heap.size 3 1 (.slice AX X.length cX) (X.length) (X.map vi) from OX.out.ch cc145 rnin_nil)
        have O9' := Lib.hid (show OwnS w146 w125.heap.size 3 1 (.slice A9 X.length c9) (X.length) (X.map vi) from O9.out.ch cc145 rnin_nil)
        have O6' := Lib.hid (show OwnS w146 w131.heap.size 49 28 (.slice A6 L.length c6) (L.length) ((L).flatMap opC) from O6.out.ch cc145 rnin_nil)
        have O7' := Lib.hid (show OwnS w146 w140.heap.size 49 28 (.slice A7 L.length c7) (L.length) ((L).flatMap opC) from O7.out.ch cc145 rnin_nil)
        clear C0 SL SM O5 OX O9 O6 O7
        have C0 := C0'; clear C0'
        have SL := SL'; clear SL'
        have SM := SM'; clear SM'
        have O5 := O5'; clear O5'
        have OX := OX'; clear OX'
        have O9 := O9'; clear O9'
        have O6 := O6'; clear O6'
        have O7 := O7'; clear O7'
        clear cc145
        refine hK144 _ _ ?_; clear hK144 K144
        (try simp only [zP, zN, zA, zB, zC])
        refine pu_ (v := .slice A L.length c) (y_move rfl (by rfl) (by rfl)) ?_
        (try simp only [zP, zN, zA, zB, zC])
        refine pu_ (v := .slice B M.length d) (y_move rfl (by rfl) (by rfl)) ?_
        (try simp only [zP, zN, zA, zB, zC])
        refine ef_ (fun K147 hK147 => ?_)
        refine e_call Try.func41 (by kernel_rfl) rfl #[.slice A L.length c, .slice B M.length d] (by rfl) rfl rfl (by first | rfl | (simp only [List.map_toArray, List.map_cons, List.map_nil]; first | done | rfl)) ((ynT (rwhole_ (L := L) (M := M) (Lib.hid (by have := HN.out; omega)) (Lib.hid (by have := hM.out; omega)) SL SM) hWQ.out)) ?_
        rintro en w149 ⟨rfl, cc148⟩
        refine ⟨_, rfl, ?_⟩
        have C0' := Lib.hid (show Ch [] w w149 from C0.out.trans' cc148 (fun x hx => absurd hx (by simp)))
        have SL' := Lib.hid (show SrcIs w149 (.slice A L.length c) (L.length) ((L).flatMap opC) 28 from SL.out.chx cc148 xnin_nil)
        have SM' := Lib.hid (show SrcIs w149 (.slice B M.length d) (M.length) ((M).map (Value.int .i64)) 1 from SM.out.chx cc148 xnin_nil)
        have O5' := Lib.hid (show OwnS w149 w25.heap.size 49 28 (.slice A5 L.length c5) (L.length) ((L).flatMap opC) from O5.out.ch cc148 rnin_nil)
        have OX' := Lib.hid (show OwnS w149 w122.heap.size 3 1 (.slice AX X.length cX) (X.length) (X.map vi) from OX.out.ch cc148 rnin_nil)
        have O9' := Lib.hid (show OwnS w149 w125.heap.size 3 1 (.slice A9 X.length c9) (X.length) (X.map vi) from O9.out.ch cc148 rnin_nil)
        have O6' := Lib.hid (show OwnS w149 w131.heap.size 49 28 (.slice A6 L.length c6) (L.length) ((L).flatMap opC) from O6.out.ch cc148 rnin_nil)
        have O7' := Lib.hid (show OwnS w149 w140.heap.size 49 28 (.slice A7 L.length c7) (L.length) ((L).flatMap opC) from O7.out.ch cc148 rnin_nil)
        clear C0 SL SM O5 OX O9 O6 O7
        have C0 := C0'; clear C0'
        have SL := SL'; clear SL'
        have SM := SM'; clear SM'
        have O5 := O5'; clear O5'
        have OX := OX'; clear OX'
        have O9 := O9'; clear O9'
        have O6 := O6'; clear O6'
        have O7 := O7'; clear O7'
        clear cc148
        refine hK147 _ _ ?_; clear hK147 K147
        (try simp only [zP, zN, zA, zB, zC])
        refine pu_ (v := .bool true) (y_run (by rfl) (fun W => by go_simp)) ?_
        (try simp only [zP, zN, zA, zB, zC])
        refine pu_ (v := .bool true) (y_pick (t := true) (by rfl) rfl (by rfl) (by rfl)) ?_
        (try simp only [zP, zN, zA, zB, zC])
        refine pu_ (v := .bool true) (y_move rfl (by rfl) (by rfl)) ?_
        (try simp only [zP, zN, zA, zB, zC])
        refine ef_ (fun K150 hK150 => ?_)
        refine e_call Try.func27 (by kernel_rfl) rfl #[] (by rfl) rfl rfl (by first | rfl | (simp only [List.map_toArray, List.map_cons, List.map_nil]; first | done | rfl)) (works_) ?_
        rintro en w152 ⟨rfl, cc151⟩
        refine ⟨_, rfl, ?_⟩
        have C0' := Lib.hid (show Ch [] w w152 from C0.out.trans' cc151 (fun x hx => absurd hx (by simp)))
        have SL' := Lib.hid (show SrcIs w152 (.slice A L.length c) (L.length) ((L).flatMap opC) 28 from SL.out.chx cc151 xnin_nil)
        have SM' := Lib.hid (show SrcIs w152 (.slice B M.length d) (M.length) ((M).map (Value.int .i64)) 1 from SM.out.chx cc151 xnin_nil)
        have O5' := Lib.hid (show OwnS w152 w25.heap.size 49 28 (.slice A5 L.length c5) (L.length) ((L).flatMap opC) from O5.out.ch cc151 rnin_nil)
        have OX' := Lib.hid (show OwnS w152 w122.heap.size 3 1 (.slice AX X.length cX) (X.length) (X.map vi) from OX.out.ch cc151 rnin_nil)
        have O9' := Lib.hid (show OwnS w152 w125.heap.size 3 1 (.slice A9 X.length c9) (X.length) (X.map vi) from O9.out.ch cc151 rnin_nil)
        have O6' := Lib.hid (show OwnS w152 w131.heap.size 49 28 (.slice A6 L.length c6) (L.length) ((L).flatMap opC) from O6.out.ch cc151 rnin_nil)
        have O7' := Lib.hid (show OwnS w152 w140.heap.size 49 28 (.slice A7 L.length c7) (L.length) ((L).flatMap opC) from O7.out.ch cc151 rnin_nil)
        clear C0 SL SM O5 OX O9 O6 O7
        have C0 := C0'; clear C0'
        have SL := SL'; clear SL'
        have SM := SM'; clear SM'
        have O5 := O5'; clear O5'
        have OX := OX'; clear OX'
        have O9 := O9'; clear O9'
        have O6 := O6'; clear O6'
        have O7 := O7'; clear O7'
        clear cc151
        refine hK150 _ _ ?_; clear hK150 K150
        (try simp only [zP, zN, zA, zB, zC])
        refine pu_ (v := .bool true) (y_pick (t := true) (by rfl) rfl (by rfl) (by rfl)) ?_
        (try simp only [zP, zN, zA, zB, zC])
        refine pu_ (v := .bool true) (y_assign rfl (by rfl) (by rfl)) ?_
        (try simp only [zP, zN, zA, zB, zC])
        refine nl_ (hK119 _ _ ?_); clear hK119 K119
        refine wp_ret ?_
        refine hQ _ _ _ ?_
        refine bodyPost_ret (res1 rfl (rdv_tmp (v := .bool true) (by rfl))) rfl ?_
        exact ⟨rfl, C0.out⟩
      · have hR := Lib.hid h1
        have hWQ := Lib.hid h2
        clear h1 h2
        refine s_ (fun K153 hK153 => ?_)
        refine pu_ (v := .slice A L.length c) (y_move rfl (by rfl) (by rfl)) ?_
        (try simp only [zP, zN, zA, zB, zC])
        refine ef_ (fun K154 hK154 => ?_)
        refine e_call Try.func37 (by kernel_rfl) rfl #[.slice A L.length c] (by rfl) rfl rfl (by first | rfl | (simp only [List.map_toArray, List.map_cons, List.map_nil]; first | done | rfl)) ((to_ HML HB SL)) ?_
        rintro en w156 ⟨v5, rfl, O50, cc155⟩
        refine ⟨_, rfl, ?_⟩
        obtain ⟨A5, c5, hv5, hc51, hc52⟩ := O50.slice
        subst hv5
        have C0' := Lib.hid (show Ch [] w w156 from C0.out.trans' cc155 (fun x hx => absurd hx (by simp)))
        have SL' := Lib.hid (show SrcIs w156 (.slice A L.length c) (L.length) ((L).flatMap opC) 28 from SL.out.chx cc155 xnin_nil)
        have SM' := Lib.hid (show SrcIs w156 (.slice B M.length d) (M.length) ((M).map (Value.int .i64)) 1 from SM.out.chx cc155 xnin_nil)
        clear C0 SL SM
        have C0 := C0'; clear C0'
        have SL := SL'; clear SL'
        have SM := SM'; clear SM'
        clear cc155
        have O5 := Lib.hid O50
        clear O50 hc51 hc52
        refine hK154 _ _ ?_; clear hK154 K154
        (try simp only [zP, zN, zA, zB, zC])
        refine ef_ (fun K157 hK157 => ?_)
        refine e_call Try.func31 (by kernel_rfl) rfl #[.slice A5 L.length c5] (by rfl) rfl rfl (by first | rfl | (simp only [List.map_toArray, List.map_cons, List.map_nil]; first | done | rfl)) ((order_ (w := w156) (A := A5) (c := c5) (L := L) (Lib.hid (by have := hPL.out.1; omega)) (Lib.hid hPL.out.1) (Lib.hid O5.out.src))) ?_
        rintro en w159 ⟨vX, X, rfl, OX0, HSX0, cc158⟩
        refine ⟨_, rfl, ?_⟩
        obtain ⟨AX, cX, hv, hc1, hc2⟩ := OX0.slice
        subst hv
        have C0' := Lib.hid (show Ch [] w w159 from C0.out.trans' cc158 (fun x hx => absurd hx (by simp)))
        have SL' := Lib.hid (show SrcIs w159 (.slice A L.length c) (L.length) ((L).flatMap opC) 28 from SL.out.chx cc158 xnin_nil)
        have SM' := Lib.hid (show SrcIs w159 (.slice B M.length d) (M.length) ((M).map (Value.int .i64)) 1 from SM.out.chx cc158 xnin_nil)
        have O5' := Lib.hid (show OwnS w159 w25.heap.size 49 28 (.slice A5 L.length c5) (L.length) ((L).flatMap opC) from O5.out.ch cc158 rnin_nil)
        clear C0 SL SM O5
        have C0 := C0'; clear C0'
        have SL := SL'; clear SL'
        have SM := SM'; clear SM'
        have O5 := O5'; clear O5'
        clear cc158
        have OX := Lib.hid OX0
        have HSX := Lib.hid HSX0
        have HDX := Lib.hid (And.intro hc1 hc2)
        have HLX := Lib.hid (show X.length ≤ 30 from by rw [HSX.out.1.length_eq]; exact Nat.le_trans (done_len _ _) hPL.out.1)
        clear OX0 HSX0 hc1 hc2
        refine hK157 _ _ ?_; clear hK157 K157
        (try simp only [zP, zN, zA, zB, zC])
        refine pu_ (v := .slice A L.length c) (y_move rfl (by rfl) (by rfl)) ?_
        (try simp only [zP, zN, zA, zB, zC])
        refine ef_ (fun K160 hK160 => ?_)
        refine e_call Try.func38 (by kernel_rfl) rfl #[.slice A L.length c] (by rfl) rfl rfl (by first | rfl | (simp only [List.map_toArray, List.map_cons, List.map_nil]; first | done | rfl)) ((rorder_ (w := w159) (Lib.hid (by have := HN.out; omega)) SL)) ?_
        rintro en w162 ⟨v9, Y, rfl, O90, HS90, cc161⟩
        refine ⟨_, rfl, ?_⟩
        have hYX : Y = X := sorted_eq (HS90.1.trans HSX.out.1.symm) HS90.2 HSX.out.2
        rw [hYX] at O90
        obtain ⟨A9, c9, hv9, hc91, hc92⟩ := O90.slice
        subst hv9
        have C0' := Lib.hid (show Ch [] w w162 from C0.out.trans' cc161 (fun x hx => absurd hx (by simp)))
        have SL' := Lib.hid (show SrcIs w162 (.slice A L.length c) (L.length) ((L).flatMap opC) 28 from SL.out.chx cc161 xnin_nil)
        have SM' := Lib.hid (show SrcIs w162 (.slice B M.length d) (M.length) ((M).map (Value.int .i64)) 1 from SM.out.chx cc161 xnin_nil)
        have O5' := Lib.hid (show OwnS w162 w25.heap.size 49 28 (.slice A5 L.length c5) (L.length) ((L).flatMap opC) from O5.out.ch cc161 rnin_nil)
        have OX' := Lib.hid (show OwnS w162 w156.heap.size 3 1 (.slice AX X.length cX) (X.length) (X.map vi) from OX.out.ch cc161 rnin_nil)
        clear C0 SL SM O5 OX
        have C0 := C0'; clear C0'
        have SL := SL'; clear SL'
        have SM := SM'; clear SM'
        have O5 := O5'; clear O5'
        have OX := OX'; clear OX'
        clear cc161
        have O9 := Lib.hid O90
        clear O90 HS90 hYX hc91 hc92
        refine hK160 _ _ ?_; clear hK160 K160
        (try simp only [zP, zN, zA, zB, zC])
        refine ef_ (fun K163 hK163 => ?_)
        refine e_call Try.func36 (by kernel_rfl) rfl #[.slice AX X.length cX, .slice A9 X.length c9] (by rfl) rfl rfl (by first | rfl | (simp only [List.map_toArray, List.map_cons, List.map_nil]; first | done | rfl)) ((same_ (M := X) (A := AX) (c := cX) (B := A9) (d := c9) (Lib.hid (by have := HLX.out; omega)) (Lib.hid OX.out.src) (Lib.hid O9.out.src))) ?_
        rintro en w165 ⟨rfl, cc164⟩
        refine ⟨_, rfl, ?_⟩
        have C0' := Lib.hid (show Ch [] w w165 from C0.out.trans' cc164 (fun x hx => absurd hx (by simp)))
        have SL' := Lib.hid (show SrcIs w165 (.slice A L.length c) (L.length) ((L).flatMap opC) 28 from SL.out.chx cc164 xnin_nil)
        have SM' := Lib.hid (show SrcIs w165 (.slice B M.length d) (M.length) ((M).map (Value.int .i64)) 1 from SM.out.chx cc164 xnin_nil)
        have O5' := Lib.hid (show OwnS w165 w25.heap.size 49 28 (.slice A5 L.length c5) (L.length) ((L).flatMap opC) from O5.out.ch cc164 rnin_nil)
        have OX' := Lib.hid (show OwnS w165 w156.heap.size 3 1 (.slice AX X.length cX) (X.length) (X.map vi) from OX.out.ch cc164 rnin_nil)
        have O9' := Lib.hid (show OwnS w165 w159.heap.size 3 1 (.slice A9 X.length c9) (X.length) (X.map vi) from O9.out.ch cc164 rnin_nil)
        clear C0 SL SM O5 OX O9
        have C0 := C0'; clear C0'
        have SL := SL'; clear SL'
        have SM := SM'; clear SM'
        have O5 := O5'; clear O5'
        have OX := OX'; clear OX'
        have O9 := O9'; clear O9'
        clear cc164
        refine hK163 _ _ ?_; clear hK163 K163
        (try simp only [zP, zN, zA, zB, zC])
        refine pu_ (v := .bool true) (y_move rfl (by rfl) (by rfl)) ?_
        (try simp only [zP, zN, zA, zB, zC])
        refine pu_ (v := .slice A L.length c) (y_move rfl (by rfl) (by rfl)) ?_
        (try simp only [zP, zN, zA, zB, zC])
        refine ef_ (fun K166 hK166 => ?_)
        refine e_call Try.func37 (by kernel_rfl) rfl #[.slice A L.length c] (by rfl) rfl rfl (by first | rfl | (simp only [List.map_toArray, List.map_cons, List.map_nil]; first | done | rfl)) ((to_ HML HB SL)) ?_
        rintro en w168 ⟨v6, rfl, O60, cc167⟩
        refine ⟨_, rfl, ?_⟩
        obtain ⟨A6, c6, hv5, hc51, hc52⟩ := O60.slice
        subst hv5
        have C0' := Lib.hid (show Ch [] w w168 from C0.out.trans' cc167 (fun x hx => absurd hx (by simp)))
        have SL' := Lib.hid (show SrcIs w168 (.slice A L.length c) (L.length) ((L).flatMap opC) 28 from SL.out.chx cc167 xnin_nil)
        have SM' := Lib.hid (show SrcIs w168 (.slice B M.length d) (M.length) ((M).map (Value.int .i64)) 1 from SM.out.chx cc167 xnin_nil)
        have O5' := Lib.hid (show OwnS w168 w25.heap.size 49 28 (.slice A5 L.length c5) (L.length) ((L).flatMap opC) from O5.out.ch cc167 rnin_nil)
        have OX' := Lib.hid (show OwnS w168 w156.heap.size 3 1 (.slice AX X.length cX) (X.length) (X.map vi) from OX.out.ch cc167 rnin_nil)
        have O9' := Lib.hid (show OwnS w168 w159.heap.size 3 1 (.slice A9 X.length c9) (X.length) (X.map vi) from O9.out.ch cc167 rnin_nil)
        clear C0 SL SM O5 OX O9
        have C0 := C0'; clear C0'
        have SL := SL'; clear SL'
        have SM := SM'; clear SM'
        have O5 := O5'; clear O5'
        have OX := OX'; clear OX'
        have O9 := O9'; clear O9'
        clear cc167
        have O6 := Lib.hid O60
        clear O60 hc51 hc52
        refine hK166 _ _ ?_; clear hK166 K166
        (try simp only [zP, zN, zA, zB, zC])
        refine pu_ (v := .slice B M.length d) (y_move rfl (by rfl) (by rfl)) ?_
        (try simp only [zP, zN, zA, zB, zC])
        refine ef_ (fun K169 hK169 => ?_)
        refine e_call Try.func29 (by kernel_rfl) rfl #[.slice A6 L.length c6, .slice B M.length d] (by rfl) rfl rfl (by first | rfl | (simp only [List.map_toArray, List.map_cons, List.map_nil]; first | done | rfl)) ((ynF (respects_ (A := A6) (c := c6) (B := B) (d := d) (L := L) (M := M) (Lib.hid (by have := HN.out; omega)) (Lib.hid (by have := hM.out; omega)) HD (Lib.hid O6.out.src) SM) hR.out)) ?_
        rintro en w171 ⟨rfl, cc170⟩
        refine ⟨_, rfl, ?_⟩
        have C0' := Lib.hid (show Ch [] w w171 from C0.out.trans' cc170 (fun x hx => absurd hx (by simp)))
        have SL' := Lib.hid (show SrcIs w171 (.slice A L.length c) (L.length) ((L).flatMap opC) 28 from SL.out.chx cc170 xnin_nil)
        have SM' := Lib.hid (show SrcIs w171 (.slice B M.length d) (M.length) ((M).map (Value.int .i64)) 1 from SM.out.chx cc170 xnin_nil)
        have O5' := Lib.hid (show OwnS w171 w25.heap.size 49 28 (.slice A5 L.length c5) (L.length) ((L).flatMap opC) from O5.out.ch cc170 rnin_nil)
        have OX' := Lib.hid (show OwnS w171 w156.heap.size 3 1 (.slice AX X.length cX) (X.length) (X.map vi) from OX.out.ch cc170 rnin_nil)
        have O9' := Lib.hid (show OwnS w171 w159.heap.size 3 1 (.slice A9 X.length c9) (X.length) (X.map vi) from O9.out.ch cc170 rnin_nil)
        have O6' := Lib.hid (show OwnS w171 w165.heap.size 49 28 (.slice A6 L.length c6) (L.length) ((L).flatMap opC) from O6.out.ch cc170 rnin_nil)
        clear C0 SL SM O5 OX O9 O6
        have C0 := C0'; clear C0'
        have SL := SL'; clear SL'
        have SM := SM'; clear SM'
        have O5 := O5'; clear O5'
        have OX := OX'; clear OX'
        have O9 := O9'; clear O9'
        have O6 := O6'; clear O6'
        clear cc170
        refine hK169 _ _ ?_; clear hK169 K169
        (try simp only [zP, zN, zA, zB, zC])
        refine pu_ (v := .slice A L.length c) (y_move rfl (by rfl) (by rfl)) ?_
        (try simp only [zP, zN, zA, zB, zC])
        refine pu_ (v := .slice B M.length d) (y_move rfl (by rfl) (by rfl)) ?_
        (try simp only [zP, zN, zA, zB, zC])
        refine ef_ (fun K172 hK172 => ?_)
        refine e_call Try.func39 (by kernel_rfl) rfl #[.slice A L.length c, .slice B M.length d] (by rfl) rfl rfl (by first | rfl | (simp only [List.map_toArray, List.map_cons, List.map_nil]; first | done | rfl)) ((ynF (rresp_ (L := L) (M := M) (Lib.hid (by have := HN.out; omega)) (Lib.hid (by have := hM.out; omega)) SL SM) hR.out)) ?_
        rintro en w174 ⟨rfl, cc173⟩
        refine ⟨_, rfl, ?_⟩
        have C0' := Lib.hid (show Ch [] w w174 from C0.out.trans' cc173 (fun x hx => absurd hx (by simp)))
        have SL' := Lib.hid (show SrcIs w174 (.slice A L.length c) (L.length) ((L).flatMap opC) 28 from SL.out.chx cc173 xnin_nil)
        have SM' := Lib.hid (show SrcIs w174 (.slice B M.length d) (M.length) ((M).map (Value.int .i64)) 1 from SM.out.chx cc173 xnin_nil)
        have O5' := Lib.hid (show OwnS w174 w25.heap.size 49 28 (.slice A5 L.length c5) (L.length) ((L).flatMap opC) from O5.out.ch cc173 rnin_nil)
        have OX' := Lib.hid (show OwnS w174 w156.heap.size 3 1 (.slice AX X.length cX) (X.length) (X.map vi) from OX.out.ch cc173 rnin_nil)
        have O9' := Lib.hid (show OwnS w174 w159.heap.size 3 1 (.slice A9 X.length c9) (X.length) (X.map vi) from O9.out.ch cc173 rnin_nil)
        have O6' := Lib.hid (show OwnS w174 w165.heap.size 49 28 (.slice A6 L.length c6) (L.length) ((L).flatMap opC) from O6.out.ch cc173 rnin_nil)
        clear C0 SL SM O5 OX O9 O6
        have C0 := C0'; clear C0'
        have SL := SL'; clear SL'
        have SM := SM'; clear SM'
        have O5 := O5'; clear O5'
        have OX := OX'; clear OX'
        have O9 := O9'; clear O9'
        have O6 := O6'; clear O6'
        clear cc173
        refine hK172 _ _ ?_; clear hK172 K172
        (try simp only [zP, zN, zA, zB, zC])
        refine pu_ (v := .bool true) (y_run (by rfl) (fun W => by go_simp)) ?_
        (try simp only [zP, zN, zA, zB, zC])
        refine pu_ (v := .bool true) (y_pick (t := true) (by rfl) rfl (by rfl) (by rfl)) ?_
        (try simp only [zP, zN, zA, zB, zC])
        refine pu_ (v := .bool true) (y_move rfl (by rfl) (by rfl)) ?_
        (try simp only [zP, zN, zA, zB, zC])
        refine pu_ (v := .slice A L.length c) (y_move rfl (by rfl) (by rfl)) ?_
        (try simp only [zP, zN, zA, zB, zC])
        refine ef_ (fun K175 hK175 => ?_)
        refine e_call Try.func37 (by kernel_rfl) rfl #[.slice A L.length c] (by rfl) rfl rfl (by first | rfl | (simp only [List.map_toArray, List.map_cons, List.map_nil]; first | done | rfl)) ((to_ HML HB SL)) ?_
        rintro en w177 ⟨v7, rfl, O70, cc176⟩
        refine ⟨_, rfl, ?_⟩
        obtain ⟨A7, c7, hv5, hc51, hc52⟩ := O70.slice
        subst hv5
        have C0' := Lib.hid (show Ch [] w w177 from C0.out.trans' cc176 (fun x hx => absurd hx (by simp)))
        have SL' := Lib.hid (show SrcIs w177 (.slice A L.length c) (L.length) ((L).flatMap opC) 28 from SL.out.chx cc176 xnin_nil)
        have SM' := Lib.hid (show SrcIs w177 (.slice B M.length d) (M.length) ((M).map (Value.int .i64)) 1 from SM.out.chx cc176 xnin_nil)
        have O5' := Lib.hid (show OwnS w177 w25.heap.size 49 28 (.slice A5 L.length c5) (L.length) ((L).flatMap opC) from O5.out.ch cc176 rnin_nil)
        have OX' := Lib.hid (show OwnS w177 w156.heap.size 3 1 (.slice AX X.length cX) (X.length) (X.map vi) from OX.out.ch cc176 rnin_nil)
        have O9' := Lib.hid (show OwnS w177 w159.heap.size 3 1 (.slice A9 X.length c9) (X.length) (X.map vi) from O9.out.ch cc176 rnin_nil)
        have O6' := Lib.hid (show OwnS w177 w165.heap.size 49 28 (.slice A6 L.length c6) (L.length) ((L).flatMap opC) from O6.out.ch cc176 rnin_nil)
        clear C0 SL SM O5 OX O9 O6
        have C0 := C0'; clear C0'
        have SL := SL'; clear SL'
        have SM := SM'; clear SM'
        have O5 := O5'; clear O5'
        have OX := OX'; clear OX'
        have O9 := O9'; clear O9'
        have O6 := O6'; clear O6'
        clear cc176
        have O7 := Lib.hid O70
        clear O70 hc51 hc52
        refine hK175 _ _ ?_; clear hK175 K175
        (try simp only [zP, zN, zA, zB, zC])
        refine pu_ (v := .slice B M.length d) (y_move rfl (by rfl) (by rfl)) ?_
        (try simp only [zP, zN, zA, zB, zC])
        refine ef_ (fun K178 hK178 => ?_)
        refine e_call Try.func40 (by kernel_rfl) rfl #[.slice A7 L.length c7, .slice B M.length d] (by rfl) rfl rfl (by first | rfl | (simp only [List.map_toArray, List.map_cons, List.map_nil]; first | done | rfl)) ((ynF (whole_ (A := A7) (c := c7) (B := B) (d := d) (L := L) (M := M) (Lib.hid (by have := HN.out; omega)) (Lib.hid (by have := hM.out; omega)) (Lib.hid O7.out.src) SM) hWQ.out)) ?_
        rintro en w180 ⟨rfl, cc179⟩
        refine ⟨_, rfl, ?_⟩
        have C0' := Lib.hid (show Ch [] w w180 from C0.out.trans' cc179 (fun x hx => absurd hx (by simp)))
        have SL' := Lib.hid (show SrcIs w180 (.slice A L.length c) (L.length) ((L).flatMap opC) 28 from SL.out.chx cc179 xnin_nil)
        have SM' := Lib.hid (show SrcIs w180 (.slice B M.length d) (M.length) ((M).map (Value.int .i64)) 1 from SM.out.chx cc179 xnin_nil)
        have O5' := Lib.hid (show OwnS w180 w25.heap.size 49 28 (.slice A5 L.length c5) (L.length) ((L).flatMap opC) from O5.out.ch cc179 rnin_nil)
        have OX' := Lib.hid (show OwnS w180 w156.heap.size 3 1 (.slice AX X.length cX) (X.length) (X.map vi) from OX.out.ch cc179 rnin_nil)
        have O9' := Lib.hid (show OwnS w180 w159.heap.size 3 1 (.slice A9 X.length c9) (X.length) (X.map vi) from O9.out.ch cc179 rnin_nil)
        have O6' := Lib.hid (show OwnS w180 w165.heap.size 49 28 (.slice A6 L.length c6) (L.length) ((L).flatMap opC) from O6.out.ch cc179 rnin_nil)
        have O7' := Lib.hid (show OwnS w180 w174.heap.size 49 28 (.slice A7 L.length c7) (L.length) ((L).flatMap opC) from O7.out.ch cc179 rnin_nil)
        clear C0 SL SM O5 OX O9 O6 O7
        have C0 := C0'; clear C0'
        have SL := SL'; clear SL'
        have SM := SM'; clear SM'
        have O5 := O5'; clear O5'
        have OX := OX'; clear OX'
        have O9 := O9'; clear O9'
        have O6 := O6'; clear O6'
        have O7 := O7'; clear O7'
        clear cc179
        refine hK178 _ _ ?_; clear hK178 K178
        (try simp only [zP, zN, zA, zB, zC])
        refine pu_ (v := .slice A L.length c) (y_move rfl (by rfl) (by rfl)) ?_
        (try simp only [zP, zN, zA, zB, zC])
        refine pu_ (v := .slice B M.length d) (y_move rfl (by rfl) (by rfl)) ?_
        (try simp only [zP, zN, zA, zB, zC])
        refine ef_ (fun K181 hK181 => ?_)
        refine e_call Try.func41 (by kernel_rfl) rfl #[.slice A L.length c, .slice B M.length d] (by rfl) rfl rfl (by first | rfl | (simp only [List.map_toArray, List.map_cons, List.map_nil]; first | done | rfl)) ((ynF (rwhole_ (L := L) (M := M) (Lib.hid (by have := HN.out; omega)) (Lib.hid (by have := hM.out; omega)) SL SM) hWQ.out)) ?_
        rintro en w183 ⟨rfl, cc182⟩
        refine ⟨_, rfl, ?_⟩
        have C0' := Lib.hid (show Ch [] w w183 from C0.out.trans' cc182 (fun x hx => absurd hx (by simp)))
        have SL' := Lib.hid (show SrcIs w183 (.slice A L.length c) (L.length) ((L).flatMap opC) 28 from SL.out.chx cc182 xnin_nil)
        have SM' := Lib.hid (show SrcIs w183 (.slice B M.length d) (M.length) ((M).map (Value.int .i64)) 1 from SM.out.chx cc182 xnin_nil)
        have O5' := Lib.hid (show OwnS w183 w25.heap.size 49 28 (.slice A5 L.length c5) (L.length) ((L).flatMap opC) from O5.out.ch cc182 rnin_nil)
        have OX' := Lib.hid (show OwnS w183 w156.heap.size 3 1 (.slice AX X.length cX) (X.length) (X.map vi) from OX.out.ch cc182 rnin_nil)
        have O9' := Lib.hid (show OwnS w183 w159.heap.size 3 1 (.slice A9 X.length c9) (X.length) (X.map vi) from O9.out.ch cc182 rnin_nil)
        have O6' := Lib.hid (show OwnS w183 w165.heap.size 49 28 (.slice A6 L.length c6) (L.length) ((L).flatMap opC) from O6.out.ch cc182 rnin_nil)
        have O7' := Lib.hid (show OwnS w183 w174.heap.size 49 28 (.slice A7 L.length c7) (L.length) ((L).flatMap opC) from O7.out.ch cc182 rnin_nil)
        clear C0 SL SM O5 OX O9 O6 O7
        have C0 := C0'; clear C0'
        have SL := SL'; clear SL'
        have SM := SM'; clear SM'
        have O5 := O5'; clear O5'
        have OX := OX'; clear OX'
        have O9 := O9'; clear O9'
        have O6 := O6'; clear O6'
        have O7 := O7'; clear O7'
        clear cc182
        refine hK181 _ _ ?_; clear hK181 K181
        (try simp only [zP, zN, zA, zB, zC])
        refine pu_ (v := .bool true) (y_run (by rfl) (fun W => by go_simp)) ?_
        (try simp only [zP, zN, zA, zB, zC])
        refine pu_ (v := .bool true) (y_pick (t := true) (by rfl) rfl (by rfl) (by rfl)) ?_
        (try simp only [zP, zN, zA, zB, zC])
        refine pu_ (v := .bool true) (y_move rfl (by rfl) (by rfl)) ?_
        (try simp only [zP, zN, zA, zB, zC])
        refine ef_ (fun K184 hK184 => ?_)
        refine e_call Try.func27 (by kernel_rfl) rfl #[] (by rfl) rfl rfl (by first | rfl | (simp only [List.map_toArray, List.map_cons, List.map_nil]; first | done | rfl)) (works_) ?_
        rintro en w186 ⟨rfl, cc185⟩
        refine ⟨_, rfl, ?_⟩
        have C0' := Lib.hid (show Ch [] w w186 from C0.out.trans' cc185 (fun x hx => absurd hx (by simp)))
        have SL' := Lib.hid (show SrcIs w186 (.slice A L.length c) (L.length) ((L).flatMap opC) 28 from SL.out.chx cc185 xnin_nil)
        have SM' := Lib.hid (show SrcIs w186 (.slice B M.length d) (M.length) ((M).map (Value.int .i64)) 1 from SM.out.chx cc185 xnin_nil)
        have O5' := Lib.hid (show OwnS w186 w25.heap.size 49 28 (.slice A5 L.length c5) (L.length) ((L).flatMap opC) from O5.out.ch cc185 rnin_nil)
        have OX' := Lib.hid (show OwnS w186 w156.heap.size 3 1 (.slice AX X.length cX) (X.length) (X.map vi) from OX.out.ch cc185 rnin_nil)
        have O9' := Lib.hid (show OwnS w186 w159.heap.size 3 1 (.slice A9 X.length c9) (X.length) (X.map vi) from O9.out.ch cc185 rnin_nil)
        have O6' := Lib.hid (show OwnS w186 w165.heap.size 49 28 (.slice A6 L.length c6) (L.length) ((L).flatMap opC) from O6.out.ch cc185 rnin_nil)
        have O7' := Lib.hid (show OwnS w186 w174.heap.size 49 28 (.slice A7 L.length c7) (L.length) ((L).flatMap opC) from O7.out.ch cc185 rnin_nil)
        clear C0 SL SM O5 OX O9 O6 O7
        have C0 := C0'; clear C0'
        have SL := SL'; clear SL'
        have SM := SM'; clear SM'
        have O5 := O5'; clear O5'
        have OX := OX'; clear OX'
        have O9 := O9'; clear O9'
        have O6 := O6'; clear O6'
        have O7 := O7'; clear O7'
        clear cc185
        refine hK184 _ _ ?_; clear hK184 K184
        (try simp only [zP, zN, zA, zB, zC])
        refine pu_ (v := .bool true) (y_pick (t := true) (by rfl) rfl (by rfl) (by rfl)) ?_
        (try simp only [zP, zN, zA, zB, zC])
        refine pu_ (v := .bool true) (y_assign rfl (by rfl) (by rfl)) ?_
        (try simp only [zP, zN, zA, zB, zC])
        refine nl_ (hK153 _ _ ?_); clear hK153 K153
        refine wp_ret ?_
        refine hQ _ _ _ ?_
        refine bodyPost_ret (res1 rfl (rdv_tmp (v := .bool true) (by rfl))) rfl ?_
        exact ⟨rfl, C0.out⟩
end
end Go.Proofs.Ytggcpbnlblbpjaa.L
