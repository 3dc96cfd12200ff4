/- The walk of the law LineDone. -/
import Derived.Test.YtggcpbnlblbpjaaLineF
import Derived.Test.YtggcpbnlblbpjaaLineW
namespace Go.Proofs.Ytggcpbnlblbpjaa.L
open Go Go.RowKit Go.Proofs.Ytggcpbnlblbpjaa.K Go.Proofs.Ytggcpbnlblbpjaa.H Go.Proofs.YtggcpbnlblbpjaaW.PrintLast
set_option linter.unusedVariables false
set_option linter.unusedSimpArgs false
set_option maxRecDepth 100000
set_option maxHeartbeats 1600000
section
variable {w : World}
theorem done_ways (L : List HOp) (rs : Nat → Bool) (ns : Nat → Nat) (q : Int) : ¬ lightP L rs ns ∨ (lightP L rs ns ∧ ¬ ∀ o ∈ L, realO o) ∨ (lightP L rs ns ∧ (∀ o ∈ L, realO o) ∧ q < 0) ∨ (lightP L rs ns ∧ (∀ o ∈ L, realO o) ∧ 0 ≤ q) := by
  by_cases h1 : lightP L rs ns
  · by_cases h2 : ∀ o ∈ L, realO o
    · rcases Int.lt_or_le q 0 with h3 | h3
      · exact .inr (.inr (.inl ⟨h1, h2, h3⟩))
      · exact .inr (.inr (.inr ⟨h1, h2, h3⟩))
    · exact .inr (.inl ⟨h1, h2⟩)
  · exact .inl h1
theorem done_ {A : Option Addr} {c : Nat} {L : List HOp} {q : Int} {rs : Nat → Bool} {ns : Nat → Nat} (HM : Hid (L.length ≤ maxLen)) (HB : Hid (L.length * 344 ≤ 140737488351232)) (HLL : Hid (∀ i o, L[i]? = some o → opLits w o (rs i) (ns i))) (SL : Hid (SrcIs w (.slice A L.length c) (L.length) ((L).flatMap opC) 28)) :
    Calls Try.prog 7 #[.slice A L.length c, .int .i64 q] w fun en w' => en = .returned (.bool true) ∧ Ch [] w w' := by
  have C0 := Lib.hid (Ch.refl [] w)
  go_enter Try.func7, Try.ntmps7
  refine q_ (fun Q hQ hP => ?_)
  refine s_ (fun K1 hK1 => ?_)
  refine pu_ (v := .bool false) (y_assign rfl (by rfl) (by rfl)) ?_
  (try simp only [zP, zN, zA, zB, zC])
  refine nl_ (hK1 _ _ ?_); clear hK1 K1
  refine sq_ (fun K2 hK2 => ?_)
  refine s_ (fun K3 hK3 => ?_)
  refine ef_ (fun K4 hK4 => ?_)
  refine e_call Try.func27 (by kernel_rfl) rfl #[] (by rfl) rfl rfl (by first | rfl | (simp only [List.map_toArray, List.map_cons, List.map_nil]; first | done | rfl)) (works_) ?_
  rintro en w6 ⟨rfl, cc5⟩
  refine ⟨_, rfl, ?_⟩
  have C0' := Lib.hid (show Ch [] w w6 from C0.out.trans' cc5 (fun x hx => absurd hx (by simp)))
  have SL' := Lib.hid (show SrcIs w6 (.slice A L.length c) (L.length) ((L).flatMap opC) 28 from SL.out.chx cc5 xnin_nil)
  clear C0 SL
  have C0 := C0'; clear C0'
  have SL := SL'; clear SL'
  clear cc5
  refine hK4 _ _ ?_; clear hK4 K4
  (try simp only [zP, zN, zA, zB, zC])
  refine pu_ (v := .bool false) (y_run (by rfl) (fun W => by go_simp)) ?_
  (try simp only [zP, zN, zA, zB, zC])
  refine nl_ (hK3 _ _ ?_); clear hK3 K3
  refine wp_cond_false rfl ?_
  refine wp_skip ?_
  refine th_norm (hK2 _ _ ?_); try clear hK2 K2
  refine s_ (fun K7 hK7 => ?_)
  refine pu_ (v := .slice A L.length c) (y_move rfl (by rfl) (by rfl)) ?_
  (try simp only [zP, zN, zA, zB, zC])
  refine ef_ (fun K8 hK8 => ?_)
  refine e_call Try.func37 (by kernel_rfl) rfl #[.slice A L.length c] (by rfl) rfl rfl (by first | rfl | (simp only [List.map_toArray, List.map_cons, List.map_nil]; first | done | rfl)) ((to_ HM HB SL)) ?_
  rintro en w10 ⟨v5, rfl, O50, cc9⟩
  refine ⟨_, rfl, ?_⟩
  obtain ⟨A5, c5, hv5, hc51, hc52⟩ := O50.slice
  subst hv5
  have C0' := Lib.hid (show Ch [] w w10 from C0.out.trans' cc9 (fun x hx => absurd hx (by simp)))
  have SL' := Lib.hid (show SrcIs w10 (.slice A L.length c) (L.length) ((L).flatMap opC) 28 from SL.out.chx cc9 xnin_nil)
  clear C0 SL
  have C0 := C0'; clear C0'
  have SL := SL'; clear SL'
  clear cc9
  have O5 := Lib.hid O50
  clear O50 hc51 hc52
  refine hK8 _ _ ?_; clear hK8 K8
  (try simp only [zP, zN, zA, zB, zC])
  refine pu_ (v := .slice A5 L.length c5) (y_assign rfl (by rfl) (by rfl)) ?_
  (try simp only [zP, zN, zA, zB, zC])
  refine nl_ (hK7 _ _ ?_); clear hK7 K7
  refine sq_ (fun K11 hK11 => ?_)
  rcases done_ways L rs ns q with h | h | h | h
  · have hP := Lib.hid h
    clear h
    refine s_ (fun K12 hK12 => ?_)
    refine pu_ (v := .slice A L.length c) (y_move rfl (by rfl) (by rfl)) ?_
    (try simp only [zP, zN, zA, zB, zC])
    refine ef_ (fun K13 hK13 => ?_)
    refine e_call Try.func32 (by kernel_rfl) rfl #[.slice A L.length c] (by rfl) rfl rfl (by first | rfl | (simp only [List.map_toArray, List.map_cons, List.map_nil]; first | done | rfl)) ((ynF (light_ (w := w10) (rs := rs) (ns := ns) (Lib.hid (fun i o h9 => (HLL.out i o h9).from_ C0.out.below0)) SL) hP.out)) ?_
    rintro en w15 ⟨rfl, cc14⟩
    refine ⟨_, rfl, ?_⟩
    have C0' := Lib.hid (show Ch [] w w15 from C0.out.trans' cc14 (fun x hx => absurd hx (by simp)))
    have SL' := Lib.hid (show SrcIs w15 (.slice A L.length c) (L.length) ((L).flatMap opC) 28 from SL.out.chx cc14 xnin_nil)
    have O5' := Lib.hid (show OwnS w15 w6.heap.size 49 28 (.slice A5 L.length c5) (L.length) ((L).flatMap opC) from O5.out.ch cc14 rnin_nil)
    clear C0 SL O5
    have C0 := C0'; clear C0'
    have SL := SL'; clear SL'
    have O5 := O5'; clear O5'
    clear cc14
    refine hK13 _ _ ?_; clear hK13 K13
    (try simp only [zP, zN, zA, zB, zC])
    refine pu_ (v := .bool true) (y_run (by rfl) (fun W => by go_simp)) ?_
    (try simp only [zP, zN, zA, zB, zC])
    refine pu_ (v := .bool true) (y_move rfl (by rfl) (by rfl)) ?_
    (try simp only [zP, zN, zA, zB, zC])
    refine pu_ (y_off (by rfl)) ?_
    (try simp only [zP, zN, zA, zB, zC])
    refine pu_ (y_off (by rfl)) ?_
    (try simp only [zP, zN, zA, zB, zC])
    refine pu_ (y_off (by rfl)) ?_
    (try simp only [zP, zN, zA, zB, zC])
    refine pu_ (v := .bool true) (y_pick (t := true) (by rfl) rfl (by rfl) (by rfl)) ?_
    (try simp only [zP, zN, zA, zB, zC])
    refine pu_ (v := .bool true) (y_move rfl (by rfl) (by rfl)) ?_
    (try simp only [zP, zN, zA, zB, zC])
    refine pu_ (y_off (by rfl)) ?_
    (try simp only [zP, zN, zA, zB, zC])
    refine pu_ (y_off (by rfl)) ?_
    (try simp only [zP, zN, zA, zB, zC])
    refine pu_ (v := .bool true) (y_pick (t := true) (by rfl) rfl (by rfl) (by rfl)) ?_
    (try simp only [zP, zN, zA, zB, zC])
    refine nl_ (hK12 _ _ ?_); clear hK12 K12
    refine wp_cond_true rfl ?_
    refine s_ (fun K16 hK16 => ?_)
    refine pu_ (v := .bool true) (y_assign rfl (by rfl) (by rfl)) ?_
    (try simp only [zP, zN, zA, zB, zC])
    refine nl_ (hK16 _ _ ?_); clear hK16 K16
    refine wp_ret ?_
    refine th_ret ?_
    refine hQ _ _ _ ?_
    refine bodyPost_ret (res1 rfl (rdv_tmp (v := .bool true) (by rfl))) rfl ?_
    exact ⟨rfl, C0.out⟩
  · have hP := Lib.hid h.1
    have hR := Lib.hid h.2
    clear h
    refine s_ (fun K17 hK17 => ?_)
    refine pu_ (v := .slice A L.length c) (y_move rfl (by rfl) (by rfl)) ?_
    (try simp only [zP, zN, zA, zB, zC])
    refine ef_ (fun K18 hK18 => ?_)
    refine e_call Try.func32 (by kernel_rfl) rfl #[.slice A L.length c] (by rfl) rfl rfl (by first | rfl | (simp only [List.map_toArray, List.map_cons, List.map_nil]; first | done | rfl)) ((ynT (light_ (w := w10) (rs := rs) (ns := ns) (Lib.hid (fun i o h9 => (HLL.out i o h9).from_ C0.out.below0)) SL) hP.out)) ?_
    rintro en w20 ⟨rfl, cc19⟩
    refine ⟨_, rfl, ?_⟩
    have C0' := Lib.hid (show Ch [] w w20 from C0.out.trans' cc19 (fun x hx => absurd hx (by simp)))
    have SL' := Lib.hid (show SrcIs w20 (.slice A L.length c) (L.length) ((L).flatMap opC) 28 from SL.out.chx cc19 xnin_nil)
    have O5' := Lib.hid (show OwnS w20 w6.heap.size 49 28 (.slice A5 L.length c5) (L.length) ((L).flatMap opC) from O5.out.ch cc19 rnin_nil)
    clear C0 SL O5
    have C0 := C0'; clear C0'
    have SL := SL'; clear SL'
    have O5 := O5'; clear O5'
    clear cc19
    refine hK18 _ _ ?_; clear hK18 K18
    (try simp only [zP, zN, zA, zB, zC])
    refine pu_ (v := .bool false) (y_run (by rfl) (fun W => by go_simp)) ?_
    (try simp only [zP, zN, zA, zB, zC])
    refine pu_ (v := .bool false) (y_move rfl (by rfl) (by rfl)) ?_
    (try simp only [zP, zN, zA, zB, zC])
    refine pu_ (v := .slice A5 L.length c5) (y_move rfl (by rfl) (by rfl)) ?_
    (try simp only [zP, zN, zA, zB, zC])
    refine ef_ (fun K21 hK21 => ?_)
    refine e_call Try.func42 (by kernel_rfl) rfl #[.slice A5 L.length c5] (by rfl) rfl rfl (by first | rfl | (simp only [List.map_toArray, List.map_cons, List.map_nil]; first | done | rfl)) ((ynF (real_ (w := w20) (A := A5) (c := c5) (L := L) (Lib.hid (by have := hP.out.1; omega)) (Lib.hid O5.out.src)) hR.out)) ?_
    rintro en w23 ⟨rfl, cc22⟩
    refine ⟨_, rfl, ?_⟩
    have C0' := Lib.hid (show Ch [] w w23 from C0.out.trans' cc22 (fun x hx => absurd hx (by simp)))
    have SL' := Lib.hid (show SrcIs w23 (.slice A L.length c) (L.length) ((L).flatMap opC) 28 from SL.out.chx cc22 xnin_nil)
    have O5' := Lib.hid (show OwnS w23 w6.heap.size 49 28 (.slice A5 L.length c5) (L.length) ((L).flatMap opC) from O5.out.ch cc22 rnin_nil)
    clear C0 SL O5
    have C0 := C0'; clear C0'
    have SL := SL'; clear SL'
    have O5 := O5'; clear O5'
    clear cc22
    refine hK21 _ _ ?_; clear hK21 K21
    (try simp only [zP, zN, zA, zB, zC])
    refine pu_ (v := .bool true) (y_run (by rfl) (fun W => by go_simp)) ?_
    (try simp only [zP, zN, zA, zB, zC])
    refine pu_ (v := .bool true) (y_pick (t := false) (by rfl) rfl (by rfl) (by rfl)) ?_
    (try simp only [zP, zN, zA, zB, zC])
    refine pu_ (v := .bool true) (y_move rfl (by rfl) (by rfl)) ?_
    (try simp only [zP, zN, zA, zB, zC])
    refine pu_ (y_off (by rfl)) ?_
    (try simp only [zP, zN, zA, zB, zC])
    refine pu_ (y_off (by rfl)) ?_
    (try simp only [zP, zN, zA, zB, zC])
    refine pu_ (v := .bool true) (y_pick (t := true) (by rfl) rfl (by rfl) (by rfl)) ?_
    (try simp only [zP, zN, zA, zB, zC])
    refine nl_ (hK17 _ _ ?_); clear hK17 K17
    refine wp_cond_true rfl ?_
    refine s_ (fun K24 hK24 => ?_)
    refine pu_ (v := .bool true) (y_assign rfl (by rfl) (by rfl)) ?_
    (try simp only [zP, zN, zA, zB, zC])
    refine nl_ (hK24 _ _ ?_); clear hK24 K24
    refine wp_ret ?_
    refine th_ret ?_
    refine hQ _ _ _ ?_
    refine bodyPost_ret (res1 rfl (rdv_tmp (v := .bool true) (by rfl))) rfl ?_
    exact ⟨rfl, C0.out⟩
  · have hP := Lib.hid h.1
    have hR := Lib.hid h.2.1
    have hq := Lib.hid h.2.2
    clear h
    have D23 := Lib.hid (show decide (q < 0) = true from decide_eq_true (by have := hq.out; omega))
    refine s_ (fun K25 hK25 => ?_)
    refine pu_ (v := .slice A L.length c) (y_move rfl (by rfl) (by rfl)) ?_
    (try simp only [zP, zN, zA, zB, zC])
    refine ef_ (fun K26 hK26 => ?_)
    refine e_call Try.func32 (by kernel_rfl) rfl #[.slice A L.length c] (by rfl) rfl rfl (by first | rfl | (simp only [List.map_toArray, List.map_cons, List.map_nil]; first | done | rfl)) ((ynT (light_ (w := w10) (rs := rs) (ns := ns) (Lib.hid (fun i o h9 => (HLL.out i o h9).from_ C0.out.below0)) SL) hP.out)) ?_
    rintro en w28 ⟨rfl, cc27⟩
    refine ⟨_, rfl, ?_⟩
    have C0' := Lib.hid (show Ch [] w w28 from C0.out.trans' cc27 (fun x hx => absurd hx (by simp)))
    have SL' := Lib.hid (show SrcIs w28 (.slice A L.length c) (L.length) ((L).flatMap opC) 28 from SL.out.chx cc27 xnin_nil)
    have O5' := Lib.hid (show OwnS w28 w6.heap.size 49 28 (.slice A5 L.length c5) (L.length) ((L).flatMap opC) from O5.out.ch cc27 rnin_nil)
    clear C0 SL O5
    have C0 := C0'; clear C0'
    have SL := SL'; clear SL'
    have O5 := O5'; clear O5'
    clear cc27
    refine hK26 _ _ ?_; clear hK26 K26
    (try simp only [zP, zN, zA, zB, zC])
    refine pu_ (v := .bool false) (y_run (by rfl) (fun W => by go_simp)) ?_
    (try simp only [zP, zN, zA, zB, zC])
    refine pu_ (v := .bool false) (y_move rfl (by rfl) (by rfl)) ?_
    (try simp only [zP, zN, zA, zB, zC])
    refine pu_ (v := .slice A5 L.length c5) (y_move rfl (by rfl) (by rfl)) ?_
    (try simp only [zP, zN, zA, zB, zC])
    refine ef_ (fun K29 hK29 => ?_)
    refine e_call Try.func42 (by kernel_rfl) rfl #[.slice A5 L.length c5] (by rfl) rfl rfl (by first | rfl | (simp only [List.map_toArray, List.map_cons, List.map_nil]; first | done | rfl)) ((ynT (real_ (w := w28) (A := A5) (c := c5) (L := L) (Lib.hid (by have := hP.out.1; omega)) (Lib.hid O5.out.src)) hR.out)) ?_
    rintro en w31 ⟨rfl, cc30⟩
    refine ⟨_, rfl, ?_⟩
    have C0' := Lib.hid (show Ch [] w w31 from C0.out.trans' cc30 (fun x hx => absurd hx (by simp)))
    have SL' := Lib.hid (show SrcIs w31 (.slice A L.length c) (L.length) ((L).flatMap opC) 28 from SL.out.chx cc30 xnin_nil)
    have O5' := Lib.hid (show OwnS w31 w6.heap.size 49 28 (.slice A5 L.length c5) (L.length) ((L).flatMap opC) from O5.out.ch cc30 rnin_nil)
    clear C0 SL O5
    have C0 := C0'; clear C0'
    have SL := SL'; clear SL'
    have O5 := O5'; clear O5'
    clear cc30
    refine hK29 _ _ ?_; clear hK29 K29
    (try simp only [zP, zN, zA, zB, zC])
    refine pu_ (v := .bool false) (y_run (by rfl) (fun W => by go_simp)) ?_
    (try simp only [zP, zN, zA, zB, zC])
    refine pu_ (v := .bool false) (y_pick (t := false) (by rfl) rfl (by rfl) (by rfl)) ?_
    (try simp only [zP, zN, zA, zB, zC])
    refine pu_ (v := .bool false) (y_move rfl (by rfl) (by rfl)) ?_
    (try simp only [zP, zN, zA, zB, zC])
    refine pu_ (v := .int .i64 q) (y_move rfl (by rfl) (by rfl)) ?_
    (try simp only [zP, zN, zA, zB, zC])
    refine pu_ (v := .bool true) (y_run (by rfl) (fun W => by have d := D23.out; go_simp)) ?_
    (try simp only [zP, zN, zA, zB, zC])
    refine pu_ (v := .bool true) (y_pick (t := false) (by rfl) rfl (by rfl) (by rfl)) ?_
    (try simp only [zP, zN, zA, zB, zC])
    refine nl_ (hK25 _ _ ?_); clear hK25 K25
    refine wp_cond_true rfl ?_
    refine s_ (fun K32 hK32 => ?_)
    refine pu_ (v := .bool true) (y_assign rfl (by rfl) (by rfl)) ?_
    (try simp only [zP, zN, zA, zB, zC])
    refine nl_ (hK32 _ _ ?_); clear hK32 K32
    refine wp_ret ?_
    refine th_ret ?_
    refine hQ _ _ _ ?_
    refine bodyPost_ret (res1 rfl (rdv_tmp (v := .bool true) (by rfl))) rfl ?_
    exact ⟨rfl, C0.out⟩
  · have hP := Lib.hid h.1
    have hR := Lib.hid h.2.1
    have hq := Lib.hid h.2.2
    clear h
    have D23 := Lib.hid (show decide (q < 0) = false from decide_eq_false (by have := hq.out; omega))
    refine s_ (fun K33 hK33 => ?_)
    refine pu_ (v := .slice A L.length c) (y_move rfl (by rfl) (by rfl)) ?_
    (try simp only [zP, zN, zA, zB, zC])
    refine ef_ (fun K34 hK34 => ?_)
    refine e_call Try.func32 (by kernel_rfl) rfl #[.slice A L.length c] (by rfl) rfl rfl (by first | rfl | (simp only [List.map_toArray, List.map_cons, List.map_nil]; first | done | rfl)) ((ynT (light_ (w := w10) (rs := rs) (ns := ns) (Lib.hid (fun i o h9 => (HLL.out i o h9).from_ C0.out.below0)) SL) hP.out)) ?_
    rintro en w36 ⟨rfl, cc35⟩
    refine ⟨_, rfl, ?_⟩
    have C0' := Lib.hid (show Ch [] w w36 from C0.out.trans' cc35 (fun x hx => absurd hx (by simp)))
    have SL' := Lib.hid (show SrcIs w36 (.slice A L.length c) (L.length) ((L).flatMap opC) 28 from SL.out.chx cc35 xnin_nil)
    have O5' := Lib.hid (show OwnS w36 w6.heap.size 49 28 (.slice A5 L.length c5) (L.length) ((L).flatMap opC) from O5.out.ch cc35 rnin_nil)
    clear C0 SL O5
    have C0 := C0'; clear C0'
    have SL := SL'; clear SL'
    have O5 := O5'; clear O5'
    clear cc35
    refine hK34 _ _ ?_; clear hK34 K34
    (try simp only [zP, zN, zA, zB, zC])
    refine pu_ (v := .bool false) (y_run (by rfl) (fun W => by go_simp)) ?_
    (try simp only [zP, zN, zA, zB, zC])
    refine pu_ (v := .bool false) (y_move rfl (by rfl) (by rfl)) ?_
    (try simp only [zP, zN, zA, zB, zC])
    refine pu_ (v := .slice A5 L.length c5) (y_move rfl (by rfl) (by rfl)) ?_
    (try simp only [zP, zN, zA, zB, zC])
    refine ef_ (fun K37 hK37 => ?_)
    refine e_call Try.func42 (by kernel_rfl) rfl #[.slice A5 L.length c5] (by rfl) rfl rfl (by first | rfl | (simp only [List.map_toArray, List.map_cons, List.map_nil]; first | done | rfl)) ((ynT (real_ (w := w36) (A := A5) (c := c5) (L := L) (Lib.hid (by have := hP.out.1; omega)) (Lib.hid O5.out.src)) hR.out)) ?_
    rintro en w39 ⟨rfl, cc38⟩
    refine ⟨_, rfl, ?_⟩
    have C0' := Lib.hid (show Ch [] w w39 from C0.out.trans' cc38 (fun x hx => absurd hx (by simp)))
    have SL' := Lib.hid (show SrcIs w39 (.slice A L.length c) (L.length) ((L).flatMap opC) 28 from SL.out.chx cc38 xnin_nil)
    have O5' := Lib.hid (show OwnS w39 w6.heap.size 49 28 (.slice A5 L.length c5) (L.length) ((L).flatMap opC) from O5.out.ch cc38 rnin_nil)
    clear C0 SL O5
    have C0 := C0'; clear C0'
    have SL := SL'; clear SL'
    have O5 := O5'; clear O5'
    clear cc38
    refine hK37 _ _ ?_; clear hK37 K37
    (try simp only [zP, zN, zA, zB, zC])
    refine pu_ (v := .bool false) (y_run (by rfl) (fun W => by go_simp)) ?_
    (try simp only [zP, zN, zA, zB, zC])
    refine pu_ (v := .bool false) (y_pick (t := false) (by rfl) rfl (by rfl) (by rfl)) ?_
    (try simp only [zP, zN, zA, zB, zC])
    refine pu_ (v := .bool false) (y_move rfl (by rfl) (by rfl)) ?_
    (try simp only [zP, zN, zA, zB, zC])
    refine pu_ (v := .int .i64 q) (y_move rfl (by rfl) (by rfl)) ?_
    (try simp only [zP, zN, zA, zB, zC])
    refine pu_ (v := .bool false) (y_run (by rfl) (fun W => by have d := D23.out; go_simp)) ?_
    (try simp only [zP, zN, zA, zB, zC])
    refine pu_ (v := .bool false) (y_pick (t := false) (by rfl) rfl (by rfl) (by rfl)) ?_
    (try simp only [zP, zN, zA, zB, zC])
    refine nl_ (hK33 _ _ ?_); clear hK33 K33
    refine wp_cond_false rfl ?_
    refine wp_skip ?_
    refine th_norm (hK11 _ _ ?_); try clear hK11 K11
    refine s_ (fun K40 hK40 => ?_)
    refine pu_ (v := .slice A5 L.length c5) (y_move rfl (by rfl) (by rfl)) ?_
    (try simp only [zP, zN, zA, zB, zC])
    refine pu_ (v := .int .i64 q) (y_move rfl (by rfl) (by rfl)) ?_
    (try simp only [zP, zN, zA, zB, zC])
    refine ef_ (fun K41 hK41 => ?_)
    refine e_call Try.func43 (by kernel_rfl) rfl #[.slice A5 L.length c5, .int .i64 q] (by rfl) rfl rfl (by first | rfl | (simp only [List.map_toArray, List.map_cons, List.map_nil]; first | done | rfl)) ((Cut_ (w := w39) (A := A5) (c := c5) (L := L) (q := q) (Lib.hid (by have := hP.out.1; omega)) (Lib.hid O5.out.src))) ?_
    rintro en w43 ⟨v6, rfl, O60, cc42⟩
    refine ⟨_, rfl, ?_⟩
    obtain ⟨C, hCC⟩ : ∃ C, cutL L q = C := ⟨_, rfl⟩
    rw [hCC] at O60
    obtain ⟨A6, c6, hv6, hc61, hc62⟩ := O60.slice
    subst hv6
    have C0' := Lib.hid (show Ch [] w w43 from C0.out.trans' cc42 (fun x hx => absurd hx (by simp)))
    have SL' := Lib.hid (show SrcIs w43 (.slice A L.length c) (L.length) ((L).flatMap opC) 28 from SL.out.chx cc42 xnin_nil)
    have O5' := Lib.hid (show OwnS w43 w6.heap.size 49 28 (.slice A5 L.length c5) (L.length) ((L).flatMap opC) from O5.out.ch cc42 rnin_nil)
    clear C0 SL O5
    have C0 := C0'; clear C0'
    have SL := SL'; clear SL'
    have O5 := O5'; clear O5'
    clear cc42
    have O6 := Lib.hid O60
    have HCC := Lib.hid hCC
    have HGL := Lib.hid (show ∀ o ∈ L, realO o ∧ posO o from fun o ho => ⟨hR.out o ho, light_good hP.out o ho⟩)
    have HGC := Lib.hid (show ∀ o ∈ C, realO o ∧ posO o from by rw [← hCC]; exact cut_all HGL.out (by have := hq.out; omega))
    have HCN := Lib.hid (show C.length ≤ 30 from by rw [← hCC]; exact Nat.le_trans (cut_len L q) hP.out.1)
    clear O60 hCC hc61 hc62
    refine hK41 _ _ ?_; clear hK41 K41
    (try simp only [zP, zN, zA, zB, zC])
    refine pu_ (v := .slice A6 C.length c6) (y_assign rfl (by rfl) (by rfl)) ?_
    (try simp only [zP, zN, zA, zB, zC])
    refine nl_ (hK40 _ _ ?_); clear hK40 K40
    refine s_ (fun K44 hK44 => ?_)
    refine pu_ (v := .slice A5 L.length c5) (y_move rfl (by rfl) (by rfl)) ?_
    (try simp only [zP, zN, zA, zB, zC])
    refine ef_ (fun K45 hK45 => ?_)
    refine e_call Try.func31 (by kernel_rfl) rfl #[.slice A5 L.length c5] (by rfl) rfl rfl (by first | rfl | (simp only [List.map_toArray, List.map_cons, List.map_nil]; first | done | rfl)) ((order_ (w := w43) (A := A5) (c := c5) (L := L) (Lib.hid (by have := hP.out.1; omega)) (Lib.hid hP.out.1) (Lib.hid O5.out.src))) ?_
    rintro en w47 ⟨vX, X, rfl, OX0, HSX0, cc46⟩
    refine ⟨_, rfl, ?_⟩
    obtain ⟨AX, cX, hv, hc1, hc2⟩ := OX0.slice
    subst hv
    have C0' := Lib.hid (show Ch [] w w47 from C0.out.trans' cc46 (fun x hx => absurd hx (by simp)))
    have SL' := Lib.hid (show SrcIs w47 (.slice A L.length c) (L.length) ((L).flatMap opC) 28 from SL.out.chx cc46 xnin_nil)
    have O5' := Lib.hid (show OwnS w47 w6.heap.size 49 28 (.slice A5 L.length c5) (L.length) ((L).flatMap opC) from O5.out.ch cc46 rnin_nil)
    have O6' := Lib.hid (show OwnS w47 w39.heap.size 49 28 (.slice A6 C.length c6) (C.length) ((C).flatMap opC) from O6.out.ch cc46 rnin_nil)
    clear C0 SL O5 O6
    have C0 := C0'; clear C0'
    have SL := SL'; clear SL'
    have O5 := O5'; clear O5'
    have O6 := O6'; clear O6'
    clear cc46
    have OX := Lib.hid OX0
    have HSX := Lib.hid HSX0
    have HDX := Lib.hid (And.intro hc1 hc2)
    have HLX := Lib.hid (show X.length ≤ 30 from by rw [HSX.out.1.length_eq]; exact Nat.le_trans (done_len _ _) hP.out.1)
    clear OX0 HSX0 hc1 hc2
    refine hK45 _ _ ?_; clear hK45 K45
    (try simp only [zP, zN, zA, zB, zC])
    refine pu_ (v := .slice A6 C.length c6) (y_move rfl (by rfl) (by rfl)) ?_
    (try simp only [zP, zN, zA, zB, zC])
    refine ef_ (fun K48 hK48 => ?_)
    refine e_call Try.func31 (by kernel_rfl) rfl #[.slice A6 C.length c6] (by rfl) rfl rfl (by first | rfl | (simp only [List.map_toArray, List.map_cons, List.map_nil]; first | done | rfl)) ((order_ (w := w47) (A := A6) (c := c6) (L := C) (Lib.hid (by have := HCN.out; omega)) (Lib.hid HCN.out) (Lib.hid O6.out.src))) ?_
    rintro en w50 ⟨vY, Y, rfl, OY0, HSY0, cc49⟩
    refine ⟨_, rfl, ?_⟩
    obtain ⟨AY, cY, hv, hc1, hc2⟩ := OY0.slice
    subst hv
    have C0' := Lib.hid (show Ch [] w w50 from C0.out.trans' cc49 (fun x hx => absurd hx (by simp)))
    have SL' := Lib.hid (show SrcIs w50 (.slice A L.length c) (L.length) ((L).flatMap opC) 28 from SL.out.chx cc49 xnin_nil)
    have O5' := Lib.hid (show OwnS w50 w6.heap.size 49 28 (.slice A5 L.length c5) (L.length) ((L).flatMap opC) from O5.out.ch cc49 rnin_nil)
    have O6' := Lib.hid (show OwnS w50 w39.heap.size 49 28 (.slice A6 C.length c6) (C.length) ((C).flatMap opC) from O6.out.ch cc49 rnin_nil)
    have OX' := Lib.hid (show OwnS w50 w43.heap.size 3 1 (.slice AX X.length cX) (X.length) (X.map vi) from OX.out.ch cc49 rnin_nil)
    clear C0 SL O5 O6 OX
    have C0 := C0'; clear C0'
    have SL := SL'; clear SL'
    have O5 := O5'; clear O5'
    have O6 := O6'; clear O6'
    have OX := OX'; clear OX'
    clear cc49
    have OY := Lib.hid OY0
    have HSY := Lib.hid HSY0
    have HDY := Lib.hid (And.intro hc1 hc2)
    have HLY := Lib.hid (show Y.length ≤ 30 from by rw [HSY.out.1.length_eq]; exact Nat.le_trans (done_len _ _) HCN.out)
    clear OY0 HSY0 hc1 hc2
    refine hK48 _ _ ?_; clear hK48 K48
    (try simp only [zP, zN, zA, zB, zC])
    refine pu_ (v := .slice AX X.length cX) (y_assign rfl (by rfl) (by rfl)) ?_
    (try simp only [zP, zN, zA, zB, zC])
    refine pu_ (v := .slice AY Y.length cY) (y_assign rfl (by rfl) (by rfl)) ?_
    (try simp only [zP, zN, zA, zB, zC])
    refine nl_ (hK44 _ _ ?_); clear hK44 K44
    skip
    · have D55 := Lib.hid (show Y.length ≤ X.length by rw [HSY.out.1.length_eq, HSX.out.1.length_eq, dn_all, dn_all, ← HCC.out]; exact dn_cut L q)
      refine s_ (fun K51 hK51 => ?_)
      refine pu_ (v := .slice A5 L.length c5) (y_move rfl (by rfl) (by rfl)) ?_
      (try simp only [zP, zN, zA, zB, zC])
      refine pu_ (v := .slice AX X.length cX) (y_move rfl (by rfl) (by rfl)) ?_
      (try simp only [zP, zN, zA, zB, zC])
      refine ef_ (fun K52 hK52 => ?_)
      refine e_call Try.func29 (by kernel_rfl) rfl #[.slice A5 L.length c5, .slice AX X.length cX] (by rfl) rfl rfl (by first | rfl | (simp only [List.map_toArray, List.map_cons, List.map_nil]; first | done | rfl)) ((ynT (respects_ (w := w50) (A := A5) (c := c5) (L := L) (M := X) (B := AX) (d := cX) (Lib.hid (by have := hP.out.1; omega)) (Lib.hid (by have := HLX.out; omega)) HDX (Lib.hid O5.out.src) (Lib.hid OX.out.src)) (done_resp HSX.out HGL.out))) ?_
      rintro en w54 ⟨rfl, cc53⟩
      refine ⟨_, rfl, ?_⟩
      have C0' := Lib.hid (show Ch [] w w54 from C0.out.trans' cc53 (fun x hx => absurd hx (by simp)))
      have SL' := Lib.hid (show SrcIs w54 (.slice A L.length c) (L.length) ((L).flatMap opC) 28 from SL.out.chx cc53 xnin_nil)
      have O5' := Lib.hid (show OwnS w54 w6.heap.size 49 28 (.slice A5 L.length c5) (L.length) ((L).flatMap opC) from O5.out.ch cc53 rnin_nil)
      have O6' := Lib.hid (show OwnS w54 w39.heap.size 49 28 (.slice A6 C.length c6) (C.length) ((C).flatMap opC) from O6.out.ch cc53 rnin_nil)
      have OX' := Lib.hid (show OwnS w54 w43.heap.size 3 1 (.slice AX X.length cX) (X.length) (X.map vi) from OX.out.ch cc53 rnin_nil)
      have OY' := Lib.hid (show OwnS w54 w47.heap.size 3 1 (.slice AY Y.length cY) (Y.length) (Y.map vi) from OY.out.ch cc53 rnin_nil)
      clear C0 SL O5 O6 OX OY
      have C0 := C0'; clear C0'
      have SL := SL'; clear SL'
      have O5 := O5'; clear O5'
      have O6 := O6'; clear O6'
      have OX := OX'; clear OX'
      have OY := OY'; clear OY'
      clear cc53
      refine hK52 _ _ ?_; clear hK52 K52
      (try simp only [zP, zN, zA, zB, zC])
      refine pu_ (v := .bool true) (y_move rfl (by rfl) (by rfl)) ?_
      (try simp only [zP, zN, zA, zB, zC])
      refine pu_ (v := .slice A5 L.length c5) (y_move rfl (by rfl) (by rfl)) ?_
      (try simp only [zP, zN, zA, zB, zC])
      refine pu_ (v := .slice AX X.length cX) (y_move rfl (by rfl) (by rfl)) ?_
      (try simp only [zP, zN, zA, zB, zC])
      refine ef_ (fun K55 hK55 => ?_)
      refine e_call Try.func40 (by kernel_rfl) rfl #[.slice A5 L.length c5, .slice AX X.length cX] (by rfl) rfl rfl (by first | rfl | (simp only [List.map_toArray, List.map_cons, List.map_nil]; first | done | rfl)) ((ynT (whole_ (w := w54) (A := A5) (c := c5) (L := L) (M := X) (B := AX) (d := cX) (Lib.hid (by have := hP.out.1; omega)) (Lib.hid (by have := HLX.out; omega)) (Lib.hid O5.out.src) (Lib.hid OX.out.src)) (done_whole HSX.out HGL.out))) ?_
      rintro en w57 ⟨rfl, cc56⟩
      refine ⟨_, rfl, ?_⟩
      have C0' := Lib.hid (show Ch [] w w57 from C0.out.trans' cc56 (fun x hx => absurd hx (by simp)))
      have SL' := Lib.hid (show SrcIs w57 (.slice A L.length c) (L.length) ((L).flatMap opC) 28 from SL.out.chx cc56 xnin_nil)
      have O5' := Lib.hid (show OwnS w57 w6.heap.size 49 28 (.slice A5 L.length c5) (L.length) ((L).flatMap opC) from O5.out.ch cc56 rnin_nil)
      have O6' := Lib.hid (show OwnS w57 w39.heap.size 49 28 (.slice A6 C.length c6) (C.length) ((C).flatMap opC) from O6.out.ch cc56 rnin_nil)
      have OX' := Lib.hid (show OwnS w57 w43.heap.size 3 1 (.slice AX X.length cX) (X.length) (X.map vi) from OX.out.ch cc56 rnin_nil)
      have OY' := Lib.hid (show OwnS w57 w47.heap.size 3 1 (.slice AY Y.length cY) (Y.length) (Y.map vi) from OY.out.ch cc56 rnin_nil)
      clear C0 SL O5 O6 OX OY
      have C0 := C0'; clear C0'
      have SL := SL'; clear SL'
      have O5 := O5'; clear O5'
      have O6 := O6'; clear O6'
      have OX := OX'; clear OX'
      have OY := OY'; clear OY'
      clear cc56
      refine hK55 _ _ ?_; clear hK55 K55
      (try simp only [zP, zN, zA, zB, zC])
      refine pu_ (v := .bool true) (y_pick (t := true) (by rfl) rfl (by rfl) (by rfl)) ?_
      (try simp only [zP, zN, zA, zB, zC])
      refine pu_ (v := .bool true) (y_move rfl (by rfl) (by rfl)) ?_
      (try simp only [zP, zN, zA, zB, zC])
      refine pu_ (v := .slice A6 C.length c6) (y_move rfl (by rfl) (by rfl)) ?_
      (try simp only [zP, zN, zA, zB, zC])
      refine pu_ (v := .slice AY Y.length cY) (y_move rfl (by rfl) (by rfl)) ?_
      (try simp only [zP, zN, zA, zB, zC])
      refine ef_ (fun K58 hK58 => ?_)
      refine e_call Try.func29 (by kernel_rfl) rfl #[.slice A6 C.length c6, .slice AY Y.length cY] (by rfl) rfl rfl (by first | rfl | (simp only [List.map_toArray, List.map_cons, List.map_nil]; first | done | rfl)) ((ynT (respects_ (w := w57) (A := A6) (c := c6) (L := C) (M := Y) (B := AY) (d := cY) (Lib.hid (by have := HCN.out; omega)) (Lib.hid (by have := HLY.out; omega)) HDY (Lib.hid O6.out.src) (Lib.hid OY.out.src)) (done_resp HSY.out HGC.out))) ?_
      rintro en w60 ⟨rfl, cc59⟩
      refine ⟨_, rfl, ?_⟩
      have C0' := Lib.hid (show Ch [] w w60 from C0.out.trans' cc59 (fun x hx => absurd hx (by simp)))
      have SL' := Lib.hid (show SrcIs w60 (.slice A L.length c) (L.length) ((L).flatMap opC) 28 from SL.out.chx cc59 xnin_nil)
      have O5' := Lib.hid (show OwnS w60 w6.heap.size 49 28 (.slice A5 L.length c5) (L.length) ((L).flatMap opC) from O5.out.ch cc59 rnin_nil)
      have O6' := Lib.hid (show OwnS w60 w39.heap.size 49 28 (.slice A6 C.length c6) (C.length) ((C).flatMap opC) from O6.out.ch cc59 rnin_nil)
      have OX' := Lib.hid (show OwnS w60 w43.heap.size 3 1 (.slice AX X.length cX) (X.length) (X.map vi) from OX.out.ch cc59 rnin_nil)
      have OY' := Lib.hid (show OwnS w60 w47.heap.size 3 1 (.slice AY Y.length cY) (Y.length) (Y.map vi) from OY.out.ch cc59 rnin_nil)
      clear C0 SL O5 O6 OX OY
      have C0 := C0'; clear C0'
      have SL := SL'; clear SL'
      have O5 := O5'; clear O5'
      have O6 := O6'; clear O6'
      have OX := OX'; clear OX'
      have OY := OY'; clear OY'
      clear cc59
      refine hK58 _ _ ?_; clear hK58 K58
      (try simp only [zP, zN, zA, zB, zC])
      refine pu_ (v := .bool true) (y_pick (t := true) (by rfl) rfl (by rfl) (by rfl)) ?_
      (try simp only [zP, zN, zA, zB, zC])
      refine pu_ (v := .bool true) (y_move rfl (by rfl) (by rfl)) ?_
      (try simp only [zP, zN, zA, zB, zC])
      refine pu_ (v := .slice A6 C.length c6) (y_move rfl (by rfl) (by rfl)) ?_
      (try simp only [zP, zN, zA, zB, zC])
      refine pu_ (v := .slice AY Y.length cY) (y_move rfl (by rfl) (by rfl)) ?_
      (try simp only [zP, zN, zA, zB, zC])
      refine ef_ (fun K61 hK61 => ?_)
      refine e_call Try.func40 (by kernel_rfl) rfl #[.slice A6 C.length c6, .slice AY Y.length cY] (by rfl) rfl rfl (by first | rfl | (simp only [List.map_toArray, List.map_cons, List.map_nil]; first | done | rfl)) ((ynT (whole_ (w := w60) (A := A6) (c := c6) (L := C) (M := Y) (B := AY) (d := cY) (Lib.hid (by have := HCN.out; omega)) (Lib.hid (by have := HLY.out; omega)) (Lib.hid O6.out.src) (Lib.hid OY.out.src)) (done_whole HSY.out HGC.out))) ?_
      rintro en w63 ⟨rfl, cc62⟩
      refine ⟨_, rfl, ?_⟩
      have C0' := Lib.hid (show Ch [] w w63 from C0.out.trans' cc62 (fun x hx => absurd hx (by simp)))
      have SL' := Lib.hid (show SrcIs w63 (.slice A L.length c) (L.length) ((L).flatMap opC) 28 from SL.out.chx cc62 xnin_nil)
      have O5' := Lib.hid (show OwnS w63 w6.heap.size 49 28 (.slice A5 L.length c5) (L.length) ((L).flatMap opC) from O5.out.ch cc62 rnin_nil)
      have O6' := Lib.hid (show OwnS w63 w39.heap.size 49 28 (.slice A6 C.length c6) (C.length) ((C).flatMap opC) from O6.out.ch cc62 rnin_nil)
      have OX' := Lib.hid (show OwnS w63 w43.heap.size 3 1 (.slice AX X.length cX) (X.length) (X.map vi) from OX.out.ch cc62 rnin_nil)
      have OY' := Lib.hid (show OwnS w63 w47.heap.size 3 1 (.slice AY Y.length cY) (Y.length) (Y.map vi) from OY.out.ch cc62 rnin_nil)
      clear C0 SL O5 O6 OX OY
      have C0 := C0'; clear C0'
      have SL := SL'; clear SL'
      have O5 := O5'; clear O5'
      have O6 := O6'; clear O6'
      have OX := OX'; clear OX'
      have OY := OY'; clear OY'
      clear cc62
      refine hK61 _ _ ?_; clear hK61 K61
      (try simp only [zP, zN, zA, zB, zC])
      refine pu_ (v := .bool true) (y_pick (t := true) (by rfl) rfl (by rfl) (by rfl)) ?_
      (try simp only [zP, zN, zA, zB, zC])
      refine pu_ (v := .bool true) (y_move rfl (by rfl) (by rfl)) ?_
      (try simp only [zP, zN, zA, zB, zC])
      refine pu_ (v := .slice AY Y.length cY) (y_move rfl (by rfl) (by rfl)) ?_
      (try simp only [zP, zN, zA, zB, zC])
      refine pu_ (v := .int .i64 Y.length) (y_run (by rfl) (fun W => by go_simp)) ?_
      (try simp only [zP, zN, zA, zB, zC])
      refine pu_ (v := .slice AX X.length cX) (y_move rfl (by rfl) (by rfl)) ?_
      (try simp only [zP, zN, zA, zB, zC])
      refine pu_ (v := .int .i64 X.length) (y_run (by rfl) (fun W => by go_simp)) ?_
      (try simp only [zP, zN, zA, zB, zC])
      refine pu_ (v := .bool true) (y_run (by rfl) (fun W => by have d := D55.out; go_simp)) ?_
      (try simp only [zP, zN, zA, zB, zC])
      refine pu_ (v := .bool true) (y_pick (t := true) (by rfl) rfl (by rfl) (by rfl)) ?_
      (try simp only [zP, zN, zA, zB, zC])
      refine pu_ (v := .bool true) (y_move rfl (by rfl) (by rfl)) ?_
      (try simp only [zP, zN, zA, zB, zC])
      refine pu_ (v := .slice A6 C.length c6) (y_move rfl (by rfl) (by rfl)) ?_
      (try simp only [zP, zN, zA, zB, zC])
      refine ef_ (fun K64 hK64 => ?_)
      refine e_call Try.func42 (by kernel_rfl) rfl #[.slice A6 C.length c6] (by rfl) rfl rfl (by first | rfl | (simp only [List.map_toArray, List.map_cons, List.map_nil]; first | done | rfl)) ((ynT (real_ (w := w63) (A := A6) (c := c6) (L := C) HCN (Lib.hid O6.out.src)) (fun o ho => (HGC.out o ho).1))) ?_
      rintro en w66 ⟨rfl, cc65⟩
      refine ⟨_, rfl, ?_⟩
      have C0' := Lib.hid (show Ch [] w w66 from C0.out.trans' cc65 (fun x hx => absurd hx (by simp)))
      have SL' := Lib.hid (show SrcIs w66 (.slice A L.length c) (L.length) ((L).flatMap opC) 28 from SL.out.chx cc65 xnin_nil)
      have O5' := Lib.hid (show OwnS w66 w6.heap.size 49 28 (.slice A5 L.length c5) (L.length) ((L).flatMap opC) from O5.out.ch cc65 rnin_nil)
      have O6' := Lib.hid (show OwnS w66 w39.heap.size 49 28 (.slice A6 C.length c6) (C.length) ((C).flatMap opC) from O6.out.ch cc65 rnin_nil)
      have OX' := Lib.hid (show OwnS w66 w43.heap.size 3 1 (.slice AX X.length cX) (X.length) (X.map vi) from OX.out.ch cc65 rnin_nil)
      have OY' := Lib.hid (show OwnS w66 w47.heap.size 3 1 (.slice AY Y.length cY) (Y.length) (Y.map vi) from OY.out.ch cc65 rnin_nil)
      clear C0 SL O5 O6 OX OY
      have C0 := C0'; clear C0'
      have SL := SL'; clear SL'
      have O5 := O5'; clear O5'
      have O6 := O6'; clear O6'
      have OX := OX'; clear OX'
      have OY := OY'; clear OY'
      clear cc65
      refine hK64 _ _ ?_; clear hK64 K64
      (try simp only [zP, zN, zA, zB, zC])
      refine pu_ (v := .bool true) (y_pick (t := true) (by rfl) rfl (by rfl) (by rfl)) ?_
      (try simp only [zP, zN, zA, zB, zC])
      refine pu_ (v := .bool true) (y_assign rfl (by rfl) (by rfl)) ?_
      (try simp only [zP, zN, zA, zB, zC])
      refine nl_ (hK51 _ _ ?_); clear hK51 K51
      refine wp_ret ?_
      refine hQ _ _ _ ?_
      refine bodyPost_ret (res1 rfl (rdv_tmp (v := .bool true) (by rfl))) rfl ?_
      exact ⟨rfl, C0.out⟩
end
end Go.Proofs.Ytggcpbnlblbpjaa.L
