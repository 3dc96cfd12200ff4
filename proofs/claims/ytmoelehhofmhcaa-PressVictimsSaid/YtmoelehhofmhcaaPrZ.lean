/- The walks of what is asked of loads that come in, and of their copy. -/
import Derived.Test.YtmoelehhofmhcaaPrY
namespace Go.Proofs.Ytmoelehhofmhcaa.V
open Go Go.RowKit Go.Proofs.Ytmoelehhofmhcaa.K Go.Proofs.YtmoelehhofmhcaaW.PrintLast
set_option linter.unusedVariables false
set_option linter.unusedSimpArgs false
set_option maxRecDepth 100000
set_option maxHeartbeats 1600000
section
variable {w : World}
theorem right_ways (L : List HL) (lr : HL → Bool) (k : Nat) (h1 : k ≤ 20) (h2 : k ≤ L.length) : (∃ x, L[k]? = some x ∧ (k < L.length ∧ k < 20) ∧ (¬ SmallL x ∨ (SmallL x ∧ ¬ lr x = true) ∨ (SmallL x ∧ lr x = true ∧ ¬ 1 ≤ x.uid) ∨ (SmallL x ∧ lr x = true ∧ 1 ≤ x.uid))) ∨ k = L.length ∨ (k < L.length ∧ k = 20) := by
 rcases (show (k < L.length ∧ k < 20) ∨ k = L.length ∨ (k < L.length ∧ k = 20) by omega) with h | h | h
 ·refine .inl ⟨_, List.getElem?_eq_getElem h.1, h, ?_⟩
  by_cases a : SmallL L[k] <;> by_cases b : lr L[k] = true <;> by_cases c : 1 ≤ L[k].uid <;> simp [a, b, c]
 ·exact .inr (.inl h)
 ·exact .inr (.inr h)
theorem right_ {A : Option Addr} {z : Nat} {L : List HL} {lr : HL → Bool} (HLR : Hid (∀ x ∈ L, SpecR w x.sp.1 (lr x))) (SL : Hid (SrcIs w (.slice A L.length z) (L.length) ((L).flatMap loadC) 16)) :
  Calls Try.prog 11 #[.slice A L.length z] w fun en w' => ∃ r, en = .returned (.bool r) ∧ (r = true ↔ RightP L lr) ∧ Ch [] w w' := by
 have C0 := qh (Ch.refl [] w)
 go_enter Try.func11, Try.ntmps11
 refine q_ (fun Q hQ hP => ?_)
 refine s_ (fun K1 hK1 => ?_)
 refine pu_ (v := .bool false) (y_assign rfl (by rfl) (by rfl)) ?_
 try simp only [zP,zN,zA,zB,zC]
 refine nl_ (hK1 _ _ ?_); clear hK1 K1
 refine sq_ (fun K2 hK2 => ?_)
 refine s_ (fun K3 hK3 => ?_)
 refine pu_ (v := .int .i64 0) (y_assign rfl (by rfl) (by rfl)) ?_
 try simp only [zP,zN,zA,zB,zC]
 refine nl_ (hK3 _ _ ?_); clear hK3 K3
 refine wp_block ?_
 refine loopk_ (fun (kq : Nat) (a' : Act) (w' : World) => ∃ (k : Nat), a' = ⟨#[.slice A L.length z, uo a' 1, .bool false, .int .i64 k, uo a' 4, uo a' 5, uo a' 6, uo a' 7, uo a' 8, uo a' 9, uo a' 10, uo a' 11, uo a' 12, uo a' 13, uo a' 14, uo a' 15, uo a' 16, uo a' 17, uo a' 18, uo a' 19, uo a' 20, uo a' 21, uo a' 22, uo a' 23, uo a' 24, uo a' 25, uo a' 26, uo a' 27, uo a' 28, uo a' 29, uo a' 30, uo a' 31, uo a' 32, uo a' 33, uo a' 34, uo a' 35, uo a' 36, uo a' 37, uo a' 38, uo a' 39, uo a' 40, uo a' 41, uo a' 42], []⟩ ∧ Hid (Ch [] w w') ∧ Hid (SrcIs w' (.slice A L.length z) (L.length) ((L).flatMap loadC) 16) ∧ Hid (k ≤ 20 ∧ k ≤ L.length ∧ kq + k = 20) ∧ Hid (∀ j x, j < k → L[j]? = some x → SmallL x ∧ lr x = true ∧ 1 ≤ x.uid)) (20) (⟨0, rfl, C0, SL, qh ⟨by omega, by omega, rfl⟩, qh (fun j x h => absurd h (by omega))⟩) ?_
 rintro kq a_ w4 ⟨k, ha_, C0, SL, hk, hr⟩ K5 hK5
 obtain ⟨us, hus_⟩ : ∃ us, us = uo a_ := ⟨_, rfl⟩; try rw [← hus_] at ha_
 subst ha_; clear hus_
 refine sq_ (fun K6 hK6 => ?_)
 rcases right_ways L lr k hk.out.1 hk.out.2.1 with ⟨x, ho0, hlt0, h | h | h | h⟩ | h | h
 ·have hlt := qh hlt0
  have ho := qh ho0
  have HH := qh h
  clear hlt0 ho0 h
  obtain ⟨a, hsm_a⟩ := src_some SL.out (by have := hlt.out; omega)
  subst hsm_a
  have D7 := qh (show (k : Int) < (L.length : Int) by have := hlt.out; omega)
  have D10 := qh (show decide ((k : Int) < 20) = true from decide_eq_true (by have := hlt.out; omega))
  have Wk := qh (show IntKind.i64.wrap ((k : Int) + 1) = ((k + 1 : Nat) : Int) by rw [wr64 (by have := hlt.out; omega)]; omega)
  have HMX := qh (List.mem_of_getElem? ho.out)
  have HR := qh (show ¬ RightP L lr from fun h9 => by have h8 := h9.2 x HMX.out; exact HH.out h8.1)
  refine s_ (fun K7 hK7 => ?_)
  refine pu_ (v := .int .i64 k) (y_move rfl (by rfl) (by rfl)) ?_
  try simp only [zP,zN,zA,zB,zC]
  refine pu_ (v := .slice (some a) L.length z) (y_move rfl (by rfl) (by rfl)) ?_
  try simp only [zP,zN,zA,zB,zC]
  refine pu_ (v := .int .i64 L.length) (y_run (by rfl) (fun W => by go_simp)) ?_
  try simp only [zP,zN,zA,zB,zC]
  refine pu_ (v := .bool true) (y_run (by rfl) (fun W => by have d := D7.out; go_simp)) ?_
  try simp only [zP,zN,zA,zB,zC]
  refine pu_ (v := .bool true) (y_move rfl (by rfl) (by rfl)) ?_
  try simp only [zP,zN,zA,zB,zC]
  refine pu_ (v := .int .i64 k) (y_move rfl (by rfl) (by rfl)) ?_
  try simp only [zP,zN,zA,zB,zC]
  refine pu_ (v := .bool true) (y_run (by rfl) (fun W => by have d := D10.out; go_simp)) ?_
  try simp only [zP,zN,zA,zB,zC]
  refine pu_ (v := .bool true) (y_pick (t := true) (by rfl) rfl (by rfl) (by rfl)) ?_
  try simp only [zP,zN,zA,zB,zC]
  refine nl_ (hK7 _ _ ?_); clear hK7 K7
  refine wp_cond_true rfl ?_
  refine wp_skip ?_
  refine th_norm (hK6 _ _ ?_); try clear hK6 K6
  refine sq_ (fun K8 hK8 => ?_)
  refine wp_block ?_
  refine s_ (fun K9 hK9 => ?_)
  refine pu_ (v := .slice (some a) L.length z) (y_move rfl (by rfl) (by rfl)) ?_
  try simp only [zP,zN,zA,zB,zC]
  refine pu_ (v := .int .i64 k) (y_move rfl (by rfl) (by rfl)) ?_
  try simp only [zP,zN,zA,zB,zC]
  refine pu_ (v := .pointer (some (a.add (k * 16)))) (y_run (by rfl) (fun W => by have d := D7.out; go_simp)) ?_
  try simp only [zP,zN,zA,zB,zC]
  refine pu_ (v := .pointer (some ((a.add (k * 16)).add 13))) (y_run (by rfl) (fun W => by go_simp)) ?_
  try simp only [zP,zN,zA,zB,zC]
  refine ld_ (v := .agg #[.int .i64 x.cpu, .int .i64 x.mem, .int .i64 x.pids]) rfl (by rfl) (by rfl) (run_loadVar_at (cells_sub (src_at loadC_len SL.out ho.out) 13 (load_use x)) Try.underlying23 rfl (by kernel_rfl)) ?_
  try simp only [zP,zN,zA,zB,zC]
  refine ef_ (fun K10 hK10 => ?_)
  refine e_call Try.func6 (by kernel_rfl) rfl #[.agg #[.int .i64 x.cpu, .int .i64 x.mem, .int .i64 x.pids]] (by rfl) rfl rfl (mp1 rfl) ((ynF (small_ x.cpu x.mem x.pids) HH.out)) ?_
  rintro en w12 ⟨rfl, cc11⟩
  refine ⟨_, rfl, ?_⟩
  replace C0 := qh (C0.out.trans' cc11 inw_nil)
  replace SL := qh (SL.out.chx cc11 xnin_nil)
  clear cc11
  refine hK10 _ _ ?_; clear hK10 K10
  try simp only [zP,zN,zA,zB,zC]
  refine pu_ (v := .bool true) (y_run (by rfl) (fun W => by go_simp)) ?_
  try simp only [zP,zN,zA,zB,zC]
  refine pu_ (v := .bool true) (y_move rfl (by rfl) (by rfl)) ?_
  try simp only [zP,zN,zA,zB,zC]
  refine pu_ (y_off (by rfl)) ?_
  try simp only [zP,zN,zA,zB,zC]
  refine pu_ (y_off (by rfl)) ?_
  try simp only [zP,zN,zA,zB,zC]
  refine pu_ (y_off (by rfl)) ?_
  try simp only [zP,zN,zA,zB,zC]
  refine pu_ (y_off (by rfl)) ?_
  try simp only [zP,zN,zA,zB,zC]
  refine pu_ (y_off (by rfl)) ?_
  try simp only [zP,zN,zA,zB,zC]
  refine pu_ (y_off (by rfl)) ?_
  try simp only [zP,zN,zA,zB,zC]
  refine pu_ (y_off (by rfl)) ?_
  try simp only [zP,zN,zA,zB,zC]
  refine pu_ (y_off (by rfl)) ?_
  try simp only [zP,zN,zA,zB,zC]
  refine pu_ (v := .bool true) (y_pick (t := true) (by rfl) rfl (by rfl) (by rfl)) ?_
  try simp only [zP,zN,zA,zB,zC]
  refine pu_ (v := .bool true) (y_move rfl (by rfl) (by rfl)) ?_
  try simp only [zP,zN,zA,zB,zC]
  refine pu_ (y_off (by rfl)) ?_
  try simp only [zP,zN,zA,zB,zC]
  refine pu_ (y_off (by rfl)) ?_
  try simp only [zP,zN,zA,zB,zC]
  refine pu_ (y_off (by rfl)) ?_
  try simp only [zP,zN,zA,zB,zC]
  refine pu_ (y_off (by rfl)) ?_
  try simp only [zP,zN,zA,zB,zC]
  refine pu_ (y_off (by rfl)) ?_
  try simp only [zP,zN,zA,zB,zC]
  refine pu_ (y_off (by rfl)) ?_
  try simp only [zP,zN,zA,zB,zC]
  refine pu_ (y_off (by rfl)) ?_
  try simp only [zP,zN,zA,zB,zC]
  refine pu_ (v := .bool true) (y_pick (t := true) (by rfl) rfl (by rfl) (by rfl)) ?_
  try simp only [zP,zN,zA,zB,zC]
  refine nl_ (hK9 _ _ ?_); clear hK9 K9
  refine wp_cond_true rfl ?_
  refine s_ (fun K13 hK13 => ?_)
  refine pu_ (v := .bool false) (y_assign rfl (by rfl) (by rfl)) ?_
  try simp only [zP,zN,zA,zB,zC]
  refine nl_ (hK13 _ _ ?_); clear hK13 K13
  refine wp_ret ?_
  refine ib_ret ?_
  refine th_ret ?_
  refine th_ret ?_
  refine ib_ret ?_
  refine th_ret ?_
  refine hQ _ _ _ ?_
  refine bodyPost_ret (res1 rfl (rdv_tmp (v := .bool false) (by rfl))) rfl ?_
  exact ⟨_, rfl, ⟨fun h9 => absurd h9 (by decide), fun h9 => absurd h9 HR.out⟩, C0.out⟩
 ·have hlt := qh hlt0
  have ho := qh ho0
  have HH := qh h
  clear hlt0 ho0 h
  obtain ⟨a, hsm_a⟩ := src_some SL.out (by have := hlt.out; omega)
  subst hsm_a
  have D7 := qh (show (k : Int) < (L.length : Int) by have := hlt.out; omega)
  have D10 := qh (show decide ((k : Int) < 20) = true from decide_eq_true (by have := hlt.out; omega))
  have Wk := qh (show IntKind.i64.wrap ((k : Int) + 1) = ((k + 1 : Nat) : Int) by rw [wr64 (by have := hlt.out; omega)]; omega)
  have HMX := qh (List.mem_of_getElem? ho.out)
  have HLR_ := qh (show lr x = false from by cases hh : lr x; rfl; exact absurd hh HH.out.2)
  have HR := qh (show ¬ RightP L lr from fun h9 => by have h8 := h9.2 x HMX.out; exact HH.out.2 h8.2.1)
  refine s_ (fun K14 hK14 => ?_)
  refine pu_ (v := .int .i64 k) (y_move rfl (by rfl) (by rfl)) ?_
  try simp only [zP,zN,zA,zB,zC]
  refine pu_ (v := .slice (some a) L.length z) (y_move rfl (by rfl) (by rfl)) ?_
  try simp only [zP,zN,zA,zB,zC]
  refine pu_ (v := .int .i64 L.length) (y_run (by rfl) (fun W => by go_simp)) ?_
  try simp only [zP,zN,zA,zB,zC]
  refine pu_ (v := .bool true) (y_run (by rfl) (fun W => by have d := D7.out; go_simp)) ?_
  try simp only [zP,zN,zA,zB,zC]
  refine pu_ (v := .bool true) (y_move rfl (by rfl) (by rfl)) ?_
  try simp only [zP,zN,zA,zB,zC]
  refine pu_ (v := .int .i64 k) (y_move rfl (by rfl) (by rfl)) ?_
  try simp only [zP,zN,zA,zB,zC]
  refine pu_ (v := .bool true) (y_run (by rfl) (fun W => by have d := D10.out; go_simp)) ?_
  try simp only [zP,zN,zA,zB,zC]
  refine pu_ (v := .bool true) (y_pick (t := true) (by rfl) rfl (by rfl) (by rfl)) ?_
  try simp only [zP,zN,zA,zB,zC]
  refine nl_ (hK14 _ _ ?_); clear hK14 K14
  refine wp_cond_true rfl ?_
  refine wp_skip ?_
  refine th_norm (hK6 _ _ ?_); try clear hK6 K6
  refine sq_ (fun K15 hK15 => ?_)
  refine wp_block ?_
  refine s_ (fun K16 hK16 => ?_)
  refine pu_ (v := .slice (some a) L.length z) (y_move rfl (by rfl) (by rfl)) ?_
  try simp only [zP,zN,zA,zB,zC]
  refine pu_ (v := .int .i64 k) (y_move rfl (by rfl) (by rfl)) ?_
  try simp only [zP,zN,zA,zB,zC]
  refine pu_ (v := .pointer (some (a.add (k * 16)))) (y_run (by rfl) (fun W => by have d := D7.out; go_simp)) ?_
  try simp only [zP,zN,zA,zB,zC]
  refine pu_ (v := .pointer (some ((a.add (k * 16)).add 13))) (y_run (by rfl) (fun W => by go_simp)) ?_
  try simp only [zP,zN,zA,zB,zC]
  refine ld_ (v := .agg #[.int .i64 x.cpu, .int .i64 x.mem, .int .i64 x.pids]) rfl (by rfl) (by rfl) (run_loadVar_at (cells_sub (src_at loadC_len SL.out ho.out) 13 (load_use x)) Try.underlying23 rfl (by kernel_rfl)) ?_
  try simp only [zP,zN,zA,zB,zC]
  refine ef_ (fun K17 hK17 => ?_)
  refine e_call Try.func6 (by kernel_rfl) rfl #[.agg #[.int .i64 x.cpu, .int .i64 x.mem, .int .i64 x.pids]] (by rfl) rfl rfl (mp1 rfl) ((ynT (small_ x.cpu x.mem x.pids) HH.out.1)) ?_
  rintro en w19 ⟨rfl, cc18⟩
  refine ⟨_, rfl, ?_⟩
  replace C0 := qh (C0.out.trans' cc18 inw_nil)
  replace SL := qh (SL.out.chx cc18 xnin_nil)
  clear cc18
  refine hK17 _ _ ?_; clear hK17 K17
  try simp only [zP,zN,zA,zB,zC]
  refine pu_ (v := .bool false) (y_run (by rfl) (fun W => by go_simp)) ?_
  try simp only [zP,zN,zA,zB,zC]
  refine pu_ (v := .bool false) (y_move rfl (by rfl) (by rfl)) ?_
  try simp only [zP,zN,zA,zB,zC]
  refine pu_ (v := .slice (some a) L.length z) (y_move rfl (by rfl) (by rfl)) ?_
  try simp only [zP,zN,zA,zB,zC]
  refine pu_ (v := .int .i64 k) (y_move rfl (by rfl) (by rfl)) ?_
  try simp only [zP,zN,zA,zB,zC]
  refine pu_ (v := .pointer (some (a.add (k * 16)))) (y_run (by rfl) (fun W => by have d := D7.out; go_simp)) ?_
  try simp only [zP,zN,zA,zB,zC]
  refine pu_ (v := .pointer (some (a.add (k * 16)))) (y_run (by rfl) (fun W => by go_simp)) ?_
  try simp only [zP,zN,zA,zB,zC]
  refine pu_ (v := .pointer (some ((a.add (k * 16)).add 2))) (y_run (by rfl) (fun W => by go_simp)) ?_
  try simp only [zP,zN,zA,zB,zC]
  refine ld_ (v := .agg x.sp.1.toArray) rfl (by rfl) (by rfl) (run_loadVar_at (cells_sub (src_at loadC_len SL.out ho.out) 2 (load_sp x)) Try.underlying39 rfl (by rw [x.sp.2.1]; kernel_rfl)) ?_
  try simp only [zP,zN,zA,zB,zC]
  refine ef_ (fun K20 hK20 => ?_)
  refine e_call Try.func21 (by kernel_rfl) rfl #[.agg x.sp.1.toArray] (by rfl) rfl rfl (mp1 rfl) ((by have h9 := HLR.out x HMX.out _ C0.out.below0; rw [HLR_.out] at h9; exact h9)) ?_
  rintro en w22 ⟨rfl, cc21⟩
  refine ⟨_, rfl, ?_⟩
  replace C0 := qh (C0.out.trans' cc21 inw_nil)
  replace SL := qh (SL.out.chx cc21 xnin_nil)
  clear cc21
  refine hK20 _ _ ?_; clear hK20 K20
  try simp only [zP,zN,zA,zB,zC]
  refine pu_ (v := .bool true) (y_run (by rfl) (fun W => by go_simp)) ?_
  try simp only [zP,zN,zA,zB,zC]
  refine pu_ (v := .bool true) (y_pick (t := false) (by rfl) rfl (by rfl) (by rfl)) ?_
  try simp only [zP,zN,zA,zB,zC]
  refine pu_ (v := .bool true) (y_move rfl (by rfl) (by rfl)) ?_
  try simp only [zP,zN,zA,zB,zC]
  refine pu_ (y_off (by rfl)) ?_
  try simp only [zP,zN,zA,zB,zC]
  refine pu_ (y_off (by rfl)) ?_
  try simp only [zP,zN,zA,zB,zC]
  refine pu_ (y_off (by rfl)) ?_
  try simp only [zP,zN,zA,zB,zC]
  refine pu_ (y_off (by rfl)) ?_
  try simp only [zP,zN,zA,zB,zC]
  refine pu_ (y_off (by rfl)) ?_
  try simp only [zP,zN,zA,zB,zC]
  refine pu_ (y_off (by rfl)) ?_
  try simp only [zP,zN,zA,zB,zC]
  refine pu_ (y_off (by rfl)) ?_
  try simp only [zP,zN,zA,zB,zC]
  refine pu_ (v := .bool true) (y_pick (t := true) (by rfl) rfl (by rfl) (by rfl)) ?_
  try simp only [zP,zN,zA,zB,zC]
  refine nl_ (hK16 _ _ ?_); clear hK16 K16
  refine wp_cond_true rfl ?_
  refine s_ (fun K23 hK23 => ?_)
  refine pu_ (v := .bool false) (y_assign rfl (by rfl) (by rfl)) ?_
  try simp only [zP,zN,zA,zB,zC]
  refine nl_ (hK23 _ _ ?_); clear hK23 K23
  refine wp_ret ?_
  refine ib_ret ?_
  refine th_ret ?_
  refine th_ret ?_
  refine ib_ret ?_
  refine th_ret ?_
  refine hQ _ _ _ ?_
  refine bodyPost_ret (res1 rfl (rdv_tmp (v := .bool false) (by rfl))) rfl ?_
  exact ⟨_, rfl, ⟨fun h9 => absurd h9 (by decide), fun h9 => absurd h9 HR.out⟩, C0.out⟩
 ·have hlt := qh hlt0
  have ho := qh ho0
  have HH := qh h
  clear hlt0 ho0 h
  obtain ⟨a, hsm_a⟩ := src_some SL.out (by have := hlt.out; omega)
  subst hsm_a
  have D7 := qh (show (k : Int) < (L.length : Int) by have := hlt.out; omega)
  have D10 := qh (show decide ((k : Int) < 20) = true from decide_eq_true (by have := hlt.out; omega))
  have Wk := qh (show IntKind.i64.wrap ((k : Int) + 1) = ((k + 1 : Nat) : Int) by rw [wr64 (by have := hlt.out; omega)]; omega)
  have HMX := qh (List.mem_of_getElem? ho.out)
  have HLR_ := qh (show lr x = true from HH.out.2.1)
  have D38 := qh (show decide (x.uid < 1) = true from decide_eq_true (by have := HH.out.2.2; omega))
  have HR := qh (show ¬ RightP L lr from fun h9 => by have h8 := h9.2 x HMX.out; exact HH.out.2.2 h8.2.2)
  refine s_ (fun K24 hK24 => ?_)
  refine pu_ (v := .int .i64 k) (y_move rfl (by rfl) (by rfl)) ?_
  try simp only [zP,zN,zA,zB,zC]
  refine pu_ (v := .slice (some a) L.length z) (y_move rfl (by rfl) (by rfl)) ?_
  try simp only [zP,zN,zA,zB,zC]
  refine pu_ (v := .int .i64 L.length) (y_run (by rfl) (fun W => by go_simp)) ?_
  try simp only [zP,zN,zA,zB,zC]
  refine pu_ (v := .bool true) (y_run (by rfl) (fun W => by have d := D7.out; go_simp)) ?_
  try simp only [zP,zN,zA,zB,zC]
  refine pu_ (v := .bool true) (y_move rfl (by rfl) (by rfl)) ?_
  try simp only [zP,zN,zA,zB,zC]
  refine pu_ (v := .int .i64 k) (y_move rfl (by rfl) (by rfl)) ?_
  try simp only [zP,zN,zA,zB,zC]
  refine pu_ (v := .bool true) (y_run (by rfl) (fun W => by have d := D10.out; go_simp)) ?_
  try simp only [zP,zN,zA,zB,zC]
  refine pu_ (v := .bool true) (y_pick (t := true) (by rfl) rfl (by rfl) (by rfl)) ?_
  try simp only [zP,zN,zA,zB,zC]
  refine nl_ (hK24 _ _ ?_); clear hK24 K24
  refine wp_cond_true rfl ?_
  refine wp_skip ?_
  refine th_norm (hK6 _ _ ?_); try clear hK6 K6
  refine sq_ (fun K25 hK25 => ?_)
  refine wp_block ?_
  refine s_ (fun K26 hK26 => ?_)
  refine pu_ (v := .slice (some a) L.length z) (y_move rfl (by rfl) (by rfl)) ?_
  try simp only [zP,zN,zA,zB,zC]
  refine pu_ (v := .int .i64 k) (y_move rfl (by rfl) (by rfl)) ?_
  try simp only [zP,zN,zA,zB,zC]
  refine pu_ (v := .pointer (some (a.add (k * 16)))) (y_run (by rfl) (fun W => by have d := D7.out; go_simp)) ?_
  try simp only [zP,zN,zA,zB,zC]
  refine pu_ (v := .pointer (some ((a.add (k * 16)).add 13))) (y_run (by rfl) (fun W => by go_simp)) ?_
  try simp only [zP,zN,zA,zB,zC]
  refine ld_ (v := .agg #[.int .i64 x.cpu, .int .i64 x.mem, .int .i64 x.pids]) rfl (by rfl) (by rfl) (run_loadVar_at (cells_sub (src_at loadC_len SL.out ho.out) 13 (load_use x)) Try.underlying23 rfl (by kernel_rfl)) ?_
  try simp only [zP,zN,zA,zB,zC]
  refine ef_ (fun K27 hK27 => ?_)
  refine e_call Try.func6 (by kernel_rfl) rfl #[.agg #[.int .i64 x.cpu, .int .i64 x.mem, .int .i64 x.pids]] (by rfl) rfl rfl (mp1 rfl) ((ynT (small_ x.cpu x.mem x.pids) HH.out.1)) ?_
  rintro en w29 ⟨rfl, cc28⟩
  refine ⟨_, rfl, ?_⟩
  replace C0 := qh (C0.out.trans' cc28 inw_nil)
  replace SL := qh (SL.out.chx cc28 xnin_nil)
  clear cc28
  refine hK27 _ _ ?_; clear hK27 K27
  try simp only [zP,zN,zA,zB,zC]
  refine pu_ (v := .bool false) (y_run (by rfl) (fun W => by go_simp)) ?_
  try simp only [zP,zN,zA,zB,zC]
  refine pu_ (v := .bool false) (y_move rfl (by rfl) (by rfl)) ?_
  try simp only [zP,zN,zA,zB,zC]
  refine pu_ (v := .slice (some a) L.length z) (y_move rfl (by rfl) (by rfl)) ?_
  try simp only [zP,zN,zA,zB,zC]
  refine pu_ (v := .int .i64 k) (y_move rfl (by rfl) (by rfl)) ?_
  try simp only [zP,zN,zA,zB,zC]
  refine pu_ (v := .pointer (some (a.add (k * 16)))) (y_run (by rfl) (fun W => by have d := D7.out; go_simp)) ?_
  try simp only [zP,zN,zA,zB,zC]
  refine pu_ (v := .pointer (some (a.add (k * 16)))) (y_run (by rfl) (fun W => by go_simp)) ?_
  try simp only [zP,zN,zA,zB,zC]
  refine pu_ (v := .pointer (some ((a.add (k * 16)).add 2))) (y_run (by rfl) (fun W => by go_simp)) ?_
  try simp only [zP,zN,zA,zB,zC]
  refine ld_ (v := .agg x.sp.1.toArray) rfl (by rfl) (by rfl) (run_loadVar_at (cells_sub (src_at loadC_len SL.out ho.out) 2 (load_sp x)) Try.underlying39 rfl (by rw [x.sp.2.1]; kernel_rfl)) ?_
  try simp only [zP,zN,zA,zB,zC]
  refine ef_ (fun K30 hK30 => ?_)
  refine e_call Try.func21 (by kernel_rfl) rfl #[.agg x.sp.1.toArray] (by rfl) rfl rfl (mp1 rfl) ((by have h9 := HLR.out x HMX.out _ C0.out.below0; rw [HLR_.out] at h9; exact h9)) ?_
  rintro en w32 ⟨rfl, cc31⟩
  refine ⟨_, rfl, ?_⟩
  replace C0 := qh (C0.out.trans' cc31 inw_nil)
  replace SL := qh (SL.out.chx cc31 xnin_nil)
  clear cc31
  refine hK30 _ _ ?_; clear hK30 K30
  try simp only [zP,zN,zA,zB,zC]
  refine pu_ (v := .bool false) (y_run (by rfl) (fun W => by go_simp)) ?_
  try simp only [zP,zN,zA,zB,zC]
  refine pu_ (v := .bool false) (y_pick (t := false) (by rfl) rfl (by rfl) (by rfl)) ?_
  try simp only [zP,zN,zA,zB,zC]
  refine pu_ (v := .bool false) (y_move rfl (by rfl) (by rfl)) ?_
  try simp only [zP,zN,zA,zB,zC]
  refine pu_ (v := .slice (some a) L.length z) (y_move rfl (by rfl) (by rfl)) ?_
  try simp only [zP,zN,zA,zB,zC]
  refine pu_ (v := .int .i64 k) (y_move rfl (by rfl) (by rfl)) ?_
  try simp only [zP,zN,zA,zB,zC]
  refine pu_ (v := .pointer (some (a.add (k * 16)))) (y_run (by rfl) (fun W => by have d := D7.out; go_simp)) ?_
  try simp only [zP,zN,zA,zB,zC]
  refine pu_ (v := .pointer (some (a.add (k * 16)))) (y_run (by rfl) (fun W => by go_simp)) ?_
  try simp only [zP,zN,zA,zB,zC]
  refine pu_ (v := .pointer (some (a.add (k * 16)))) (y_run (by rfl) (fun W => by go_simp)) ?_
  try simp only [zP,zN,zA,zB,zC]
  refine ld_ (v := .int .i64 x.uid) rfl (by rfl) (by rfl) (run_load_one (by have h9 := (src_at loadC_len SL.out ho.out) 0 _ (load_0 x); simpa [Addr.add] using h9) Try.underlying3 rfl) ?_
  try simp only [zP,zN,zA,zB,zC]
  refine pu_ (v := .bool true) (y_run (by rfl) (fun W => by have d := D38.out; go_simp)) ?_
  try simp only [zP,zN,zA,zB,zC]
  refine pu_ (v := .bool true) (y_pick (t := false) (by rfl) rfl (by rfl) (by rfl)) ?_
  try simp only [zP,zN,zA,zB,zC]
  refine nl_ (hK26 _ _ ?_); clear hK26 K26
  refine wp_cond_true rfl ?_
  refine s_ (fun K33 hK33 => ?_)
  refine pu_ (v := .bool false) (y_assign rfl (by rfl) (by rfl)) ?_
  try simp only [zP,zN,zA,zB,zC]
  refine nl_ (hK33 _ _ ?_); clear hK33 K33
  refine wp_ret ?_
  refine ib_ret ?_
  refine th_ret ?_
  refine th_ret ?_
  refine ib_ret ?_
  refine th_ret ?_
  refine hQ _ _ _ ?_
  refine bodyPost_ret (res1 rfl (rdv_tmp (v := .bool false) (by rfl))) rfl ?_
  exact ⟨_, rfl, ⟨fun h9 => absurd h9 (by decide), fun h9 => absurd h9 HR.out⟩, C0.out⟩
 ·have hlt := qh hlt0
  have ho := qh ho0
  have HH := qh h
  clear hlt0 ho0 h
  obtain ⟨a, hsm_a⟩ := src_some SL.out (by have := hlt.out; omega)
  subst hsm_a
  have D7 := qh (show (k : Int) < (L.length : Int) by have := hlt.out; omega)
  have D10 := qh (show decide ((k : Int) < 20) = true from decide_eq_true (by have := hlt.out; omega))
  have Wk := qh (show IntKind.i64.wrap ((k : Int) + 1) = ((k + 1 : Nat) : Int) by rw [wr64 (by have := hlt.out; omega)]; omega)
  have HMX := qh (List.mem_of_getElem? ho.out)
  have HLR_ := qh (show lr x = true from HH.out.2.1)
  have D38 := qh (show decide (x.uid < 1) = false from decide_eq_false (by have := HH.out.2.2; omega))
  have HOK := qh (show SmallL x ∧ lr x = true ∧ 1 ≤ x.uid from HH.out)
  refine s_ (fun K34 hK34 => ?_)
  refine pu_ (v := .int .i64 k) (y_move rfl (by rfl) (by rfl)) ?_
  try simp only [zP,zN,zA,zB,zC]
  refine pu_ (v := .slice (some a) L.length z) (y_move rfl (by rfl) (by rfl)) ?_
  try simp only [zP,zN,zA,zB,zC]
  refine pu_ (v := .int .i64 L.length) (y_run (by rfl) (fun W => by go_simp)) ?_
  try simp only [zP,zN,zA,zB,zC]
  refine pu_ (v := .bool true) (y_run (by rfl) (fun W => by have d := D7.out; go_simp)) ?_
  try simp only [zP,zN,zA,zB,zC]
  refine pu_ (v := .bool true) (y_move rfl (by rfl) (by rfl)) ?_
  try simp only [zP,zN,zA,zB,zC]
  refine pu_ (v := .int .i64 k) (y_move rfl (by rfl) (by rfl)) ?_
  try simp only [zP,zN,zA,zB,zC]
  refine pu_ (v := .bool true) (y_run (by rfl) (fun W => by have d := D10.out; go_simp)) ?_
  try simp only [zP,zN,zA,zB,zC]
  refine pu_ (v := .bool true) (y_pick (t := true) (by rfl) rfl (by rfl) (by rfl)) ?_
  try simp only [zP,zN,zA,zB,zC]
  refine nl_ (hK34 _ _ ?_); clear hK34 K34
  refine wp_cond_true rfl ?_
  refine wp_skip ?_
  refine th_norm (hK6 _ _ ?_); try clear hK6 K6
  refine sq_ (fun K35 hK35 => ?_)
  refine wp_block ?_
  refine s_ (fun K36 hK36 => ?_)
  refine pu_ (v := .slice (some a) L.length z) (y_move rfl (by rfl) (by rfl)) ?_
  try simp only [zP,zN,zA,zB,zC]
  refine pu_ (v := .int .i64 k) (y_move rfl (by rfl) (by rfl)) ?_
  try simp only [zP,zN,zA,zB,zC]
  refine pu_ (v := .pointer (some (a.add (k * 16)))) (y_run (by rfl) (fun W => by have d := D7.out; go_simp)) ?_
  try simp only [zP,zN,zA,zB,zC]
  refine pu_ (v := .pointer (some ((a.add (k * 16)).add 13))) (y_run (by rfl) (fun W => by go_simp)) ?_
  try simp only [zP,zN,zA,zB,zC]
  refine ld_ (v := .agg #[.int .i64 x.cpu, .int .i64 x.mem, .int .i64 x.pids]) rfl (by rfl) (by rfl) (run_loadVar_at (cells_sub (src_at loadC_len SL.out ho.out) 13 (load_use x)) Try.underlying23 rfl (by kernel_rfl)) ?_
  try simp only [zP,zN,zA,zB,zC]
  refine ef_ (fun K37 hK37 => ?_)
  refine e_call Try.func6 (by kernel_rfl) rfl #[.agg #[.int .i64 x.cpu, .int .i64 x.mem, .int .i64 x.pids]] (by rfl) rfl rfl (mp1 rfl) ((ynT (small_ x.cpu x.mem x.pids) HH.out.1)) ?_
  rintro en w39 ⟨rfl, cc38⟩
  refine ⟨_, rfl, ?_⟩
  replace C0 := qh (C0.out.trans' cc38 inw_nil)
  replace SL := qh (SL.out.chx cc38 xnin_nil)
  clear cc38
  refine hK37 _ _ ?_; clear hK37 K37
  try simp only [zP,zN,zA,zB,zC]
  refine pu_ (v := .bool false) (y_run (by rfl) (fun W => by go_simp)) ?_
  try simp only [zP,zN,zA,zB,zC]
  refine pu_ (v := .bool false) (y_move rfl (by rfl) (by rfl)) ?_
  try simp only [zP,zN,zA,zB,zC]
  refine pu_ (v := .slice (some a) L.length z) (y_move rfl (by rfl) (by rfl)) ?_
  try simp only [zP,zN,zA,zB,zC]
  refine pu_ (v := .int .i64 k) (y_move rfl (by rfl) (by rfl)) ?_
  try simp only [zP,zN,zA,zB,zC]
  refine pu_ (v := .pointer (some (a.add (k * 16)))) (y_run (by rfl) (fun W => by have d := D7.out; go_simp)) ?_
  try simp only [zP,zN,zA,zB,zC]
  refine pu_ (v := .pointer (some (a.add (k * 16)))) (y_run (by rfl) (fun W => by go_simp)) ?_
  try simp only [zP,zN,zA,zB,zC]
  refine pu_ (v := .pointer (some ((a.add (k * 16)).add 2))) (y_run (by rfl) (fun W => by go_simp)) ?_
  try simp only [zP,zN,zA,zB,zC]
  refine ld_ (v := .agg x.sp.1.toArray) rfl (by rfl) (by rfl) (run_loadVar_at (cells_sub (src_at loadC_len SL.out ho.out) 2 (load_sp x)) Try.underlying39 rfl (by rw [x.sp.2.1]; kernel_rfl)) ?_
  try simp only [zP,zN,zA,zB,zC]
  refine ef_ (fun K40 hK40 => ?_)
  refine e_call Try.func21 (by kernel_rfl) rfl #[.agg x.sp.1.toArray] (by rfl) rfl rfl (mp1 rfl) ((by have h9 := HLR.out x HMX.out _ C0.out.below0; rw [HLR_.out] at h9; exact h9)) ?_
  rintro en w42 ⟨rfl, cc41⟩
  refine ⟨_, rfl, ?_⟩
  replace C0 := qh (C0.out.trans' cc41 inw_nil)
  replace SL := qh (SL.out.chx cc41 xnin_nil)
  clear cc41
  refine hK40 _ _ ?_; clear hK40 K40
  try simp only [zP,zN,zA,zB,zC]
  refine pu_ (v := .bool false) (y_run (by rfl) (fun W => by go_simp)) ?_
  try simp only [zP,zN,zA,zB,zC]
  refine pu_ (v := .bool false) (y_pick (t := false) (by rfl) rfl (by rfl) (by rfl)) ?_
  try simp only [zP,zN,zA,zB,zC]
  refine pu_ (v := .bool false) (y_move rfl (by rfl) (by rfl)) ?_
  try simp only [zP,zN,zA,zB,zC]
  refine pu_ (v := .slice (some a) L.length z) (y_move rfl (by rfl) (by rfl)) ?_
  try simp only [zP,zN,zA,zB,zC]
  refine pu_ (v := .int .i64 k) (y_move rfl (by rfl) (by rfl)) ?_
  try simp only [zP,zN,zA,zB,zC]
  refine pu_ (v := .pointer (some (a.add (k * 16)))) (y_run (by rfl) (fun W => by have d := D7.out; go_simp)) ?_
  try simp only [zP,zN,zA,zB,zC]
  refine pu_ (v := .pointer (some (a.add (k * 16)))) (y_run (by rfl) (fun W => by go_simp)) ?_
  try simp only [zP,zN,zA,zB,zC]
  refine pu_ (v := .pointer (some (a.add (k * 16)))) (y_run (by rfl) (fun W => by go_simp)) ?_
  try simp only [zP,zN,zA,zB,zC]
  refine ld_ (v := .int .i64 x.uid) rfl (by rfl) (by rfl) (run_load_one (by have h9 := (src_at loadC_len SL.out ho.out) 0 _ (load_0 x); simpa [Addr.add] using h9) Try.underlying3 rfl) ?_
  try simp only [zP,zN,zA,zB,zC]
  refine pu_ (v := .bool false) (y_run (by rfl) (fun W => by have d := D38.out; go_simp)) ?_
  try simp only [zP,zN,zA,zB,zC]
  refine pu_ (v := .bool false) (y_pick (t := false) (by rfl) rfl (by rfl) (by rfl)) ?_
  try simp only [zP,zN,zA,zB,zC]
  refine nl_ (hK36 _ _ ?_); clear hK36 K36
  refine wp_cond_false rfl ?_
  refine wp_skip ?_
  refine ib_norm ?_
  refine th_norm (hK35 _ _ ?_); try clear hK35 K35
  refine r_ ?_
  refine pu_ (v := .int .i64 k) (y_move rfl (by rfl) (by rfl)) ?_
  try simp only [zP,zN,zA,zB,zC]
  refine pu_ (v := .int .i64 (k + 1 : Nat)) (y_run (by rfl) (fun W => by have d := Wk.out; go_simp)) ?_
  try simp only [zP,zN,zA,zB,zC]
  refine pu_ (v := .int .i64 (k + 1 : Nat)) (y_assign rfl (by rfl) (by rfl)) ?_
  try simp only [zP,zN,zA,zB,zC]
  refine nl_ ?_
  exact th_norm (hK5 (kq - 1) _ _ (by have := hlt.out; have := hk.out; omega) ⟨k + 1, rfl, C0, SL, qh ⟨by have := hlt.out; omega, by have := hlt.out; omega, by have := hlt.out; have := hk.out; omega⟩, qh (fun j y hj hy => (Nat.lt_or_ge j k).elim (fun h9 => hr.out j y h9 hy) (fun h9 => by obtain rfl : j = k := (by omega); rw [ho.out] at hy; injection hy with hy; subst hy; exact HOK.out))⟩)
 ·have D7 := qh (show ¬ k < L.length by omega)
  have D42 := qh (show L.length ≤ 20 by have := hk.out; omega)
  have HR := qh (show RightP L lr from ⟨D42.out, fun x hx => by obtain ⟨i, hi⟩ := List.mem_iff_getElem?.1 hx; exact hr.out i x (by have := (List.getElem?_eq_some_iff.1 hi).1; omega) hi⟩)
  clear h
  refine s_ (fun K43 hK43 => ?_)
  refine pu_ (v := .int .i64 k) (y_move rfl (by rfl) (by rfl)) ?_
  try simp only [zP,zN,zA,zB,zC]
  refine pu_ (v := .slice A L.length z) (y_move rfl (by rfl) (by rfl)) ?_
  try simp only [zP,zN,zA,zB,zC]
  refine pu_ (v := .int .i64 L.length) (y_run (by rfl) (fun W => by go_simp)) ?_
  try simp only [zP,zN,zA,zB,zC]
  refine pu_ (v := .bool false) (y_run (by rfl) (fun W => by have d := D7.out; go_simp)) ?_
  try simp only [zP,zN,zA,zB,zC]
  refine pu_ (v := .bool false) (y_move rfl (by rfl) (by rfl)) ?_
  try simp only [zP,zN,zA,zB,zC]
  refine pu_ (y_off (by rfl)) ?_
  try simp only [zP,zN,zA,zB,zC]
  refine pu_ (y_off (by rfl)) ?_
  try simp only [zP,zN,zA,zB,zC]
  refine pu_ (v := .bool false) (y_pick (t := false) (by rfl) rfl (by rfl) (by rfl)) ?_
  try simp only [zP,zN,zA,zB,zC]
  refine nl_ (hK43 _ _ ?_); clear hK43 K43
  refine wp_cond_false rfl ?_
  refine wp_exit ?_
  refine th_exit ?_
  refine th_exit ?_
  refine ib_exit ?_
  refine th_norm (hK2 _ _ ?_); try clear hK2 K2
  refine s_ (fun K44 hK44 => ?_)
  refine pu_ (v := .slice A L.length z) (y_move rfl (by rfl) (by rfl)) ?_
  try simp only [zP,zN,zA,zB,zC]
  refine pu_ (v := .int .i64 L.length) (y_run (by rfl) (fun W => by go_simp)) ?_
  try simp only [zP,zN,zA,zB,zC]
  refine pu_ (v := .bool true) (y_run (by rfl) (fun W => by have d := D42.out; first | (go_simp; done) | (go_simp; omega))) ?_
  try simp only [zP,zN,zA,zB,zC]
  refine pu_ (v := .bool true) (y_assign rfl (by rfl) (by rfl)) ?_
  try simp only [zP,zN,zA,zB,zC]
  refine nl_ (hK44 _ _ ?_); clear hK44 K44
  refine wp_ret ?_
  refine hQ _ _ _ ?_
  refine bodyPost_ret (res1 rfl (rdv_tmp (v := .bool true) (by rfl))) rfl ?_
  exact ⟨_, rfl, ⟨fun _ => HR.out, fun _ => rfl⟩, C0.out⟩
 ·have D7 := qh (show k < L.length by omega)
  have D10 := qh (show decide ((k : Int) < 20) = false from decide_eq_false (by omega))
  have D42 := qh (show 20 < L.length by omega)
  have HR := qh (show ¬ RightP L lr from fun h9 => by have := h9.1; omega)
  clear h
  refine s_ (fun K45 hK45 => ?_)
  refine pu_ (v := .int .i64 k) (y_move rfl (by rfl) (by rfl)) ?_
  try simp only [zP,zN,zA,zB,zC]
  refine pu_ (v := .slice A L.length z) (y_move rfl (by rfl) (by rfl)) ?_
  try simp only [zP,zN,zA,zB,zC]
  refine pu_ (v := .int .i64 L.length) (y_run (by rfl) (fun W => by go_simp)) ?_
  try simp only [zP,zN,zA,zB,zC]
  refine pu_ (v := .bool true) (y_run (by rfl) (fun W => by have d := D7.out; go_simp)) ?_
  try simp only [zP,zN,zA,zB,zC]
  refine pu_ (v := .bool true) (y_move rfl (by rfl) (by rfl)) ?_
  try simp only [zP,zN,zA,zB,zC]
  refine pu_ (v := .int .i64 k) (y_move rfl (by rfl) (by rfl)) ?_
  try simp only [zP,zN,zA,zB,zC]
  refine pu_ (v := .bool false) (y_run (by rfl) (fun W => by have d := D10.out; go_simp)) ?_
  try simp only [zP,zN,zA,zB,zC]
  refine pu_ (v := .bool false) (y_pick (t := true) (by rfl) rfl (by rfl) (by rfl)) ?_
  try simp only [zP,zN,zA,zB,zC]
  refine nl_ (hK45 _ _ ?_); clear hK45 K45
  refine wp_cond_false rfl ?_
  refine wp_exit ?_
  refine th_exit ?_
  refine th_exit ?_
  refine ib_exit ?_
  refine th_norm (hK2 _ _ ?_); try clear hK2 K2
  refine s_ (fun K46 hK46 => ?_)
  refine pu_ (v := .slice A L.length z) (y_move rfl (by rfl) (by rfl)) ?_
  try simp only [zP,zN,zA,zB,zC]
  refine pu_ (v := .int .i64 L.length) (y_run (by rfl) (fun W => by go_simp)) ?_
  try simp only [zP,zN,zA,zB,zC]
  refine pu_ (v := .bool false) (y_run (by rfl) (fun W => by have d := D42.out; first | (go_simp; done) | (go_simp; omega))) ?_
  try simp only [zP,zN,zA,zB,zC]
  refine pu_ (v := .bool false) (y_assign rfl (by rfl) (by rfl)) ?_
  try simp only [zP,zN,zA,zB,zC]
  refine nl_ (hK46 _ _ ?_); clear hK46 K46
  refine wp_ret ?_
  refine hQ _ _ _ ?_
  refine bodyPost_ret (res1 rfl (rdv_tmp (v := .bool false) (by rfl))) rfl ?_
  exact ⟨_, rfl, ⟨fun h9 => absurd h9 (by decide), fun h9 => absurd h9 HR.out⟩, C0.out⟩
theorem to_ {A : Option Addr} {z : Nat} {L : List HL} (HN : Hid (L.length ≤ 1000)) (SL : Hid (SrcIs w (.slice A L.length z) (L.length) ((L).flatMap loadC) 16)) :
  Calls Try.prog 12 #[.slice A L.length z] w fun en w' => ∃ v', en = .returned v' ∧ OwnS w' w.heap.size 56 16 v' L.length (L.flatMap loadC) ∧ Ch [] w w' := by
 have C0 := qh (Ch.refl [] w)
 obtain ⟨i56, I56⟩ := Info.of info56b
 go_enter Try.func12, Try.ntmps12
 refine q_ (fun Q hQ hP => ?_)
 refine s_ (fun K1 hK1 => ?_)
 refine pu_ (v := .slice none 0 0) (y_assign rfl (by rfl) (by rfl)) ?_
 try simp only [zP,zN,zA,zB,zC]
 refine nl_ (hK1 _ _ ?_); clear hK1 K1
 refine s_ (fun K2 hK2 => ?_)
 refine pu_ (v := .slice none 0 0) (y_assign rfl (by rfl) (by rfl)) ?_
 try simp only [zP,zN,zA,zB,zC]
 refine nl_ (hK2 _ _ ?_); clear hK2 K2
 refine sq_ (fun K3 hK3 => ?_)
 refine s_ (fun K4 hK4 => ?_)
 refine pu_ (v := .int .i64 0) (y_assign rfl (by rfl) (by rfl)) ?_
 try simp only [zP,zN,zA,zB,zC]
 refine nl_ (hK4 _ _ ?_); clear hK4 K4
 refine wp_block ?_
 have OT0 := qh (show OwnS w w.heap.size 56 16 (.slice none 0 0) 0 ((L.take 0).flatMap loadC) from OwnS.nil _ _ _ _ _)
 refine loopk_ (fun (kq : Nat) (a' : Act) (w' : World) => ∃ (k : Nat), ∃ (vt : Value), a' = ⟨#[.slice A L.length z, uo a' 1, .slice none 0 0, vt, .int .i64 k, uo a' 5, uo a' 6, uo a' 7, uo a' 8, uo a' 9, uo a' 10, uo a' 11, uo a' 12, uo a' 13, uo a' 14, uo a' 15, uo a' 16, uo a' 17, uo a' 18, uo a' 19, uo a' 20, uo a' 21, uo a' 22, uo a' 23, uo a' 24, uo a' 25], []⟩ ∧ Hid (Ch [] w w') ∧ Hid (SrcIs w' (.slice A L.length z) (L.length) ((L).flatMap loadC) 16) ∧ Hid (OwnS w' w.heap.size 56 16 (vt) (k) ((L.take k).flatMap loadC)) ∧ Hid (k ≤ L.length ∧ kq + k = L.length) ∧ Hid (∀ k, k ∈ xb (.slice A L.length z) → k ∉ rl vt)) (L.length) (⟨0, _, rfl, C0, SL, OT0, qh ⟨by omega, by omega⟩, qh (fun k _ hm => absurd hm (by simp [rl]))⟩) ?_
 rintro kq a_ w5 ⟨k, vt, ha_, C0, SL, OT, hk, hxr⟩ K6 hK6
 obtain ⟨us, hus_⟩ : ∃ us, us = uo a_ := ⟨_, rfl⟩; try rw [← hus_] at ha_
 subst ha_; clear hus_
 refine sq_ (fun K7 hK7 => ?_)
 rcases at_ways' hk.out.1 with ⟨x, ho0, hlt0⟩ | h
 ·have hlt := qh hlt0
  have ho := qh ho0
  clear hlt0 ho0
  obtain ⟨a, hsm_a⟩ := src_some SL.out (by have := hlt.out; omega)
  subst hsm_a
  have D8 := qh (show (k : Int) < (L.length : Int) by have := hlt.out; omega)
  have Wk := qh (show IntKind.i64.wrap ((k : Int) + 1) = ((k + 1 : Nat) : Int) by rw [wr64 (by have := hlt.out; have h7 := HN.out; omega)]; omega)
  obtain ⟨u, rv, s0, s1, s2, s3, s4, s5, s6, ph, rs, mk, gz, c, m, p, hlc, -, -, -, -, -, -, -, hone⟩ := load_lits x
  have HLC := qh hlc; have HO1 := qh hone
  clear hlc hone
  refine s_ (fun K8 hK8 => ?_)
  refine pu_ (v := .int .i64 k) (y_move rfl (by rfl) (by rfl)) ?_
  try simp only [zP,zN,zA,zB,zC]
  refine pu_ (v := .slice (some a) L.length z) (y_move rfl (by rfl) (by rfl)) ?_
  try simp only [zP,zN,zA,zB,zC]
  refine pu_ (v := .int .i64 L.length) (y_run (by rfl) (fun W => by go_simp)) ?_
  try simp only [zP,zN,zA,zB,zC]
  refine pu_ (v := .bool true) (y_run (by rfl) (fun W => by have d := D8.out; go_simp)) ?_
  try simp only [zP,zN,zA,zB,zC]
  refine nl_ (hK8 _ _ ?_); clear hK8 K8
  refine wp_cond_true rfl ?_
  refine wp_skip ?_
  refine th_norm (hK7 _ _ ?_); try clear hK7 K7
  refine sq_ (fun K9 hK9 => ?_)
  refine wp_block ?_
  refine startk_ (S := fun W => SrcIs W (.slice (some a) L.length z) (L.length) ((L).flatMap loadC) 16 ∧ True) (ds := []) (msk 15 0) (by kernel_rfl) rfl (by kernel_rfl) (fun W c => ⟨SL.out.chx c xnin_nil, trivial⟩) (fun w10 C11 hS12 => ?_)
  replace C0 := qh (C0.out.trans' C11 inw_nil)
  replace SL := qh (SL.out.chx C11 xnin_nil)
  replace OT := qh (OT.out.ch C11 rnin_nil)
  clear C11
  refine pureh_ (i := 0) (N := some 11) (v := vt) (msk 15 1) rfl rfl (by kernel_rfl) hP (y_move rfl (by rfl) (by rfl)) rfl ?_
  try simp only [zP,zN,zA,zB,zC]
  refine pureh_ (i := 1) (N := some 12) (v := .slice (some a) L.length z) (msk 15 3) rfl rfl (by kernel_rfl) hP (y_move rfl (by rfl) (by rfl)) rfl ?_
  try simp only [zP,zN,zA,zB,zC]
  refine pureh_ (i := 2) (N := some 13) (v := .int .i64 k) (msk 15 7) rfl rfl (by kernel_rfl) hP (y_move rfl (by rfl) (by rfl)) rfl ?_
  try simp only [zP,zN,zA,zB,zC]
  refine pureh_ (i := 3) (N := some 14) (v := .pointer (some (a.add (k * 16)))) (msk 15 15) rfl rfl (by kernel_rfl) hP (y_run (by rfl) (fun W => by have d := D8.out; go_simp)) rfl ?_
  try simp only [zP,zN,zA,zB,zC]
  refine pureh_ (i := 4) (N := some 15) (v := .pointer (some (a.add (k * 16)))) (msk 15 31) rfl rfl (by kernel_rfl) hP (y_run (by rfl) (fun W => by go_simp)) rfl ?_
  try simp only [zP,zN,zA,zB,zC]
  refine takeh_ (i := 5) (N := some 16) (v := .agg #[.int .i64 u, .int .u64 rv, s0, s1, s2, s3, s4, s5, s6, .int .i64 ph, rs, .int .i64 mk, .int .i64 gz]) (msk 15 63) rfl rfl (by kernel_rfl) hP (y_load (p := (a.add (k * 16))) rfl (by rfl) (by rfl) (fun W hS => run_loadVar_at (cs := [.int .i64 u, .int .u64 rv, s0, s1, s2, s3, s4, s5, s6, .int .i64 ph, rs, .int .i64 mk, .int .i64 gz]) (by have h9 := cells_sub (ys := [.int .i64 u, .int .u64 rv, s0, s1, s2, s3, s4, s5, s6, .int .i64 ph, rs, .int .i64 mk, .int .i64 gz]) (src_at loadC_len hS.1 ho.out) 0 (by rw [HLC.out]; rfl); simpa [Addr.add] using h9) Try.underlying53 rfl (by kernel_rfl))) hS12 rfl ?_
  try simp only [zP,zN,zA,zB,zC]
  refine pureh_ (i := 6) (N := some 17) (v := .slice (some a) L.length z) (msk 15 127) rfl rfl (by kernel_rfl) hP (y_move rfl (by rfl) (by rfl)) rfl ?_
  try simp only [zP,zN,zA,zB,zC]
  refine pureh_ (i := 7) (N := some 18) (v := .int .i64 k) (msk 15 255) rfl rfl (by kernel_rfl) hP (y_move rfl (by rfl) (by rfl)) rfl ?_
  try simp only [zP,zN,zA,zB,zC]
  refine pureh_ (i := 8) (N := some 19) (v := .pointer (some (a.add (k * 16)))) (msk 15 511) rfl rfl (by kernel_rfl) hP (y_run (by rfl) (fun W => by have d := D8.out; go_simp)) rfl ?_
  try simp only [zP,zN,zA,zB,zC]
  refine pureh_ (i := 9) (N := some 20) (v := .pointer (some ((a.add (k * 16)).add 13))) (msk 15 1023) rfl rfl (by kernel_rfl) hP (y_run (by rfl) (fun W => by go_simp)) rfl ?_
  try simp only [zP,zN,zA,zB,zC]
  refine takeh_ (i := 10) (N := some 21) (v := .agg #[.int .i64 c, .int .i64 m, .int .i64 p]) (msk 15 2047) rfl rfl (by kernel_rfl) hP (y_load (p := ((a.add (k * 16)).add 13)) rfl (by rfl) (by rfl) (fun W hS => run_loadVar_at (cs := [.int .i64 c, .int .i64 m, .int .i64 p]) (cells_sub (src_at loadC_len hS.1 ho.out) 13 (by rw [HLC.out]; rfl)) Try.underlying23 rfl (by kernel_rfl))) hS12 rfl ?_
  try simp only [zP,zN,zA,zB,zC]
  refine pureh_ (i := 11) (N := some 22) (v := .agg #[.int .i64 u, .int .u64 rv, s0, s1, s2, s3, s4, s5, s6, .int .i64 ph, rs, .int .i64 mk, .int .i64 gz, .int .i64 c, .int .i64 m, .int .i64 p]) (msk 15 4095) rfl rfl (by kernel_rfl) hP (y_build (vs := #[(0, .agg #[.int .i64 u, .int .u64 rv, s0, s1, s2, s3, s4, s5, s6, .int .i64 ph, rs, .int .i64 mk, .int .i64 gz]), (1, .agg #[.int .i64 c, .int .i64 m, .int .i64 p])]) (by rfl) rfl (by first | rfl | (simp only [List.map_toArray, List.map_cons, List.map_nil]; first | done | rfl)) (by kernel_rfl)) rfl ?_
  try simp only [zP,zN,zA,zB,zC]
  refine one_ (i := 12) (N := some 23) (msk 15 8191) rfl rfl (by kernel_rfl) (by simp) (fun K13 hK13 => ?_)
  refine e_buildS (parts := #[(0, .agg #[.int .i64 u, .int .u64 rv, s0, s1, s2, s3, s4, s5, s6, .int .i64 ph, rs, .int .i64 mk, .int .i64 gz, .int .i64 c, .int .i64 m, .int .i64 p])]) (cells := #[.int .i64 u, .int .u64 rv, s0, s1, s2, s3, s4, s5, s6, .int .i64 ph, rs, .int .i64 mk, .int .i64 gz, .int .i64 c, .int .i64 m, .int .i64 p]) (by rfl) rfl rfl (by first | rfl | (simp only [List.map_toArray, List.map_cons, List.map_nil]; first | done | rfl)) Try.underlying30 I56.hi I56.hz I56.hs (by decide) (by decide) (by kernel_rfl) ?_
  rintro g14 w15 HG16 B17 C18
  have nw19 := qh (show w.heap.size ≤ g14 by have := C0.out.size; have := HG16.out; omega)
  have nx20 := qh (SL.out.ne_new (by decide) HG16)
  have nr21 := qh (OT.out.ne_new HG16)
  replace C0 := qh (C0.out.trans' C18 inw_nil)
  replace SL := qh (SL.out.chx C18 xnin_nil)
  replace OT := qh (OT.out.ch C18 rnin_nil)
  have Fg14 := qh (show Blk w15 g14 (#[.int .i64 u, .int .u64 rv, s0, s1, s2, s3, s4, s5, s6, .int .i64 ph, rs, .int .i64 mk, .int .i64 gz, .int .i64 c, .int .i64 m, .int .i64 p]) 56 from B17); clear B17 C18
  refine hK13.out _ _ ⟨SL.out, trivial⟩ (fun hS22 => ?_); clear hK13 K13
  try simp only [zP,zN,zA,zB,zC]
  refine one_ (i := 13) (N := some 24) (msk 15 16383) rfl rfl (by kernel_rfl) (by simp) (fun K23 hK23 => ?_)
  refine e_append (by rfl) rfl rfl (w.heap.size) 56 _ _ 16 200 Try.underlying30 I56.hi I56.hz I56.hs I56.hb rfl (by decide) (vt) (k) ((L.take k).flatMap loadC) (by rfl) OT.out (.slice (some ⟨g14, 0, none⟩) 1 1) 1 ([.int .i64 u, .int .u64 rv, s0, s1, s2, s3, s4, s5, s6, .int .i64 ph, rs, .int .i64 mk, .int .i64 gz, .int .i64 c, .int .i64 m, .int .i64 p]) (by rfl) ⟨rfl, .inr ⟨_, _, rfl, CellsAt.blk Fg14.out 0⟩⟩ (ones_cons rfl (ones_cons rfl (ones_cons HO1.out.1.1 (ones_cons HO1.out.1.2.1 (ones_cons HO1.out.1.2.2.1 (ones_cons HO1.out.1.2.2.2 (ones_cons HO1.out.2.1 (ones_cons HO1.out.2.2.1 (ones_cons HO1.out.2.2.2.1 (ones_cons rfl (ones_cons HO1.out.2.2.2.2 (ones_cons rfl (ones_cons rfl (ones_cons rfl (ones_cons rfl (ones_cons rfl ones_nil)))))))))))))))) (by unfold maxLen; have := hlt.out; have := HN.out; omega) (by have := hlt.out; have := HN.out; omega) C0.out.size ?_
  rintro v24 w25 O26 C27 R28 -
  have xr30 := qh (show ∀ k, k ∈ xb (.slice (some a) L.length z) → k ∉ rl v24 from fun k hk hm => (R28 k hm).elim (fun h => hxr.out k hk h) (fun h => by have := SL.out.lt (by decide) k hk; omega))
  have nr31 := qh (show g14 ∉ rl v24 from fun hk => (R28 _ hk).elim nr21.out (fun h => by have := Fg14.out.lt; omega))
  replace C0 := qh (C0.out.trans' C27 (fun x hx => .inr (OT.out.lt x hx).1))
  replace SL := qh (SL.out.chx C27 hxr.out)
  replace Fg14 := qh (C27.blk Fg14.out nr21.out)
  clear OT
  have OT := qh (show OwnS w25 w.heap.size 56 16 (v24) (k + 1) ((L.take k).flatMap loadC ++ [.int .i64 u, .int .u64 rv, s0, s1, s2, s3, s4, s5, s6, .int .i64 ph, rs, .int .i64 mk, .int .i64 gz, .int .i64 c, .int .i64 m, .int .i64 p]) from O26); clear O26 C27
  refine hK23.out _ _ ⟨SL.out, trivial⟩ (fun hS32 => ?_); clear hK23 K23
  try simp only [zP,zN,zA,zB,zC]
  refine pureh_ (i := 14) (N := some 3) (v := v24) (msk 15 32767) rfl rfl (by kernel_rfl) hP (y_assign rfl (by rfl) (by rfl)) rfl ?_
  try simp only [zP,zN,zA,zB,zC]
  refine done_ (by kernel_rfl) ?_
  refine ib_norm ?_
  refine th_norm (hK9 _ _ ?_); try clear hK9 K9
  refine r_ ?_
  refine pu_ (v := .int .i64 k) (y_move rfl (by rfl) (by rfl)) ?_
  try simp only [zP,zN,zA,zB,zC]
  refine pu_ (v := .int .i64 (k + 1 : Nat)) (y_run (by rfl) (fun W => by have d := Wk.out; go_simp)) ?_
  try simp only [zP,zN,zA,zB,zC]
  refine pu_ (v := .int .i64 (k + 1 : Nat)) (y_assign rfl (by rfl) (by rfl)) ?_
  try simp only [zP,zN,zA,zB,zC]
  refine nl_ ?_
  exact th_norm (hK6 (kq - 1) _ _ (by have := hlt.out; have := hk.out; omega) ⟨k + 1, _, rfl, C0, SL, qh (by have h9 := OT.out; rw [take_snoc ho.out, List.flatMap_append, List.flatMap_cons, List.flatMap_nil, List.append_nil, HLC.out]; exact h9), qh ⟨by have := hlt.out; omega, by have := hlt.out; have := hk.out; omega⟩, qh (xr30.out)⟩)
 ·have D8 := qh (show ¬ k < L.length by have := hk.out; omega)
  have HE := qh h
  clear h
  refine s_ (fun K33 hK33 => ?_)
  refine pu_ (v := .int .i64 k) (y_move rfl (by rfl) (by rfl)) ?_
  try simp only [zP,zN,zA,zB,zC]
  refine pu_ (v := .slice A L.length z) (y_move rfl (by rfl) (by rfl)) ?_
  try simp only [zP,zN,zA,zB,zC]
  refine pu_ (v := .int .i64 L.length) (y_run (by rfl) (fun W => by go_simp)) ?_
  try simp only [zP,zN,zA,zB,zC]
  refine pu_ (v := .bool false) (y_run (by rfl) (fun W => by have d := D8.out; go_simp)) ?_
  try simp only [zP,zN,zA,zB,zC]
  refine nl_ (hK33 _ _ ?_); clear hK33 K33
  refine wp_cond_false rfl ?_
  refine wp_exit ?_
  refine th_exit ?_
  refine th_exit ?_
  refine ib_exit ?_
  refine th_norm (hK3 _ _ ?_); try clear hK3 K3
  refine s_ (fun K34 hK34 => ?_)
  refine pu_ (v := vt) (y_move rfl (by rfl) (by rfl)) ?_
  try simp only [zP,zN,zA,zB,zC]
  refine pu_ (v := vt) (y_assign rfl (by rfl) (by rfl)) ?_
  try simp only [zP,zN,zA,zB,zC]
  refine nl_ (hK34 _ _ ?_); clear hK34 K34
  refine wp_ret ?_
  refine hQ _ _ _ ?_
  refine bodyPost_ret (res1 rfl (rdv_tmp (v := vt) (by rfl))) rfl ?_
  exact ⟨_, rfl, by have h9 := OT.out; rw [HE.out, List.take_length] at h9; exact h9, C0.out⟩
end
end Go.Proofs.Ytmoelehhofmhcaa.V
