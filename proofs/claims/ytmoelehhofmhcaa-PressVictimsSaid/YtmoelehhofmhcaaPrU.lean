/- The walks of what compares specs with themselves. -/
import Derived.Test.YtmoelehhofmhcaaPrT
namespace Go.Proofs.Ytmoelehhofmhcaa.V
open Go Go.RowKit Go.Proofs.Ytmoelehhofmhcaa.K Go.Proofs.YtmoelehhofmhcaaW.PrintLast
set_option linter.unusedVariables false
set_option linter.unusedSimpArgs false
set_option maxRecDepth 100000
set_option maxHeartbeats 1600000
section
variable {w : World}
theorem src_int {a : Addr} {n c : Nat} {M : List Int} {k : Nat} {z : Int} (h : SrcIs w (.slice (some a) n c) n (M.map (Value.int .i64)) 1) (hz : M[k]? = some z) : w.cell? (a.add k) = some (.int .i64 z) := by
 rcases h.2 with ⟨_, he⟩ | ⟨a', c', he, hc⟩
 ·injection he with he; cases he
 ·injection he with e1 _ _
  injection e1 with e1
  subst e1
  exact hc k _ (by rw [List.getElem?_map, hz]; rfl)
theorem same_ {A B : Option Addr} {c d : Nat} {M : List Int} (HM : Hid (M.length ≤ 9223372036854775807)) (SM : Hid (SrcIs w (.slice A M.length c) (M.length) (M.map (Value.int .i64)) 1)) (SN : Hid (SrcIs w (.slice B M.length d) (M.length) (M.map (Value.int .i64)) 1)) :
  Calls Try.prog 29 #[.slice A M.length c, .slice B M.length d] w fun en w' => en = .returned (.bool true) ∧ Ch [] w w' := by
 have C0 := qh (Ch.refl [] w)
 go_enter Try.func29, Try.ntmps29
 refine q_ (fun Q hQ hP => ?_)
 refine s_ (fun K1 hK1 => ?_)
 refine pu_ (v := .bool false) (y_assign rfl (by rfl) (by rfl)) ?_
 try simp only [zP,zN,zA,zB,zC]
 refine nl_ (hK1 _ _ ?_); clear hK1 K1
 refine s_ (fun K2 hK2 => ?_)
 refine pu_ (v := .slice A M.length c) (y_move rfl (by rfl) (by rfl)) ?_
 try simp only [zP,zN,zA,zB,zC]
 refine pu_ (v := .int .i64 M.length) (y_run (by rfl) (fun W => by go_simp)) ?_
 try simp only [zP,zN,zA,zB,zC]
 refine pu_ (v := .slice B M.length d) (y_move rfl (by rfl) (by rfl)) ?_
 try simp only [zP,zN,zA,zB,zC]
 refine pu_ (v := .int .i64 M.length) (y_run (by rfl) (fun W => by go_simp)) ?_
 try simp only [zP,zN,zA,zB,zC]
 refine pu_ (v := .bool true) (y_run (by rfl) (fun W => by go_simp)) ?_
 try simp only [zP,zN,zA,zB,zC]
 refine pu_ (v := .bool true) (y_assign rfl (by rfl) (by rfl)) ?_
 try simp only [zP,zN,zA,zB,zC]
 refine nl_ (hK2 _ _ ?_); clear hK2 K2
 refine sq_ (fun K3 hK3 => ?_)
 refine s_ (fun K4 hK4 => ?_)
 refine pu_ (v := .int .i64 0) (y_assign rfl (by rfl) (by rfl)) ?_
 try simp only [zP,zN,zA,zB,zC]
 refine nl_ (hK4 _ _ ?_); clear hK4 K4
 refine wp_block ?_
 refine loopk_ (fun (kq : Nat) (a' : Act) (w' : World) => ∃ (k : Nat), a' = ⟨#[.slice A M.length c, .slice B M.length d, uo a' 2, uo a' 3, .bool false, .bool true, .int .i64 k, uo a' 7, uo a' 8, uo a' 9, uo a' 10, uo a' 11, uo a' 12, uo a' 13, uo a' 14, uo a' 15, uo a' 16, uo a' 17, uo a' 18, uo a' 19, uo a' 20, uo a' 21, uo a' 22, uo a' 23, uo a' 24, uo a' 25, uo a' 26, uo a' 27, uo a' 28, uo a' 29, uo a' 30, uo a' 31, uo a' 32, uo a' 33, uo a' 34, uo a' 35, uo a' 36], []⟩ ∧ Hid (Ch [] w w') ∧ Hid (SrcIs w' (.slice A M.length c) (M.length) (M.map (Value.int .i64)) 1) ∧ Hid (SrcIs w' (.slice B M.length d) (M.length) (M.map (Value.int .i64)) 1) ∧ Hid (k ≤ M.length ∧ kq + k = M.length)) (M.length) (⟨0, rfl, C0, SM, SN, qh ⟨by omega, by omega⟩⟩) ?_
 rintro kq a_ w5 ⟨k, ha_, C0, SM, SN, hk⟩ K6 hK6
 obtain ⟨us, hus_⟩ : ∃ us, us = uo a_ := ⟨_, rfl⟩; try rw [← hus_] at ha_
 subst ha_; clear hus_
 refine sq_ (fun K7 hK7 => ?_)
 rcases at_ways' hk.out.1 with ⟨z, ho0, hlt0⟩ | h
 ·have hlt := qh hlt0
  have ho := qh ho0
  clear hlt0 ho0
  obtain ⟨a, hsm_a⟩ := src_some SM.out (by have := hlt.out; omega)
  subst hsm_a
  obtain ⟨b, hsm_b⟩ := src_some SN.out (by have := hlt.out; omega)
  subst hsm_b
  have D17 := qh (show (k : Int) < (M.length : Int) by have := hlt.out; omega)
  have Wk := qh (show IntKind.i64.wrap ((k : Int) + 1) = ((k + 1 : Nat) : Int) by rw [wr64 (by have := hlt.out; have := HM.out; omega)]; omega)
  refine s_ (fun K8 hK8 => ?_)
  refine pu_ (v := .bool true) (y_move rfl (by rfl) (by rfl)) ?_
  try simp only [zP,zN,zA,zB,zC]
  refine pu_ (v := .bool true) (y_move rfl (by rfl) (by rfl)) ?_
  try simp only [zP,zN,zA,zB,zC]
  refine pu_ (v := .int .i64 k) (y_move rfl (by rfl) (by rfl)) ?_
  try simp only [zP,zN,zA,zB,zC]
  refine pu_ (v := .slice (some a) M.length c) (y_move rfl (by rfl) (by rfl)) ?_
  try simp only [zP,zN,zA,zB,zC]
  refine pu_ (v := .int .i64 M.length) (y_run (by rfl) (fun W => by go_simp)) ?_
  try simp only [zP,zN,zA,zB,zC]
  refine pu_ (v := .bool true) (y_run (by rfl) (fun W => by have d := D17.out; go_simp)) ?_
  try simp only [zP,zN,zA,zB,zC]
  refine pu_ (v := .bool true) (y_pick (t := true) (by rfl) rfl (by rfl) (by rfl)) ?_
  try simp only [zP,zN,zA,zB,zC]
  refine pu_ (v := .bool true) (y_move rfl (by rfl) (by rfl)) ?_
  try simp only [zP,zN,zA,zB,zC]
  refine pu_ (v := .int .i64 k) (y_move rfl (by rfl) (by rfl)) ?_
  try simp only [zP,zN,zA,zB,zC]
  refine pu_ (v := .slice (some b) M.length d) (y_move rfl (by rfl) (by rfl)) ?_
  try simp only [zP,zN,zA,zB,zC]
  refine pu_ (v := .int .i64 M.length) (y_run (by rfl) (fun W => by go_simp)) ?_
  try simp only [zP,zN,zA,zB,zC]
  refine pu_ (v := .bool true) (y_run (by rfl) (fun W => by have d := D17.out; go_simp)) ?_
  try simp only [zP,zN,zA,zB,zC]
  refine pu_ (v := .bool true) (y_pick (t := true) (by rfl) rfl (by rfl) (by rfl)) ?_
  try simp only [zP,zN,zA,zB,zC]
  refine nl_ (hK8 _ _ ?_); clear hK8 K8
  refine wp_cond_true rfl ?_
  refine wp_skip ?_
  refine th_norm (hK7 _ _ ?_); try clear hK7 K7
  refine sq_ (fun K9 hK9 => ?_)
  refine wp_block ?_
  refine startk_ (S := fun W => SrcIs W (.slice (some a) M.length c) (M.length) (M.map (Value.int .i64)) 1 ∧ SrcIs W (.slice (some b) M.length d) (M.length) (M.map (Value.int .i64)) 1 ∧ True) (ds := []) (msk 10 0) (by kernel_rfl) rfl (by kernel_rfl) (fun W c => ⟨SM.out.chx c xnin_nil, SN.out.chx c xnin_nil, trivial⟩) (fun w10 C11 hS12 => ?_)
  replace C0 := qh (C0.out.trans' C11 inw_nil)
  replace SM := qh (SM.out.chx C11 xnin_nil)
  replace SN := qh (SN.out.chx C11 xnin_nil)
  clear C11
  refine pureh_ (i := 0) (N := some 27) (v := .slice (some a) M.length c) (msk 10 1) rfl rfl (by kernel_rfl) hP (y_move rfl (by rfl) (by rfl)) rfl ?_
  try simp only [zP,zN,zA,zB,zC]
  refine pureh_ (i := 1) (N := some 28) (v := .int .i64 k) (msk 10 3) rfl rfl (by kernel_rfl) hP (y_move rfl (by rfl) (by rfl)) rfl ?_
  try simp only [zP,zN,zA,zB,zC]
  refine pureh_ (i := 2) (N := some 29) (v := .pointer (some (a.add (k)))) (msk 10 7) rfl rfl (by kernel_rfl) hP (y_run (by rfl) (fun W => by have d := D17.out; go_simp)) rfl ?_
  try simp only [zP,zN,zA,zB,zC]
  refine takeh_ (i := 3) (N := some 30) (v := .int .i64 z) (msk 10 15) rfl rfl (by kernel_rfl) hP (y_load (p := (a.add (k))) rfl (by rfl) (by rfl) (fun W hS => run_load_one (src_int hS.1 ho.out) Try.underlying3 rfl)) hS12 rfl ?_
  try simp only [zP,zN,zA,zB,zC]
  refine pureh_ (i := 4) (N := some 31) (v := .slice (some b) M.length d) (msk 10 31) rfl rfl (by kernel_rfl) hP (y_move rfl (by rfl) (by rfl)) rfl ?_
  try simp only [zP,zN,zA,zB,zC]
  refine pureh_ (i := 5) (N := some 32) (v := .int .i64 k) (msk 10 63) rfl rfl (by kernel_rfl) hP (y_move rfl (by rfl) (by rfl)) rfl ?_
  try simp only [zP,zN,zA,zB,zC]
  refine pureh_ (i := 6) (N := some 33) (v := .pointer (some (b.add (k)))) (msk 10 127) rfl rfl (by kernel_rfl) hP (y_run (by rfl) (fun W => by have d := D17.out; go_simp)) rfl ?_
  try simp only [zP,zN,zA,zB,zC]
  refine takeh_ (i := 7) (N := some 34) (v := .int .i64 z) (msk 10 255) rfl rfl (by kernel_rfl) hP (y_load (p := (b.add (k))) rfl (by rfl) (by rfl) (fun W hS => run_load_one (src_int hS.2.1 ho.out) Try.underlying3 rfl)) hS12 rfl ?_
  try simp only [zP,zN,zA,zB,zC]
  refine pureh_ (i := 8) (N := some 35) (v := .bool true) (msk 10 511) rfl rfl (by kernel_rfl) hP (y_run (by rfl) (fun W => by go_simp)) rfl ?_
  try simp only [zP,zN,zA,zB,zC]
  refine pureh_ (i := 9) (N := some 5) (v := .bool true) (msk 10 1023) rfl rfl (by kernel_rfl) hP (y_assign rfl (by rfl) (by rfl)) rfl ?_
  try simp only [zP,zN,zA,zB,zC]
  refine done_ (by kernel_rfl) ?_
  refine ib_norm ?_
  refine th_norm (hK9 _ _ ?_); try clear hK9 K9
  refine r_ ?_
  refine pu_ (v := .int .i64 k) (y_move rfl (by rfl) (by rfl)) ?_
  try simp only [zP,zN,zA,zB,zC]
  refine pu_ (v := .int .i64 (k + 1 : Nat)) (y_run (by rfl) (fun W => by have d := Wk.out; go_simp)) ?_
  try simp only [zP,zN,zA,zB,zC]
  refine pu_ (v := .int .i64 (k + 1 : Nat)) (y_assign rfl (by rfl) (by rfl)) ?_
  try simp only [zP,zN,zA,zB,zC]
  refine nl_ ?_
  exact th_norm (hK6 (kq - 1) _ _ (by have := hlt.out; have := hk.out; omega) ⟨k + 1, rfl, C0, SM, SN, qh ⟨by have := hlt.out; omega, by have := hlt.out; have := hk.out; omega⟩⟩)
 ·have D17 := qh (show ¬ k < M.length by have := hk.out; omega)
  clear h
  refine s_ (fun K13 hK13 => ?_)
  refine pu_ (v := .bool true) (y_move rfl (by rfl) (by rfl)) ?_
  try simp only [zP,zN,zA,zB,zC]
  refine pu_ (v := .bool true) (y_move rfl (by rfl) (by rfl)) ?_
  try simp only [zP,zN,zA,zB,zC]
  refine pu_ (v := .int .i64 k) (y_move rfl (by rfl) (by rfl)) ?_
  try simp only [zP,zN,zA,zB,zC]
  refine pu_ (v := .slice A M.length c) (y_move rfl (by rfl) (by rfl)) ?_
  try simp only [zP,zN,zA,zB,zC]
  refine pu_ (v := .int .i64 M.length) (y_run (by rfl) (fun W => by go_simp)) ?_
  try simp only [zP,zN,zA,zB,zC]
  refine pu_ (v := .bool false) (y_run (by rfl) (fun W => by have d := D17.out; go_simp)) ?_
  try simp only [zP,zN,zA,zB,zC]
  refine pu_ (v := .bool false) (y_pick (t := true) (by rfl) rfl (by rfl) (by rfl)) ?_
  try simp only [zP,zN,zA,zB,zC]
  refine pu_ (v := .bool false) (y_move rfl (by rfl) (by rfl)) ?_
  try simp only [zP,zN,zA,zB,zC]
  refine pu_ (y_off (by rfl)) ?_
  try simp only [zP,zN,zA,zB,zC]
  refine pu_ (y_off (by rfl)) ?_
  try simp only [zP,zN,zA,zB,zC]
  refine pu_ (y_off (by rfl)) ?_
  try simp only [zP,zN,zA,zB,zC]
  refine pu_ (y_off (by rfl)) ?_
  try simp only [zP,zN,zA,zB,zC]
  refine pu_ (v := .bool false) (y_pick (t := false) (by rfl) rfl (by rfl) (by rfl)) ?_
  try simp only [zP,zN,zA,zB,zC]
  refine nl_ (hK13 _ _ ?_); clear hK13 K13
  refine wp_cond_false rfl ?_
  refine wp_exit ?_
  refine th_exit ?_
  refine th_exit ?_
  refine ib_exit ?_
  refine th_norm (hK3 _ _ ?_); try clear hK3 K3
  refine s_ (fun K14 hK14 => ?_)
  refine pu_ (v := .bool true) (y_move rfl (by rfl) (by rfl)) ?_
  try simp only [zP,zN,zA,zB,zC]
  refine pu_ (v := .bool true) (y_assign rfl (by rfl) (by rfl)) ?_
  try simp only [zP,zN,zA,zB,zC]
  refine nl_ (hK14 _ _ ?_); clear hK14 K14
  refine wp_ret ?_
  refine hQ _ _ _ ?_
  refine bodyPost_ret (res1 rfl (rdv_tmp (v := .bool true) (by rfl))) rfl ?_
  exact ⟨rfl, C0.out⟩
theorem slab_ {A : Option Addr} {n c : Nat} {f1 f2 : Nat → ByteArray} (HN : Hid (n ≤ 9223372036854775807)) (HC : Hid (labF w A n f1 f2))  :
  Calls Try.prog 22 #[.slice A n c, .slice A n c] w fun en w' => en = .returned (.bool true) ∧ Ch [] w w' := by
 have C0 := qh (Ch.refl [] w)
 go_enter Try.func22, Try.ntmps22
 refine q_ (fun Q hQ hP => ?_)
 refine s_ (fun K1 hK1 => ?_)
 refine pu_ (v := .bool false) (y_assign rfl (by rfl) (by rfl)) ?_
 try simp only [zP,zN,zA,zB,zC]
 refine nl_ (hK1 _ _ ?_); clear hK1 K1
 refine s_ (fun K2 hK2 => ?_)
 refine pu_ (v := .slice A n c) (y_move rfl (by rfl) (by rfl)) ?_
 try simp only [zP,zN,zA,zB,zC]
 refine pu_ (v := .int .i64 n) (y_run (by rfl) (fun W => by go_simp)) ?_
 try simp only [zP,zN,zA,zB,zC]
 refine pu_ (v := .slice A n c) (y_move rfl (by rfl) (by rfl)) ?_
 try simp only [zP,zN,zA,zB,zC]
 refine pu_ (v := .int .i64 n) (y_run (by rfl) (fun W => by go_simp)) ?_
 try simp only [zP,zN,zA,zB,zC]
 refine pu_ (v := .bool true) (y_run (by rfl) (fun W => by go_simp)) ?_
 try simp only [zP,zN,zA,zB,zC]
 refine pu_ (v := .bool true) (y_assign rfl (by rfl) (by rfl)) ?_
 try simp only [zP,zN,zA,zB,zC]
 refine nl_ (hK2 _ _ ?_); clear hK2 K2
 refine sq_ (fun K3 hK3 => ?_)
 refine s_ (fun K4 hK4 => ?_)
 refine pu_ (v := .int .i64 0) (y_assign rfl (by rfl) (by rfl)) ?_
 try simp only [zP,zN,zA,zB,zC]
 refine nl_ (hK4 _ _ ?_); clear hK4 K4
 refine wp_block ?_
 refine loopk_ (fun (kq : Nat) (a' : Act) (w' : World) => ∃ (k : Nat), a' = ⟨#[.slice A n c, .slice A n c, uo a' 2, uo a' 3, .bool false, .bool true, .int .i64 k, uo a' 7, uo a' 8, uo a' 9, uo a' 10, uo a' 11, uo a' 12, uo a' 13, uo a' 14, uo a' 15, uo a' 16, uo a' 17, uo a' 18, uo a' 19, uo a' 20, uo a' 21, uo a' 22, uo a' 23, uo a' 24, uo a' 25, uo a' 26, uo a' 27, uo a' 28, uo a' 29, uo a' 30, uo a' 31, uo a' 32, uo a' 33, uo a' 34, uo a' 35, uo a' 36], []⟩ ∧ Hid (Ch [] w w') ∧ Hid (k ≤ n ∧ kq + k = n)) (n) (⟨0, rfl, C0, qh ⟨by omega, by omega⟩⟩) ?_
 rintro kq a_ w5 ⟨k, ha_, C0, hk⟩ K6 hK6
 obtain ⟨us, hus_⟩ : ∃ us, us = uo a_ := ⟨_, rfl⟩; try rw [← hus_] at ha_
 subst ha_; clear hus_
 refine sq_ (fun K7 hK7 => ?_)
 rcases (show k < n ∨ k = n by have := hk.out; omega) with h | h
 ·have hlt := qh h
  clear h
  obtain ⟨a, hA, hcl⟩ := HC.out k hlt.out
  subst hA
  have HCL := qh (below_cells C0.out.below0 hcl)
  clear hcl
  have D17 := qh (show (k : Int) < (n : Int) by have := hlt.out; omega)
  have Wk := qh (show IntKind.i64.wrap ((k : Int) + 1) = ((k + 1 : Nat) : Int) by rw [wr64 (by have := hlt.out; have := HN.out; omega)]; omega)
  refine s_ (fun K8 hK8 => ?_)
  refine pu_ (v := .bool true) (y_move rfl (by rfl) (by rfl)) ?_
  try simp only [zP,zN,zA,zB,zC]
  refine pu_ (v := .bool true) (y_move rfl (by rfl) (by rfl)) ?_
  try simp only [zP,zN,zA,zB,zC]
  refine pu_ (v := .int .i64 k) (y_move rfl (by rfl) (by rfl)) ?_
  try simp only [zP,zN,zA,zB,zC]
  refine pu_ (v := .slice (some a) n c) (y_move rfl (by rfl) (by rfl)) ?_
  try simp only [zP,zN,zA,zB,zC]
  refine pu_ (v := .int .i64 n) (y_run (by rfl) (fun W => by go_simp)) ?_
  try simp only [zP,zN,zA,zB,zC]
  refine pu_ (v := .bool true) (y_run (by rfl) (fun W => by have d := D17.out; go_simp)) ?_
  try simp only [zP,zN,zA,zB,zC]
  refine pu_ (v := .bool true) (y_pick (t := true) (by rfl) rfl (by rfl) (by rfl)) ?_
  try simp only [zP,zN,zA,zB,zC]
  refine pu_ (v := .bool true) (y_move rfl (by rfl) (by rfl)) ?_
  try simp only [zP,zN,zA,zB,zC]
  refine pu_ (v := .int .i64 k) (y_move rfl (by rfl) (by rfl)) ?_
  try simp only [zP,zN,zA,zB,zC]
  refine pu_ (v := .slice (some a) n c) (y_move rfl (by rfl) (by rfl)) ?_
  try simp only [zP,zN,zA,zB,zC]
  refine pu_ (v := .int .i64 n) (y_run (by rfl) (fun W => by go_simp)) ?_
  try simp only [zP,zN,zA,zB,zC]
  refine pu_ (v := .bool true) (y_run (by rfl) (fun W => by have d := D17.out; go_simp)) ?_
  try simp only [zP,zN,zA,zB,zC]
  refine pu_ (v := .bool true) (y_pick (t := true) (by rfl) rfl (by rfl) (by rfl)) ?_
  try simp only [zP,zN,zA,zB,zC]
  refine nl_ (hK8 _ _ ?_); clear hK8 K8
  refine wp_cond_true rfl ?_
  refine wp_skip ?_
  refine th_norm (hK7 _ _ ?_); try clear hK7 K7
  refine sq_ (fun K9 hK9 => ?_)
  refine wp_block ?_
  refine startk_ (S := fun W => CellsAt W (a.add (k * 2)) [.string (f1 k), .string (f2 k)] ∧ True) (ds := []) (msk 10 0) (by kernel_rfl) rfl (by kernel_rfl) (fun W c => ⟨below_cells c.below0 HCL.out, trivial⟩) (fun w10 C11 hS12 => ?_)
  replace C0 := qh (C0.out.trans' C11 inw_nil)
  clear HCL
  clear C11
  refine pureh_ (i := 0) (N := some 27) (v := .slice (some a) n c) (msk 10 1) rfl rfl (by kernel_rfl) hP (y_move rfl (by rfl) (by rfl)) rfl ?_
  try simp only [zP,zN,zA,zB,zC]
  refine pureh_ (i := 1) (N := some 28) (v := .int .i64 k) (msk 10 3) rfl rfl (by kernel_rfl) hP (y_move rfl (by rfl) (by rfl)) rfl ?_
  try simp only [zP,zN,zA,zB,zC]
  refine pureh_ (i := 2) (N := some 29) (v := .pointer (some (a.add (k * 2)))) (msk 10 7) rfl rfl (by kernel_rfl) hP (y_run (by rfl) (fun W => by have d := D17.out; go_simp)) rfl ?_
  try simp only [zP,zN,zA,zB,zC]
  refine takeh_ (i := 3) (N := some 30) (v := .agg #[.string (f1 k), .string (f2 k)]) (msk 10 15) rfl rfl (by kernel_rfl) hP (y_load (p := (a.add (k * 2))) rfl (by rfl) (by rfl) (fun W hS => run_loadVar_at hS.1 Try.underlying66 rfl (by kernel_rfl))) hS12 rfl ?_
  try simp only [zP,zN,zA,zB,zC]
  refine pureh_ (i := 4) (N := some 31) (v := .slice (some a) n c) (msk 10 31) rfl rfl (by kernel_rfl) hP (y_move rfl (by rfl) (by rfl)) rfl ?_
  try simp only [zP,zN,zA,zB,zC]
  refine pureh_ (i := 5) (N := some 32) (v := .int .i64 k) (msk 10 63) rfl rfl (by kernel_rfl) hP (y_move rfl (by rfl) (by rfl)) rfl ?_
  try simp only [zP,zN,zA,zB,zC]
  refine pureh_ (i := 6) (N := some 33) (v := .pointer (some (a.add (k * 2)))) (msk 10 127) rfl rfl (by kernel_rfl) hP (y_run (by rfl) (fun W => by have d := D17.out; go_simp)) rfl ?_
  try simp only [zP,zN,zA,zB,zC]
  refine takeh_ (i := 7) (N := some 34) (v := .agg #[.string (f1 k), .string (f2 k)]) (msk 10 255) rfl rfl (by kernel_rfl) hP (y_load (p := (a.add (k * 2))) rfl (by rfl) (by rfl) (fun W hS => run_loadVar_at hS.1 Try.underlying66 rfl (by kernel_rfl))) hS12 rfl ?_
  try simp only [zP,zN,zA,zB,zC]
  refine pureh_ (i := 8) (N := some 35) (v := .bool true) (msk 10 511) rfl rfl (by kernel_rfl) hP (y_run (by rfl) (fun W => by go_simp)) rfl ?_
  try simp only [zP,zN,zA,zB,zC]
  refine pureh_ (i := 9) (N := some 5) (v := .bool true) (msk 10 1023) rfl rfl (by kernel_rfl) hP (y_assign rfl (by rfl) (by rfl)) rfl ?_
  try simp only [zP,zN,zA,zB,zC]
  refine done_ (by kernel_rfl) ?_
  refine ib_norm ?_
  refine th_norm (hK9 _ _ ?_); try clear hK9 K9
  refine r_ ?_
  refine pu_ (v := .int .i64 k) (y_move rfl (by rfl) (by rfl)) ?_
  try simp only [zP,zN,zA,zB,zC]
  refine pu_ (v := .int .i64 (k + 1 : Nat)) (y_run (by rfl) (fun W => by have d := Wk.out; go_simp)) ?_
  try simp only [zP,zN,zA,zB,zC]
  refine pu_ (v := .int .i64 (k + 1 : Nat)) (y_assign rfl (by rfl) (by rfl)) ?_
  try simp only [zP,zN,zA,zB,zC]
  refine nl_ ?_
  exact th_norm (hK6 (kq - 1) _ _ (by have := hlt.out; have := hk.out; omega) ⟨k + 1, rfl, C0, qh ⟨by have := hlt.out; omega, by have := hlt.out; have := hk.out; omega⟩⟩)
 ·have D17 := qh (show ¬ (k : Int) < (n : Int) by have := hk.out; omega)
  clear h
  refine s_ (fun K13 hK13 => ?_)
  refine pu_ (v := .bool true) (y_move rfl (by rfl) (by rfl)) ?_
  try simp only [zP,zN,zA,zB,zC]
  refine pu_ (v := .bool true) (y_move rfl (by rfl) (by rfl)) ?_
  try simp only [zP,zN,zA,zB,zC]
  refine pu_ (v := .int .i64 k) (y_move rfl (by rfl) (by rfl)) ?_
  try simp only [zP,zN,zA,zB,zC]
  refine pu_ (v := .slice A n c) (y_move rfl (by rfl) (by rfl)) ?_
  try simp only [zP,zN,zA,zB,zC]
  refine pu_ (v := .int .i64 n) (y_run (by rfl) (fun W => by go_simp)) ?_
  try simp only [zP,zN,zA,zB,zC]
  refine pu_ (v := .bool false) (y_run (by rfl) (fun W => by have d := D17.out; go_simp)) ?_
  try simp only [zP,zN,zA,zB,zC]
  refine pu_ (v := .bool false) (y_pick (t := true) (by rfl) rfl (by rfl) (by rfl)) ?_
  try simp only [zP,zN,zA,zB,zC]
  refine pu_ (v := .bool false) (y_move rfl (by rfl) (by rfl)) ?_
  try simp only [zP,zN,zA,zB,zC]
  refine pu_ (y_off (by rfl)) ?_
  try simp only [zP,zN,zA,zB,zC]
  refine pu_ (y_off (by rfl)) ?_
  try simp only [zP,zN,zA,zB,zC]
  refine pu_ (y_off (by rfl)) ?_
  try simp only [zP,zN,zA,zB,zC]
  refine pu_ (y_off (by rfl)) ?_
  try simp only [zP,zN,zA,zB,zC]
  refine pu_ (v := .bool false) (y_pick (t := false) (by rfl) rfl (by rfl) (by rfl)) ?_
  try simp only [zP,zN,zA,zB,zC]
  refine nl_ (hK13 _ _ ?_); clear hK13 K13
  refine wp_cond_false rfl ?_
  refine wp_exit ?_
  refine th_exit ?_
  refine th_exit ?_
  refine ib_exit ?_
  refine th_norm (hK3 _ _ ?_); try clear hK3 K3
  refine s_ (fun K14 hK14 => ?_)
  refine pu_ (v := .bool true) (y_move rfl (by rfl) (by rfl)) ?_
  try simp only [zP,zN,zA,zB,zC]
  refine pu_ (v := .bool true) (y_assign rfl (by rfl) (by rfl)) ?_
  try simp only [zP,zN,zA,zB,zC]
  refine nl_ (hK14 _ _ ?_); clear hK14 K14
  refine wp_ret ?_
  refine hQ _ _ _ ?_
  refine bodyPost_ret (res1 rfl (rdv_tmp (v := .bool true) (by rfl))) rfl ?_
  exact ⟨rfl, C0.out⟩
/-- A spec that is the same as itself. -/
def SameS (W : World) (cs : List Value) : Prop := ∀ w', Below W.heap.size W w' → Calls Try.prog 15 #[.agg cs.toArray, .agg cs.toArray] w' fun en w2 => en = .returned (.bool true) ∧ Ch [] w' w2
/-- Containers that are the same as themselves. -/
def SameK (W : World) (A : Option Addr) (n c : Nat) : Prop := ∀ w', Below W.heap.size W w' → Calls Try.prog 23 #[.slice A n c, .slice A n c] w' fun en w2 => en = .returned (.bool true) ∧ Ch [] w' w2
theorem sspec_ {q1 q2 q3 : Int} {sn : ByteArray} {A1 A2 A3 : Option Addr} {n1 c1 n2 c2 n3 c3 : Nat} {f1 f2 : Nat → ByteArray} (H2 : Hid (SameK w A2 n2 c2)) (H3 : Hid (SameK w A3 n3 c3)) (HN : Hid (n1 ≤ 9223372036854775807)) (HC : Hid (labF w A1 n1 f1 f2))  :
  Calls Try.prog 15 #[.agg #[.string sn, .slice A1 n1 c1, .slice A2 n2 c2, .slice A3 n3 c3, .int .i64 q1, .int .i64 q2, .int .i64 q3], .agg #[.string sn, .slice A1 n1 c1, .slice A2 n2 c2, .slice A3 n3 c3, .int .i64 q1, .int .i64 q2, .int .i64 q3]] w fun en w' => en = .returned (.bool true) ∧ Ch [] w w' := by
 have C0 := qh (Ch.refl [] w)
 go_enter Try.func15, Try.ntmps15
 refine q_ (fun Q hQ hP => ?_)
 refine s_ (fun K1 hK1 => ?_)
 refine ef_ (fun K2 hK2 => ?_)
 refine e_boxN (by rfl) rfl rfl (cs := #[.string sn, .slice A1 n1 c1, .slice A2 n2 c2, .slice A3 n3 c3, .int .i64 q1, .int .i64 q2, .int .i64 q3]) (v := .agg #[.string sn, .slice A1 n1 c1, .slice A2 n2 c2, .slice A3 n3 c3, .int .i64 q1, .int .i64 q2, .int .i64 q3]) (by rfl) rfl ?_
 rintro g3 w4 HG5 B6 C7
 have nw8 := qh (show w.heap.size ≤ g3 by have := C0.out.size; have := HG5.out; omega)
 replace C0 := qh (C0.out.trans' C7 inw_nil)
 have Fg3 := qh (show Blk w4 g3 (#[.string sn, .slice A1 n1 c1, .slice A2 n2 c2, .slice A3 n3 c3, .int .i64 q1, .int .i64 q2, .int .i64 q3]) 39 from B6); clear B6 C7
 refine hK2 _ _ ?_; clear hK2 K2
 try simp only [zP,zN,zA,zB,zC]
 refine ef_ (fun K9 hK9 => ?_)
 refine e_boxN (by rfl) rfl rfl (cs := #[.string sn, .slice A1 n1 c1, .slice A2 n2 c2, .slice A3 n3 c3, .int .i64 q1, .int .i64 q2, .int .i64 q3]) (v := .agg #[.string sn, .slice A1 n1 c1, .slice A2 n2 c2, .slice A3 n3 c3, .int .i64 q1, .int .i64 q2, .int .i64 q3]) (by rfl) rfl ?_
 rintro g10 w11 HG12 B13 C14
 have nw15 := qh (show w.heap.size ≤ g10 by have := C0.out.size; have := HG12.out; omega)
 have ne16 := qh (Fg3.out.ne_new HG12)
 replace C0 := qh (C0.out.trans' C14 inw_nil)
 replace Fg3 := qh (C14.blk Fg3.out nin_nil)
 have Fg10 := qh (show Blk w11 g10 (#[.string sn, .slice A1 n1 c1, .slice A2 n2 c2, .slice A3 n3 c3, .int .i64 q1, .int .i64 q2, .int .i64 q3]) 39 from B13); clear B13 C14
 refine hK9 _ _ ?_; clear hK9 K9
 try simp only [zP,zN,zA,zB,zC]
 refine pu_ (v := .bool false) (y_assign rfl (by rfl) (by rfl)) ?_
 try simp only [zP,zN,zA,zB,zC]
 refine nl_ (hK1 _ _ ?_); clear hK1 K1
 refine s_ (fun K17 hK17 => ?_)
 refine pu_ (v := .pointer (some ⟨g3, 0, none⟩)) (y_run (by rfl) (fun W => by go_simp)) ?_
 try simp only [zP,zN,zA,zB,zC]
 refine ld_ (v := .string sn) rfl (by rfl) (by rfl) (run_load_one ((Fg3.out.cell 0).trans rfl) Try.underlying9 rfl) ?_
 try simp only [zP,zN,zA,zB,zC]
 refine pu_ (v := .pointer (some ⟨g10, 0, none⟩)) (y_run (by rfl) (fun W => by go_simp)) ?_
 try simp only [zP,zN,zA,zB,zC]
 refine ld_ (v := .string sn) rfl (by rfl) (by rfl) (run_load_one ((Fg10.out.cell 0).trans rfl) Try.underlying9 rfl) ?_
 try simp only [zP,zN,zA,zB,zC]
 refine pu_ (v := .bool true) (y_run (by rfl) (fun W => by go_simp)) ?_
 try simp only [zP,zN,zA,zB,zC]
 refine pu_ (v := .bool true) (y_move rfl (by rfl) (by rfl)) ?_
 try simp only [zP,zN,zA,zB,zC]
 refine pu_ (v := .pointer (some ⟨g3, 1, none⟩)) (y_run (by rfl) (fun W => by go_simp)) ?_
 try simp only [zP,zN,zA,zB,zC]
 refine ld_ (v := .slice A1 n1 c1) rfl (by rfl) (by rfl) (run_load_one ((Fg3.out.cell 1).trans rfl) Try.underlying36 rfl) ?_
 try simp only [zP,zN,zA,zB,zC]
 refine pu_ (v := .pointer (some ⟨g10, 1, none⟩)) (y_run (by rfl) (fun W => by go_simp)) ?_
 try simp only [zP,zN,zA,zB,zC]
 refine ld_ (v := .slice A1 n1 c1) rfl (by rfl) (by rfl) (run_load_one ((Fg10.out.cell 1).trans rfl) Try.underlying36 rfl) ?_
 try simp only [zP,zN,zA,zB,zC]
 refine ef_ (fun K18 hK18 => ?_)
 refine e_call Try.func22 (by kernel_rfl) rfl #[.slice A1 n1 c1, .slice A1 n1 c1] (by rfl) rfl rfl (mp2 rfl rfl) ((slab_ HN (qh (HC.out.below C0.out.below0)))) ?_
 rintro en w20 ⟨rfl, cc19⟩
 refine ⟨_, rfl, ?_⟩
 replace C0 := qh (C0.out.trans' cc19 inw_nil)
 replace Fg3 := qh (cc19.blk Fg3.out nin_nil)
 replace Fg10 := qh (cc19.blk Fg10.out nin_nil)
 clear cc19
 refine hK18 _ _ ?_; clear hK18 K18
 try simp only [zP,zN,zA,zB,zC]
 refine pu_ (v := .bool true) (y_pick (t := true) (by rfl) rfl (by rfl) (by rfl)) ?_
 try simp only [zP,zN,zA,zB,zC]
 refine pu_ (v := .bool true) (y_move rfl (by rfl) (by rfl)) ?_
 try simp only [zP,zN,zA,zB,zC]
 refine pu_ (v := .pointer (some ⟨g3, 2, none⟩)) (y_run (by rfl) (fun W => by go_simp)) ?_
 try simp only [zP,zN,zA,zB,zC]
 refine ld_ (v := .slice A2 n2 c2) rfl (by rfl) (by rfl) (run_load_one ((Fg3.out.cell 2).trans rfl) Try.underlying37 rfl) ?_
 try simp only [zP,zN,zA,zB,zC]
 refine pu_ (v := .pointer (some ⟨g10, 2, none⟩)) (y_run (by rfl) (fun W => by go_simp)) ?_
 try simp only [zP,zN,zA,zB,zC]
 refine ld_ (v := .slice A2 n2 c2) rfl (by rfl) (by rfl) (run_load_one ((Fg10.out.cell 2).trans rfl) Try.underlying37 rfl) ?_
 try simp only [zP,zN,zA,zB,zC]
 refine ef_ (fun K21 hK21 => ?_)
 refine e_call Try.func23 (by kernel_rfl) rfl #[.slice A2 n2 c2, .slice A2 n2 c2] (by rfl) rfl rfl (mp2 rfl rfl) ((H2.out w20 C0.out.below0)) ?_
 rintro en w23 ⟨rfl, cc22⟩
 refine ⟨_, rfl, ?_⟩
 replace C0 := qh (C0.out.trans' cc22 inw_nil)
 replace Fg3 := qh (cc22.blk Fg3.out nin_nil)
 replace Fg10 := qh (cc22.blk Fg10.out nin_nil)
 clear cc22
 refine hK21 _ _ ?_; clear hK21 K21
 try simp only [zP,zN,zA,zB,zC]
 refine pu_ (v := .bool true) (y_pick (t := true) (by rfl) rfl (by rfl) (by rfl)) ?_
 try simp only [zP,zN,zA,zB,zC]
 refine pu_ (v := .bool true) (y_move rfl (by rfl) (by rfl)) ?_
 try simp only [zP,zN,zA,zB,zC]
 refine pu_ (v := .pointer (some ⟨g3, 3, none⟩)) (y_run (by rfl) (fun W => by go_simp)) ?_
 try simp only [zP,zN,zA,zB,zC]
 refine ld_ (v := .slice A3 n3 c3) rfl (by rfl) (by rfl) (run_load_one ((Fg3.out.cell 3).trans rfl) Try.underlying37 rfl) ?_
 try simp only [zP,zN,zA,zB,zC]
 refine pu_ (v := .pointer (some ⟨g10, 3, none⟩)) (y_run (by rfl) (fun W => by go_simp)) ?_
 try simp only [zP,zN,zA,zB,zC]
 refine ld_ (v := .slice A3 n3 c3) rfl (by rfl) (by rfl) (run_load_one ((Fg10.out.cell 3).trans rfl) Try.underlying37 rfl) ?_
 try simp only [zP,zN,zA,zB,zC]
 refine ef_ (fun K24 hK24 => ?_)
 refine e_call Try.func23 (by kernel_rfl) rfl #[.slice A3 n3 c3, .slice A3 n3 c3] (by rfl) rfl rfl (mp2 rfl rfl) ((H3.out w23 C0.out.below0)) ?_
 rintro en w26 ⟨rfl, cc25⟩
 refine ⟨_, rfl, ?_⟩
 replace C0 := qh (C0.out.trans' cc25 inw_nil)
 replace Fg3 := qh (cc25.blk Fg3.out nin_nil)
 replace Fg10 := qh (cc25.blk Fg10.out nin_nil)
 clear cc25
 refine hK24 _ _ ?_; clear hK24 K24
 try simp only [zP,zN,zA,zB,zC]
 refine pu_ (v := .bool true) (y_pick (t := true) (by rfl) rfl (by rfl) (by rfl)) ?_
 try simp only [zP,zN,zA,zB,zC]
 refine pu_ (v := .bool true) (y_move rfl (by rfl) (by rfl)) ?_
 try simp only [zP,zN,zA,zB,zC]
 refine pu_ (v := .pointer (some ⟨g3, 4, none⟩)) (y_run (by rfl) (fun W => by go_simp)) ?_
 try simp only [zP,zN,zA,zB,zC]
 refine ld_ (v := .int .i64 q1) rfl (by rfl) (by rfl) (run_load_one ((Fg3.out.cell 4).trans rfl) Try.underlying3 rfl) ?_
 try simp only [zP,zN,zA,zB,zC]
 refine pu_ (v := .pointer (some ⟨g10, 4, none⟩)) (y_run (by rfl) (fun W => by go_simp)) ?_
 try simp only [zP,zN,zA,zB,zC]
 refine ld_ (v := .int .i64 q1) rfl (by rfl) (by rfl) (run_load_one ((Fg10.out.cell 4).trans rfl) Try.underlying3 rfl) ?_
 try simp only [zP,zN,zA,zB,zC]
 refine pu_ (v := .bool true) (y_run (by rfl) (fun W => by go_simp)) ?_
 try simp only [zP,zN,zA,zB,zC]
 refine pu_ (v := .bool true) (y_pick (t := true) (by rfl) rfl (by rfl) (by rfl)) ?_
 try simp only [zP,zN,zA,zB,zC]
 refine pu_ (v := .bool true) (y_move rfl (by rfl) (by rfl)) ?_
 try simp only [zP,zN,zA,zB,zC]
 refine pu_ (v := .pointer (some ⟨g3, 5, none⟩)) (y_run (by rfl) (fun W => by go_simp)) ?_
 try simp only [zP,zN,zA,zB,zC]
 refine ld_ (v := .int .i64 q2) rfl (by rfl) (by rfl) (run_load_one ((Fg3.out.cell 5).trans rfl) Try.underlying3 rfl) ?_
 try simp only [zP,zN,zA,zB,zC]
 refine pu_ (v := .pointer (some ⟨g10, 5, none⟩)) (y_run (by rfl) (fun W => by go_simp)) ?_
 try simp only [zP,zN,zA,zB,zC]
 refine ld_ (v := .int .i64 q2) rfl (by rfl) (by rfl) (run_load_one ((Fg10.out.cell 5).trans rfl) Try.underlying3 rfl) ?_
 try simp only [zP,zN,zA,zB,zC]
 refine pu_ (v := .bool true) (y_run (by rfl) (fun W => by go_simp)) ?_
 try simp only [zP,zN,zA,zB,zC]
 refine pu_ (v := .bool true) (y_pick (t := true) (by rfl) rfl (by rfl) (by rfl)) ?_
 try simp only [zP,zN,zA,zB,zC]
 refine pu_ (v := .bool true) (y_move rfl (by rfl) (by rfl)) ?_
 try simp only [zP,zN,zA,zB,zC]
 refine pu_ (v := .pointer (some ⟨g3, 6, none⟩)) (y_run (by rfl) (fun W => by go_simp)) ?_
 try simp only [zP,zN,zA,zB,zC]
 refine ld_ (v := .int .i64 q3) rfl (by rfl) (by rfl) (run_load_one ((Fg3.out.cell 6).trans rfl) Try.underlying3 rfl) ?_
 try simp only [zP,zN,zA,zB,zC]
 refine pu_ (v := .pointer (some ⟨g10, 6, none⟩)) (y_run (by rfl) (fun W => by go_simp)) ?_
 try simp only [zP,zN,zA,zB,zC]
 refine ld_ (v := .int .i64 q3) rfl (by rfl) (by rfl) (run_load_one ((Fg10.out.cell 6).trans rfl) Try.underlying3 rfl) ?_
 try simp only [zP,zN,zA,zB,zC]
 refine pu_ (v := .bool true) (y_run (by rfl) (fun W => by go_simp)) ?_
 try simp only [zP,zN,zA,zB,zC]
 refine pu_ (v := .bool true) (y_pick (t := true) (by rfl) rfl (by rfl) (by rfl)) ?_
 try simp only [zP,zN,zA,zB,zC]
 refine pu_ (v := .bool true) (y_assign rfl (by rfl) (by rfl)) ?_
 try simp only [zP,zN,zA,zB,zC]
 refine nl_ (hK17 _ _ ?_); clear hK17 K17
 refine wp_ret ?_
 refine hQ _ _ _ ?_
 refine bodyPost_ret (res1 rfl (rdv_tmp (v := .bool true) (by rfl))) rfl ?_
 exact ⟨rfl, C0.out⟩
/-- Containers, read cell by cell. -/
def conG (w : World) (A : Option Addr) (n : Nat) : Prop := ∀ i, i < n → ∃ (a : Addr) (s1 s2 : ByteArray) (r0 r1 r2 r3 r4 r5 : Int) (B : Option Addr) (d : Nat) (M : List Int) (p0 p1 : Int), A = some a ∧ CellsAt w (a.add (i * 11)) [.string s1, .string s2, .int .i64 r0, .int .i64 r1, .int .i64 r2, .int .i64 r3, .int .i64 r4, .int .i64 r5, .slice B M.length d, .int .i64 p0, .int .i64 p1] ∧ M.length ≤ 9223372036854775807 ∧ SrcIs w (.slice B M.length d) M.length (M.map (Value.int .i64)) 1
theorem scon_ {A : Option Addr} {n c : Nat} (HN : Hid (n ≤ 9223372036854775807)) (HC : Hid (conG w A n))  :
  Calls Try.prog 23 #[.slice A n c, .slice A n c] w fun en w' => en = .returned (.bool true) ∧ Ch [] w w' := by
 have C0 := qh (Ch.refl [] w)
 go_enter Try.func23, Try.ntmps23
 refine q_ (fun Q hQ hP => ?_)
 refine s_ (fun K1 hK1 => ?_)
 refine pu_ (v := .bool false) (y_assign rfl (by rfl) (by rfl)) ?_
 try simp only [zP,zN,zA,zB,zC]
 refine nl_ (hK1 _ _ ?_); clear hK1 K1
 refine s_ (fun K2 hK2 => ?_)
 refine pu_ (v := .slice A n c) (y_move rfl (by rfl) (by rfl)) ?_
 try simp only [zP,zN,zA,zB,zC]
 refine pu_ (v := .int .i64 n) (y_run (by rfl) (fun W => by go_simp)) ?_
 try simp only [zP,zN,zA,zB,zC]
 refine pu_ (v := .slice A n c) (y_move rfl (by rfl) (by rfl)) ?_
 try simp only [zP,zN,zA,zB,zC]
 refine pu_ (v := .int .i64 n) (y_run (by rfl) (fun W => by go_simp)) ?_
 try simp only [zP,zN,zA,zB,zC]
 refine pu_ (v := .bool true) (y_run (by rfl) (fun W => by go_simp)) ?_
 try simp only [zP,zN,zA,zB,zC]
 refine pu_ (v := .bool true) (y_assign rfl (by rfl) (by rfl)) ?_
 try simp only [zP,zN,zA,zB,zC]
 refine nl_ (hK2 _ _ ?_); clear hK2 K2
 refine sq_ (fun K3 hK3 => ?_)
 refine s_ (fun K4 hK4 => ?_)
 refine pu_ (v := .int .i64 0) (y_assign rfl (by rfl) (by rfl)) ?_
 try simp only [zP,zN,zA,zB,zC]
 refine nl_ (hK4 _ _ ?_); clear hK4 K4
 refine wp_block ?_
 refine loopk_ (fun (kq : Nat) (a' : Act) (w' : World) => ∃ (k : Nat), a' = ⟨#[.slice A n c, .slice A n c, uo a' 2, uo a' 3, .bool false, .bool true, .int .i64 k, uo a' 7, uo a' 8, uo a' 9, uo a' 10, uo a' 11, uo a' 12, uo a' 13, uo a' 14, uo a' 15, uo a' 16, uo a' 17, uo a' 18, uo a' 19, uo a' 20, uo a' 21, uo a' 22, uo a' 23, uo a' 24, uo a' 25, uo a' 26, uo a' 27, uo a' 28, uo a' 29, uo a' 30, uo a' 31, uo a' 32, uo a' 33, uo a' 34, uo a' 35, uo a' 36, uo a' 37, uo a' 38, uo a' 39, uo a' 40, uo a' 41, uo a' 42, uo a' 43, uo a' 44, uo a' 45, uo a' 46, uo a' 47, uo a' 48, uo a' 49, uo a' 50, uo a' 51, uo a' 52, uo a' 53, uo a' 54, uo a' 55, uo a' 56, uo a' 57, uo a' 58, uo a' 59, uo a' 60, uo a' 61, uo a' 62, uo a' 63, uo a' 64, uo a' 65, uo a' 66, uo a' 67, uo a' 68, uo a' 69, uo a' 70, uo a' 71, uo a' 72, uo a' 73, uo a' 74, uo a' 75, uo a' 76, uo a' 77], []⟩ ∧ Hid (Ch [] w w') ∧ Hid (k ≤ n ∧ kq + k = n)) (n) (⟨0, rfl, C0, qh ⟨by omega, by omega⟩⟩) ?_
 rintro kq a_ w5 ⟨k, ha_, C0, hk⟩ K6 hK6
 obtain ⟨us, hus_⟩ : ∃ us, us = uo a_ := ⟨_, rfl⟩; try rw [← hus_] at ha_
 subst ha_; clear hus_
 refine sq_ (fun K7 hK7 => ?_)
 rcases (show k < n ∨ k = n by have := hk.out; omega) with h | h
 ·have hlt := qh h
  clear h
  obtain ⟨a, s1, s2, r0, r1, r2, r3, r4, r5, B, d, M, p0, p1, hA, hcl, hm, hsm⟩ := HC.out k hlt.out
  subst hA
  have HCL := qh hcl
  have HMM := qh hm
  have HSM := qh hsm
  clear hcl hm hsm
  have D19 := qh (show (k : Int) < (n : Int) by have := hlt.out; omega)
  have Wk := qh (show IntKind.i64.wrap ((k : Int) + 1) = ((k + 1 : Nat) : Int) by rw [wr64 (by have := hlt.out; have := HN.out; omega)]; omega)
  refine s_ (fun K8 hK8 => ?_)
  refine pu_ (v := .bool true) (y_move rfl (by rfl) (by rfl)) ?_
  try simp only [zP,zN,zA,zB,zC]
  refine pu_ (v := .bool true) (y_move rfl (by rfl) (by rfl)) ?_
  try simp only [zP,zN,zA,zB,zC]
  refine pu_ (v := .int .i64 k) (y_move rfl (by rfl) (by rfl)) ?_
  try simp only [zP,zN,zA,zB,zC]
  refine pu_ (v := .slice (some a) n c) (y_move rfl (by rfl) (by rfl)) ?_
  try simp only [zP,zN,zA,zB,zC]
  refine pu_ (v := .int .i64 n) (y_run (by rfl) (fun W => by go_simp)) ?_
  try simp only [zP,zN,zA,zB,zC]
  refine pu_ (v := .bool true) (y_run (by rfl) (fun W => by have d := D19.out; go_simp)) ?_
  try simp only [zP,zN,zA,zB,zC]
  refine pu_ (v := .bool true) (y_pick (t := true) (by rfl) rfl (by rfl) (by rfl)) ?_
  try simp only [zP,zN,zA,zB,zC]
  refine pu_ (v := .bool true) (y_move rfl (by rfl) (by rfl)) ?_
  try simp only [zP,zN,zA,zB,zC]
  refine pu_ (v := .int .i64 k) (y_move rfl (by rfl) (by rfl)) ?_
  try simp only [zP,zN,zA,zB,zC]
  refine pu_ (v := .slice (some a) n c) (y_move rfl (by rfl) (by rfl)) ?_
  try simp only [zP,zN,zA,zB,zC]
  refine pu_ (v := .int .i64 n) (y_run (by rfl) (fun W => by go_simp)) ?_
  try simp only [zP,zN,zA,zB,zC]
  refine pu_ (v := .bool true) (y_run (by rfl) (fun W => by have d := D19.out; go_simp)) ?_
  try simp only [zP,zN,zA,zB,zC]
  refine pu_ (v := .bool true) (y_pick (t := true) (by rfl) rfl (by rfl) (by rfl)) ?_
  try simp only [zP,zN,zA,zB,zC]
  refine nl_ (hK8 _ _ ?_); clear hK8 K8
  refine wp_cond_true rfl ?_
  refine wp_skip ?_
  refine th_norm (hK7 _ _ ?_); try clear hK7 K7
  refine sq_ (fun K9 hK9 => ?_)
  refine wp_block ?_
  refine s_ (fun K10 hK10 => ?_)
  refine pu_ (v := .slice (some a) n c) (y_move rfl (by rfl) (by rfl)) ?_
  try simp only [zP,zN,zA,zB,zC]
  refine pu_ (v := .int .i64 k) (y_move rfl (by rfl) (by rfl)) ?_
  try simp only [zP,zN,zA,zB,zC]
  refine pu_ (v := .pointer (some (a.add (k * 11)))) (y_run (by rfl) (fun W => by have d := D19.out; go_simp)) ?_
  try simp only [zP,zN,zA,zB,zC]
  refine ld_ (v := .agg #[.string s1, .string s2, .int .i64 r0, .int .i64 r1, .int .i64 r2, .int .i64 r3, .int .i64 r4, .int .i64 r5, .slice B M.length d, .int .i64 p0, .int .i64 p1]) rfl (by rfl) (by rfl) (run_loadVar_at (below_cells C0.out.below0 HCL.out) Try.underlying71 rfl (by kernel_rfl)) ?_
  try simp only [zP,zN,zA,zB,zC]
  refine ef_ (fun K11 hK11 => ?_)
  refine e_alloc (by rfl) rfl rfl (cs := #[.string ⟨#[]⟩, .string ⟨#[]⟩, .int .i64 0, .int .i64 0, .int .i64 0, .int .i64 0, .int .i64 0, .int .i64 0, .slice none 0 0, .int .i64 0, .int .i64 0]) (by kernel_rfl) ?_
  rintro g12 w13 HG14 B15 C16
  have nw17 := qh (show w.heap.size ≤ g12 by have := C0.out.size; have := HG14.out; omega)
  replace C0 := qh (C0.out.trans' C16 inw_nil)
  have Fg12 := qh (show Blk w13 g12 (#[.string ⟨#[]⟩, .string ⟨#[]⟩, .int .i64 0, .int .i64 0, .int .i64 0, .int .i64 0, .int .i64 0, .int .i64 0, .slice none 0 0, .int .i64 0, .int .i64 0]) 71 from B15); clear B15 C16
  refine hK11 _ _ ?_; clear hK11 K11
  try simp only [zP,zN,zA,zB,zC]
  refine ef_ (fun K18 hK18 => ?_)
  refine e_storeN (cells := #[.string s1, .string s2, .int .i64 r0, .int .i64 r1, .int .i64 r2, .int .i64 r3, .int .i64 r4, .int .i64 r5, .slice B M.length d, .int .i64 p0, .int .i64 p1]) (by rfl) rfl rfl (by rfl) (by rfl) Fg12.out (by kernel_rfl) (by rfl) (ones_cons rfl (ones_cons rfl (ones_cons rfl (ones_cons rfl (ones_cons rfl (ones_cons rfl (ones_cons rfl (ones_cons rfl (ones_cons rfl (ones_cons rfl (ones_cons rfl ones_nil))))))))))) ?_
  rintro w19 B20 C21
  replace C0 := qh (C0.out.trans' C21 (inw_cons (.inr nw17.out) inw_nil))
  clear Fg12; have Fg12 := qh (show Blk w19 g12 (#[.string s1, .string s2, .int .i64 r0, .int .i64 r1, .int .i64 r2, .int .i64 r3, .int .i64 r4, .int .i64 r5, .slice B M.length d, .int .i64 p0, .int .i64 p1]) 71 from B20); clear B20 C21
  refine hK18 _ _ ?_; clear hK18 K18
  try simp only [zP,zN,zA,zB,zC]
  refine nl_ (hK10 _ _ ?_); clear hK10 K10
  refine s_ (fun K22 hK22 => ?_)
  refine pu_ (v := .slice (some a) n c) (y_move rfl (by rfl) (by rfl)) ?_
  try simp only [zP,zN,zA,zB,zC]
  refine pu_ (v := .int .i64 k) (y_move rfl (by rfl) (by rfl)) ?_
  try simp only [zP,zN,zA,zB,zC]
  refine pu_ (v := .pointer (some (a.add (k * 11)))) (y_run (by rfl) (fun W => by have d := D19.out; go_simp)) ?_
  try simp only [zP,zN,zA,zB,zC]
  refine ld_ (v := .agg #[.string s1, .string s2, .int .i64 r0, .int .i64 r1, .int .i64 r2, .int .i64 r3, .int .i64 r4, .int .i64 r5, .slice B M.length d, .int .i64 p0, .int .i64 p1]) rfl (by rfl) (by rfl) (run_loadVar_at (below_cells C0.out.below0 HCL.out) Try.underlying71 rfl (by kernel_rfl)) ?_
  try simp only [zP,zN,zA,zB,zC]
  refine ef_ (fun K23 hK23 => ?_)
  refine e_alloc (by rfl) rfl rfl (cs := #[.string ⟨#[]⟩, .string ⟨#[]⟩, .int .i64 0, .int .i64 0, .int .i64 0, .int .i64 0, .int .i64 0, .int .i64 0, .slice none 0 0, .int .i64 0, .int .i64 0]) (by kernel_rfl) ?_
  rintro g24 w25 HG26 B27 C28
  have nw29 := qh (show w.heap.size ≤ g24 by have := C0.out.size; have := HG26.out; omega)
  have ne30 := qh (Fg12.out.ne_new HG26)
  replace C0 := qh (C0.out.trans' C28 inw_nil)
  replace Fg12 := qh (C28.blk Fg12.out nin_nil)
  have Fg24 := qh (show Blk w25 g24 (#[.string ⟨#[]⟩, .string ⟨#[]⟩, .int .i64 0, .int .i64 0, .int .i64 0, .int .i64 0, .int .i64 0, .int .i64 0, .slice none 0 0, .int .i64 0, .int .i64 0]) 71 from B27); clear B27 C28
  refine hK23 _ _ ?_; clear hK23 K23
  try simp only [zP,zN,zA,zB,zC]
  refine ef_ (fun K31 hK31 => ?_)
  refine e_storeN (cells := #[.string s1, .string s2, .int .i64 r0, .int .i64 r1, .int .i64 r2, .int .i64 r3, .int .i64 r4, .int .i64 r5, .slice B M.length d, .int .i64 p0, .int .i64 p1]) (by rfl) rfl rfl (by rfl) (by rfl) Fg24.out (by kernel_rfl) (by rfl) (ones_cons rfl (ones_cons rfl (ones_cons rfl (ones_cons rfl (ones_cons rfl (ones_cons rfl (ones_cons rfl (ones_cons rfl (ones_cons rfl (ones_cons rfl (ones_cons rfl ones_nil))))))))))) ?_
  rintro w32 B33 C34
  replace C0 := qh (C0.out.trans' C34 (inw_cons (.inr nw29.out) inw_nil))
  replace Fg12 := qh (C34.blk Fg12.out (nin_cons ne30.out nin_nil))
  clear Fg24; have Fg24 := qh (show Blk w32 g24 (#[.string s1, .string s2, .int .i64 r0, .int .i64 r1, .int .i64 r2, .int .i64 r3, .int .i64 r4, .int .i64 r5, .slice B M.length d, .int .i64 p0, .int .i64 p1]) 71 from B33); clear B33 C34
  refine hK31 _ _ ?_; clear hK31 K31
  try simp only [zP,zN,zA,zB,zC]
  refine nl_ (hK22 _ _ ?_); clear hK22 K22
  refine r_ ?_
  refine pu_ (v := .pointer (some ⟨g12, 0, none⟩)) (y_run (by rfl) (fun W => by go_simp)) ?_
  try simp only [zP,zN,zA,zB,zC]
  refine ld_ (v := .string s1) rfl (by rfl) (by rfl) (run_load_one ((Fg12.out.cell 0).trans rfl) Try.underlying9 rfl) ?_
  try simp only [zP,zN,zA,zB,zC]
  refine pu_ (v := .pointer (some ⟨g24, 0, none⟩)) (y_run (by rfl) (fun W => by go_simp)) ?_
  try simp only [zP,zN,zA,zB,zC]
  refine ld_ (v := .string s1) rfl (by rfl) (by rfl) (run_load_one ((Fg24.out.cell 0).trans rfl) Try.underlying9 rfl) ?_
  try simp only [zP,zN,zA,zB,zC]
  refine pu_ (v := .bool true) (y_run (by rfl) (fun W => by go_simp)) ?_
  try simp only [zP,zN,zA,zB,zC]
  refine pu_ (v := .bool true) (y_move rfl (by rfl) (by rfl)) ?_
  try simp only [zP,zN,zA,zB,zC]
  refine pu_ (v := .pointer (some ⟨g12, 1, none⟩)) (y_run (by rfl) (fun W => by go_simp)) ?_
  try simp only [zP,zN,zA,zB,zC]
  refine ld_ (v := .string s2) rfl (by rfl) (by rfl) (run_load_one ((Fg12.out.cell 1).trans rfl) Try.underlying9 rfl) ?_
  try simp only [zP,zN,zA,zB,zC]
  refine pu_ (v := .pointer (some ⟨g24, 1, none⟩)) (y_run (by rfl) (fun W => by go_simp)) ?_
  try simp only [zP,zN,zA,zB,zC]
  refine ld_ (v := .string s2) rfl (by rfl) (by rfl) (run_load_one ((Fg24.out.cell 1).trans rfl) Try.underlying9 rfl) ?_
  try simp only [zP,zN,zA,zB,zC]
  refine pu_ (v := .bool true) (y_run (by rfl) (fun W => by go_simp)) ?_
  try simp only [zP,zN,zA,zB,zC]
  refine pu_ (v := .bool true) (y_pick (t := true) (by rfl) rfl (by rfl) (by rfl)) ?_
  try simp only [zP,zN,zA,zB,zC]
  refine pu_ (v := .bool true) (y_move rfl (by rfl) (by rfl)) ?_
  try simp only [zP,zN,zA,zB,zC]
  refine pu_ (v := .pointer (some ⟨g12, 2, none⟩)) (y_run (by rfl) (fun W => by go_simp)) ?_
  try simp only [zP,zN,zA,zB,zC]
  refine ld_ (v := .agg #[.int .i64 r0, .int .i64 r1, .int .i64 r2]) rfl (by rfl) (by rfl) (run_loadVar_at (cs := [.int .i64 r0, .int .i64 r1, .int .i64 r2]) (cells_part Fg12.out 2 (by rfl)) Try.underlying23 rfl (by kernel_rfl)) ?_
  try simp only [zP,zN,zA,zB,zC]
  refine pu_ (v := .pointer (some ⟨g24, 2, none⟩)) (y_run (by rfl) (fun W => by go_simp)) ?_
  try simp only [zP,zN,zA,zB,zC]
  refine ld_ (v := .agg #[.int .i64 r0, .int .i64 r1, .int .i64 r2]) rfl (by rfl) (by rfl) (run_loadVar_at (cs := [.int .i64 r0, .int .i64 r1, .int .i64 r2]) (cells_part Fg24.out 2 (by rfl)) Try.underlying23 rfl (by kernel_rfl)) ?_
  try simp only [zP,zN,zA,zB,zC]
  refine pu_ (v := .bool true) (y_run (by rfl) (fun W => by go_simp)) ?_
  try simp only [zP,zN,zA,zB,zC]
  refine pu_ (v := .bool true) (y_pick (t := true) (by rfl) rfl (by rfl) (by rfl)) ?_
  try simp only [zP,zN,zA,zB,zC]
  refine pu_ (v := .bool true) (y_move rfl (by rfl) (by rfl)) ?_
  try simp only [zP,zN,zA,zB,zC]
  refine pu_ (v := .pointer (some ⟨g12, 5, none⟩)) (y_run (by rfl) (fun W => by go_simp)) ?_
  try simp only [zP,zN,zA,zB,zC]
  refine ld_ (v := .agg #[.int .i64 r3, .int .i64 r4, .int .i64 r5]) rfl (by rfl) (by rfl) (run_loadVar_at (cs := [.int .i64 r3, .int .i64 r4, .int .i64 r5]) (cells_part Fg12.out 5 (by rfl)) Try.underlying23 rfl (by kernel_rfl)) ?_
  try simp only [zP,zN,zA,zB,zC]
  refine pu_ (v := .pointer (some ⟨g24, 5, none⟩)) (y_run (by rfl) (fun W => by go_simp)) ?_
  try simp only [zP,zN,zA,zB,zC]
  refine ld_ (v := .agg #[.int .i64 r3, .int .i64 r4, .int .i64 r5]) rfl (by rfl) (by rfl) (run_loadVar_at (cs := [.int .i64 r3, .int .i64 r4, .int .i64 r5]) (cells_part Fg24.out 5 (by rfl)) Try.underlying23 rfl (by kernel_rfl)) ?_
  try simp only [zP,zN,zA,zB,zC]
  refine pu_ (v := .bool true) (y_run (by rfl) (fun W => by go_simp)) ?_
  try simp only [zP,zN,zA,zB,zC]
  refine pu_ (v := .bool true) (y_pick (t := true) (by rfl) rfl (by rfl) (by rfl)) ?_
  try simp only [zP,zN,zA,zB,zC]
  refine pu_ (v := .bool true) (y_move rfl (by rfl) (by rfl)) ?_
  try simp only [zP,zN,zA,zB,zC]
  refine pu_ (v := .pointer (some ⟨g12, 8, none⟩)) (y_run (by rfl) (fun W => by go_simp)) ?_
  try simp only [zP,zN,zA,zB,zC]
  refine ld_ (v := .slice B M.length d) rfl (by rfl) (by rfl) (run_load_one ((Fg12.out.cell 8).trans rfl) Try.underlying51 rfl) ?_
  try simp only [zP,zN,zA,zB,zC]
  refine pu_ (v := .pointer (some ⟨g24, 8, none⟩)) (y_run (by rfl) (fun W => by go_simp)) ?_
  try simp only [zP,zN,zA,zB,zC]
  refine ld_ (v := .slice B M.length d) rfl (by rfl) (by rfl) (run_load_one ((Fg24.out.cell 8).trans rfl) Try.underlying51 rfl) ?_
  try simp only [zP,zN,zA,zB,zC]
  refine ef_ (fun K35 hK35 => ?_)
  refine e_call Try.func29 (by kernel_rfl) rfl #[.slice B M.length d, .slice B M.length d] (by rfl) rfl rfl (mp2 rfl rfl) ((same_ (A := B) (B := B) (c := d) (d := d) (M := M) HMM (qh (HSM.out.chx C0.out xnin_nil)) (qh (HSM.out.chx C0.out xnin_nil)))) ?_
  rintro en w37 ⟨rfl, cc36⟩
  refine ⟨_, rfl, ?_⟩
  replace C0 := qh (C0.out.trans' cc36 inw_nil)
  replace Fg12 := qh (cc36.blk Fg12.out nin_nil)
  replace Fg24 := qh (cc36.blk Fg24.out nin_nil)
  clear cc36
  refine hK35 _ _ ?_; clear hK35 K35
  try simp only [zP,zN,zA,zB,zC]
  refine pu_ (v := .bool true) (y_pick (t := true) (by rfl) rfl (by rfl) (by rfl)) ?_
  try simp only [zP,zN,zA,zB,zC]
  refine pu_ (v := .bool true) (y_move rfl (by rfl) (by rfl)) ?_
  try simp only [zP,zN,zA,zB,zC]
  refine pu_ (v := .pointer (some ⟨g12, 9, none⟩)) (y_run (by rfl) (fun W => by go_simp)) ?_
  try simp only [zP,zN,zA,zB,zC]
  refine ld_ (v := .agg #[.int .i64 p0, .int .i64 p1]) rfl (by rfl) (by rfl) (run_loadVar_at (cs := [.int .i64 p0, .int .i64 p1]) (cells_part Fg12.out 9 (by rfl)) Try.underlying69 rfl (by kernel_rfl)) ?_
  try simp only [zP,zN,zA,zB,zC]
  refine pu_ (v := .pointer (some ⟨g24, 9, none⟩)) (y_run (by rfl) (fun W => by go_simp)) ?_
  try simp only [zP,zN,zA,zB,zC]
  refine ld_ (v := .agg #[.int .i64 p0, .int .i64 p1]) rfl (by rfl) (by rfl) (run_loadVar_at (cs := [.int .i64 p0, .int .i64 p1]) (cells_part Fg24.out 9 (by rfl)) Try.underlying69 rfl (by kernel_rfl)) ?_
  try simp only [zP,zN,zA,zB,zC]
  refine pu_ (v := .bool true) (y_run (by rfl) (fun W => by go_simp)) ?_
  try simp only [zP,zN,zA,zB,zC]
  refine pu_ (v := .bool true) (y_pick (t := true) (by rfl) rfl (by rfl) (by rfl)) ?_
  try simp only [zP,zN,zA,zB,zC]
  refine pu_ (v := .bool true) (y_assign rfl (by rfl) (by rfl)) ?_
  try simp only [zP,zN,zA,zB,zC]
  refine nl_ ?_
  refine ib_norm ?_
  refine th_norm (hK9 _ _ ?_); try clear hK9 K9
  refine r_ ?_
  refine pu_ (v := .int .i64 k) (y_move rfl (by rfl) (by rfl)) ?_
  try simp only [zP,zN,zA,zB,zC]
  refine pu_ (v := .int .i64 (k + 1 : Nat)) (y_run (by rfl) (fun W => by have d := Wk.out; go_simp)) ?_
  try simp only [zP,zN,zA,zB,zC]
  refine pu_ (v := .int .i64 (k + 1 : Nat)) (y_assign rfl (by rfl) (by rfl)) ?_
  try simp only [zP,zN,zA,zB,zC]
  refine nl_ ?_
  exact th_norm (hK6 (kq - 1) _ _ (by have := hlt.out; have := hk.out; omega) ⟨k + 1, rfl, C0, qh ⟨by have := hlt.out; omega, by have := hlt.out; have := hk.out; omega⟩⟩)
 ·have D19 := qh (show ¬ (k : Int) < (n : Int) by have := hk.out; omega)
  clear h
  refine s_ (fun K38 hK38 => ?_)
  refine pu_ (v := .bool true) (y_move rfl (by rfl) (by rfl)) ?_
  try simp only [zP,zN,zA,zB,zC]
  refine pu_ (v := .bool true) (y_move rfl (by rfl) (by rfl)) ?_
  try simp only [zP,zN,zA,zB,zC]
  refine pu_ (v := .int .i64 k) (y_move rfl (by rfl) (by rfl)) ?_
  try simp only [zP,zN,zA,zB,zC]
  refine pu_ (v := .slice A n c) (y_move rfl (by rfl) (by rfl)) ?_
  try simp only [zP,zN,zA,zB,zC]
  refine pu_ (v := .int .i64 n) (y_run (by rfl) (fun W => by go_simp)) ?_
  try simp only [zP,zN,zA,zB,zC]
  refine pu_ (v := .bool false) (y_run (by rfl) (fun W => by have d := D19.out; go_simp)) ?_
  try simp only [zP,zN,zA,zB,zC]
  refine pu_ (v := .bool false) (y_pick (t := true) (by rfl) rfl (by rfl) (by rfl)) ?_
  try simp only [zP,zN,zA,zB,zC]
  refine pu_ (v := .bool false) (y_move rfl (by rfl) (by rfl)) ?_
  try simp only [zP,zN,zA,zB,zC]
  refine pu_ (y_off (by rfl)) ?_
  try simp only [zP,zN,zA,zB,zC]
  refine pu_ (y_off (by rfl)) ?_
  try simp only [zP,zN,zA,zB,zC]
  refine pu_ (y_off (by rfl)) ?_
  try simp only [zP,zN,zA,zB,zC]
  refine pu_ (y_off (by rfl)) ?_
  try simp only [zP,zN,zA,zB,zC]
  refine pu_ (v := .bool false) (y_pick (t := false) (by rfl) rfl (by rfl) (by rfl)) ?_
  try simp only [zP,zN,zA,zB,zC]
  refine nl_ (hK38 _ _ ?_); clear hK38 K38
  refine wp_cond_false rfl ?_
  refine wp_exit ?_
  refine th_exit ?_
  refine th_exit ?_
  refine ib_exit ?_
  refine th_norm (hK3 _ _ ?_); try clear hK3 K3
  refine s_ (fun K39 hK39 => ?_)
  refine pu_ (v := .bool true) (y_move rfl (by rfl) (by rfl)) ?_
  try simp only [zP,zN,zA,zB,zC]
  refine pu_ (v := .bool true) (y_assign rfl (by rfl) (by rfl)) ?_
  try simp only [zP,zN,zA,zB,zC]
  refine nl_ (hK39 _ _ ?_); clear hK39 K39
  refine wp_ret ?_
  refine hQ _ _ _ ?_
  refine bodyPost_ret (res1 rfl (rdv_tmp (v := .bool true) (by rfl))) rfl ?_
  exact ⟨rfl, C0.out⟩
end
theorem Rd.slice3 {w : World} {T e : TypeId} {cs : List Value} (ht : Try.prog.underlying T = some (.slice e)) (h : Rd w T cs) : ∃ A len cap, cs = [.slice A len cap] ∧ len ≤ 9223372036854775807 ∧ (A = none → len = 0 ∧ cap = 0) ∧ ∀ i, i < len → ∃ a c, A = some a ∧ c.length = Try.prog.cellsOf e ∧ Rd w e c ∧ CellsAt w (a.add (i * Try.prog.cellsOf e)) c := by
 obtain ⟨H, enc, base, spare, held, fuel, x, h⟩ := h
 rcases Go.Deep.open_slice ht h with ⟨hcs, _⟩ | ⟨a, len, cap, m, n, D, Pl, hcs, _, hl, hm, hmm, _, hel⟩
 ·exact ⟨none, 0, 0, hcs, by omega, fun _ => ⟨rfl, rfl⟩, fun i hi => absurd hi (by omega)⟩
 ·refine ⟨some a, len, cap, hcs, by unfold maxLen at hm; omega, (fun h => by cases h), fun i hi => ?_⟩
  obtain ⟨cs', hc, htr⟩ := hel i (by rw [hmm]; split <;> omega)
  obtain ⟨_, hlen, hat⟩ := World.cells?_some hc
  exact ⟨a, cs', rfl, hlen, ⟨H, enc, base, spare, held, n, _, htr⟩, fun j u hu => by
   have hj : j < cs'.length := (List.getElem?_eq_some_iff.1 hu).1
   rw [hat j (by omega), hu]⟩
theorem lab_of2 {w : World} {cs : List Value} (h : Rd w 36 cs) : ∃ A n c f1 f2, cs = [.slice A n c] ∧ n ≤ 9223372036854775807 ∧ labF w A n f1 f2 := by
 obtain ⟨A, n, c, rfl, hm, _, _⟩ := h.slice3 Try.underlying36
 obtain ⟨A', n', c', f1, f2, he, hl⟩ := lab_of h
 injection he with he _
 injection he with h1 h2 h3
 subst h1 h2 h3
 exact ⟨_, _, _, f1, f2, rfl, hm, hl⟩
theorem ints_of {w : World} {cs : List Value} (h : Rd w 51 cs) : ∃ (B : Option Addr) (d : Nat) (M : List Int), cs = [.slice B M.length d] ∧ M.length ≤ 9223372036854775807 ∧ SrcIs w (.slice B M.length d) M.length (M.map (Value.int .i64)) 1 := by
 obtain ⟨A, n, c, rfl, hm, hz, hel⟩ := h.slice3 Try.underlying51
 cases A with
 | none =>
  obtain ⟨rfl, rfl⟩ := hz rfl
  exact ⟨none, 0, [], rfl, by simp, ⟨rfl, .inl ⟨rfl, rfl⟩⟩⟩
 | some a =>
  have hex : ∀ i, ∃ x : Int, i < n → CellsAt w (a.add i) [.int .i64 x] := by
   intro i
   by_cases hi : i < n
   ·obtain ⟨a', c', ha, hl, hr, hc⟩ := hel i hi
    injection ha with ha
    subst ha
    rw [show Try.prog.cellsOf 3 = 1 by kernel_rfl, Nat.mul_one] at hc
    obtain ⟨x, rfl⟩ := hr.int Try.underlying3
    exact ⟨x, fun _ => hc⟩
   ·exact ⟨0, fun h => absurd h hi⟩
  obtain ⟨f, hf⟩ := Classical.axiomOfChoice hex
  have hlen : ((List.range n).map f).length = n := by simp
  refine ⟨some a, c, (List.range n).map f, by rw [hlen], by rw [hlen]; exact hm, ⟨by simp, .inr ⟨a, c, rfl, fun j u hu => ?_⟩⟩⟩
  have hj : j < n := by
   have := (List.getElem?_eq_some_iff.1 hu).1
   simpa using this
  rw [List.getElem?_map, List.getElem?_map, List.getElem?_range hj] at hu
  have := hf j hj 0 _ rfl
  rw [Go.Deep.add_add] at this
  rw [← hu]
  simpa using this
theorem conG_of {w : World} {cs : List Value} (h : Rd w 37 cs) : ∃ A n c, cs = [.slice A n c] ∧ n ≤ 9223372036854775807 ∧ conG w A n := by
 obtain ⟨A, n, c, rfl, hm, _, hel⟩ := h.slice3 Try.underlying37
 refine ⟨A, n, c, rfl, hm, fun i hi => ?_⟩
 obtain ⟨a, c', rfl, hl, hr, hc⟩ := hel i hi
 rw [show Try.prog.cellsOf 71 = 11 by kernel_rfl] at hl hc
 obtain ⟨y0, y1, y2, y3, y4, y5, y6, y7, y8, y9, y10, rfl⟩ := list11 hl
 obtain ⟨_, hf⟩ := hr.struct Try.underlying71
 obtain ⟨s1, e1⟩ := (fld hf 0 9 0 1 rfl z3).str Try.underlying9
 obtain ⟨s2, e2⟩ := (fld hf 1 9 1 1 rfl z3).str Try.underlying9
 obtain ⟨l1, g1⟩ := (fld hf 2 23 2 3 rfl z13).struct Try.underlying23
 obtain ⟨l2, g2⟩ := (fld hf 3 23 5 3 rfl z13).struct Try.underlying23
 obtain ⟨r0, q0⟩ := (fld g1 0 3 0 1 rfl z1).int Try.underlying3
 obtain ⟨r1, q1⟩ := (fld g1 1 3 1 1 rfl z1).int Try.underlying3
 obtain ⟨r2, q2⟩ := (fld g1 2 3 2 1 rfl z1).int Try.underlying3
 obtain ⟨r3, q3⟩ := (fld g2 0 3 0 1 rfl z1).int Try.underlying3
 obtain ⟨r4, q4⟩ := (fld g2 1 3 1 1 rfl z1).int Try.underlying3
 obtain ⟨r5, q5⟩ := (fld g2 2 3 2 1 rfl z1).int Try.underlying3
 obtain ⟨B, d, M, e3, hM, hS⟩ := ints_of (fld hf 4 51 8 1 rfl z12)
 obtain ⟨lp, gp⟩ := (fld hf 5 69 9 2 rfl (by kernel_rfl)).struct Try.underlying69
 obtain ⟨p0, e4⟩ := (fld gp 0 3 0 1 rfl z1).int Try.underlying3
 obtain ⟨p1, e5⟩ := (fld gp 1 3 1 1 rfl z1).int Try.underlying3
 simp at e1 e2 e3 e4 e5 q0 q1 q2 q3 q4 q5
 subst e1 e2 e3 e4 e5 q0 q1 q2 q3 q4 q5
 exact ⟨a, s1, s2, r0, r1, r2, r3, r4, r5, B, d, M, p0, p1, rfl, hc, hM, hS⟩
theorem conG.below {w w' : World} {A : Option Addr} {n : Nat} (h : conG w A n) (hb : Below w.heap.size w w') : conG w' A n := fun i hi => by
 obtain ⟨a, s1, s2, r0, r1, r2, r3, r4, r5, B, d, M, p0, p1, hA, hc, hM, hS⟩ := h i hi
 exact ⟨a, s1, s2, r0, r1, r2, r3, r4, r5, B, d, M, p0, p1, hA, below_cells hb hc, hM, hS.chx (chB hb) xnin_nil⟩
theorem sameK_of {w : World} {A : Option Addr} {n c : Nat} (hn : n ≤ 9223372036854775807) (h : conG w A n) : SameK w A n c := fun w' hb => scon_ (qh hn) (qh (h.below hb))
theorem sameS_of {w : World} {cs : List Value} (h : Rd w 39 cs) : SameS w cs := by
 obtain ⟨hl, hf⟩ := h.struct Try.underlying39
 rw [show Try.prog.cellsOf 39 = 7 by kernel_rfl] at hl
 obtain ⟨y0, y1, y2, y3, y4, y5, y6, rfl⟩ := list7 hl
 obtain ⟨s, e0⟩ := (fld hf 0 9 0 1 rfl z3).str Try.underlying9
 obtain ⟨A1, n1, c1, f1, f2, e1, m1, k1⟩ := lab_of2 (fld hf 1 36 1 1 rfl z4)
 obtain ⟨A2, n2, c2, e2, m2, k2⟩ := conG_of (fld hf 2 37 2 1 rfl z11)
 obtain ⟨A3, n3, c3, e3, m3, k3⟩ := conG_of (fld hf 3 37 3 1 rfl z11)
 obtain ⟨q1, e4⟩ := (fld hf 4 3 4 1 rfl z1).int Try.underlying3
 obtain ⟨q2, e5⟩ := (fld hf 5 3 5 1 rfl z1).int Try.underlying3
 obtain ⟨q3, e6⟩ := (fld hf 6 3 6 1 rfl z1).int Try.underlying3
 simp at e0 e1 e2 e3 e4 e5 e6
 subst e0 e1 e2 e3 e4 e5 e6
 intro w' hb
 refine sspec_ (qh ?_) (qh ?_) (qh m1) (qh (k1.below hb))
 ·intro w2 hb2
  exact sameK_of m2 k2 w2 (hb.trans (hb2.mono (hb.size)))
 ·intro w2 hb2
  exact sameK_of m3 k3 w2 (hb.trans (hb2.mono (hb.size)))

end Go.Proofs.Ytmoelehhofmhcaa.V
