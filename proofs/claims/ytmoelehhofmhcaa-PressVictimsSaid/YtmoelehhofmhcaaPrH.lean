/- The walks of LightSpec: whatever a spec is, there is an answer. -/
import Derived.Test.YtmoelehhofmhcaaPrG
namespace Go.Proofs.Ytmoelehhofmhcaa.V
open Go Go.RowKit Go.Proofs.Ytmoelehhofmhcaa.K Go.Proofs.YtmoelehhofmhcaaW.PrintLast
set_option linter.unusedVariables false
set_option linter.unusedSimpArgs false
set_option maxRecDepth 100000
set_option maxHeartbeats 1600000
section
variable {w : World}
/-- Containers that are not too much. -/
def conP (n : Nat) (f1 f2 : Nat → ByteArray) (m : Nat → Nat) : Prop := ∀ i, i < n → (f1 i).size ≤ 100 ∧ (f2 i).size ≤ 100 ∧ m i ≤ 10
theorem con_ways (f1 f2 : Nat → ByteArray) (m : Nat → Nat) (n k : Nat) (h : k ≤ n) : (k < n ∧ ((f1 k).size > 100 ∨ ((f1 k).size ≤ 100 ∧ (f2 k).size > 100) ∨ ((f1 k).size ≤ 100 ∧ (f2 k).size ≤ 100 ∧ m k > 10) ∨ ((f1 k).size ≤ 100 ∧ (f2 k).size ≤ 100 ∧ m k ≤ 10))) ∨ k = n := by omega
def labP (n : Nat) (f1 f2 : Nat → ByteArray) : Prop := ∀ i, i < n → (f1 i).size ≤ 100 ∧ (f2 i).size ≤ 100
theorem lab_ways (f1 f2 : Nat → ByteArray) (n k : Nat) (h : k ≤ n) : (k < n ∧ ((f1 k).size > 100 ∨ ((f1 k).size ≤ 100 ∧ (f2 k).size > 100) ∨ ((f1 k).size ≤ 100 ∧ (f2 k).size ≤ 100))) ∨ k = n := by omega
theorem head_ways (s n1 n2 n3 : Nat) : s > 100 ∨ (s ≤ 100 ∧ n1 > 10) ∨ (s ≤ 100 ∧ n1 ≤ 10 ∧ n2 > 8) ∨ (s ≤ 100 ∧ n1 ≤ 10 ∧ n2 ≤ 8 ∧ n3 > 8) ∨ (s ≤ 100 ∧ n1 ≤ 10 ∧ n2 ≤ 8 ∧ n3 ≤ 8) := by omega
theorem lightCon_ {A : Option Addr} {n c : Nat} {f1 f2 : Nat → ByteArray} {m : Nat → Nat} (HN : Hid (n ≤ 8)) (HC : Hid (conF w A n f1 f2 m))  :
  Calls Try.prog 28 #[.slice A n c] w fun en w' => ∃ b, en = .returned (.bool b) ∧ (b = true ↔ conP n f1 f2 m) ∧ Ch [] w w' := by
 have C0 := qh (Ch.refl [] w)
 go_enter Try.func28, Try.ntmps28
 refine q_ (fun Q hQ hP => ?_)
 refine s_ (fun K1 hK1 => ?_)
 refine pu_ (v := .bool false) (y_assign rfl (by rfl) (by rfl)) ?_
 try simp only [zP,zN,zA,zB,zC]
 refine nl_ (hK1 _ _ ?_); clear hK1 K1
 refine sq_ (fun K2 hK2 => ?_)
 refine s_ (fun K3 hK3 => ?_)
 refine pu_ (v := .int .i64 0) (y_assign rfl (by rfl) (by rfl)) ?_
 try simp only [zP,zN,zA,zB,zC]
 refine nl_ (hK3 _ _ ?_); clear hK3 K3
 refine wp_block ?_
 refine loopk_ (fun (kq : Nat) (a' : Act) (w' : World) => ∃ (k : Nat), ∃ (us : Nat → Value), a' = ⟨#[.slice A n c, us 1, .bool false, .int .i64 k, us 4, us 5, us 6, us 7, us 8, us 9, us 10, us 11, us 12, us 13, us 14, us 15, us 16, us 17, us 18, us 19, us 20, us 21, us 22, us 23, us 24, us 25, us 26, us 27, us 28, us 29, us 30, us 31, us 32, us 33, us 34], []⟩ ∧ Hid (Ch [] w w') ∧ Hid (k ≤ n ∧ kq + k = n) ∧ Hid (conP k f1 f2 m)) (n) (⟨0, fun us_ => (#[.slice A n c, undef, .bool false, .int .i64 0, undef, undef, undef, undef, undef, undef, undef, undef, undef, undef, undef, undef, undef, undef, undef, undef, undef, undef, undef, undef, undef, undef, undef, undef, undef, undef, undef, undef, undef, undef, undef] : Array Value).getD us_ undef, rfl, C0, qh ⟨by omega, by omega⟩, qh (fun i h => absurd h (by omega))⟩) ?_
 rintro kq _ w4 ⟨k, us, rfl, C0, hk, hr⟩ K5 hK5
 refine sq_ (fun K6 hK6 => ?_)
 rcases con_ways f1 f2 m n k hk.out.1 with ⟨h1, h | h | h | h⟩ | h
 ·have hlt := qh h1
  have hc := qh h
  clear h h1
  obtain ⟨a, v2, v3, v4, v5, v6, v7, B, d, v9, v10, hA, hcl⟩ := HC.out k hlt.out
  subst hA
  have HCL := qh (below_cells C0.out.below0 hcl)
  clear hcl
  have D7 := qh (show (k : Int) < (n : Int) by have := hlt.out; omega)
  have Wk := qh (show IntKind.i64.wrap ((k : Int) + 1) = ((k + 1 : Nat) : Int) by rw [wr64 (by have := hlt.out; have := HN.out; omega)]; omega)
  have D16 := qh (show decide (((f1 k).size : Int) > 100) = true from decide_eq_true (by have := hc.out; omega))
  have HR := qh (show ¬ conP n f1 f2 m from fun h9 => by have h8 := h9 k hlt.out; have := hc.out; omega)
  refine s_ (fun K7 hK7 => ?_)
  refine pu_ (v := .int .i64 k) (y_move rfl (by rfl) (by rfl)) ?_
  try simp only [zP,zN,zA,zB,zC]
  refine pu_ (v := .slice (some a) n c) (y_move rfl (by rfl) (by rfl)) ?_
  try simp only [zP,zN,zA,zB,zC]
  refine pu_ (v := .int .i64 n) (y_run (by rfl) (fun W => by go_simp)) ?_
  try simp only [zP,zN,zA,zB,zC]
  refine pu_ (v := .bool true) (y_run (by rfl) (fun W => by have d := D7.out; go_simp)) ?_
  try simp only [zP,zN,zA,zB,zC]
  refine nl_ (hK7 _ _ ?_); clear hK7 K7
  refine wp_cond_true rfl ?_
  refine wp_skip ?_
  refine th_norm (hK6 _ _ ?_); try clear hK6 K6
  refine sq_ (fun K8 hK8 => ?_)
  refine wp_block ?_
  refine s_ (fun K9 hK9 => ?_)
  refine pu_ (v := .slice (some a) n c) (y_move rfl (by rfl) (by rfl)) ?_
  try simp only [zP,zN,zA,zB,zC]
  refine pu_ (v := .int .i64 k) (y_move rfl (by rfl) (by rfl)) ?_
  try simp only [zP,zN,zA,zB,zC]
  refine pu_ (v := .pointer (some (a.add (k * 11)))) (y_run (by rfl) (fun W => by have d := D7.out; go_simp)) ?_
  try simp only [zP,zN,zA,zB,zC]
  refine pu_ (v := .pointer (some (a.add (k * 11)))) (y_run (by rfl) (fun W => by go_simp)) ?_
  try simp only [zP,zN,zA,zB,zC]
  refine ld_ (v := .string (f1 k)) rfl (by rfl) (by rfl) (run_load_one ((by have h := HCL.out 0 _ rfl; simpa [Addr.add] using h)) Try.underlying9 rfl) ?_
  try simp only [zP,zN,zA,zB,zC]
  refine pu_ (v := .int .i64 (f1 k).size) (y_run (by rfl) (fun W => by go_simp)) ?_
  try simp only [zP,zN,zA,zB,zC]
  refine pu_ (v := .bool true) (y_run (by rfl) (fun W => by have d := D16.out; go_simp)) ?_
  try simp only [zP,zN,zA,zB,zC]
  refine pu_ (v := .bool true) (y_move rfl (by rfl) (by rfl)) ?_
  try simp only [zP,zN,zA,zB,zC]
  refine pu_ (y_off (by rfl)) ?_
  try simp only [zP,zN,zA,zB,zC]
  refine pu_ (y_off (by rfl)) ?_
  try simp only [zP,zN,zA,zB,zC]
  refine pu_ (y_off (by rfl)) ?_
  try simp only [zP,zN,zA,zB,zC]
  refine pu_ (y_off (by rfl)) ?_
  try simp only [zP,zN,zA,zB,zC]
  refine pu_ (y_off (by rfl)) ?_
  try simp only [zP,zN,zA,zB,zC]
  refine pu_ (y_off (by rfl)) ?_
  try simp only [zP,zN,zA,zB,zC]
  refine pu_ (y_off (by rfl)) ?_
  try simp only [zP,zN,zA,zB,zC]
  refine pu_ (v := .bool true) (y_pick (t := true) (by rfl) rfl (by rfl) (by rfl)) ?_
  try simp only [zP,zN,zA,zB,zC]
  refine pu_ (v := .bool true) (y_move rfl (by rfl) (by rfl)) ?_
  try simp only [zP,zN,zA,zB,zC]
  refine pu_ (y_off (by rfl)) ?_
  try simp only [zP,zN,zA,zB,zC]
  refine pu_ (y_off (by rfl)) ?_
  try simp only [zP,zN,zA,zB,zC]
  refine pu_ (y_off (by rfl)) ?_
  try simp only [zP,zN,zA,zB,zC]
  refine pu_ (y_off (by rfl)) ?_
  try simp only [zP,zN,zA,zB,zC]
  refine pu_ (y_off (by rfl)) ?_
  try simp only [zP,zN,zA,zB,zC]
  refine pu_ (y_off (by rfl)) ?_
  try simp only [zP,zN,zA,zB,zC]
  refine pu_ (y_off (by rfl)) ?_
  try simp only [zP,zN,zA,zB,zC]
  refine pu_ (v := .bool true) (y_pick (t := true) (by rfl) rfl (by rfl) (by rfl)) ?_
  try simp only [zP,zN,zA,zB,zC]
  refine nl_ (hK9 _ _ ?_); clear hK9 K9
  refine wp_cond_true rfl ?_
  refine s_ (fun K10 hK10 => ?_)
  refine pu_ (v := .bool false) (y_assign rfl (by rfl) (by rfl)) ?_
  try simp only [zP,zN,zA,zB,zC]
  refine nl_ (hK10 _ _ ?_); clear hK10 K10
  refine wp_ret ?_
  refine ib_ret ?_
  refine th_ret ?_
  refine th_ret ?_
  refine ib_ret ?_
  refine th_ret ?_
  refine hQ _ _ _ ?_
  refine bodyPost_ret (res1 rfl (rdv_tmp (v := .bool false) (by rfl))) rfl ?_
  exact ⟨_, rfl, ⟨fun h9 => absurd h9 (by decide), fun h9 => absurd h9 HR.out⟩, C0.out⟩
 ·have hlt := qh h1
  have hc := qh h
  clear h h1
  obtain ⟨a, v2, v3, v4, v5, v6, v7, B, d, v9, v10, hA, hcl⟩ := HC.out k hlt.out
  subst hA
  have HCL := qh (below_cells C0.out.below0 hcl)
  clear hcl
  have D7 := qh (show (k : Int) < (n : Int) by have := hlt.out; omega)
  have Wk := qh (show IntKind.i64.wrap ((k : Int) + 1) = ((k + 1 : Nat) : Int) by rw [wr64 (by have := hlt.out; have := HN.out; omega)]; omega)
  have D16 := qh (show decide (((f1 k).size : Int) > 100) = false from decide_eq_false (by have := hc.out; omega))
  have D24 := qh (show decide (((f2 k).size : Int) > 100) = true from decide_eq_true (by have := hc.out; omega))
  have HR := qh (show ¬ conP n f1 f2 m from fun h9 => by have h8 := h9 k hlt.out; have := hc.out; omega)
  refine s_ (fun K11 hK11 => ?_)
  refine pu_ (v := .int .i64 k) (y_move rfl (by rfl) (by rfl)) ?_
  try simp only [zP,zN,zA,zB,zC]
  refine pu_ (v := .slice (some a) n c) (y_move rfl (by rfl) (by rfl)) ?_
  try simp only [zP,zN,zA,zB,zC]
  refine pu_ (v := .int .i64 n) (y_run (by rfl) (fun W => by go_simp)) ?_
  try simp only [zP,zN,zA,zB,zC]
  refine pu_ (v := .bool true) (y_run (by rfl) (fun W => by have d := D7.out; go_simp)) ?_
  try simp only [zP,zN,zA,zB,zC]
  refine nl_ (hK11 _ _ ?_); clear hK11 K11
  refine wp_cond_true rfl ?_
  refine wp_skip ?_
  refine th_norm (hK6 _ _ ?_); try clear hK6 K6
  refine sq_ (fun K12 hK12 => ?_)
  refine wp_block ?_
  refine s_ (fun K13 hK13 => ?_)
  refine pu_ (v := .slice (some a) n c) (y_move rfl (by rfl) (by rfl)) ?_
  try simp only [zP,zN,zA,zB,zC]
  refine pu_ (v := .int .i64 k) (y_move rfl (by rfl) (by rfl)) ?_
  try simp only [zP,zN,zA,zB,zC]
  refine pu_ (v := .pointer (some (a.add (k * 11)))) (y_run (by rfl) (fun W => by have d := D7.out; go_simp)) ?_
  try simp only [zP,zN,zA,zB,zC]
  refine pu_ (v := .pointer (some (a.add (k * 11)))) (y_run (by rfl) (fun W => by go_simp)) ?_
  try simp only [zP,zN,zA,zB,zC]
  refine ld_ (v := .string (f1 k)) rfl (by rfl) (by rfl) (run_load_one ((by have h := HCL.out 0 _ rfl; simpa [Addr.add] using h)) Try.underlying9 rfl) ?_
  try simp only [zP,zN,zA,zB,zC]
  refine pu_ (v := .int .i64 (f1 k).size) (y_run (by rfl) (fun W => by go_simp)) ?_
  try simp only [zP,zN,zA,zB,zC]
  refine pu_ (v := .bool false) (y_run (by rfl) (fun W => by have d := D16.out; go_simp)) ?_
  try simp only [zP,zN,zA,zB,zC]
  refine pu_ (v := .bool false) (y_move rfl (by rfl) (by rfl)) ?_
  try simp only [zP,zN,zA,zB,zC]
  refine pu_ (v := .slice (some a) n c) (y_move rfl (by rfl) (by rfl)) ?_
  try simp only [zP,zN,zA,zB,zC]
  refine pu_ (v := .int .i64 k) (y_move rfl (by rfl) (by rfl)) ?_
  try simp only [zP,zN,zA,zB,zC]
  refine pu_ (v := .pointer (some (a.add (k * 11)))) (y_run (by rfl) (fun W => by have d := D7.out; go_simp)) ?_
  try simp only [zP,zN,zA,zB,zC]
  refine pu_ (v := .pointer (some ((a.add (k * 11)).add 1))) (y_run (by rfl) (fun W => by go_simp)) ?_
  try simp only [zP,zN,zA,zB,zC]
  refine ld_ (v := .string (f2 k)) rfl (by rfl) (by rfl) (run_load_one (HCL.out 1 _ rfl) Try.underlying9 rfl) ?_
  try simp only [zP,zN,zA,zB,zC]
  refine pu_ (v := .int .i64 (f2 k).size) (y_run (by rfl) (fun W => by go_simp)) ?_
  try simp only [zP,zN,zA,zB,zC]
  refine pu_ (v := .bool true) (y_run (by rfl) (fun W => by have d := D24.out; go_simp)) ?_
  try simp only [zP,zN,zA,zB,zC]
  refine pu_ (v := .bool true) (y_pick (t := false) (by rfl) rfl (by rfl) (by rfl)) ?_
  try simp only [zP,zN,zA,zB,zC]
  refine pu_ (v := .bool true) (y_move rfl (by rfl) (by rfl)) ?_
  try simp only [zP,zN,zA,zB,zC]
  refine pu_ (y_off (by rfl)) ?_
  try simp only [zP,zN,zA,zB,zC]
  refine pu_ (y_off (by rfl)) ?_
  try simp only [zP,zN,zA,zB,zC]
  refine pu_ (y_off (by rfl)) ?_
  try simp only [zP,zN,zA,zB,zC]
  refine pu_ (y_off (by rfl)) ?_
  try simp only [zP,zN,zA,zB,zC]
  refine pu_ (y_off (by rfl)) ?_
  try simp only [zP,zN,zA,zB,zC]
  refine pu_ (y_off (by rfl)) ?_
  try simp only [zP,zN,zA,zB,zC]
  refine pu_ (y_off (by rfl)) ?_
  try simp only [zP,zN,zA,zB,zC]
  refine pu_ (v := .bool true) (y_pick (t := true) (by rfl) rfl (by rfl) (by rfl)) ?_
  try simp only [zP,zN,zA,zB,zC]
  refine nl_ (hK13 _ _ ?_); clear hK13 K13
  refine wp_cond_true rfl ?_
  refine s_ (fun K14 hK14 => ?_)
  refine pu_ (v := .bool false) (y_assign rfl (by rfl) (by rfl)) ?_
  try simp only [zP,zN,zA,zB,zC]
  refine nl_ (hK14 _ _ ?_); clear hK14 K14
  refine wp_ret ?_
  refine ib_ret ?_
  refine th_ret ?_
  refine th_ret ?_
  refine ib_ret ?_
  refine th_ret ?_
  refine hQ _ _ _ ?_
  refine bodyPost_ret (res1 rfl (rdv_tmp (v := .bool false) (by rfl))) rfl ?_
  exact ⟨_, rfl, ⟨fun h9 => absurd h9 (by decide), fun h9 => absurd h9 HR.out⟩, C0.out⟩
 ·have hlt := qh h1
  have hc := qh h
  clear h h1
  obtain ⟨a, v2, v3, v4, v5, v6, v7, B, d, v9, v10, hA, hcl⟩ := HC.out k hlt.out
  subst hA
  have HCL := qh (below_cells C0.out.below0 hcl)
  clear hcl
  have D7 := qh (show (k : Int) < (n : Int) by have := hlt.out; omega)
  have Wk := qh (show IntKind.i64.wrap ((k : Int) + 1) = ((k + 1 : Nat) : Int) by rw [wr64 (by have := hlt.out; have := HN.out; omega)]; omega)
  have D16 := qh (show decide (((f1 k).size : Int) > 100) = false from decide_eq_false (by have := hc.out; omega))
  have D24 := qh (show decide (((f2 k).size : Int) > 100) = false from decide_eq_false (by have := hc.out; omega))
  have D33 := qh (show decide (((m k) : Int) > 10) = true from decide_eq_true (by have := hc.out; omega))
  have HR := qh (show ¬ conP n f1 f2 m from fun h9 => by have h8 := h9 k hlt.out; have := hc.out; omega)
  refine s_ (fun K15 hK15 => ?_)
  refine pu_ (v := .int .i64 k) (y_move rfl (by rfl) (by rfl)) ?_
  try simp only [zP,zN,zA,zB,zC]
  refine pu_ (v := .slice (some a) n c) (y_move rfl (by rfl) (by rfl)) ?_
  try simp only [zP,zN,zA,zB,zC]
  refine pu_ (v := .int .i64 n) (y_run (by rfl) (fun W => by go_simp)) ?_
  try simp only [zP,zN,zA,zB,zC]
  refine pu_ (v := .bool true) (y_run (by rfl) (fun W => by have d := D7.out; go_simp)) ?_
  try simp only [zP,zN,zA,zB,zC]
  refine nl_ (hK15 _ _ ?_); clear hK15 K15
  refine wp_cond_true rfl ?_
  refine wp_skip ?_
  refine th_norm (hK6 _ _ ?_); try clear hK6 K6
  refine sq_ (fun K16 hK16 => ?_)
  refine wp_block ?_
  refine s_ (fun K17 hK17 => ?_)
  refine pu_ (v := .slice (some a) n c) (y_move rfl (by rfl) (by rfl)) ?_
  try simp only [zP,zN,zA,zB,zC]
  refine pu_ (v := .int .i64 k) (y_move rfl (by rfl) (by rfl)) ?_
  try simp only [zP,zN,zA,zB,zC]
  refine pu_ (v := .pointer (some (a.add (k * 11)))) (y_run (by rfl) (fun W => by have d := D7.out; go_simp)) ?_
  try simp only [zP,zN,zA,zB,zC]
  refine pu_ (v := .pointer (some (a.add (k * 11)))) (y_run (by rfl) (fun W => by go_simp)) ?_
  try simp only [zP,zN,zA,zB,zC]
  refine ld_ (v := .string (f1 k)) rfl (by rfl) (by rfl) (run_load_one ((by have h := HCL.out 0 _ rfl; simpa [Addr.add] using h)) Try.underlying9 rfl) ?_
  try simp only [zP,zN,zA,zB,zC]
  refine pu_ (v := .int .i64 (f1 k).size) (y_run (by rfl) (fun W => by go_simp)) ?_
  try simp only [zP,zN,zA,zB,zC]
  refine pu_ (v := .bool false) (y_run (by rfl) (fun W => by have d := D16.out; go_simp)) ?_
  try simp only [zP,zN,zA,zB,zC]
  refine pu_ (v := .bool false) (y_move rfl (by rfl) (by rfl)) ?_
  try simp only [zP,zN,zA,zB,zC]
  refine pu_ (v := .slice (some a) n c) (y_move rfl (by rfl) (by rfl)) ?_
  try simp only [zP,zN,zA,zB,zC]
  refine pu_ (v := .int .i64 k) (y_move rfl (by rfl) (by rfl)) ?_
  try simp only [zP,zN,zA,zB,zC]
  refine pu_ (v := .pointer (some (a.add (k * 11)))) (y_run (by rfl) (fun W => by have d := D7.out; go_simp)) ?_
  try simp only [zP,zN,zA,zB,zC]
  refine pu_ (v := .pointer (some ((a.add (k * 11)).add 1))) (y_run (by rfl) (fun W => by go_simp)) ?_
  try simp only [zP,zN,zA,zB,zC]
  refine ld_ (v := .string (f2 k)) rfl (by rfl) (by rfl) (run_load_one (HCL.out 1 _ rfl) Try.underlying9 rfl) ?_
  try simp only [zP,zN,zA,zB,zC]
  refine pu_ (v := .int .i64 (f2 k).size) (y_run (by rfl) (fun W => by go_simp)) ?_
  try simp only [zP,zN,zA,zB,zC]
  refine pu_ (v := .bool false) (y_run (by rfl) (fun W => by have d := D24.out; go_simp)) ?_
  try simp only [zP,zN,zA,zB,zC]
  refine pu_ (v := .bool false) (y_pick (t := false) (by rfl) rfl (by rfl) (by rfl)) ?_
  try simp only [zP,zN,zA,zB,zC]
  refine pu_ (v := .bool false) (y_move rfl (by rfl) (by rfl)) ?_
  try simp only [zP,zN,zA,zB,zC]
  refine pu_ (v := .slice (some a) n c) (y_move rfl (by rfl) (by rfl)) ?_
  try simp only [zP,zN,zA,zB,zC]
  refine pu_ (v := .int .i64 k) (y_move rfl (by rfl) (by rfl)) ?_
  try simp only [zP,zN,zA,zB,zC]
  refine pu_ (v := .pointer (some (a.add (k * 11)))) (y_run (by rfl) (fun W => by have d := D7.out; go_simp)) ?_
  try simp only [zP,zN,zA,zB,zC]
  refine pu_ (v := .pointer (some ((a.add (k * 11)).add 8))) (y_run (by rfl) (fun W => by go_simp)) ?_
  try simp only [zP,zN,zA,zB,zC]
  refine ld_ (v := .slice B (m k) d) rfl (by rfl) (by rfl) (run_load_one (HCL.out 8 _ rfl) Try.underlying51 rfl) ?_
  try simp only [zP,zN,zA,zB,zC]
  refine pu_ (v := .int .i64 (m k)) (y_run (by rfl) (fun W => by go_simp)) ?_
  try simp only [zP,zN,zA,zB,zC]
  refine pu_ (v := .bool true) (y_run (by rfl) (fun W => by have d := D33.out; go_simp)) ?_
  try simp only [zP,zN,zA,zB,zC]
  refine pu_ (v := .bool true) (y_pick (t := false) (by rfl) rfl (by rfl) (by rfl)) ?_
  try simp only [zP,zN,zA,zB,zC]
  refine nl_ (hK17 _ _ ?_); clear hK17 K17
  refine wp_cond_true rfl ?_
  refine s_ (fun K18 hK18 => ?_)
  refine pu_ (v := .bool false) (y_assign rfl (by rfl) (by rfl)) ?_
  try simp only [zP,zN,zA,zB,zC]
  refine nl_ (hK18 _ _ ?_); clear hK18 K18
  refine wp_ret ?_
  refine ib_ret ?_
  refine th_ret ?_
  refine th_ret ?_
  refine ib_ret ?_
  refine th_ret ?_
  refine hQ _ _ _ ?_
  refine bodyPost_ret (res1 rfl (rdv_tmp (v := .bool false) (by rfl))) rfl ?_
  exact ⟨_, rfl, ⟨fun h9 => absurd h9 (by decide), fun h9 => absurd h9 HR.out⟩, C0.out⟩
 ·have hlt := qh h1
  have hc := qh h
  clear h h1
  obtain ⟨a, v2, v3, v4, v5, v6, v7, B, d, v9, v10, hA, hcl⟩ := HC.out k hlt.out
  subst hA
  have HCL := qh (below_cells C0.out.below0 hcl)
  clear hcl
  have D7 := qh (show (k : Int) < (n : Int) by have := hlt.out; omega)
  have Wk := qh (show IntKind.i64.wrap ((k : Int) + 1) = ((k + 1 : Nat) : Int) by rw [wr64 (by have := hlt.out; have := HN.out; omega)]; omega)
  have D16 := qh (show decide (((f1 k).size : Int) > 100) = false from decide_eq_false (by have := hc.out; omega))
  have D24 := qh (show decide (((f2 k).size : Int) > 100) = false from decide_eq_false (by have := hc.out; omega))
  have D33 := qh (show decide (((m k) : Int) > 10) = false from decide_eq_false (by have := hc.out; omega))
  refine s_ (fun K19 hK19 => ?_)
  refine pu_ (v := .int .i64 k) (y_move rfl (by rfl) (by rfl)) ?_
  try simp only [zP,zN,zA,zB,zC]
  refine pu_ (v := .slice (some a) n c) (y_move rfl (by rfl) (by rfl)) ?_
  try simp only [zP,zN,zA,zB,zC]
  refine pu_ (v := .int .i64 n) (y_run (by rfl) (fun W => by go_simp)) ?_
  try simp only [zP,zN,zA,zB,zC]
  refine pu_ (v := .bool true) (y_run (by rfl) (fun W => by have d := D7.out; go_simp)) ?_
  try simp only [zP,zN,zA,zB,zC]
  refine nl_ (hK19 _ _ ?_); clear hK19 K19
  refine wp_cond_true rfl ?_
  refine wp_skip ?_
  refine th_norm (hK6 _ _ ?_); try clear hK6 K6
  refine sq_ (fun K20 hK20 => ?_)
  refine wp_block ?_
  refine s_ (fun K21 hK21 => ?_)
  refine pu_ (v := .slice (some a) n c) (y_move rfl (by rfl) (by rfl)) ?_
  try simp only [zP,zN,zA,zB,zC]
  refine pu_ (v := .int .i64 k) (y_move rfl (by rfl) (by rfl)) ?_
  try simp only [zP,zN,zA,zB,zC]
  refine pu_ (v := .pointer (some (a.add (k * 11)))) (y_run (by rfl) (fun W => by have d := D7.out; go_simp)) ?_
  try simp only [zP,zN,zA,zB,zC]
  refine pu_ (v := .pointer (some (a.add (k * 11)))) (y_run (by rfl) (fun W => by go_simp)) ?_
  try simp only [zP,zN,zA,zB,zC]
  refine ld_ (v := .string (f1 k)) rfl (by rfl) (by rfl) (run_load_one ((by have h := HCL.out 0 _ rfl; simpa [Addr.add] using h)) Try.underlying9 rfl) ?_
  try simp only [zP,zN,zA,zB,zC]
  refine pu_ (v := .int .i64 (f1 k).size) (y_run (by rfl) (fun W => by go_simp)) ?_
  try simp only [zP,zN,zA,zB,zC]
  refine pu_ (v := .bool false) (y_run (by rfl) (fun W => by have d := D16.out; go_simp)) ?_
  try simp only [zP,zN,zA,zB,zC]
  refine pu_ (v := .bool false) (y_move rfl (by rfl) (by rfl)) ?_
  try simp only [zP,zN,zA,zB,zC]
  refine pu_ (v := .slice (some a) n c) (y_move rfl (by rfl) (by rfl)) ?_
  try simp only [zP,zN,zA,zB,zC]
  refine pu_ (v := .int .i64 k) (y_move rfl (by rfl) (by rfl)) ?_
  try simp only [zP,zN,zA,zB,zC]
  refine pu_ (v := .pointer (some (a.add (k * 11)))) (y_run (by rfl) (fun W => by have d := D7.out; go_simp)) ?_
  try simp only [zP,zN,zA,zB,zC]
  refine pu_ (v := .pointer (some ((a.add (k * 11)).add 1))) (y_run (by rfl) (fun W => by go_simp)) ?_
  try simp only [zP,zN,zA,zB,zC]
  refine ld_ (v := .string (f2 k)) rfl (by rfl) (by rfl) (run_load_one (HCL.out 1 _ rfl) Try.underlying9 rfl) ?_
  try simp only [zP,zN,zA,zB,zC]
  refine pu_ (v := .int .i64 (f2 k).size) (y_run (by rfl) (fun W => by go_simp)) ?_
  try simp only [zP,zN,zA,zB,zC]
  refine pu_ (v := .bool false) (y_run (by rfl) (fun W => by have d := D24.out; go_simp)) ?_
  try simp only [zP,zN,zA,zB,zC]
  refine pu_ (v := .bool false) (y_pick (t := false) (by rfl) rfl (by rfl) (by rfl)) ?_
  try simp only [zP,zN,zA,zB,zC]
  refine pu_ (v := .bool false) (y_move rfl (by rfl) (by rfl)) ?_
  try simp only [zP,zN,zA,zB,zC]
  refine pu_ (v := .slice (some a) n c) (y_move rfl (by rfl) (by rfl)) ?_
  try simp only [zP,zN,zA,zB,zC]
  refine pu_ (v := .int .i64 k) (y_move rfl (by rfl) (by rfl)) ?_
  try simp only [zP,zN,zA,zB,zC]
  refine pu_ (v := .pointer (some (a.add (k * 11)))) (y_run (by rfl) (fun W => by have d := D7.out; go_simp)) ?_
  try simp only [zP,zN,zA,zB,zC]
  refine pu_ (v := .pointer (some ((a.add (k * 11)).add 8))) (y_run (by rfl) (fun W => by go_simp)) ?_
  try simp only [zP,zN,zA,zB,zC]
  refine ld_ (v := .slice B (m k) d) rfl (by rfl) (by rfl) (run_load_one (HCL.out 8 _ rfl) Try.underlying51 rfl) ?_
  try simp only [zP,zN,zA,zB,zC]
  refine pu_ (v := .int .i64 (m k)) (y_run (by rfl) (fun W => by go_simp)) ?_
  try simp only [zP,zN,zA,zB,zC]
  refine pu_ (v := .bool false) (y_run (by rfl) (fun W => by have d := D33.out; go_simp)) ?_
  try simp only [zP,zN,zA,zB,zC]
  refine pu_ (v := .bool false) (y_pick (t := false) (by rfl) rfl (by rfl) (by rfl)) ?_
  try simp only [zP,zN,zA,zB,zC]
  refine nl_ (hK21 _ _ ?_); clear hK21 K21
  refine wp_cond_false rfl ?_
  refine wp_skip ?_
  refine ib_norm ?_
  refine th_norm (hK20 _ _ ?_); try clear hK20 K20
  refine r_ ?_
  refine pu_ (v := .int .i64 k) (y_move rfl (by rfl) (by rfl)) ?_
  try simp only [zP,zN,zA,zB,zC]
  refine pu_ (v := .int .i64 (k + 1 : Nat)) (y_run (by rfl) (fun W => by have d := Wk.out; go_simp)) ?_
  try simp only [zP,zN,zA,zB,zC]
  refine pu_ (v := .int .i64 (k + 1 : Nat)) (y_assign rfl (by rfl) (by rfl)) ?_
  try simp only [zP,zN,zA,zB,zC]
  refine nl_ ?_
  exact th_norm (hK5 (kq - 1) _ _ (by have := hlt.out; have := hk.out; omega) ⟨k + 1, fun us_ => (#[.slice (some a) n c, us 1, .bool false, .int .i64 (k + 1 : Nat), .int .i64 k, .slice (some a) n c, .int .i64 n, .bool true, .int .i64 k, .int .i64 (k + 1 : Nat), .slice (some a) n c, .int .i64 k, .pointer (some (a.add (k * 11))), .pointer (some (a.add (k * 11))), .string (f1 k), .int .i64 (f1 k).size, .bool false, .bool false, .slice (some a) n c, .int .i64 k, .pointer (some (a.add (k * 11))), .pointer (some ((a.add (k * 11)).add 1)), .string (f2 k), .int .i64 (f2 k).size, .bool false, .bool false, .bool false, .slice (some a) n c, .int .i64 k, .pointer (some (a.add (k * 11))), .pointer (some ((a.add (k * 11)).add 8)), .slice B (m k) d, .int .i64 (m k), .bool false, .bool false] : Array Value).getD us_ undef, rfl, C0, qh ⟨by have := hlt.out; omega, by have := hlt.out; have := hk.out; omega⟩, qh (fun i h9 => (Nat.lt_or_ge i k).elim (hr.out i) (fun h7 => by obtain rfl : i = k := (by omega); exact hc.out))⟩)
 ·have D7 := qh (show ¬ k < n by have := hk.out; omega)
  have HR := qh (show conP n f1 f2 m from by have h9 := hr.out; rw [h] at h9; exact h9)
  clear h
  refine s_ (fun K22 hK22 => ?_)
  refine pu_ (v := .int .i64 k) (y_move rfl (by rfl) (by rfl)) ?_
  try simp only [zP,zN,zA,zB,zC]
  refine pu_ (v := .slice A n c) (y_move rfl (by rfl) (by rfl)) ?_
  try simp only [zP,zN,zA,zB,zC]
  refine pu_ (v := .int .i64 n) (y_run (by rfl) (fun W => by go_simp)) ?_
  try simp only [zP,zN,zA,zB,zC]
  refine pu_ (v := .bool false) (y_run (by rfl) (fun W => by have d := D7.out; go_simp)) ?_
  try simp only [zP,zN,zA,zB,zC]
  refine nl_ (hK22 _ _ ?_); clear hK22 K22
  refine wp_cond_false rfl ?_
  refine wp_exit ?_
  refine th_exit ?_
  refine th_exit ?_
  refine ib_exit ?_
  refine th_norm (hK2 _ _ ?_); try clear hK2 K2
  refine s_ (fun K23 hK23 => ?_)
  refine pu_ (v := .bool true) (y_assign rfl (by rfl) (by rfl)) ?_
  try simp only [zP,zN,zA,zB,zC]
  refine nl_ (hK23 _ _ ?_); clear hK23 K23
  refine wp_ret ?_
  refine hQ _ _ _ ?_
  refine bodyPost_ret (res1 rfl (rdv_tmp (v := .bool true) (by rfl))) rfl ?_
  exact ⟨_, rfl, ⟨fun _ => HR.out, fun _ => rfl⟩, C0.out⟩
def specP (sn : ByteArray) (n1 : Nat) (f1 f2 : Nat → ByteArray) (n2 : Nat) (g1 g2 : Nat → ByteArray) (gm : Nat → Nat) (n3 : Nat) (h1 h2 : Nat → ByteArray) (hm : Nat → Nat) : Prop :=
 (sn.size ≤ 100 ∧ n1 ≤ 10 ∧ n2 ≤ 8 ∧ n3 ≤ 8) ∧ labP n1 f1 f2 ∧ conP n2 g1 g2 gm ∧ conP n3 h1 h2 hm
theorem two_em (p q : Prop) : ¬ p ∨ (p ∧ ¬ q) ∨ (p ∧ q) := by
 by_cases h : p <;> by_cases k : q <;> simp [h, k]
theorem lightSpec_ {sn : ByteArray} {A1 A2 A3 : Option Addr} {n1 c1 n2 c2 n3 c3 : Nat} {f1 f2 g1 g2 h1 h2 : Nat → ByteArray} {gm hm : Nat → Nat} {q1 q2 q3 : Int} (HL : Hid (labF w A1 n1 f1 f2)) (HC2 : Hid (conF w A2 n2 g1 g2 gm)) (HC3 : Hid (conF w A3 n3 h1 h2 hm))  :
  Calls Try.prog 21 #[.agg #[.string sn, .slice A1 n1 c1, .slice A2 n2 c2, .slice A3 n3 c3, .int .i64 q1, .int .i64 q2, .int .i64 q3]] w fun en w' => ∃ b, en = .returned (.bool b) ∧ (b = true ↔ specP sn n1 f1 f2 n2 g1 g2 gm n3 h1 h2 hm) ∧ Ch [] w w' := by
 have C0 := qh (Ch.refl [] w)
 go_enter Try.func21, Try.ntmps21
 refine q_ (fun Q hQ hP => ?_)
 refine s_ (fun K1 hK1 => ?_)
 refine ef_ (fun K2 hK2 => ?_)
 refine e_boxN (by rfl) rfl rfl (cs := #[.string sn, .slice A1 n1 c1, .slice A2 n2 c2, .slice A3 n3 c3, .int .i64 q1, .int .i64 q2, .int .i64 q3]) (v := .agg #[.string sn, .slice A1 n1 c1, .slice A2 n2 c2, .slice A3 n3 c3, .int .i64 q1, .int .i64 q2, .int .i64 q3]) (by rfl) rfl ?_
 rintro g3 w4 HG5 B6 C7
 have nw8 := qh (show w.heap.size ≤ g3 by have := C0.out.size; have := HG5.out; omega)
 replace C0 := qh (C0.out.trans' C7 inw_nil)
 have Fg3 := qh (show Blk w4 g3 (#[.string sn, .slice A1 n1 c1, .slice A2 n2 c2, .slice A3 n3 c3, .int .i64 q1, .int .i64 q2, .int .i64 q3]) 39 from B6); clear B6 C7
 refine hK2 _ _ ?_; clear hK2 K2
 try simp only [zP,zN,zA,zB,zC]
 refine pu_ (v := .bool false) (y_assign rfl (by rfl) (by rfl)) ?_
 try simp only [zP,zN,zA,zB,zC]
 refine nl_ (hK1 _ _ ?_); clear hK1 K1
 rcases head_ways sn.size n1 n2 n3 with h | h | h | h | h
 ·have hc := qh h
  clear h
  have D9 := qh (show decide ((sn.size : Int) > 100) = true from decide_eq_true (by have := hc.out; omega))
  have HR := qh (show ¬ specP sn n1 f1 f2 n2 g1 g2 gm n3 h1 h2 hm from fun h9 => by have h8 := h9.1; have := hc.out; omega)
  refine s_ (fun K9 hK9 => ?_)
  refine pu_ (v := .pointer (some ⟨g3, 0, none⟩)) (y_run (by rfl) (fun W => by go_simp)) ?_
  try simp only [zP,zN,zA,zB,zC]
  refine ld_ (v := .string sn) rfl (by rfl) (by rfl) (run_load_one ((Fg3.out.cell 0).trans rfl) Try.underlying9 rfl) ?_
  try simp only [zP,zN,zA,zB,zC]
  refine pu_ (v := .int .i64 sn.size) (y_run (by rfl) (fun W => by go_simp)) ?_
  try simp only [zP,zN,zA,zB,zC]
  refine pu_ (v := .int .i64 sn.size) (y_assign rfl (by rfl) (by rfl)) ?_
  try simp only [zP,zN,zA,zB,zC]
  refine nl_ (hK9 _ _ ?_); clear hK9 K9
  refine sq_ (fun K10 hK10 => ?_)
  refine s_ (fun K11 hK11 => ?_)
  refine pu_ (v := .int .i64 sn.size) (y_move rfl (by rfl) (by rfl)) ?_
  try simp only [zP,zN,zA,zB,zC]
  refine pu_ (v := .bool true) (y_run (by rfl) (fun W => by have d := D9.out; go_simp)) ?_
  try simp only [zP,zN,zA,zB,zC]
  refine pu_ (v := .bool true) (y_move rfl (by rfl) (by rfl)) ?_
  try simp only [zP,zN,zA,zB,zC]
  refine pu_ (y_off (by rfl)) ?_
  try simp only [zP,zN,zA,zB,zC]
  refine pu_ (y_off (by rfl)) ?_
  try simp only [zP,zN,zA,zB,zC]
  refine pu_ (y_off (by rfl)) ?_
  try simp only [zP,zN,zA,zB,zC]
  refine pu_ (y_off (by rfl)) ?_
  try simp only [zP,zN,zA,zB,zC]
  refine pu_ (v := .bool true) (y_pick (t := true) (by rfl) rfl (by rfl) (by rfl)) ?_
  try simp only [zP,zN,zA,zB,zC]
  refine pu_ (v := .bool true) (y_move rfl (by rfl) (by rfl)) ?_
  try simp only [zP,zN,zA,zB,zC]
  refine pu_ (y_off (by rfl)) ?_
  try simp only [zP,zN,zA,zB,zC]
  refine pu_ (y_off (by rfl)) ?_
  try simp only [zP,zN,zA,zB,zC]
  refine pu_ (y_off (by rfl)) ?_
  try simp only [zP,zN,zA,zB,zC]
  refine pu_ (y_off (by rfl)) ?_
  try simp only [zP,zN,zA,zB,zC]
  refine pu_ (v := .bool true) (y_pick (t := true) (by rfl) rfl (by rfl) (by rfl)) ?_
  try simp only [zP,zN,zA,zB,zC]
  refine pu_ (v := .bool true) (y_move rfl (by rfl) (by rfl)) ?_
  try simp only [zP,zN,zA,zB,zC]
  refine pu_ (y_off (by rfl)) ?_
  try simp only [zP,zN,zA,zB,zC]
  refine pu_ (y_off (by rfl)) ?_
  try simp only [zP,zN,zA,zB,zC]
  refine pu_ (y_off (by rfl)) ?_
  try simp only [zP,zN,zA,zB,zC]
  refine pu_ (y_off (by rfl)) ?_
  try simp only [zP,zN,zA,zB,zC]
  refine pu_ (v := .bool true) (y_pick (t := true) (by rfl) rfl (by rfl) (by rfl)) ?_
  try simp only [zP,zN,zA,zB,zC]
  refine nl_ (hK11 _ _ ?_); clear hK11 K11
  refine wp_cond_true rfl ?_
  refine s_ (fun K12 hK12 => ?_)
  refine pu_ (v := .bool false) (y_assign rfl (by rfl) (by rfl)) ?_
  try simp only [zP,zN,zA,zB,zC]
  refine nl_ (hK12 _ _ ?_); clear hK12 K12
  refine wp_ret ?_
  refine th_ret ?_
  refine hQ _ _ _ ?_
  refine bodyPost_ret (res1 rfl (rdv_tmp (v := .bool false) (by rfl))) rfl ?_
  exact ⟨_, rfl, ⟨fun h9 => absurd h9 (by decide), fun h9 => absurd h9 HR.out⟩, C0.out⟩
 ·have hc := qh h
  clear h
  have D9 := qh (show decide ((sn.size : Int) > 100) = false from decide_eq_false (by have := hc.out; omega))
  have D14 := qh (show decide ((n1 : Int) > 10) = true from decide_eq_true (by have := hc.out; omega))
  have HR := qh (show ¬ specP sn n1 f1 f2 n2 g1 g2 gm n3 h1 h2 hm from fun h9 => by have h8 := h9.1; have := hc.out; omega)
  refine s_ (fun K13 hK13 => ?_)
  refine pu_ (v := .pointer (some ⟨g3, 0, none⟩)) (y_run (by rfl) (fun W => by go_simp)) ?_
  try simp only [zP,zN,zA,zB,zC]
  refine ld_ (v := .string sn) rfl (by rfl) (by rfl) (run_load_one ((Fg3.out.cell 0).trans rfl) Try.underlying9 rfl) ?_
  try simp only [zP,zN,zA,zB,zC]
  refine pu_ (v := .int .i64 sn.size) (y_run (by rfl) (fun W => by go_simp)) ?_
  try simp only [zP,zN,zA,zB,zC]
  refine pu_ (v := .int .i64 sn.size) (y_assign rfl (by rfl) (by rfl)) ?_
  try simp only [zP,zN,zA,zB,zC]
  refine nl_ (hK13 _ _ ?_); clear hK13 K13
  refine sq_ (fun K14 hK14 => ?_)
  refine s_ (fun K15 hK15 => ?_)
  refine pu_ (v := .int .i64 sn.size) (y_move rfl (by rfl) (by rfl)) ?_
  try simp only [zP,zN,zA,zB,zC]
  refine pu_ (v := .bool false) (y_run (by rfl) (fun W => by have d := D9.out; go_simp)) ?_
  try simp only [zP,zN,zA,zB,zC]
  refine pu_ (v := .bool false) (y_move rfl (by rfl) (by rfl)) ?_
  try simp only [zP,zN,zA,zB,zC]
  refine pu_ (v := .pointer (some ⟨g3, 1, none⟩)) (y_run (by rfl) (fun W => by go_simp)) ?_
  try simp only [zP,zN,zA,zB,zC]
  refine ld_ (v := .slice A1 n1 c1) rfl (by rfl) (by rfl) (run_load_one ((Fg3.out.cell 1).trans rfl) Try.underlying36 rfl) ?_
  try simp only [zP,zN,zA,zB,zC]
  refine pu_ (v := .int .i64 n1) (y_run (by rfl) (fun W => by go_simp)) ?_
  try simp only [zP,zN,zA,zB,zC]
  refine pu_ (v := .bool true) (y_run (by rfl) (fun W => by have d := D14.out; go_simp)) ?_
  try simp only [zP,zN,zA,zB,zC]
  refine pu_ (v := .bool true) (y_pick (t := false) (by rfl) rfl (by rfl) (by rfl)) ?_
  try simp only [zP,zN,zA,zB,zC]
  refine pu_ (v := .bool true) (y_move rfl (by rfl) (by rfl)) ?_
  try simp only [zP,zN,zA,zB,zC]
  refine pu_ (y_off (by rfl)) ?_
  try simp only [zP,zN,zA,zB,zC]
  refine pu_ (y_off (by rfl)) ?_
  try simp only [zP,zN,zA,zB,zC]
  refine pu_ (y_off (by rfl)) ?_
  try simp only [zP,zN,zA,zB,zC]
  refine pu_ (y_off (by rfl)) ?_
  try simp only [zP,zN,zA,zB,zC]
  refine pu_ (v := .bool true) (y_pick (t := true) (by rfl) rfl (by rfl) (by rfl)) ?_
  try simp only [zP,zN,zA,zB,zC]
  refine pu_ (v := .bool true) (y_move rfl (by rfl) (by rfl)) ?_
  try simp only [zP,zN,zA,zB,zC]
  refine pu_ (y_off (by rfl)) ?_
  try simp only [zP,zN,zA,zB,zC]
  refine pu_ (y_off (by rfl)) ?_
  try simp only [zP,zN,zA,zB,zC]
  refine pu_ (y_off (by rfl)) ?_
  try simp only [zP,zN,zA,zB,zC]
  refine pu_ (y_off (by rfl)) ?_
  try simp only [zP,zN,zA,zB,zC]
  refine pu_ (v := .bool true) (y_pick (t := true) (by rfl) rfl (by rfl) (by rfl)) ?_
  try simp only [zP,zN,zA,zB,zC]
  refine nl_ (hK15 _ _ ?_); clear hK15 K15
  refine wp_cond_true rfl ?_
  refine s_ (fun K16 hK16 => ?_)
  refine pu_ (v := .bool false) (y_assign rfl (by rfl) (by rfl)) ?_
  try simp only [zP,zN,zA,zB,zC]
  refine nl_ (hK16 _ _ ?_); clear hK16 K16
  refine wp_ret ?_
  refine th_ret ?_
  refine hQ _ _ _ ?_
  refine bodyPost_ret (res1 rfl (rdv_tmp (v := .bool false) (by rfl))) rfl ?_
  exact ⟨_, rfl, ⟨fun h9 => absurd h9 (by decide), fun h9 => absurd h9 HR.out⟩, C0.out⟩
 ·have hc := qh h
  clear h
  have D9 := qh (show decide ((sn.size : Int) > 100) = false from decide_eq_false (by have := hc.out; omega))
  have D14 := qh (show decide ((n1 : Int) > 10) = false from decide_eq_false (by have := hc.out; omega))
  have D20 := qh (show decide ((n2 : Int) > 8) = true from decide_eq_true (by have := hc.out; omega))
  have HR := qh (show ¬ specP sn n1 f1 f2 n2 g1 g2 gm n3 h1 h2 hm from fun h9 => by have h8 := h9.1; have := hc.out; omega)
  refine s_ (fun K17 hK17 => ?_)
  refine pu_ (v := .pointer (some ⟨g3, 0, none⟩)) (y_run (by rfl) (fun W => by go_simp)) ?_
  try simp only [zP,zN,zA,zB,zC]
  refine ld_ (v := .string sn) rfl (by rfl) (by rfl) (run_load_one ((Fg3.out.cell 0).trans rfl) Try.underlying9 rfl) ?_
  try simp only [zP,zN,zA,zB,zC]
  refine pu_ (v := .int .i64 sn.size) (y_run (by rfl) (fun W => by go_simp)) ?_
  try simp only [zP,zN,zA,zB,zC]
  refine pu_ (v := .int .i64 sn.size) (y_assign rfl (by rfl) (by rfl)) ?_
  try simp only [zP,zN,zA,zB,zC]
  refine nl_ (hK17 _ _ ?_); clear hK17 K17
  refine sq_ (fun K18 hK18 => ?_)
  refine s_ (fun K19 hK19 => ?_)
  refine pu_ (v := .int .i64 sn.size) (y_move rfl (by rfl) (by rfl)) ?_
  try simp only [zP,zN,zA,zB,zC]
  refine pu_ (v := .bool false) (y_run (by rfl) (fun W => by have d := D9.out; go_simp)) ?_
  try simp only [zP,zN,zA,zB,zC]
  refine pu_ (v := .bool false) (y_move rfl (by rfl) (by rfl)) ?_
  try simp only [zP,zN,zA,zB,zC]
  refine pu_ (v := .pointer (some ⟨g3, 1, none⟩)) (y_run (by rfl) (fun W => by go_simp)) ?_
  try simp only [zP,zN,zA,zB,zC]
  refine ld_ (v := .slice A1 n1 c1) rfl (by rfl) (by rfl) (run_load_one ((Fg3.out.cell 1).trans rfl) Try.underlying36 rfl) ?_
  try simp only [zP,zN,zA,zB,zC]
  refine pu_ (v := .int .i64 n1) (y_run (by rfl) (fun W => by go_simp)) ?_
  try simp only [zP,zN,zA,zB,zC]
  refine pu_ (v := .bool false) (y_run (by rfl) (fun W => by have d := D14.out; go_simp)) ?_
  try simp only [zP,zN,zA,zB,zC]
  refine pu_ (v := .bool false) (y_pick (t := false) (by rfl) rfl (by rfl) (by rfl)) ?_
  try simp only [zP,zN,zA,zB,zC]
  refine pu_ (v := .bool false) (y_move rfl (by rfl) (by rfl)) ?_
  try simp only [zP,zN,zA,zB,zC]
  refine pu_ (v := .pointer (some ⟨g3, 2, none⟩)) (y_run (by rfl) (fun W => by go_simp)) ?_
  try simp only [zP,zN,zA,zB,zC]
  refine ld_ (v := .slice A2 n2 c2) rfl (by rfl) (by rfl) (run_load_one ((Fg3.out.cell 2).trans rfl) Try.underlying37 rfl) ?_
  try simp only [zP,zN,zA,zB,zC]
  refine pu_ (v := .int .i64 n2) (y_run (by rfl) (fun W => by go_simp)) ?_
  try simp only [zP,zN,zA,zB,zC]
  refine pu_ (v := .bool true) (y_run (by rfl) (fun W => by have d := D20.out; go_simp)) ?_
  try simp only [zP,zN,zA,zB,zC]
  refine pu_ (v := .bool true) (y_pick (t := false) (by rfl) rfl (by rfl) (by rfl)) ?_
  try simp only [zP,zN,zA,zB,zC]
  refine pu_ (v := .bool true) (y_move rfl (by rfl) (by rfl)) ?_
  try simp only [zP,zN,zA,zB,zC]
  refine pu_ (y_off (by rfl)) ?_
  try simp only [zP,zN,zA,zB,zC]
  refine pu_ (y_off (by rfl)) ?_
  try simp only [zP,zN,zA,zB,zC]
  refine pu_ (y_off (by rfl)) ?_
  try simp only [zP,zN,zA,zB,zC]
  refine pu_ (y_off (by rfl)) ?_
  try simp only [zP,zN,zA,zB,zC]
  refine pu_ (v := .bool true) (y_pick (t := true) (by rfl) rfl (by rfl) (by rfl)) ?_
  try simp only [zP,zN,zA,zB,zC]
  refine nl_ (hK19 _ _ ?_); clear hK19 K19
  refine wp_cond_true rfl ?_
  refine s_ (fun K20 hK20 => ?_)
  refine pu_ (v := .bool false) (y_assign rfl (by rfl) (by rfl)) ?_
  try simp only [zP,zN,zA,zB,zC]
  refine nl_ (hK20 _ _ ?_); clear hK20 K20
  refine wp_ret ?_
  refine th_ret ?_
  refine hQ _ _ _ ?_
  refine bodyPost_ret (res1 rfl (rdv_tmp (v := .bool false) (by rfl))) rfl ?_
  exact ⟨_, rfl, ⟨fun h9 => absurd h9 (by decide), fun h9 => absurd h9 HR.out⟩, C0.out⟩
 ·have hc := qh h
  clear h
  have D9 := qh (show decide ((sn.size : Int) > 100) = false from decide_eq_false (by have := hc.out; omega))
  have D14 := qh (show decide ((n1 : Int) > 10) = false from decide_eq_false (by have := hc.out; omega))
  have D20 := qh (show decide ((n2 : Int) > 8) = false from decide_eq_false (by have := hc.out; omega))
  have D26 := qh (show decide ((n3 : Int) > 8) = true from decide_eq_true (by have := hc.out; omega))
  have HR := qh (show ¬ specP sn n1 f1 f2 n2 g1 g2 gm n3 h1 h2 hm from fun h9 => by have h8 := h9.1; have := hc.out; omega)
  refine s_ (fun K21 hK21 => ?_)
  refine pu_ (v := .pointer (some ⟨g3, 0, none⟩)) (y_run (by rfl) (fun W => by go_simp)) ?_
  try simp only [zP,zN,zA,zB,zC]
  refine ld_ (v := .string sn) rfl (by rfl) (by rfl) (run_load_one ((Fg3.out.cell 0).trans rfl) Try.underlying9 rfl) ?_
  try simp only [zP,zN,zA,zB,zC]
  refine pu_ (v := .int .i64 sn.size) (y_run (by rfl) (fun W => by go_simp)) ?_
  try simp only [zP,zN,zA,zB,zC]
  refine pu_ (v := .int .i64 sn.size) (y_assign rfl (by rfl) (by rfl)) ?_
  try simp only [zP,zN,zA,zB,zC]
  refine nl_ (hK21 _ _ ?_); clear hK21 K21
  refine sq_ (fun K22 hK22 => ?_)
  refine s_ (fun K23 hK23 => ?_)
  refine pu_ (v := .int .i64 sn.size) (y_move rfl (by rfl) (by rfl)) ?_
  try simp only [zP,zN,zA,zB,zC]
  refine pu_ (v := .bool false) (y_run (by rfl) (fun W => by have d := D9.out; go_simp)) ?_
  try simp only [zP,zN,zA,zB,zC]
  refine pu_ (v := .bool false) (y_move rfl (by rfl) (by rfl)) ?_
  try simp only [zP,zN,zA,zB,zC]
  refine pu_ (v := .pointer (some ⟨g3, 1, none⟩)) (y_run (by rfl) (fun W => by go_simp)) ?_
  try simp only [zP,zN,zA,zB,zC]
  refine ld_ (v := .slice A1 n1 c1) rfl (by rfl) (by rfl) (run_load_one ((Fg3.out.cell 1).trans rfl) Try.underlying36 rfl) ?_
  try simp only [zP,zN,zA,zB,zC]
  refine pu_ (v := .int .i64 n1) (y_run (by rfl) (fun W => by go_simp)) ?_
  try simp only [zP,zN,zA,zB,zC]
  refine pu_ (v := .bool false) (y_run (by rfl) (fun W => by have d := D14.out; go_simp)) ?_
  try simp only [zP,zN,zA,zB,zC]
  refine pu_ (v := .bool false) (y_pick (t := false) (by rfl) rfl (by rfl) (by rfl)) ?_
  try simp only [zP,zN,zA,zB,zC]
  refine pu_ (v := .bool false) (y_move rfl (by rfl) (by rfl)) ?_
  try simp only [zP,zN,zA,zB,zC]
  refine pu_ (v := .pointer (some ⟨g3, 2, none⟩)) (y_run (by rfl) (fun W => by go_simp)) ?_
  try simp only [zP,zN,zA,zB,zC]
  refine ld_ (v := .slice A2 n2 c2) rfl (by rfl) (by rfl) (run_load_one ((Fg3.out.cell 2).trans rfl) Try.underlying37 rfl) ?_
  try simp only [zP,zN,zA,zB,zC]
  refine pu_ (v := .int .i64 n2) (y_run (by rfl) (fun W => by go_simp)) ?_
  try simp only [zP,zN,zA,zB,zC]
  refine pu_ (v := .bool false) (y_run (by rfl) (fun W => by have d := D20.out; go_simp)) ?_
  try simp only [zP,zN,zA,zB,zC]
  refine pu_ (v := .bool false) (y_pick (t := false) (by rfl) rfl (by rfl) (by rfl)) ?_
  try simp only [zP,zN,zA,zB,zC]
  refine pu_ (v := .bool false) (y_move rfl (by rfl) (by rfl)) ?_
  try simp only [zP,zN,zA,zB,zC]
  refine pu_ (v := .pointer (some ⟨g3, 3, none⟩)) (y_run (by rfl) (fun W => by go_simp)) ?_
  try simp only [zP,zN,zA,zB,zC]
  refine ld_ (v := .slice A3 n3 c3) rfl (by rfl) (by rfl) (run_load_one ((Fg3.out.cell 3).trans rfl) Try.underlying37 rfl) ?_
  try simp only [zP,zN,zA,zB,zC]
  refine pu_ (v := .int .i64 n3) (y_run (by rfl) (fun W => by go_simp)) ?_
  try simp only [zP,zN,zA,zB,zC]
  refine pu_ (v := .bool true) (y_run (by rfl) (fun W => by have d := D26.out; go_simp)) ?_
  try simp only [zP,zN,zA,zB,zC]
  refine pu_ (v := .bool true) (y_pick (t := false) (by rfl) rfl (by rfl) (by rfl)) ?_
  try simp only [zP,zN,zA,zB,zC]
  refine nl_ (hK23 _ _ ?_); clear hK23 K23
  refine wp_cond_true rfl ?_
  refine s_ (fun K24 hK24 => ?_)
  refine pu_ (v := .bool false) (y_assign rfl (by rfl) (by rfl)) ?_
  try simp only [zP,zN,zA,zB,zC]
  refine nl_ (hK24 _ _ ?_); clear hK24 K24
  refine wp_ret ?_
  refine th_ret ?_
  refine hQ _ _ _ ?_
  refine bodyPost_ret (res1 rfl (rdv_tmp (v := .bool false) (by rfl))) rfl ?_
  exact ⟨_, rfl, ⟨fun h9 => absurd h9 (by decide), fun h9 => absurd h9 HR.out⟩, C0.out⟩
 ·have hc := qh h
  clear h
  have D9 := qh (show decide ((sn.size : Int) > 100) = false from decide_eq_false (by have := hc.out; omega))
  have D14 := qh (show decide ((n1 : Int) > 10) = false from decide_eq_false (by have := hc.out; omega))
  have D20 := qh (show decide ((n2 : Int) > 8) = false from decide_eq_false (by have := hc.out; omega))
  have D26 := qh (show decide ((n3 : Int) > 8) = false from decide_eq_false (by have := hc.out; omega))
  refine s_ (fun K25 hK25 => ?_)
  refine pu_ (v := .pointer (some ⟨g3, 0, none⟩)) (y_run (by rfl) (fun W => by go_simp)) ?_
  try simp only [zP,zN,zA,zB,zC]
  refine ld_ (v := .string sn) rfl (by rfl) (by rfl) (run_load_one ((Fg3.out.cell 0).trans rfl) Try.underlying9 rfl) ?_
  try simp only [zP,zN,zA,zB,zC]
  refine pu_ (v := .int .i64 sn.size) (y_run (by rfl) (fun W => by go_simp)) ?_
  try simp only [zP,zN,zA,zB,zC]
  refine pu_ (v := .int .i64 sn.size) (y_assign rfl (by rfl) (by rfl)) ?_
  try simp only [zP,zN,zA,zB,zC]
  refine nl_ (hK25 _ _ ?_); clear hK25 K25
  refine sq_ (fun K26 hK26 => ?_)
  refine s_ (fun K27 hK27 => ?_)
  refine pu_ (v := .int .i64 sn.size) (y_move rfl (by rfl) (by rfl)) ?_
  try simp only [zP,zN,zA,zB,zC]
  refine pu_ (v := .bool false) (y_run (by rfl) (fun W => by have d := D9.out; go_simp)) ?_
  try simp only [zP,zN,zA,zB,zC]
  refine pu_ (v := .bool false) (y_move rfl (by rfl) (by rfl)) ?_
  try simp only [zP,zN,zA,zB,zC]
  refine pu_ (v := .pointer (some ⟨g3, 1, none⟩)) (y_run (by rfl) (fun W => by go_simp)) ?_
  try simp only [zP,zN,zA,zB,zC]
  refine ld_ (v := .slice A1 n1 c1) rfl (by rfl) (by rfl) (run_load_one ((Fg3.out.cell 1).trans rfl) Try.underlying36 rfl) ?_
  try simp only [zP,zN,zA,zB,zC]
  refine pu_ (v := .int .i64 n1) (y_run (by rfl) (fun W => by go_simp)) ?_
  try simp only [zP,zN,zA,zB,zC]
  refine pu_ (v := .bool false) (y_run (by rfl) (fun W => by have d := D14.out; go_simp)) ?_
  try simp only [zP,zN,zA,zB,zC]
  refine pu_ (v := .bool false) (y_pick (t := false) (by rfl) rfl (by rfl) (by rfl)) ?_
  try simp only [zP,zN,zA,zB,zC]
  refine pu_ (v := .bool false) (y_move rfl (by rfl) (by rfl)) ?_
  try simp only [zP,zN,zA,zB,zC]
  refine pu_ (v := .pointer (some ⟨g3, 2, none⟩)) (y_run (by rfl) (fun W => by go_simp)) ?_
  try simp only [zP,zN,zA,zB,zC]
  refine ld_ (v := .slice A2 n2 c2) rfl (by rfl) (by rfl) (run_load_one ((Fg3.out.cell 2).trans rfl) Try.underlying37 rfl) ?_
  try simp only [zP,zN,zA,zB,zC]
  refine pu_ (v := .int .i64 n2) (y_run (by rfl) (fun W => by go_simp)) ?_
  try simp only [zP,zN,zA,zB,zC]
  refine pu_ (v := .bool false) (y_run (by rfl) (fun W => by have d := D20.out; go_simp)) ?_
  try simp only [zP,zN,zA,zB,zC]
  refine pu_ (v := .bool false) (y_pick (t := false) (by rfl) rfl (by rfl) (by rfl)) ?_
  try simp only [zP,zN,zA,zB,zC]
  refine pu_ (v := .bool false) (y_move rfl (by rfl) (by rfl)) ?_
  try simp only [zP,zN,zA,zB,zC]
  refine pu_ (v := .pointer (some ⟨g3, 3, none⟩)) (y_run (by rfl) (fun W => by go_simp)) ?_
  try simp only [zP,zN,zA,zB,zC]
  refine ld_ (v := .slice A3 n3 c3) rfl (by rfl) (by rfl) (run_load_one ((Fg3.out.cell 3).trans rfl) Try.underlying37 rfl) ?_
  try simp only [zP,zN,zA,zB,zC]
  refine pu_ (v := .int .i64 n3) (y_run (by rfl) (fun W => by go_simp)) ?_
  try simp only [zP,zN,zA,zB,zC]
  refine pu_ (v := .bool false) (y_run (by rfl) (fun W => by have d := D26.out; go_simp)) ?_
  try simp only [zP,zN,zA,zB,zC]
  refine pu_ (v := .bool false) (y_pick (t := false) (by rfl) rfl (by rfl) (by rfl)) ?_
  try simp only [zP,zN,zA,zB,zC]
  refine nl_ (hK27 _ _ ?_); clear hK27 K27
  refine wp_cond_false rfl ?_
  refine wp_skip ?_
  refine th_norm (hK26 _ _ ?_); try clear hK26 K26
  refine sq_ (fun K28 hK28 => ?_)
  refine s_ (fun K29 hK29 => ?_)
  refine pu_ (v := .int .i64 0) (y_assign rfl (by rfl) (by rfl)) ?_
  try simp only [zP,zN,zA,zB,zC]
  refine nl_ (hK29 _ _ ?_); clear hK29 K29
  refine wp_block ?_
  refine loopk_ (fun (kq : Nat) (a' : Act) (w' : World) => ∃ (k : Nat), ∃ (b : Nat), ∃ (us : Nat → Value), a' = ⟨#[us 0, .pointer (some ⟨b, 0, none⟩), .bool false, us 3, .int .i64 k, us 5, us 6, us 7, us 8, us 9, us 10, us 11, us 12, us 13, us 14, us 15, us 16, us 17, us 18, us 19, us 20, us 21, us 22, us 23, us 24, us 25, us 26, us 27, us 28, us 29, us 30, us 31, us 32, us 33, us 34, us 35, us 36, us 37, us 38, us 39, us 40, us 41, us 42, us 43, us 44, us 45, us 46, us 47, us 48, us 49, us 50, us 51, us 52, us 53, us 54, us 55, us 56, us 57, us 58, us 59, us 60], []⟩ ∧ Hid (Ch [] w w') ∧ Hid (Blk w' b (#[.string sn, .slice A1 n1 c1, .slice A2 n2 c2, .slice A3 n3 c3, .int .i64 q1, .int .i64 q2, .int .i64 q3]) 39) ∧ Hid (k ≤ n1 ∧ kq + k = n1) ∧ Hid (labP k f1 f2)) (n1) (⟨0, g3, fun us_ => (#[.agg #[.string sn, .slice A1 n1 c1, .slice A2 n2 c2, .slice A3 n3 c3, .int .i64 q1, .int .i64 q2, .int .i64 q3], .pointer (some ⟨g3, 0, none⟩), .bool false, .int .i64 sn.size, .int .i64 0, .pointer (some ⟨g3, 0, none⟩), .string sn, .int .i64 sn.size, .int .i64 sn.size, .bool false, .bool false, .pointer (some ⟨g3, 1, none⟩), .slice A1 n1 c1, .int .i64 n1, .bool false, .bool false, .bool false, .pointer (some ⟨g3, 2, none⟩), .slice A2 n2 c2, .int .i64 n2, .bool false, .bool false, .bool false, .pointer (some ⟨g3, 3, none⟩), .slice A3 n3 c3, .int .i64 n3, .bool false, .bool false, undef, undef, undef, undef, undef, undef, undef, undef, undef, undef, undef, undef, undef, undef, undef, undef, undef, undef, undef, undef, undef, undef, undef, undef, undef, undef, undef, undef, undef, undef, undef, undef, undef] : Array Value).getD us_ undef, rfl, C0, Fg3, qh ⟨by omega, by omega⟩, qh (fun i h => absurd h (by omega))⟩) ?_
  rintro kq _ w30 ⟨k, b, us, rfl, C0, FB, hk, hr⟩ K31 hK31
  refine sq_ (fun K32 hK32 => ?_)
  rcases lab_ways f1 f2 n1 k hk.out.1 with ⟨h1, h | h | h⟩ | h
  ·have hlt := qh h1
   have hcl := qh h
   clear h h1
   obtain ⟨a, hA, hcc⟩ := HL.out k hlt.out
   subst hA
   have HCL := qh (below_cells C0.out.below0 hcc)
   clear hcc
   have D32 := qh (show (k : Int) < (n1 : Int) by have := hlt.out; omega)
   have Wk := qh (show IntKind.i64.wrap ((k : Int) + 1) = ((k + 1 : Nat) : Int) by rw [wr64 (by have := hlt.out; have := hc.out; omega)]; omega)
   have D42 := qh (show decide (((f1 k).size : Int) > 100) = true from decide_eq_true (by have := hcl.out; omega))
   have HR := qh (show ¬ specP sn n1 f1 f2 n2 g1 g2 gm n3 h1 h2 hm from fun h9 => by have h8 := h9.2.1 k hlt.out; have := hcl.out; omega)
   refine s_ (fun K33 hK33 => ?_)
   refine pu_ (v := .int .i64 k) (y_move rfl (by rfl) (by rfl)) ?_
   try simp only [zP,zN,zA,zB,zC]
   refine pu_ (v := .pointer (some ⟨b, 1, none⟩)) (y_run (by rfl) (fun W => by go_simp)) ?_
   try simp only [zP,zN,zA,zB,zC]
   refine ld_ (v := .slice (some a) n1 c1) rfl (by rfl) (by rfl) (run_load_one ((FB.out.cell 1).trans rfl) Try.underlying36 rfl) ?_
   try simp only [zP,zN,zA,zB,zC]
   refine pu_ (v := .int .i64 n1) (y_run (by rfl) (fun W => by go_simp)) ?_
   try simp only [zP,zN,zA,zB,zC]
   refine pu_ (v := .bool true) (y_run (by rfl) (fun W => by have d := D32.out; go_simp)) ?_
   try simp only [zP,zN,zA,zB,zC]
   refine nl_ (hK33 _ _ ?_); clear hK33 K33
   refine wp_cond_true rfl ?_
   refine wp_skip ?_
   refine th_norm (hK32 _ _ ?_); try clear hK32 K32
   refine sq_ (fun K34 hK34 => ?_)
   refine wp_block ?_
   refine s_ (fun K35 hK35 => ?_)
   refine pu_ (v := .pointer (some ⟨b, 1, none⟩)) (y_run (by rfl) (fun W => by go_simp)) ?_
   try simp only [zP,zN,zA,zB,zC]
   refine ld_ (v := .slice (some a) n1 c1) rfl (by rfl) (by rfl) (run_load_one ((FB.out.cell 1).trans rfl) Try.underlying36 rfl) ?_
   try simp only [zP,zN,zA,zB,zC]
   refine pu_ (v := .int .i64 k) (y_move rfl (by rfl) (by rfl)) ?_
   try simp only [zP,zN,zA,zB,zC]
   refine pu_ (v := .pointer (some (a.add (k * 2)))) (y_run (by rfl) (fun W => by have d := D32.out; go_simp)) ?_
   try simp only [zP,zN,zA,zB,zC]
   refine pu_ (v := .pointer (some (a.add (k * 2)))) (y_run (by rfl) (fun W => by go_simp)) ?_
   try simp only [zP,zN,zA,zB,zC]
   refine ld_ (v := .string (f1 k)) rfl (by rfl) (by rfl) (run_load_one ((by have h := HCL.out 0 _ rfl; simpa [Addr.add] using h)) Try.underlying9 rfl) ?_
   try simp only [zP,zN,zA,zB,zC]
   refine pu_ (v := .int .i64 (f1 k).size) (y_run (by rfl) (fun W => by go_simp)) ?_
   try simp only [zP,zN,zA,zB,zC]
   refine pu_ (v := .bool true) (y_run (by rfl) (fun W => by have d := D42.out; go_simp)) ?_
   try simp only [zP,zN,zA,zB,zC]
   refine pu_ (v := .bool true) (y_move rfl (by rfl) (by rfl)) ?_
   try simp only [zP,zN,zA,zB,zC]
   refine pu_ (y_off (by rfl)) ?_
   try simp only [zP,zN,zA,zB,zC]
   refine pu_ (y_off (by rfl)) ?_
   try simp only [zP,zN,zA,zB,zC]
   refine pu_ (y_off (by rfl)) ?_
   try simp only [zP,zN,zA,zB,zC]
   refine pu_ (y_off (by rfl)) ?_
   try simp only [zP,zN,zA,zB,zC]
   refine pu_ (y_off (by rfl)) ?_
   try simp only [zP,zN,zA,zB,zC]
   refine pu_ (y_off (by rfl)) ?_
   try simp only [zP,zN,zA,zB,zC]
   refine pu_ (y_off (by rfl)) ?_
   try simp only [zP,zN,zA,zB,zC]
   refine pu_ (y_off (by rfl)) ?_
   try simp only [zP,zN,zA,zB,zC]
   refine pu_ (v := .bool true) (y_pick (t := true) (by rfl) rfl (by rfl) (by rfl)) ?_
   try simp only [zP,zN,zA,zB,zC]
   refine nl_ (hK35 _ _ ?_); clear hK35 K35
   refine wp_cond_true rfl ?_
   refine s_ (fun K36 hK36 => ?_)
   refine pu_ (v := .bool false) (y_assign rfl (by rfl) (by rfl)) ?_
   try simp only [zP,zN,zA,zB,zC]
   refine nl_ (hK36 _ _ ?_); clear hK36 K36
   refine wp_ret ?_
   refine ib_ret ?_
   refine th_ret ?_
   refine th_ret ?_
   refine ib_ret ?_
   refine th_ret ?_
   refine hQ _ _ _ ?_
   refine bodyPost_ret (res1 rfl (rdv_tmp (v := .bool false) (by rfl))) rfl ?_
   exact ⟨_, rfl, ⟨fun h9 => absurd h9 (by decide), fun h9 => absurd h9 HR.out⟩, C0.out⟩
  ·have hlt := qh h1
   have hcl := qh h
   clear h h1
   obtain ⟨a, hA, hcc⟩ := HL.out k hlt.out
   subst hA
   have HCL := qh (below_cells C0.out.below0 hcc)
   clear hcc
   have D32 := qh (show (k : Int) < (n1 : Int) by have := hlt.out; omega)
   have Wk := qh (show IntKind.i64.wrap ((k : Int) + 1) = ((k + 1 : Nat) : Int) by rw [wr64 (by have := hlt.out; have := hc.out; omega)]; omega)
   have D42 := qh (show decide (((f1 k).size : Int) > 100) = false from decide_eq_false (by have := hcl.out; omega))
   have D51 := qh (show decide (((f2 k).size : Int) > 100) = true from decide_eq_true (by have := hcl.out; omega))
   have HR := qh (show ¬ specP sn n1 f1 f2 n2 g1 g2 gm n3 h1 h2 hm from fun h9 => by have h8 := h9.2.1 k hlt.out; have := hcl.out; omega)
   refine s_ (fun K37 hK37 => ?_)
   refine pu_ (v := .int .i64 k) (y_move rfl (by rfl) (by rfl)) ?_
   try simp only [zP,zN,zA,zB,zC]
   refine pu_ (v := .pointer (some ⟨b, 1, none⟩)) (y_run (by rfl) (fun W => by go_simp)) ?_
   try simp only [zP,zN,zA,zB,zC]
   refine ld_ (v := .slice (some a) n1 c1) rfl (by rfl) (by rfl) (run_load_one ((FB.out.cell 1).trans rfl) Try.underlying36 rfl) ?_
   try simp only [zP,zN,zA,zB,zC]
   refine pu_ (v := .int .i64 n1) (y_run (by rfl) (fun W => by go_simp)) ?_
   try simp only [zP,zN,zA,zB,zC]
   refine pu_ (v := .bool true) (y_run (by rfl) (fun W => by have d := D32.out; go_simp)) ?_
   try simp only [zP,zN,zA,zB,zC]
   refine nl_ (hK37 _ _ ?_); clear hK37 K37
   refine wp_cond_true rfl ?_
   refine wp_skip ?_
   refine th_norm (hK32 _ _ ?_); try clear hK32 K32
   refine sq_ (fun K38 hK38 => ?_)
   refine wp_block ?_
   refine s_ (fun K39 hK39 => ?_)
   refine pu_ (v := .pointer (some ⟨b, 1, none⟩)) (y_run (by rfl) (fun W => by go_simp)) ?_
   try simp only [zP,zN,zA,zB,zC]
   refine ld_ (v := .slice (some a) n1 c1) rfl (by rfl) (by rfl) (run_load_one ((FB.out.cell 1).trans rfl) Try.underlying36 rfl) ?_
   try simp only [zP,zN,zA,zB,zC]
   refine pu_ (v := .int .i64 k) (y_move rfl (by rfl) (by rfl)) ?_
   try simp only [zP,zN,zA,zB,zC]
   refine pu_ (v := .pointer (some (a.add (k * 2)))) (y_run (by rfl) (fun W => by have d := D32.out; go_simp)) ?_
   try simp only [zP,zN,zA,zB,zC]
   refine pu_ (v := .pointer (some (a.add (k * 2)))) (y_run (by rfl) (fun W => by go_simp)) ?_
   try simp only [zP,zN,zA,zB,zC]
   refine ld_ (v := .string (f1 k)) rfl (by rfl) (by rfl) (run_load_one ((by have h := HCL.out 0 _ rfl; simpa [Addr.add] using h)) Try.underlying9 rfl) ?_
   try simp only [zP,zN,zA,zB,zC]
   refine pu_ (v := .int .i64 (f1 k).size) (y_run (by rfl) (fun W => by go_simp)) ?_
   try simp only [zP,zN,zA,zB,zC]
   refine pu_ (v := .bool false) (y_run (by rfl) (fun W => by have d := D42.out; go_simp)) ?_
   try simp only [zP,zN,zA,zB,zC]
   refine pu_ (v := .bool false) (y_move rfl (by rfl) (by rfl)) ?_
   try simp only [zP,zN,zA,zB,zC]
   refine pu_ (v := .pointer (some ⟨b, 1, none⟩)) (y_run (by rfl) (fun W => by go_simp)) ?_
   try simp only [zP,zN,zA,zB,zC]
   refine ld_ (v := .slice (some a) n1 c1) rfl (by rfl) (by rfl) (run_load_one ((FB.out.cell 1).trans rfl) Try.underlying36 rfl) ?_
   try simp only [zP,zN,zA,zB,zC]
   refine pu_ (v := .int .i64 k) (y_move rfl (by rfl) (by rfl)) ?_
   try simp only [zP,zN,zA,zB,zC]
   refine pu_ (v := .pointer (some (a.add (k * 2)))) (y_run (by rfl) (fun W => by have d := D32.out; go_simp)) ?_
   try simp only [zP,zN,zA,zB,zC]
   refine pu_ (v := .pointer (some ((a.add (k * 2)).add 1))) (y_run (by rfl) (fun W => by go_simp)) ?_
   try simp only [zP,zN,zA,zB,zC]
   refine ld_ (v := .string (f2 k)) rfl (by rfl) (by rfl) (run_load_one (HCL.out 1 _ rfl) Try.underlying9 rfl) ?_
   try simp only [zP,zN,zA,zB,zC]
   refine pu_ (v := .int .i64 (f2 k).size) (y_run (by rfl) (fun W => by go_simp)) ?_
   try simp only [zP,zN,zA,zB,zC]
   refine pu_ (v := .bool true) (y_run (by rfl) (fun W => by have d := D51.out; go_simp)) ?_
   try simp only [zP,zN,zA,zB,zC]
   refine pu_ (v := .bool true) (y_pick (t := false) (by rfl) rfl (by rfl) (by rfl)) ?_
   try simp only [zP,zN,zA,zB,zC]
   refine nl_ (hK39 _ _ ?_); clear hK39 K39
   refine wp_cond_true rfl ?_
   refine s_ (fun K40 hK40 => ?_)
   refine pu_ (v := .bool false) (y_assign rfl (by rfl) (by rfl)) ?_
   try simp only [zP,zN,zA,zB,zC]
   refine nl_ (hK40 _ _ ?_); clear hK40 K40
   refine wp_ret ?_
   refine ib_ret ?_
   refine th_ret ?_
   refine th_ret ?_
   refine ib_ret ?_
   refine th_ret ?_
   refine hQ _ _ _ ?_
   refine bodyPost_ret (res1 rfl (rdv_tmp (v := .bool false) (by rfl))) rfl ?_
   exact ⟨_, rfl, ⟨fun h9 => absurd h9 (by decide), fun h9 => absurd h9 HR.out⟩, C0.out⟩
  ·have hlt := qh h1
   have hcl := qh h
   clear h h1
   obtain ⟨a, hA, hcc⟩ := HL.out k hlt.out
   subst hA
   have HCL := qh (below_cells C0.out.below0 hcc)
   clear hcc
   have D32 := qh (show (k : Int) < (n1 : Int) by have := hlt.out; omega)
   have Wk := qh (show IntKind.i64.wrap ((k : Int) + 1) = ((k + 1 : Nat) : Int) by rw [wr64 (by have := hlt.out; have := hc.out; omega)]; omega)
   have D42 := qh (show decide (((f1 k).size : Int) > 100) = false from decide_eq_false (by have := hcl.out; omega))
   have D51 := qh (show decide (((f2 k).size : Int) > 100) = false from decide_eq_false (by have := hcl.out; omega))
   refine s_ (fun K41 hK41 => ?_)
   refine pu_ (v := .int .i64 k) (y_move rfl (by rfl) (by rfl)) ?_
   try simp only [zP,zN,zA,zB,zC]
   refine pu_ (v := .pointer (some ⟨b, 1, none⟩)) (y_run (by rfl) (fun W => by go_simp)) ?_
   try simp only [zP,zN,zA,zB,zC]
   refine ld_ (v := .slice (some a) n1 c1) rfl (by rfl) (by rfl) (run_load_one ((FB.out.cell 1).trans rfl) Try.underlying36 rfl) ?_
   try simp only [zP,zN,zA,zB,zC]
   refine pu_ (v := .int .i64 n1) (y_run (by rfl) (fun W => by go_simp)) ?_
   try simp only [zP,zN,zA,zB,zC]
   refine pu_ (v := .bool true) (y_run (by rfl) (fun W => by have d := D32.out; go_simp)) ?_
   try simp only [zP,zN,zA,zB,zC]
   refine nl_ (hK41 _ _ ?_); clear hK41 K41
   refine wp_cond_true rfl ?_
   refine wp_skip ?_
   refine th_norm (hK32 _ _ ?_); try clear hK32 K32
   refine sq_ (fun K42 hK42 => ?_)
   refine wp_block ?_
   refine s_ (fun K43 hK43 => ?_)
   refine pu_ (v := .pointer (some ⟨b, 1, none⟩)) (y_run (by rfl) (fun W => by go_simp)) ?_
   try simp only [zP,zN,zA,zB,zC]
   refine ld_ (v := .slice (some a) n1 c1) rfl (by rfl) (by rfl) (run_load_one ((FB.out.cell 1).trans rfl) Try.underlying36 rfl) ?_
   try simp only [zP,zN,zA,zB,zC]
   refine pu_ (v := .int .i64 k) (y_move rfl (by rfl) (by rfl)) ?_
   try simp only [zP,zN,zA,zB,zC]
   refine pu_ (v := .pointer (some (a.add (k * 2)))) (y_run (by rfl) (fun W => by have d := D32.out; go_simp)) ?_
   try simp only [zP,zN,zA,zB,zC]
   refine pu_ (v := .pointer (some (a.add (k * 2)))) (y_run (by rfl) (fun W => by go_simp)) ?_
   try simp only [zP,zN,zA,zB,zC]
   refine ld_ (v := .string (f1 k)) rfl (by rfl) (by rfl) (run_load_one ((by have h := HCL.out 0 _ rfl; simpa [Addr.add] using h)) Try.underlying9 rfl) ?_
   try simp only [zP,zN,zA,zB,zC]
   refine pu_ (v := .int .i64 (f1 k).size) (y_run (by rfl) (fun W => by go_simp)) ?_
   try simp only [zP,zN,zA,zB,zC]
   refine pu_ (v := .bool false) (y_run (by rfl) (fun W => by have d := D42.out; go_simp)) ?_
   try simp only [zP,zN,zA,zB,zC]
   refine pu_ (v := .bool false) (y_move rfl (by rfl) (by rfl)) ?_
   try simp only [zP,zN,zA,zB,zC]
   refine pu_ (v := .pointer (some ⟨b, 1, none⟩)) (y_run (by rfl) (fun W => by go_simp)) ?_
   try simp only [zP,zN,zA,zB,zC]
   refine ld_ (v := .slice (some a) n1 c1) rfl (by rfl) (by rfl) (run_load_one ((FB.out.cell 1).trans rfl) Try.underlying36 rfl) ?_
   try simp only [zP,zN,zA,zB,zC]
   refine pu_ (v := .int .i64 k) (y_move rfl (by rfl) (by rfl)) ?_
   try simp only [zP,zN,zA,zB,zC]
   refine pu_ (v := .pointer (some (a.add (k * 2)))) (y_run (by rfl) (fun W => by have d := D32.out; go_simp)) ?_
   try simp only [zP,zN,zA,zB,zC]
   refine pu_ (v := .pointer (some ((a.add (k * 2)).add 1))) (y_run (by rfl) (fun W => by go_simp)) ?_
   try simp only [zP,zN,zA,zB,zC]
   refine ld_ (v := .string (f2 k)) rfl (by rfl) (by rfl) (run_load_one (HCL.out 1 _ rfl) Try.underlying9 rfl) ?_
   try simp only [zP,zN,zA,zB,zC]
   refine pu_ (v := .int .i64 (f2 k).size) (y_run (by rfl) (fun W => by go_simp)) ?_
   try simp only [zP,zN,zA,zB,zC]
   refine pu_ (v := .bool false) (y_run (by rfl) (fun W => by have d := D51.out; go_simp)) ?_
   try simp only [zP,zN,zA,zB,zC]
   refine pu_ (v := .bool false) (y_pick (t := false) (by rfl) rfl (by rfl) (by rfl)) ?_
   try simp only [zP,zN,zA,zB,zC]
   refine nl_ (hK43 _ _ ?_); clear hK43 K43
   refine wp_cond_false rfl ?_
   refine wp_skip ?_
   refine ib_norm ?_
   refine th_norm (hK42 _ _ ?_); try clear hK42 K42
   refine r_ ?_
   refine pu_ (v := .int .i64 k) (y_move rfl (by rfl) (by rfl)) ?_
   try simp only [zP,zN,zA,zB,zC]
   refine pu_ (v := .int .i64 (k + 1 : Nat)) (y_run (by rfl) (fun W => by have d := Wk.out; go_simp)) ?_
   try simp only [zP,zN,zA,zB,zC]
   refine pu_ (v := .int .i64 (k + 1 : Nat)) (y_assign rfl (by rfl) (by rfl)) ?_
   try simp only [zP,zN,zA,zB,zC]
   refine nl_ ?_
   exact th_norm (hK31 (kq - 1) _ _ (by have := hlt.out; have := hk.out; omega) ⟨k + 1, b, fun us_ => (#[us 0, .pointer (some ⟨b, 0, none⟩), .bool false, us 3, .int .i64 (k + 1 : Nat), us 5, us 6, us 7, us 8, us 9, us 10, us 11, us 12, us 13, us 14, us 15, us 16, us 17, us 18, us 19, us 20, us 21, us 22, us 23, us 24, us 25, us 26, us 27, .int .i64 k, .pointer (some ⟨b, 1, none⟩), .slice (some a) n1 c1, .int .i64 n1, .bool true, .int .i64 k, .int .i64 (k + 1 : Nat), .pointer (some ⟨b, 1, none⟩), .slice (some a) n1 c1, .int .i64 k, .pointer (some (a.add (k * 2))), .pointer (some (a.add (k * 2))), .string (f1 k), .int .i64 (f1 k).size, .bool false, .bool false, .pointer (some ⟨b, 1, none⟩), .slice (some a) n1 c1, .int .i64 k, .pointer (some (a.add (k * 2))), .pointer (some ((a.add (k * 2)).add 1)), .string (f2 k), .int .i64 (f2 k).size, .bool false, .bool false, us 53, us 54, us 55, us 56, us 57, us 58, us 59, us 60] : Array Value).getD us_ undef, rfl, C0, FB, qh ⟨by have := hlt.out; omega, by have := hlt.out; have := hk.out; omega⟩, qh (fun i h9 => (Nat.lt_or_ge i k).elim (hr.out i) (fun h7 => by obtain rfl : i = k := (by omega); exact hcl.out))⟩)
  ·have D32 := qh (show ¬ k < n1 by have := hk.out; omega)
   have HLB := qh (show labP n1 f1 f2 from by have h9 := hr.out; rw [h] at h9; exact h9)
   clear h
   refine s_ (fun K44 hK44 => ?_)
   refine pu_ (v := .int .i64 k) (y_move rfl (by rfl) (by rfl)) ?_
   try simp only [zP,zN,zA,zB,zC]
   refine pu_ (v := .pointer (some ⟨b, 1, none⟩)) (y_run (by rfl) (fun W => by go_simp)) ?_
   try simp only [zP,zN,zA,zB,zC]
   refine ld_ (v := .slice A1 n1 c1) rfl (by rfl) (by rfl) (run_load_one ((FB.out.cell 1).trans rfl) Try.underlying36 rfl) ?_
   try simp only [zP,zN,zA,zB,zC]
   refine pu_ (v := .int .i64 n1) (y_run (by rfl) (fun W => by go_simp)) ?_
   try simp only [zP,zN,zA,zB,zC]
   refine pu_ (v := .bool false) (y_run (by rfl) (fun W => by have d := D32.out; go_simp)) ?_
   try simp only [zP,zN,zA,zB,zC]
   refine nl_ (hK44 _ _ ?_); clear hK44 K44
   refine wp_cond_false rfl ?_
   refine wp_exit ?_
   refine th_exit ?_
   refine th_exit ?_
   refine ib_exit ?_
   refine th_norm (hK28 _ _ ?_); try clear hK28 K28
   rcases two_em (conP n2 g1 g2 gm) (conP n3 h1 h2 hm) with h | h | h
   ·have hx := qh h
    clear h
    have HR := qh (show ¬ specP sn n1 f1 f2 n2 g1 g2 gm n3 h1 h2 hm from fun h9 => hx.out h9.2.2.1)
    refine s_ (fun K45 hK45 => ?_)
    refine pu_ (v := .pointer (some ⟨b, 2, none⟩)) (y_run (by rfl) (fun W => by go_simp)) ?_
    try simp only [zP,zN,zA,zB,zC]
    refine ld_ (v := .slice A2 n2 c2) rfl (by rfl) (by rfl) (run_load_one ((FB.out.cell 2).trans rfl) Try.underlying37 rfl) ?_
    try simp only [zP,zN,zA,zB,zC]
    refine ef_ (fun K46 hK46 => ?_)
    refine e_call Try.func28 (by kernel_rfl) rfl #[.slice A2 n2 c2] (by rfl) rfl rfl (by first | rfl | (simp only [List.map_toArray, List.map_cons, List.map_nil]; first | done | rfl)) ((ynF (lightCon_ (w := w30) (A := A2) (n := n2) (c := c2) (qh (by have := hc.out; omega)) (qh (HC2.out.below C0.out.below0))) hx.out)) ?_
    rintro en w48 ⟨rfl, cc47⟩
    refine ⟨_, rfl, ?_⟩
    replace C0 := qh (C0.out.trans' cc47 inw_nil)
    replace FB := qh (cc47.blk FB.out nin_nil)
    clear cc47
    refine hK46 _ _ ?_; clear hK46 K46
    try simp only [zP,zN,zA,zB,zC]
    refine pu_ (v := .bool false) (y_move rfl (by rfl) (by rfl)) ?_
    try simp only [zP,zN,zA,zB,zC]
    refine pu_ (y_off (by rfl)) ?_
    try simp only [zP,zN,zA,zB,zC]
    refine pu_ (y_off (by rfl)) ?_
    try simp only [zP,zN,zA,zB,zC]
    refine pu_ (y_off (by rfl)) ?_
    try simp only [zP,zN,zA,zB,zC]
    refine pu_ (v := .bool false) (y_pick (t := false) (by rfl) rfl (by rfl) (by rfl)) ?_
    try simp only [zP,zN,zA,zB,zC]
    refine pu_ (v := .bool false) (y_assign rfl (by rfl) (by rfl)) ?_
    try simp only [zP,zN,zA,zB,zC]
    refine nl_ (hK45 _ _ ?_); clear hK45 K45
    refine wp_ret ?_
    refine hQ _ _ _ ?_
    refine bodyPost_ret (res1 rfl (rdv_tmp (v := .bool false) (by rfl))) rfl ?_
    exact ⟨_, rfl, ⟨fun h9 => absurd h9 (by decide), fun h9 => absurd h9 HR.out⟩, C0.out⟩
   ·have hx := qh h
    clear h
    have HR := qh (show ¬ specP sn n1 f1 f2 n2 g1 g2 gm n3 h1 h2 hm from fun h9 => hx.out.2 h9.2.2.2)
    refine s_ (fun K49 hK49 => ?_)
    refine pu_ (v := .pointer (some ⟨b, 2, none⟩)) (y_run (by rfl) (fun W => by go_simp)) ?_
    try simp only [zP,zN,zA,zB,zC]
    refine ld_ (v := .slice A2 n2 c2) rfl (by rfl) (by rfl) (run_load_one ((FB.out.cell 2).trans rfl) Try.underlying37 rfl) ?_
    try simp only [zP,zN,zA,zB,zC]
    refine ef_ (fun K50 hK50 => ?_)
    refine e_call Try.func28 (by kernel_rfl) rfl #[.slice A2 n2 c2] (by rfl) rfl rfl (by first | rfl | (simp only [List.map_toArray, List.map_cons, List.map_nil]; first | done | rfl)) ((ynT (lightCon_ (w := w30) (A := A2) (n := n2) (c := c2) (qh (by have := hc.out; omega)) (qh (HC2.out.below C0.out.below0))) hx.out.1)) ?_
    rintro en w52 ⟨rfl, cc51⟩
    refine ⟨_, rfl, ?_⟩
    replace C0 := qh (C0.out.trans' cc51 inw_nil)
    replace FB := qh (cc51.blk FB.out nin_nil)
    clear cc51
    refine hK50 _ _ ?_; clear hK50 K50
    try simp only [zP,zN,zA,zB,zC]
    refine pu_ (v := .bool true) (y_move rfl (by rfl) (by rfl)) ?_
    try simp only [zP,zN,zA,zB,zC]
    refine pu_ (v := .pointer (some ⟨b, 3, none⟩)) (y_run (by rfl) (fun W => by go_simp)) ?_
    try simp only [zP,zN,zA,zB,zC]
    refine ld_ (v := .slice A3 n3 c3) rfl (by rfl) (by rfl) (run_load_one ((FB.out.cell 3).trans rfl) Try.underlying37 rfl) ?_
    try simp only [zP,zN,zA,zB,zC]
    refine ef_ (fun K53 hK53 => ?_)
    refine e_call Try.func28 (by kernel_rfl) rfl #[.slice A3 n3 c3] (by rfl) rfl rfl (by first | rfl | (simp only [List.map_toArray, List.map_cons, List.map_nil]; first | done | rfl)) ((ynF (lightCon_ (w := w52) (A := A3) (n := n3) (c := c3) (qh (by have := hc.out; omega)) (qh (HC3.out.below C0.out.below0))) hx.out.2)) ?_
    rintro en w55 ⟨rfl, cc54⟩
    refine ⟨_, rfl, ?_⟩
    replace C0 := qh (C0.out.trans' cc54 inw_nil)
    replace FB := qh (cc54.blk FB.out nin_nil)
    clear cc54
    refine hK53 _ _ ?_; clear hK53 K53
    try simp only [zP,zN,zA,zB,zC]
    refine pu_ (v := .bool false) (y_pick (t := true) (by rfl) rfl (by rfl) (by rfl)) ?_
    try simp only [zP,zN,zA,zB,zC]
    refine pu_ (v := .bool false) (y_assign rfl (by rfl) (by rfl)) ?_
    try simp only [zP,zN,zA,zB,zC]
    refine nl_ (hK49 _ _ ?_); clear hK49 K49
    refine wp_ret ?_
    refine hQ _ _ _ ?_
    refine bodyPost_ret (res1 rfl (rdv_tmp (v := .bool false) (by rfl))) rfl ?_
    exact ⟨_, rfl, ⟨fun h9 => absurd h9 (by decide), fun h9 => absurd h9 HR.out⟩, C0.out⟩
   ·have hx := qh h
    clear h
    have HR := qh (show specP sn n1 f1 f2 n2 g1 g2 gm n3 h1 h2 hm from ⟨hc.out, HLB.out, hx.out.1, hx.out.2⟩)
    refine s_ (fun K56 hK56 => ?_)
    refine pu_ (v := .pointer (some ⟨b, 2, none⟩)) (y_run (by rfl) (fun W => by go_simp)) ?_
    try simp only [zP,zN,zA,zB,zC]
    refine ld_ (v := .slice A2 n2 c2) rfl (by rfl) (by rfl) (run_load_one ((FB.out.cell 2).trans rfl) Try.underlying37 rfl) ?_
    try simp only [zP,zN,zA,zB,zC]
    refine ef_ (fun K57 hK57 => ?_)
    refine e_call Try.func28 (by kernel_rfl) rfl #[.slice A2 n2 c2] (by rfl) rfl rfl (by first | rfl | (simp only [List.map_toArray, List.map_cons, List.map_nil]; first | done | rfl)) ((ynT (lightCon_ (w := w30) (A := A2) (n := n2) (c := c2) (qh (by have := hc.out; omega)) (qh (HC2.out.below C0.out.below0))) hx.out.1)) ?_
    rintro en w59 ⟨rfl, cc58⟩
    refine ⟨_, rfl, ?_⟩
    replace C0 := qh (C0.out.trans' cc58 inw_nil)
    replace FB := qh (cc58.blk FB.out nin_nil)
    clear cc58
    refine hK57 _ _ ?_; clear hK57 K57
    try simp only [zP,zN,zA,zB,zC]
    refine pu_ (v := .bool true) (y_move rfl (by rfl) (by rfl)) ?_
    try simp only [zP,zN,zA,zB,zC]
    refine pu_ (v := .pointer (some ⟨b, 3, none⟩)) (y_run (by rfl) (fun W => by go_simp)) ?_
    try simp only [zP,zN,zA,zB,zC]
    refine ld_ (v := .slice A3 n3 c3) rfl (by rfl) (by rfl) (run_load_one ((FB.out.cell 3).trans rfl) Try.underlying37 rfl) ?_
    try simp only [zP,zN,zA,zB,zC]
    refine ef_ (fun K60 hK60 => ?_)
    refine e_call Try.func28 (by kernel_rfl) rfl #[.slice A3 n3 c3] (by rfl) rfl rfl (by first | rfl | (simp only [List.map_toArray, List.map_cons, List.map_nil]; first | done | rfl)) ((ynT (lightCon_ (w := w59) (A := A3) (n := n3) (c := c3) (qh (by have := hc.out; omega)) (qh (HC3.out.below C0.out.below0))) hx.out.2)) ?_
    rintro en w62 ⟨rfl, cc61⟩
    refine ⟨_, rfl, ?_⟩
    replace C0 := qh (C0.out.trans' cc61 inw_nil)
    replace FB := qh (cc61.blk FB.out nin_nil)
    clear cc61
    refine hK60 _ _ ?_; clear hK60 K60
    try simp only [zP,zN,zA,zB,zC]
    refine pu_ (v := .bool true) (y_pick (t := true) (by rfl) rfl (by rfl) (by rfl)) ?_
    try simp only [zP,zN,zA,zB,zC]
    refine pu_ (v := .bool true) (y_assign rfl (by rfl) (by rfl)) ?_
    try simp only [zP,zN,zA,zB,zC]
    refine nl_ (hK56 _ _ ?_); clear hK56 K56
    refine wp_ret ?_
    refine hQ _ _ _ ?_
    refine bodyPost_ret (res1 rfl (rdv_tmp (v := .bool true) (by rfl))) rfl ?_
    exact ⟨_, rfl, ⟨fun _ => HR.out, fun _ => rfl⟩, C0.out⟩
/-- What is asked of a spec in memory, has an answer that stays. -/
def SpecR (W : World) (cs : List Value) (r : Bool) : Prop := ∀ w', Below W.heap.size W w' → Calls Try.prog 21 #[.agg cs.toArray] w' fun en w2 => en = .returned (.bool r) ∧ Ch [] w' w2
theorem spec_of {W : World} {cs : List Value} (h : specF W cs) : ∃ r, SpecR W cs r := by
 obtain ⟨s, A1, n1, c1, f1, f2, A2, n2, c2, g1, g2, gm, A3, n3, c3, h1, h2, hm, q1, q2, q3, rfl, k1, k2, k3⟩ := h
 by_cases hp : specP s n1 f1 f2 n2 g1 g2 gm n3 h1 h2 hm
 ·exact ⟨true, fun w' hb => ynT (lightSpec_ (qh (k1.below hb)) (qh (k2.below hb)) (qh (k3.below hb))) hp⟩
 ·exact ⟨false, fun w' hb => ynF (lightSpec_ (qh (k1.below hb)) (qh (k2.below hb)) (qh (k3.below hb))) hp⟩
end
end Go.Proofs.Ytmoelehhofmhcaa.V
