/- The walks of what containers ask for, and of the order of candidates. -/
import Derived.Test.YtmoelehhofmhcaaPrP2
import Derived.Test.YtmoelehhofmhcaaPrP3
import Derived.Test.YtmoelehhofmhcaaPrP4
namespace Go.Proofs.Ytmoelehhofmhcaa.V
open Go Go.RowKit Go.Proofs.Ytmoelehhofmhcaa.K Go.Proofs.YtmoelehhofmhcaaW.PrintLast
set_option linter.unusedVariables false
set_option linter.unusedSimpArgs false
set_option maxRecDepth 100000
set_option maxHeartbeats 1600000
section
variable {w : World}
def cmpI (x y : Int) : Int := if x < y then -1 else if y < x then 1 else 0
def orZ (a b c d : Int) : Int := if a ≠ 0 then a else if b ≠ 0 then b else if c ≠ 0 then c else d
def r3C (r : R3) : List Value := [.int .i64 r.1, .int .i64 r.2.1, .int .i64 r.2.2]
theorem field23 (a b c : Int) (W : World) : (Instr.field 23 (.agg #[.int .i64 a, .int .i64 b, .int .i64 c]) 1).run Try.prog W = .ok (.int .i64 b) W := by kernel_rfl
theorem r3C_len (r : R3) : (r3C r).length = 3 := rfl
theorem info23 : (Try.prog.info? 23).map (fun i => (i.zero, i.size, i.bytes)) = some (some (.agg #[.int .i64 0, .int .i64 0, .int .i64 0]), 3, 24) := by kernel_rfl
theorem some_ {n : Int}  :
  Calls Try.prog 42 #[.int .i64 n] w fun en w' => en = .returned (.int .i64 (min n 1)) ∧ Ch [] w w' := by
 have C0 := qh (Ch.refl [] w)
 go_enter Try.func42, Try.ntmps42
 refine q_ (fun Q hQ hP => ?_)
 refine s_ (fun K1 hK1 => ?_)
 refine pu_ (v := .int .i64 0) (y_assign rfl (by rfl) (by rfl)) ?_
 try simp only [zP,zN,zA,zB,zC]
 refine nl_ (hK1 _ _ ?_); clear hK1 K1
 refine s_ (fun K2 hK2 => ?_)
 refine pu_ (v := .int .i64 n) (y_move rfl (by rfl) (by rfl)) ?_
 try simp only [zP,zN,zA,zB,zC]
 refine pu_ (v := .int .i64 (min n 1)) (y_run (by rfl) (fun W => by go_simp; split <;> omega)) ?_
 try simp only [zP,zN,zA,zB,zC]
 refine pu_ (v := .int .i64 (min n 1)) (y_assign rfl (by rfl) (by rfl)) ?_
 try simp only [zP,zN,zA,zB,zC]
 refine nl_ (hK2 _ _ ?_); clear hK2 K2
 refine wp_ret ?_
 refine hQ _ _ _ ?_
 refine bodyPost_ret (res1 rfl (rdv_tmp (v := .int .i64 (min n 1)) (by rfl))) rfl ?_
 exact ⟨rfl, C0.out⟩
theorem nan_ {n : Int}  :
  Calls Try.prog 49 #[.int .i64 n] w fun en w' => en = .returned (.bool false) ∧ Ch [] w w' := by
 have C0 := qh (Ch.refl [] w)
 go_enter Try.func49, Try.ntmps49
 refine q_ (fun Q hQ hP => ?_)
 refine s_ (fun K1 hK1 => ?_)
 refine pu_ (v := .bool false) (y_assign rfl (by rfl) (by rfl)) ?_
 try simp only [zP,zN,zA,zB,zC]
 refine nl_ (hK1 _ _ ?_); clear hK1 K1
 refine s_ (fun K2 hK2 => ?_)
 refine pu_ (v := .int .i64 n) (y_move rfl (by rfl) (by rfl)) ?_
 try simp only [zP,zN,zA,zB,zC]
 refine pu_ (v := .int .i64 n) (y_move rfl (by rfl) (by rfl)) ?_
 try simp only [zP,zN,zA,zB,zC]
 refine pu_ (v := .bool false) (y_run (by rfl) (fun W => by go_simp)) ?_
 try simp only [zP,zN,zA,zB,zC]
 refine pu_ (v := .bool false) (y_assign rfl (by rfl) (by rfl)) ?_
 try simp only [zP,zN,zA,zB,zC]
 refine nl_ (hK2 _ _ ?_); clear hK2 K2
 refine wp_ret ?_
 refine hQ _ _ _ ?_
 refine bodyPost_ret (res1 rfl (rdv_tmp (v := .bool false) (by rfl))) rfl ?_
 exact ⟨rfl, C0.out⟩
theorem cmp_ {x y : Int}  :
  Calls Try.prog 41 #[.int .i64 x, .int .i64 y] w fun en w' => en = .returned (.int .i64 (cmpI x y)) ∧ Ch [] w w' := by
 have C0 := qh (Ch.refl [] w)
 go_enter Try.func41, Try.ntmps41
 refine q_ (fun Q hQ hP => ?_)
 refine s_ (fun K1 hK1 => ?_)
 refine pu_ (v := .int .i64 0) (y_assign rfl (by rfl) (by rfl)) ?_
 try simp only [zP,zN,zA,zB,zC]
 refine nl_ (hK1 _ _ ?_); clear hK1 K1
 refine s_ (fun K2 hK2 => ?_)
 refine pu_ (v := .int .i64 x) (y_move rfl (by rfl) (by rfl)) ?_
 try simp only [zP,zN,zA,zB,zC]
 refine ef_ (fun K3 hK3 => ?_)
 refine e_call Try.func49 (by kernel_rfl) rfl #[.int .i64 x] (by rfl) rfl rfl (mp1 rfl) (nan_) ?_
 rintro en w5 ⟨rfl, cc4⟩
 refine ⟨_, rfl, ?_⟩
 replace C0 := qh (C0.out.trans' cc4 inw_nil)
 clear cc4
 refine hK3 _ _ ?_; clear hK3 K3
 try simp only [zP,zN,zA,zB,zC]
 refine pu_ (v := .bool false) (y_assign rfl (by rfl) (by rfl)) ?_
 try simp only [zP,zN,zA,zB,zC]
 refine nl_ (hK2 _ _ ?_); clear hK2 K2
 refine s_ (fun K6 hK6 => ?_)
 refine pu_ (v := .int .i64 y) (y_move rfl (by rfl) (by rfl)) ?_
 try simp only [zP,zN,zA,zB,zC]
 refine ef_ (fun K7 hK7 => ?_)
 refine e_call Try.func49 (by kernel_rfl) rfl #[.int .i64 y] (by rfl) rfl rfl (mp1 rfl) (nan_) ?_
 rintro en w9 ⟨rfl, cc8⟩
 refine ⟨_, rfl, ?_⟩
 replace C0 := qh (C0.out.trans' cc8 inw_nil)
 clear cc8
 refine hK7 _ _ ?_; clear hK7 K7
 try simp only [zP,zN,zA,zB,zC]
 refine pu_ (v := .bool false) (y_assign rfl (by rfl) (by rfl)) ?_
 try simp only [zP,zN,zA,zB,zC]
 refine nl_ (hK6 _ _ ?_); clear hK6 K6
 refine sq_ (fun K10 hK10 => ?_)
 refine s_ (fun K11 hK11 => ?_)
 refine pu_ (v := .bool false) (y_move rfl (by rfl) (by rfl)) ?_
 try simp only [zP,zN,zA,zB,zC]
 refine nl_ (hK11 _ _ ?_); clear hK11 K11
 refine wp_cond_false rfl ?_
 refine wp_skip ?_
 refine th_norm (hK10 _ _ ?_); try clear hK10 K10
 refine sq_ (fun K12 hK12 => ?_)
 refine s_ (fun K13 hK13 => ?_)
 refine pu_ (v := .bool false) (y_move rfl (by rfl) (by rfl)) ?_
 try simp only [zP,zN,zA,zB,zC]
 refine nl_ (hK13 _ _ ?_); clear hK13 K13
 refine wp_cond_false rfl ?_
 refine wp_skip ?_
 refine th_norm (hK12 _ _ ?_); try clear hK12 K12
 refine sq_ (fun K14 hK14 => ?_)
 rcases (show x < y ∨ y < x ∨ x = y by omega) with h | h | h
 ·have HH := qh h
  clear h
  have D16 := qh (show decide (x < y) = true from decide_eq_true (by have := HH.out; omega))
  have HR := qh (show cmpI x y = -1 by unfold cmpI; rw [if_pos HH.out])
  refine s_ (fun K15 hK15 => ?_)
  refine pu_ (v := .int .i64 x) (y_move rfl (by rfl) (by rfl)) ?_
  try simp only [zP,zN,zA,zB,zC]
  refine pu_ (v := .int .i64 y) (y_move rfl (by rfl) (by rfl)) ?_
  try simp only [zP,zN,zA,zB,zC]
  refine pu_ (v := .bool true) (y_run (by rfl) (fun W => by have d := D16.out; go_simp)) ?_
  try simp only [zP,zN,zA,zB,zC]
  refine nl_ (hK15 _ _ ?_); clear hK15 K15
  refine wp_cond_true rfl ?_
  refine s_ (fun K16 hK16 => ?_)
  refine pu_ (v := .int .i64 (-1)) (y_assign rfl (by rfl) (by rfl)) ?_
  try simp only [zP,zN,zA,zB,zC]
  refine nl_ (hK16 _ _ ?_); clear hK16 K16
  refine wp_ret ?_
  refine th_ret ?_
  refine hQ _ _ _ ?_
  refine bodyPost_ret (res1 rfl (rdv_tmp (v := .int .i64 (-1)) (by rfl))) rfl ?_
  exact ⟨by rw [HR.out], C0.out⟩
 ·have HH := qh h
  clear h
  have D16 := qh (show decide (x < y) = false from decide_eq_false (by have := HH.out; omega))
  have D19 := qh (show decide (x > y) = true from decide_eq_true (by have := HH.out; omega))
  have HR := qh (show cmpI x y = 1 by unfold cmpI; rw [if_neg (by have := HH.out; omega), if_pos HH.out])
  refine s_ (fun K17 hK17 => ?_)
  refine pu_ (v := .int .i64 x) (y_move rfl (by rfl) (by rfl)) ?_
  try simp only [zP,zN,zA,zB,zC]
  refine pu_ (v := .int .i64 y) (y_move rfl (by rfl) (by rfl)) ?_
  try simp only [zP,zN,zA,zB,zC]
  refine pu_ (v := .bool false) (y_run (by rfl) (fun W => by have d := D16.out; go_simp)) ?_
  try simp only [zP,zN,zA,zB,zC]
  refine nl_ (hK17 _ _ ?_); clear hK17 K17
  refine wp_cond_false rfl ?_
  refine wp_skip ?_
  refine th_norm (hK14 _ _ ?_); try clear hK14 K14
  refine sq_ (fun K18 hK18 => ?_)
  refine s_ (fun K19 hK19 => ?_)
  refine pu_ (v := .int .i64 x) (y_move rfl (by rfl) (by rfl)) ?_
  try simp only [zP,zN,zA,zB,zC]
  refine pu_ (v := .int .i64 y) (y_move rfl (by rfl) (by rfl)) ?_
  try simp only [zP,zN,zA,zB,zC]
  refine pu_ (v := .bool true) (y_run (by rfl) (fun W => by have d := D19.out; go_simp)) ?_
  try simp only [zP,zN,zA,zB,zC]
  refine nl_ (hK19 _ _ ?_); clear hK19 K19
  refine wp_cond_true rfl ?_
  refine s_ (fun K20 hK20 => ?_)
  refine pu_ (v := .int .i64 1) (y_assign rfl (by rfl) (by rfl)) ?_
  try simp only [zP,zN,zA,zB,zC]
  refine nl_ (hK20 _ _ ?_); clear hK20 K20
  refine wp_ret ?_
  refine th_ret ?_
  refine hQ _ _ _ ?_
  refine bodyPost_ret (res1 rfl (rdv_tmp (v := .int .i64 1) (by rfl))) rfl ?_
  exact ⟨by rw [HR.out], C0.out⟩
 ·have HH := qh h
  clear h
  have D16 := qh (show decide (x < y) = false from decide_eq_false (by have := HH.out; omega))
  have D19 := qh (show decide (x > y) = false from decide_eq_false (by have := HH.out; omega))
  have HR := qh (show cmpI x y = 0 by unfold cmpI; rw [if_neg (by have := HH.out; omega), if_neg (by have := HH.out; omega)])
  refine s_ (fun K21 hK21 => ?_)
  refine pu_ (v := .int .i64 x) (y_move rfl (by rfl) (by rfl)) ?_
  try simp only [zP,zN,zA,zB,zC]
  refine pu_ (v := .int .i64 y) (y_move rfl (by rfl) (by rfl)) ?_
  try simp only [zP,zN,zA,zB,zC]
  refine pu_ (v := .bool false) (y_run (by rfl) (fun W => by have d := D16.out; go_simp)) ?_
  try simp only [zP,zN,zA,zB,zC]
  refine nl_ (hK21 _ _ ?_); clear hK21 K21
  refine wp_cond_false rfl ?_
  refine wp_skip ?_
  refine th_norm (hK14 _ _ ?_); try clear hK14 K14
  refine sq_ (fun K22 hK22 => ?_)
  refine s_ (fun K23 hK23 => ?_)
  refine pu_ (v := .int .i64 x) (y_move rfl (by rfl) (by rfl)) ?_
  try simp only [zP,zN,zA,zB,zC]
  refine pu_ (v := .int .i64 y) (y_move rfl (by rfl) (by rfl)) ?_
  try simp only [zP,zN,zA,zB,zC]
  refine pu_ (v := .bool false) (y_run (by rfl) (fun W => by have d := D19.out; go_simp)) ?_
  try simp only [zP,zN,zA,zB,zC]
  refine nl_ (hK23 _ _ ?_); clear hK23 K23
  refine wp_cond_false rfl ?_
  refine wp_skip ?_
  refine th_norm (hK22 _ _ ?_); try clear hK22 K22
  refine s_ (fun K24 hK24 => ?_)
  refine pu_ (v := .int .i64 0) (y_assign rfl (by rfl) (by rfl)) ?_
  try simp only [zP,zN,zA,zB,zC]
  refine nl_ (hK24 _ _ ?_); clear hK24 K24
  refine wp_ret ?_
  refine hQ _ _ _ ?_
  refine bodyPost_ret (res1 rfl (rdv_tmp (v := .int .i64 0) (by rfl))) rfl ?_
  exact ⟨by rw [HR.out], C0.out⟩
theorem or_ {g : Nat} {a b c d : Int} (FG : Hid (Blk w g (#[.int .i64 a, .int .i64 b, .int .i64 c, .int .i64 d]) 3)) :
  Calls Try.prog 40 #[.slice (some ⟨g, 0, none⟩) 4 4] w fun en w' => en = .returned (.int .i64 (orZ a b c d)) ∧ Ch [] w w' := by
 have C0 := qh (Ch.refl [] w)
 go_enter Try.func40, Try.ntmps40
 refine q_ (fun Q hQ hP => ?_)
 refine s_ (fun K1 hK1 => ?_)
 refine pu_ (v := .int .i64 0) (y_assign rfl (by rfl) (by rfl)) ?_
 try simp only [zP,zN,zA,zB,zC]
 refine nl_ (hK1 _ _ ?_); clear hK1 K1
 refine s_ (fun K2 hK2 => ?_)
 refine pu_ (v := .int .i64 0) (y_assign rfl (by rfl) (by rfl)) ?_
 try simp only [zP,zN,zA,zB,zC]
 refine nl_ (hK2 _ _ ?_); clear hK2 K2
 refine sq_ (fun K3 hK3 => ?_)
 refine s_ (fun K4 hK4 => ?_)
 refine pu_ (v := .slice (some ⟨g, 0, none⟩) 4 4) (y_move rfl (by rfl) (by rfl)) ?_
 try simp only [zP,zN,zA,zB,zC]
 refine pu_ (v := .int .i64 4) (y_run (by rfl) (fun W => by go_simp)) ?_
 try simp only [zP,zN,zA,zB,zC]
 refine pu_ (v := .int .i64 0) (y_move rfl (by rfl) (by rfl)) ?_
 try simp only [zP,zN,zA,zB,zC]
 refine nl_ (hK4 _ _ ?_); clear hK4 K4
 refine wp_block ?_
 refine loopk_ (fun (kq : Nat) (a' : Act) (w' : World) => ∃ (k : Nat), a' = ⟨#[.slice (some ⟨g, 0, none⟩) 4 4, uo a' 1, .int .i64 0, .int .i64 0, uo a' 4, uo a' 5, .slice (some ⟨g, 0, none⟩) 4 4, .int .i64 4, .int .i64 k, uo a' 9, uo a' 10, uo a' 11, uo a' 12, uo a' 13, uo a' 14, uo a' 15, uo a' 16, uo a' 17], []⟩ ∧ Hid (Ch [] w w') ∧ Hid (Blk w' g (#[.int .i64 a, .int .i64 b, .int .i64 c, .int .i64 d]) 3) ∧ Hid (k ≤ 4 ∧ kq + k = 4) ∧ Hid ((0 < k → a = 0) ∧ (1 < k → b = 0) ∧ (2 < k → c = 0) ∧ (3 < k → d = 0))) (4) (⟨0, rfl, C0, FG, qh ⟨by omega, rfl⟩, qh (by simp)⟩) ?_
 rintro kq a_ w5 ⟨k, ha_, C0, FG, hk, hz⟩ K6 hK6
 obtain ⟨us, hus_⟩ : ∃ us, us = uo a_ := ⟨_, rfl⟩; try rw [← hus_] at ha_
 subst ha_; clear hus_
 rcases (show k = 0 ∨ k = 1 ∨ k = 2 ∨ k = 3 ∨ k = 4 by have := hk.out; omega) with h | h | h | h | h
 ·subst h
  refine s_ (fun K7 hK7 => ?_)
  refine pu_ (v := .bool true) (y_run (by rfl) (fun W => by first | (go_simp; done) | (go_simp; rfl) | (go_simp; decide))) ?_
  try simp only [zP,zN,zA,zB,zC]
  refine nl_ (hK7 _ _ ?_); clear hK7 K7
  refine sq_ (fun K8 hK8 => ?_)
  refine wp_cond_true rfl ?_
  refine wp_skip ?_
  refine th_norm (hK8 _ _ ?_); try clear hK8 K8
  refine sq_ (fun K9 hK9 => ?_)
  refine wp_block ?_
  refine s_ (fun K10 hK10 => ?_)
  refine pu_ (v := .pointer (some ⟨g, 0, none⟩)) (y_run (by rfl) (fun W => by first | (go_simp; done) | (go_simp; rfl) | (go_simp; decide))) ?_
  try simp only [zP,zN,zA,zB,zC]
  refine ld_ (v := .int .i64 a) rfl (by rfl) (by rfl) (run_load_one ((FG.out.cell 0).trans rfl) Try.underlying3 rfl) ?_
  try simp only [zP,zN,zA,zB,zC]
  refine pu_ (v := .int .i64 a) (y_assign rfl (by rfl) (by rfl)) ?_
  try simp only [zP,zN,zA,zB,zC]
  refine nl_ (hK10 _ _ ?_); clear hK10 K10
  rcases Classical.em (a = 0) with h | h
  ·have HX := qh h
   clear h
   have D14 := qh (show a = 0 from HX.out)
   refine s_ (fun K11 hK11 => ?_)
   refine pu_ (v := .int .i64 a) (y_move rfl (by rfl) (by rfl)) ?_
   try simp only [zP,zN,zA,zB,zC]
   refine pu_ (v := .int .i64 0) (y_move rfl (by rfl) (by rfl)) ?_
   try simp only [zP,zN,zA,zB,zC]
   refine pu_ (v := .bool false) (y_run (by rfl) (fun W => by have d := D14.out; go_simp)) ?_
   try simp only [zP,zN,zA,zB,zC]
   refine nl_ (hK11 _ _ ?_); clear hK11 K11
   refine wp_cond_false rfl ?_
   refine wp_skip ?_
   refine ib_norm ?_
   refine th_norm (hK9 _ _ ?_); try clear hK9 K9
   refine r_ ?_
   refine pu_ (v := .int .i64 ((1 : Nat) : Int)) (y_run (by rfl) (fun W => by first | (go_simp; done) | (go_simp; rfl) | (go_simp; decide))) ?_
   try simp only [zP,zN,zA,zB,zC]
   refine pu_ (v := .int .i64 ((1 : Nat) : Int)) (y_move rfl (by rfl) (by rfl)) ?_
   try simp only [zP,zN,zA,zB,zC]
   refine nl_ ?_
   exact th_norm (hK6 (3) _ _ (by have := hk.out; omega) ⟨1, rfl, C0, FG, qh ⟨by omega, by have := hk.out; omega⟩, qh ⟨(fun _ => HX.out), (fun h9 => absurd h9 (by omega)), (fun h9 => absurd h9 (by omega)), (fun h9 => absurd h9 (by omega))⟩⟩)
  ·have HX := qh h
   clear h
   have D14 := qh (show ¬ a = 0 from HX.out)
   have HR := qh (show orZ a b c d = a by unfold orZ; rw [if_pos HX.out])
   refine s_ (fun K12 hK12 => ?_)
   refine pu_ (v := .int .i64 a) (y_move rfl (by rfl) (by rfl)) ?_
   try simp only [zP,zN,zA,zB,zC]
   refine pu_ (v := .int .i64 0) (y_move rfl (by rfl) (by rfl)) ?_
   try simp only [zP,zN,zA,zB,zC]
   refine pu_ (v := .bool true) (y_run (by rfl) (fun W => by have d := D14.out; go_simp)) ?_
   try simp only [zP,zN,zA,zB,zC]
   refine nl_ (hK12 _ _ ?_); clear hK12 K12
   refine wp_cond_true rfl ?_
   refine s_ (fun K13 hK13 => ?_)
   refine pu_ (v := .int .i64 a) (y_move rfl (by rfl) (by rfl)) ?_
   try simp only [zP,zN,zA,zB,zC]
   refine pu_ (v := .int .i64 a) (y_assign rfl (by rfl) (by rfl)) ?_
   try simp only [zP,zN,zA,zB,zC]
   refine nl_ (hK13 _ _ ?_); clear hK13 K13
   refine wp_ret ?_
   refine ib_ret ?_
   refine th_ret ?_
   refine th_ret ?_
   refine ib_ret ?_
   refine th_ret ?_
   refine hQ _ _ _ ?_
   refine bodyPost_ret (res1 rfl (rdv_tmp (v := .int .i64 a) (by rfl))) rfl ?_
   exact ⟨by rw [HR.out], C0.out⟩
 ·subst h
  refine s_ (fun K14 hK14 => ?_)
  refine pu_ (v := .bool true) (y_run (by rfl) (fun W => by first | (go_simp; done) | (go_simp; rfl) | (go_simp; decide))) ?_
  try simp only [zP,zN,zA,zB,zC]
  refine nl_ (hK14 _ _ ?_); clear hK14 K14
  refine sq_ (fun K15 hK15 => ?_)
  refine wp_cond_true rfl ?_
  refine wp_skip ?_
  refine th_norm (hK15 _ _ ?_); try clear hK15 K15
  refine sq_ (fun K16 hK16 => ?_)
  refine wp_block ?_
  refine s_ (fun K17 hK17 => ?_)
  refine pu_ (v := .pointer (some ⟨g, 1, none⟩)) (y_run (by rfl) (fun W => by first | (go_simp; done) | (go_simp; rfl) | (go_simp; decide))) ?_
  try simp only [zP,zN,zA,zB,zC]
  refine ld_ (v := .int .i64 b) rfl (by rfl) (by rfl) (run_load_one ((FG.out.cell 1).trans rfl) Try.underlying3 rfl) ?_
  try simp only [zP,zN,zA,zB,zC]
  refine pu_ (v := .int .i64 b) (y_assign rfl (by rfl) (by rfl)) ?_
  try simp only [zP,zN,zA,zB,zC]
  refine nl_ (hK17 _ _ ?_); clear hK17 K17
  rcases Classical.em (b = 0) with h | h
  ·have HX := qh h
   clear h
   have D14 := qh (show b = 0 from HX.out)
   refine s_ (fun K18 hK18 => ?_)
   refine pu_ (v := .int .i64 b) (y_move rfl (by rfl) (by rfl)) ?_
   try simp only [zP,zN,zA,zB,zC]
   refine pu_ (v := .int .i64 0) (y_move rfl (by rfl) (by rfl)) ?_
   try simp only [zP,zN,zA,zB,zC]
   refine pu_ (v := .bool false) (y_run (by rfl) (fun W => by have d := D14.out; go_simp)) ?_
   try simp only [zP,zN,zA,zB,zC]
   refine nl_ (hK18 _ _ ?_); clear hK18 K18
   refine wp_cond_false rfl ?_
   refine wp_skip ?_
   refine ib_norm ?_
   refine th_norm (hK16 _ _ ?_); try clear hK16 K16
   refine r_ ?_
   refine pu_ (v := .int .i64 ((2 : Nat) : Int)) (y_run (by rfl) (fun W => by first | (go_simp; done) | (go_simp; rfl) | (go_simp; decide))) ?_
   try simp only [zP,zN,zA,zB,zC]
   refine pu_ (v := .int .i64 ((2 : Nat) : Int)) (y_move rfl (by rfl) (by rfl)) ?_
   try simp only [zP,zN,zA,zB,zC]
   refine nl_ ?_
   exact th_norm (hK6 (2) _ _ (by have := hk.out; omega) ⟨2, rfl, C0, FG, qh ⟨by omega, by have := hk.out; omega⟩, qh ⟨(fun _ => hz.out.1 (by omega)), (fun _ => HX.out), (fun h9 => absurd h9 (by omega)), (fun h9 => absurd h9 (by omega))⟩⟩)
  ·have HX := qh h
   clear h
   have D14 := qh (show ¬ b = 0 from HX.out)
   have HR := qh (show orZ a b c d = b by unfold orZ; rw [if_neg (by rw [hz.out.1 (by omega)]; simp)]; rw [if_pos HX.out])
   refine s_ (fun K19 hK19 => ?_)
   refine pu_ (v := .int .i64 b) (y_move rfl (by rfl) (by rfl)) ?_
   try simp only [zP,zN,zA,zB,zC]
   refine pu_ (v := .int .i64 0) (y_move rfl (by rfl) (by rfl)) ?_
   try simp only [zP,zN,zA,zB,zC]
   refine pu_ (v := .bool true) (y_run (by rfl) (fun W => by have d := D14.out; go_simp)) ?_
   try simp only [zP,zN,zA,zB,zC]
   refine nl_ (hK19 _ _ ?_); clear hK19 K19
   refine wp_cond_true rfl ?_
   refine s_ (fun K20 hK20 => ?_)
   refine pu_ (v := .int .i64 b) (y_move rfl (by rfl) (by rfl)) ?_
   try simp only [zP,zN,zA,zB,zC]
   refine pu_ (v := .int .i64 b) (y_assign rfl (by rfl) (by rfl)) ?_
   try simp only [zP,zN,zA,zB,zC]
   refine nl_ (hK20 _ _ ?_); clear hK20 K20
   refine wp_ret ?_
   refine ib_ret ?_
   refine th_ret ?_
   refine th_ret ?_
   refine ib_ret ?_
   refine th_ret ?_
   refine hQ _ _ _ ?_
   refine bodyPost_ret (res1 rfl (rdv_tmp (v := .int .i64 b) (by rfl))) rfl ?_
   exact ⟨by rw [HR.out], C0.out⟩
 ·subst h
  refine s_ (fun K21 hK21 => ?_)
  refine pu_ (v := .bool true) (y_run (by rfl) (fun W => by first | (go_simp; done) | (go_simp; rfl) | (go_simp; decide))) ?_
  try simp only [zP,zN,zA,zB,zC]
  refine nl_ (hK21 _ _ ?_); clear hK21 K21
  refine sq_ (fun K22 hK22 => ?_)
  refine wp_cond_true rfl ?_
  refine wp_skip ?_
  refine th_norm (hK22 _ _ ?_); try clear hK22 K22
  refine sq_ (fun K23 hK23 => ?_)
  refine wp_block ?_
  refine s_ (fun K24 hK24 => ?_)
  refine pu_ (v := .pointer (some ⟨g, 2, none⟩)) (y_run (by rfl) (fun W => by first | (go_simp; done) | (go_simp; rfl) | (go_simp; decide))) ?_
  try simp only [zP,zN,zA,zB,zC]
  refine ld_ (v := .int .i64 c) rfl (by rfl) (by rfl) (run_load_one ((FG.out.cell 2).trans rfl) Try.underlying3 rfl) ?_
  try simp only [zP,zN,zA,zB,zC]
  refine pu_ (v := .int .i64 c) (y_assign rfl (by rfl) (by rfl)) ?_
  try simp only [zP,zN,zA,zB,zC]
  refine nl_ (hK24 _ _ ?_); clear hK24 K24
  rcases Classical.em (c = 0) with h | h
  ·have HX := qh h
   clear h
   have D14 := qh (show c = 0 from HX.out)
   refine s_ (fun K25 hK25 => ?_)
   refine pu_ (v := .int .i64 c) (y_move rfl (by rfl) (by rfl)) ?_
   try simp only [zP,zN,zA,zB,zC]
   refine pu_ (v := .int .i64 0) (y_move rfl (by rfl) (by rfl)) ?_
   try simp only [zP,zN,zA,zB,zC]
   refine pu_ (v := .bool false) (y_run (by rfl) (fun W => by have d := D14.out; go_simp)) ?_
   try simp only [zP,zN,zA,zB,zC]
   refine nl_ (hK25 _ _ ?_); clear hK25 K25
   refine wp_cond_false rfl ?_
   refine wp_skip ?_
   refine ib_norm ?_
   refine th_norm (hK23 _ _ ?_); try clear hK23 K23
   refine r_ ?_
   refine pu_ (v := .int .i64 ((3 : Nat) : Int)) (y_run (by rfl) (fun W => by first | (go_simp; done) | (go_simp; rfl) | (go_simp; decide))) ?_
   try simp only [zP,zN,zA,zB,zC]
   refine pu_ (v := .int .i64 ((3 : Nat) : Int)) (y_move rfl (by rfl) (by rfl)) ?_
   try simp only [zP,zN,zA,zB,zC]
   refine nl_ ?_
   exact th_norm (hK6 (1) _ _ (by have := hk.out; omega) ⟨3, rfl, C0, FG, qh ⟨by omega, by have := hk.out; omega⟩, qh ⟨(fun _ => hz.out.1 (by omega)), (fun _ => hz.out.2.1 (by omega)), (fun _ => HX.out), (fun h9 => absurd h9 (by omega))⟩⟩)
  ·have HX := qh h
   clear h
   have D14 := qh (show ¬ c = 0 from HX.out)
   have HR := qh (show orZ a b c d = c by unfold orZ; rw [if_neg (by rw [hz.out.1 (by omega)]; simp)]; rw [if_neg (by rw [hz.out.2.1 (by omega)]; simp)]; rw [if_pos HX.out])
   refine s_ (fun K26 hK26 => ?_)
   refine pu_ (v := .int .i64 c) (y_move rfl (by rfl) (by rfl)) ?_
   try simp only [zP,zN,zA,zB,zC]
   refine pu_ (v := .int .i64 0) (y_move rfl (by rfl) (by rfl)) ?_
   try simp only [zP,zN,zA,zB,zC]
   refine pu_ (v := .bool true) (y_run (by rfl) (fun W => by have d := D14.out; go_simp)) ?_
   try simp only [zP,zN,zA,zB,zC]
   refine nl_ (hK26 _ _ ?_); clear hK26 K26
   refine wp_cond_true rfl ?_
   refine s_ (fun K27 hK27 => ?_)
   refine pu_ (v := .int .i64 c) (y_move rfl (by rfl) (by rfl)) ?_
   try simp only [zP,zN,zA,zB,zC]
   refine pu_ (v := .int .i64 c) (y_assign rfl (by rfl) (by rfl)) ?_
   try simp only [zP,zN,zA,zB,zC]
   refine nl_ (hK27 _ _ ?_); clear hK27 K27
   refine wp_ret ?_
   refine ib_ret ?_
   refine th_ret ?_
   refine th_ret ?_
   refine ib_ret ?_
   refine th_ret ?_
   refine hQ _ _ _ ?_
   refine bodyPost_ret (res1 rfl (rdv_tmp (v := .int .i64 c) (by rfl))) rfl ?_
   exact ⟨by rw [HR.out], C0.out⟩
 ·subst h
  refine s_ (fun K28 hK28 => ?_)
  refine pu_ (v := .bool true) (y_run (by rfl) (fun W => by first | (go_simp; done) | (go_simp; rfl) | (go_simp; decide))) ?_
  try simp only [zP,zN,zA,zB,zC]
  refine nl_ (hK28 _ _ ?_); clear hK28 K28
  refine sq_ (fun K29 hK29 => ?_)
  refine wp_cond_true rfl ?_
  refine wp_skip ?_
  refine th_norm (hK29 _ _ ?_); try clear hK29 K29
  refine sq_ (fun K30 hK30 => ?_)
  refine wp_block ?_
  refine s_ (fun K31 hK31 => ?_)
  refine pu_ (v := .pointer (some ⟨g, 3, none⟩)) (y_run (by rfl) (fun W => by first | (go_simp; done) | (go_simp; rfl) | (go_simp; decide))) ?_
  try simp only [zP,zN,zA,zB,zC]
  refine ld_ (v := .int .i64 d) rfl (by rfl) (by rfl) (run_load_one ((FG.out.cell 3).trans rfl) Try.underlying3 rfl) ?_
  try simp only [zP,zN,zA,zB,zC]
  refine pu_ (v := .int .i64 d) (y_assign rfl (by rfl) (by rfl)) ?_
  try simp only [zP,zN,zA,zB,zC]
  refine nl_ (hK31 _ _ ?_); clear hK31 K31
  rcases Classical.em (d = 0) with h | h
  ·have HX := qh h
   clear h
   have D14 := qh (show d = 0 from HX.out)
   refine s_ (fun K32 hK32 => ?_)
   refine pu_ (v := .int .i64 d) (y_move rfl (by rfl) (by rfl)) ?_
   try simp only [zP,zN,zA,zB,zC]
   refine pu_ (v := .int .i64 0) (y_move rfl (by rfl) (by rfl)) ?_
   try simp only [zP,zN,zA,zB,zC]
   refine pu_ (v := .bool false) (y_run (by rfl) (fun W => by have d := D14.out; go_simp)) ?_
   try simp only [zP,zN,zA,zB,zC]
   refine nl_ (hK32 _ _ ?_); clear hK32 K32
   refine wp_cond_false rfl ?_
   refine wp_skip ?_
   refine ib_norm ?_
   refine th_norm (hK30 _ _ ?_); try clear hK30 K30
   refine r_ ?_
   refine pu_ (v := .int .i64 ((4 : Nat) : Int)) (y_run (by rfl) (fun W => by first | (go_simp; done) | (go_simp; rfl) | (go_simp; decide))) ?_
   try simp only [zP,zN,zA,zB,zC]
   refine pu_ (v := .int .i64 ((4 : Nat) : Int)) (y_move rfl (by rfl) (by rfl)) ?_
   try simp only [zP,zN,zA,zB,zC]
   refine nl_ ?_
   exact th_norm (hK6 (0) _ _ (by have := hk.out; omega) ⟨4, rfl, C0, FG, qh ⟨by omega, by have := hk.out; omega⟩, qh ⟨(fun _ => hz.out.1 (by omega)), (fun _ => hz.out.2.1 (by omega)), (fun _ => hz.out.2.2.1 (by omega)), (fun _ => HX.out)⟩⟩)
  ·have HX := qh h
   clear h
   have D14 := qh (show ¬ d = 0 from HX.out)
   have HR := qh (show orZ a b c d = d by unfold orZ; rw [if_neg (by rw [hz.out.1 (by omega)]; simp)]; rw [if_neg (by rw [hz.out.2.1 (by omega)]; simp)]; rw [if_neg (by rw [hz.out.2.2.1 (by omega)]; simp)])
   refine s_ (fun K33 hK33 => ?_)
   refine pu_ (v := .int .i64 d) (y_move rfl (by rfl) (by rfl)) ?_
   try simp only [zP,zN,zA,zB,zC]
   refine pu_ (v := .int .i64 0) (y_move rfl (by rfl) (by rfl)) ?_
   try simp only [zP,zN,zA,zB,zC]
   refine pu_ (v := .bool true) (y_run (by rfl) (fun W => by have d := D14.out; go_simp)) ?_
   try simp only [zP,zN,zA,zB,zC]
   refine nl_ (hK33 _ _ ?_); clear hK33 K33
   refine wp_cond_true rfl ?_
   refine s_ (fun K34 hK34 => ?_)
   refine pu_ (v := .int .i64 d) (y_move rfl (by rfl) (by rfl)) ?_
   try simp only [zP,zN,zA,zB,zC]
   refine pu_ (v := .int .i64 d) (y_assign rfl (by rfl) (by rfl)) ?_
   try simp only [zP,zN,zA,zB,zC]
   refine nl_ (hK34 _ _ ?_); clear hK34 K34
   refine wp_ret ?_
   refine ib_ret ?_
   refine th_ret ?_
   refine th_ret ?_
   refine ib_ret ?_
   refine th_ret ?_
   refine hQ _ _ _ ?_
   refine bodyPost_ret (res1 rfl (rdv_tmp (v := .int .i64 d) (by rfl))) rfl ?_
   exact ⟨by rw [HR.out], C0.out⟩
 ·subst h
  have HR := qh (show orZ a b c d = 0 by unfold orZ; rw [hz.out.1 (by omega), hz.out.2.1 (by omega), hz.out.2.2.1 (by omega), hz.out.2.2.2 (by omega)]; simp)
  refine s_ (fun K35 hK35 => ?_)
  refine pu_ (v := .bool false) (y_run (by rfl) (fun W => by first | (go_simp; done) | (go_simp; rfl) | (go_simp; decide))) ?_
  try simp only [zP,zN,zA,zB,zC]
  refine nl_ (hK35 _ _ ?_); clear hK35 K35
  refine sq_ (fun K36 hK36 => ?_)
  refine wp_cond_false rfl ?_
  refine wp_exit ?_
  refine th_exit ?_
  refine th_exit ?_
  refine ib_exit ?_
  refine th_norm (hK3 _ _ ?_); try clear hK3 K3
  refine s_ (fun K37 hK37 => ?_)
  refine pu_ (v := .int .i64 0) (y_move rfl (by rfl) (by rfl)) ?_
  try simp only [zP,zN,zA,zB,zC]
  refine pu_ (v := .int .i64 0) (y_assign rfl (by rfl) (by rfl)) ?_
  try simp only [zP,zN,zA,zB,zC]
  refine nl_ (hK37 _ _ ?_); clear hK37 K37
  refine wp_ret ?_
  refine hQ _ _ _ ?_
  refine bodyPost_ret (res1 rfl (rdv_tmp (v := .int .i64 0) (by rfl))) rfl ?_
  exact ⟨by rw [HR.out], C0.out⟩
theorem sumr_ {A : Option Addr} {z : Nat} {L : List R3} (HN : Hid (L.length ≤ 1000)) (HL3 : Hid (∀ r ∈ L, I3 r)) (SL : Hid (SrcIs w (.slice A L.length z) (L.length) (L.flatMap r3C) 3)) :
  Calls Try.prog 55 #[.slice A L.length z] w fun en w' => en = .returned (.tuple #[.agg #[.int .i64 (sum3 (0, 0, 0) L).1.1, .int .i64 (sum3 (0, 0, 0) L).1.2.1, .int .i64 (sum3 (0, 0, 0) L).1.2.2], .bool (sum3 (0, 0, 0) L).2]) ∧ Ch [] w w' := by
 have C0 := qh (Ch.refl [] w)
 go_enter Try.func55, Try.ntmps55
 refine q_ (fun Q hQ hP => ?_)
 refine s_ (fun K1 hK1 => ?_)
 refine ef_ (fun K2 hK2 => ?_)
 refine e_alloc (by rfl) rfl rfl (cs := #[.int .i64 0, .int .i64 0, .int .i64 0]) (by kernel_rfl) ?_
 rintro gr w3 HG4 B5 C6
 have nw7 := qh (show w.heap.size ≤ gr by have := C0.out.size; have := HG4.out; omega)
 have nx8 := qh (SL.out.ne_new (by decide) HG4)
 replace C0 := qh (C0.out.trans' C6 inw_nil)
 replace SL := qh (SL.out.chx C6 xnin_nil)
 have Fgr := qh (show Blk w3 gr (#[.int .i64 0, .int .i64 0, .int .i64 0]) 23 from B5); clear B5 C6
 refine hK2 _ _ ?_; clear hK2 K2
 try simp only [zP,zN,zA,zB,zC]
 refine pu_ (v := .bool false) (y_assign rfl (by rfl) (by rfl)) ?_
 try simp only [zP,zN,zA,zB,zC]
 refine nl_ (hK1 _ _ ?_); clear hK1 K1
 refine s_ (fun K9 hK9 => ?_)
 refine ef_ (fun K10 hK10 => ?_)
 refine e_alloc (by rfl) rfl rfl (cs := #[.int .i64 0, .int .i64 0, .int .i64 0]) (by kernel_rfl) ?_
 rintro gs w11 HG12 B13 C14
 have nw15 := qh (show w.heap.size ≤ gs by have := C0.out.size; have := HG12.out; omega)
 have nx16 := qh (SL.out.ne_new (by decide) HG12)
 have ne17 := qh (Fgr.out.ne_new HG12)
 replace C0 := qh (C0.out.trans' C14 inw_nil)
 replace SL := qh (SL.out.chx C14 xnin_nil)
 replace Fgr := qh (C14.blk Fgr.out nin_nil)
 have Fgs := qh (show Blk w11 gs (#[.int .i64 0, .int .i64 0, .int .i64 0]) 23 from B13); clear B13 C14
 refine hK10 _ _ ?_; clear hK10 K10
 try simp only [zP,zN,zA,zB,zC]
 refine nl_ (hK9 _ _ ?_); clear hK9 K9
 refine sq_ (fun K18 hK18 => ?_)
 refine s_ (fun K19 hK19 => ?_)
 refine pu_ (v := .slice A L.length z) (y_move rfl (by rfl) (by rfl)) ?_
 try simp only [zP,zN,zA,zB,zC]
 refine pu_ (v := .int .i64 L.length) (y_run (by rfl) (fun W => by go_simp)) ?_
 try simp only [zP,zN,zA,zB,zC]
 refine pu_ (v := .int .i64 0) (y_move rfl (by rfl) (by rfl)) ?_
 try simp only [zP,zN,zA,zB,zC]
 refine nl_ (hK19 _ _ ?_); clear hK19 K19
 refine wp_block ?_
 refine loopk_ (fun (kq : Nat) (a' : Act) (w' : World) => ∃ (k : Nat), ∃ (q : R3), a' = ⟨#[.slice A L.length z, uo a' 1, .pointer (some ⟨gr, 0, none⟩), .bool false, .pointer (some ⟨gs, 0, none⟩), uo a' 5, uo a' 6, uo a' 7, uo a' 8, .slice A L.length z, .int .i64 L.length, .int .i64 k, uo a' 12, uo a' 13, uo a' 14, uo a' 15, uo a' 16, uo a' 17, uo a' 18, uo a' 19, uo a' 20, uo a' 21, uo a' 22, uo a' 23, uo a' 24, uo a' 25, uo a' 26], []⟩ ∧ Hid (Ch [] w w') ∧ Hid (SrcIs w' (.slice A L.length z) (L.length) (L.flatMap r3C) 3) ∧ Hid (Blk w' gr (#[.int .i64 0, .int .i64 0, .int .i64 0]) 23) ∧ Hid (Blk w' gs (#[.int .i64 q.1, .int .i64 q.2.1, .int .i64 q.2.2]) 23) ∧ Hid (k ≤ L.length ∧ kq + k = L.length) ∧ Hid (sum3 (0, 0, 0) L = sum3 q (L.drop k)) ∧ Hid (I3 q)) (L.length) (⟨0, (0, 0, 0), rfl, C0, SL, Fgr, Fgs, qh ⟨by omega, by omega⟩, qh rfl, qh zero_i3⟩) ?_
 rintro kq a_ w20 ⟨k, q, ha_, C0, SL, FR, FS, hk, hs, hi⟩ K21 hK21
 obtain ⟨us, hus_⟩ : ∃ us, us = uo a_ := ⟨_, rfl⟩; try rw [← hus_] at ha_
 subst ha_; clear hus_
 rcases at_ways' hk.out.1 with ⟨r, ho0, hlt0⟩ | h; rcases Bool.eq_false_or_eq_true (add3 q r).2 with h | h
 ·have hlt := qh hlt0
  have ho := qh ho0
  have HOK := qh h
  clear hlt0 ho0 h
  obtain ⟨a, hsm_a⟩ := src_some SL.out (by have := hlt.out; omega)
  subst hsm_a
  have D12 := qh (show (k : Int) < (L.length : Int) by have := hlt.out; omega)
  have Wk := qh (show IntKind.i64.wrap ((k : Int) + 1) = ((k + 1 : Nat) : Int) by rw [wr64 (by have := hlt.out; have h7 := HN.out; omega)]; omega)
  refine s_ (fun K22 hK22 => ?_)
  refine pu_ (v := .bool true) (y_run (by rfl) (fun W => by have d := D12.out; go_simp)) ?_
  try simp only [zP,zN,zA,zB,zC]
  refine nl_ (hK22 _ _ ?_); clear hK22 K22
  refine sq_ (fun K23 hK23 => ?_)
  refine wp_cond_true rfl ?_
  refine wp_skip ?_
  refine th_norm (hK23 _ _ ?_); try clear hK23 K23
  refine sq_ (fun K24 hK24 => ?_)
  refine wp_block ?_
  refine s_ (fun K25 hK25 => ?_)
  refine pu_ (v := .pointer (some (a.add (k * 3)))) (y_run (by rfl) (fun W => by have d := D12.out; go_simp)) ?_
  try simp only [zP,zN,zA,zB,zC]
  refine ld_ (v := .agg #[.int .i64 r.1, .int .i64 r.2.1, .int .i64 r.2.2]) rfl (by rfl) (by rfl) (run_loadVar_at (cs := r3C r) (src_at r3C_len SL.out ho.out) Try.underlying23 rfl (by kernel_rfl)) ?_
  try simp only [zP,zN,zA,zB,zC]
  refine ef_ (fun K26 hK26 => ?_)
  refine e_alloc (by rfl) rfl rfl (cs := #[.int .i64 0, .int .i64 0, .int .i64 0]) (by kernel_rfl) ?_
  rintro g27 w28 HG29 B30 C31
  have nw32 := qh (show w.heap.size ≤ g27 by have := C0.out.size; have := HG29.out; omega)
  have nx33 := qh (SL.out.ne_new (by decide) HG29)
  have ne34 := qh (FR.out.ne_new HG29)
  have ne35 := qh (FS.out.ne_new HG29)
  replace C0 := qh (C0.out.trans' C31 inw_nil)
  replace SL := qh (SL.out.chx C31 xnin_nil)
  replace FR := qh (C31.blk FR.out nin_nil)
  replace FS := qh (C31.blk FS.out nin_nil)
  have Fg27 := qh (show Blk w28 g27 (#[.int .i64 0, .int .i64 0, .int .i64 0]) 23 from B30); clear B30 C31
  refine hK26 _ _ ?_; clear hK26 K26
  try simp only [zP,zN,zA,zB,zC]
  refine ef_ (fun K36 hK36 => ?_)
  refine e_storeN (cells := #[.int .i64 r.1, .int .i64 r.2.1, .int .i64 r.2.2]) (by rfl) rfl rfl (by rfl) (by rfl) Fg27.out (by kernel_rfl) (by rfl) (ones_cons rfl (ones_cons rfl (ones_cons rfl ones_nil))) ?_
  rintro w37 B38 C39
  replace C0 := qh (C0.out.trans' C39 (inw_cons (.inr nw32.out) inw_nil))
  replace SL := qh (SL.out.chx C39 (xnin_cons nx33.out xnin_nil))
  replace FR := qh (C39.blk FR.out (nin_cons ne34.out nin_nil))
  replace FS := qh (C39.blk FS.out (nin_cons ne35.out nin_nil))
  clear Fg27; have Fg27 := qh (show Blk w37 g27 (#[.int .i64 r.1, .int .i64 r.2.1, .int .i64 r.2.2]) 23 from B38); clear B38 C39
  refine hK36 _ _ ?_; clear hK36 K36
  try simp only [zP,zN,zA,zB,zC]
  refine nl_ (hK25 _ _ ?_); clear hK25 K25
  refine s_ (fun K40 hK40 => ?_)
  refine ld_ (v := .agg (#[.int .i64 q.1, .int .i64 q.2.1, .int .i64 q.2.2])) rfl (by rfl) (by rfl) (run_loadVar_row _ _ 23 23 (#[.int .i64 q.1, .int .i64 q.2.1, .int .i64 q.2.2]) (0, 0) _ FS.out Try.underlying23 rfl (by kernel_rfl)) ?_
  try simp only [zP,zN,zA,zB,zC]
  refine ld_ (v := .agg (#[.int .i64 r.1, .int .i64 r.2.1, .int .i64 r.2.2])) rfl (by rfl) (by rfl) (run_loadVar_row _ _ 23 23 (#[.int .i64 r.1, .int .i64 r.2.1, .int .i64 r.2.2]) (0, 0) _ Fg27.out Try.underlying23 rfl (by kernel_rfl)) ?_
  try simp only [zP,zN,zA,zB,zC]
  refine ef_ (fun K41 hK41 => ?_)
  refine e_call Try.func64 (by kernel_rfl) rfl #[.agg (#[.int .i64 q.1, .int .i64 q.2.1, .int .i64 q.2.2]), .agg (#[.int .i64 r.1, .int .i64 r.2.1, .int .i64 r.2.2])] (by rfl) rfl rfl (mp2 rfl rfl) ((by have h9 := add_ (w := w37) (x0 := q.1) (x1 := q.2.1) (x2 := q.2.2) (y0 := r.1) (y1 := r.2.1) (y2 := r.2.2) (qh hi.out) (qh (HL3.out _ (List.mem_of_getElem? ho.out))); rw [show add3 (q.1, q.2.1, q.2.2) (r.1, r.2.1, r.2.2) = add3 q r from rfl, HOK.out] at h9; exact h9)) ?_
  rintro en w43 ⟨rfl, cc42⟩
  refine ⟨_, rfl, ?_⟩
  replace C0 := qh (C0.out.trans' cc42 inw_nil)
  replace SL := qh (SL.out.chx cc42 xnin_nil)
  replace FR := qh (cc42.blk FR.out nin_nil)
  replace FS := qh (cc42.blk FS.out nin_nil)
  replace Fg27 := qh (cc42.blk Fg27.out nin_nil)
  clear cc42
  refine hK41 _ _ ?_; clear hK41 K41
  try simp only [zP,zN,zA,zB,zC]
  refine pu_ (v := .tuple #[.agg #[.int .i64 (add3 q r).1.1, .int .i64 (add3 q r).1.2.1, .int .i64 (add3 q r).1.2.2], .bool true]) (y_move rfl (by rfl) (by rfl)) ?_
  try simp only [zP,zN,zA,zB,zC]
  refine pu_ (v := .agg #[.int .i64 (add3 q r).1.1, .int .i64 (add3 q r).1.2.1, .int .i64 (add3 q r).1.2.2]) (y_run (by rfl) (fun W => by go_simp)) ?_
  try simp only [zP,zN,zA,zB,zC]
  refine pu_ (v := .bool true) (y_run (by rfl) (fun W => by go_simp)) ?_
  try simp only [zP,zN,zA,zB,zC]
  refine ef_ (fun K44 hK44 => ?_)
  refine e_alloc (by rfl) rfl rfl (cs := #[.int .i64 0, .int .i64 0, .int .i64 0]) (by kernel_rfl) ?_
  rintro g45 w46 HG47 B48 C49
  have nw50 := qh (show w.heap.size ≤ g45 by have := C0.out.size; have := HG47.out; omega)
  have nx51 := qh (SL.out.ne_new (by decide) HG47)
  have ne52 := qh (FR.out.ne_new HG47)
  have ne53 := qh (FS.out.ne_new HG47)
  have ne54 := qh (Fg27.out.ne_new HG47)
  replace C0 := qh (C0.out.trans' C49 inw_nil)
  replace SL := qh (SL.out.chx C49 xnin_nil)
  replace FR := qh (C49.blk FR.out nin_nil)
  replace FS := qh (C49.blk FS.out nin_nil)
  replace Fg27 := qh (C49.blk Fg27.out nin_nil)
  have Fg45 := qh (show Blk w46 g45 (#[.int .i64 0, .int .i64 0, .int .i64 0]) 23 from B48); clear B48 C49
  refine hK44 _ _ ?_; clear hK44 K44
  try simp only [zP,zN,zA,zB,zC]
  refine ef_ (fun K55 hK55 => ?_)
  refine e_storeN (cells := #[.int .i64 (add3 q r).1.1, .int .i64 (add3 q r).1.2.1, .int .i64 (add3 q r).1.2.2]) (by rfl) rfl rfl (by rfl) (by rfl) Fg45.out (by kernel_rfl) (by rfl) (ones_cons rfl (ones_cons rfl (ones_cons rfl ones_nil))) ?_
  rintro w56 B57 C58
  replace C0 := qh (C0.out.trans' C58 (inw_cons (.inr nw50.out) inw_nil))
  replace SL := qh (SL.out.chx C58 (xnin_cons nx51.out xnin_nil))
  replace FR := qh (C58.blk FR.out (nin_cons ne52.out nin_nil))
  replace FS := qh (C58.blk FS.out (nin_cons ne53.out nin_nil))
  replace Fg27 := qh (C58.blk Fg27.out (nin_cons ne54.out nin_nil))
  clear Fg45; have Fg45 := qh (show Blk w56 g45 (#[.int .i64 (add3 q r).1.1, .int .i64 (add3 q r).1.2.1, .int .i64 (add3 q r).1.2.2]) 23 from B57); clear B57 C58
  refine hK55 _ _ ?_; clear hK55 K55
  try simp only [zP,zN,zA,zB,zC]
  refine pu_ (v := .bool true) (y_assign rfl (by rfl) (by rfl)) ?_
  try simp only [zP,zN,zA,zB,zC]
  refine nl_ (hK40 _ _ ?_); clear hK40 K40
  refine sq_ (fun K59 hK59 => ?_)
  refine s_ (fun K60 hK60 => ?_)
  refine pu_ (v := .bool true) (y_move rfl (by rfl) (by rfl)) ?_
  try simp only [zP,zN,zA,zB,zC]
  refine pu_ (v := .bool false) (y_run (by rfl) (fun W => by go_simp)) ?_
  try simp only [zP,zN,zA,zB,zC]
  refine nl_ (hK60 _ _ ?_); clear hK60 K60
  refine wp_cond_false rfl ?_
  refine wp_skip ?_
  refine th_norm (hK59 _ _ ?_); try clear hK59 K59
  refine r_ ?_
  refine ld_ (v := .agg (#[.int .i64 (add3 q r).1.1, .int .i64 (add3 q r).1.2.1, .int .i64 (add3 q r).1.2.2])) rfl (by rfl) (by rfl) (run_loadVar_row _ _ 23 23 (#[.int .i64 (add3 q r).1.1, .int .i64 (add3 q r).1.2.1, .int .i64 (add3 q r).1.2.2]) (0, 0) _ Fg45.out Try.underlying23 rfl (by kernel_rfl)) ?_
  try simp only [zP,zN,zA,zB,zC]
  refine ef_ (fun K61 hK61 => ?_)
  refine e_storeN (cells := (#[.int .i64 (add3 q r).1.1, .int .i64 (add3 q r).1.2.1, .int .i64 (add3 q r).1.2.2])) (by rfl) rfl rfl (by rfl) (by rfl) FS.out (by kernel_rfl) (by rfl) (ones_cons rfl (ones_cons rfl (ones_cons rfl ones_nil))) ?_
  rintro w62 B63 C64
  replace C0 := qh (C0.out.trans' C64 (inw_cons (.inr nw15.out) inw_nil))
  replace SL := qh (SL.out.chx C64 (xnin_cons nx16.out xnin_nil))
  replace FR := qh (C64.blk FR.out (nin_cons ne17.out nin_nil))
  replace Fg27 := qh (C64.blk Fg27.out (nin_cons (Ne.symm ne35.out) nin_nil))
  replace Fg45 := qh (C64.blk Fg45.out (nin_cons (Ne.symm ne53.out) nin_nil))
  clear FS; have FS := qh (show Blk w62 gs ((#[.int .i64 (add3 q r).1.1, .int .i64 (add3 q r).1.2.1, .int .i64 (add3 q r).1.2.2])) 23 from B63); clear B63 C64
  refine hK61 _ _ ?_; clear hK61 K61
  try simp only [zP,zN,zA,zB,zC]
  refine nl_ ?_
  refine ib_norm ?_
  refine th_norm (hK24 _ _ ?_); try clear hK24 K24
  refine r_ ?_
  refine pu_ (v := .int .i64 (k + 1 : Nat)) (y_run (by rfl) (fun W => by have d := Wk.out; go_simp)) ?_
  try simp only [zP,zN,zA,zB,zC]
  refine pu_ (v := .int .i64 (k + 1 : Nat)) (y_move rfl (by rfl) (by rfl)) ?_
  try simp only [zP,zN,zA,zB,zC]
  refine nl_ ?_
  exact th_norm (hK21 (kq - 1) _ _ (by have := hlt.out; have := hk.out; omega) ⟨k + 1, (add3 q r).1, rfl, C0, SL, FR, FS, qh ⟨by have := hlt.out; omega, by have := hlt.out; have := hk.out; omega⟩, qh (sum_step hs.out ho.out HOK.out), qh add_i3⟩)
 ·have hlt := qh hlt0
  have ho := qh ho0
  have HOK := qh h
  clear hlt0 ho0 h
  obtain ⟨a, hsm_a⟩ := src_some SL.out (by have := hlt.out; omega)
  subst hsm_a
  have D12 := qh (show (k : Int) < (L.length : Int) by have := hlt.out; omega)
  have Wk := qh (show IntKind.i64.wrap ((k : Int) + 1) = ((k + 1 : Nat) : Int) by rw [wr64 (by have := hlt.out; have h7 := HN.out; omega)]; omega)
  have HR := qh (sum_fail hs.out ho.out HOK.out)
  refine s_ (fun K65 hK65 => ?_)
  refine pu_ (v := .bool true) (y_run (by rfl) (fun W => by have d := D12.out; go_simp)) ?_
  try simp only [zP,zN,zA,zB,zC]
  refine nl_ (hK65 _ _ ?_); clear hK65 K65
  refine sq_ (fun K66 hK66 => ?_)
  refine wp_cond_true rfl ?_
  refine wp_skip ?_
  refine th_norm (hK66 _ _ ?_); try clear hK66 K66
  refine sq_ (fun K67 hK67 => ?_)
  refine wp_block ?_
  refine s_ (fun K68 hK68 => ?_)
  refine pu_ (v := .pointer (some (a.add (k * 3)))) (y_run (by rfl) (fun W => by have d := D12.out; go_simp)) ?_
  try simp only [zP,zN,zA,zB,zC]
  refine ld_ (v := .agg #[.int .i64 r.1, .int .i64 r.2.1, .int .i64 r.2.2]) rfl (by rfl) (by rfl) (run_loadVar_at (cs := r3C r) (src_at r3C_len SL.out ho.out) Try.underlying23 rfl (by kernel_rfl)) ?_
  try simp only [zP,zN,zA,zB,zC]
  refine ef_ (fun K69 hK69 => ?_)
  refine e_alloc (by rfl) rfl rfl (cs := #[.int .i64 0, .int .i64 0, .int .i64 0]) (by kernel_rfl) ?_
  rintro g70 w71 HG72 B73 C74
  have nw75 := qh (show w.heap.size ≤ g70 by have := C0.out.size; have := HG72.out; omega)
  have nx76 := qh (SL.out.ne_new (by decide) HG72)
  have ne77 := qh (FR.out.ne_new HG72)
  have ne78 := qh (FS.out.ne_new HG72)
  replace C0 := qh (C0.out.trans' C74 inw_nil)
  replace SL := qh (SL.out.chx C74 xnin_nil)
  replace FR := qh (C74.blk FR.out nin_nil)
  replace FS := qh (C74.blk FS.out nin_nil)
  have Fg70 := qh (show Blk w71 g70 (#[.int .i64 0, .int .i64 0, .int .i64 0]) 23 from B73); clear B73 C74
  refine hK69 _ _ ?_; clear hK69 K69
  try simp only [zP,zN,zA,zB,zC]
  refine ef_ (fun K79 hK79 => ?_)
  refine e_storeN (cells := #[.int .i64 r.1, .int .i64 r.2.1, .int .i64 r.2.2]) (by rfl) rfl rfl (by rfl) (by rfl) Fg70.out (by kernel_rfl) (by rfl) (ones_cons rfl (ones_cons rfl (ones_cons rfl ones_nil))) ?_
  rintro w80 B81 C82
  replace C0 := qh (C0.out.trans' C82 (inw_cons (.inr nw75.out) inw_nil))
  replace SL := qh (SL.out.chx C82 (xnin_cons nx76.out xnin_nil))
  replace FR := qh (C82.blk FR.out (nin_cons ne77.out nin_nil))
  replace FS := qh (C82.blk FS.out (nin_cons ne78.out nin_nil))
  clear Fg70; have Fg70 := qh (show Blk w80 g70 (#[.int .i64 r.1, .int .i64 r.2.1, .int .i64 r.2.2]) 23 from B81); clear B81 C82
  refine hK79 _ _ ?_; clear hK79 K79
  try simp only [zP,zN,zA,zB,zC]
  refine nl_ (hK68 _ _ ?_); clear hK68 K68
  refine s_ (fun K83 hK83 => ?_)
  refine ld_ (v := .agg (#[.int .i64 q.1, .int .i64 q.2.1, .int .i64 q.2.2])) rfl (by rfl) (by rfl) (run_loadVar_row _ _ 23 23 (#[.int .i64 q.1, .int .i64 q.2.1, .int .i64 q.2.2]) (0, 0) _ FS.out Try.underlying23 rfl (by kernel_rfl)) ?_
  try simp only [zP,zN,zA,zB,zC]
  refine ld_ (v := .agg (#[.int .i64 r.1, .int .i64 r.2.1, .int .i64 r.2.2])) rfl (by rfl) (by rfl) (run_loadVar_row _ _ 23 23 (#[.int .i64 r.1, .int .i64 r.2.1, .int .i64 r.2.2]) (0, 0) _ Fg70.out Try.underlying23 rfl (by kernel_rfl)) ?_
  try simp only [zP,zN,zA,zB,zC]
  refine ef_ (fun K84 hK84 => ?_)
  refine e_call Try.func64 (by kernel_rfl) rfl #[.agg (#[.int .i64 q.1, .int .i64 q.2.1, .int .i64 q.2.2]), .agg (#[.int .i64 r.1, .int .i64 r.2.1, .int .i64 r.2.2])] (by rfl) rfl rfl (mp2 rfl rfl) ((by have h9 := add_ (w := w80) (x0 := q.1) (x1 := q.2.1) (x2 := q.2.2) (y0 := r.1) (y1 := r.2.1) (y2 := r.2.2) (qh hi.out) (qh (HL3.out _ (List.mem_of_getElem? ho.out))); rw [show add3 (q.1, q.2.1, q.2.2) (r.1, r.2.1, r.2.2) = add3 q r from rfl, HOK.out] at h9; exact h9)) ?_
  rintro en w86 ⟨rfl, cc85⟩
  refine ⟨_, rfl, ?_⟩
  replace C0 := qh (C0.out.trans' cc85 inw_nil)
  replace SL := qh (SL.out.chx cc85 xnin_nil)
  replace FR := qh (cc85.blk FR.out nin_nil)
  replace FS := qh (cc85.blk FS.out nin_nil)
  replace Fg70 := qh (cc85.blk Fg70.out nin_nil)
  clear cc85
  refine hK84 _ _ ?_; clear hK84 K84
  try simp only [zP,zN,zA,zB,zC]
  refine pu_ (v := .tuple #[.agg #[.int .i64 (add3 q r).1.1, .int .i64 (add3 q r).1.2.1, .int .i64 (add3 q r).1.2.2], .bool false]) (y_move rfl (by rfl) (by rfl)) ?_
  try simp only [zP,zN,zA,zB,zC]
  refine pu_ (v := .agg #[.int .i64 (add3 q r).1.1, .int .i64 (add3 q r).1.2.1, .int .i64 (add3 q r).1.2.2]) (y_run (by rfl) (fun W => by go_simp)) ?_
  try simp only [zP,zN,zA,zB,zC]
  refine pu_ (v := .bool false) (y_run (by rfl) (fun W => by go_simp)) ?_
  try simp only [zP,zN,zA,zB,zC]
  refine ef_ (fun K87 hK87 => ?_)
  refine e_alloc (by rfl) rfl rfl (cs := #[.int .i64 0, .int .i64 0, .int .i64 0]) (by kernel_rfl) ?_
  rintro g88 w89 HG90 B91 C92
  have nw93 := qh (show w.heap.size ≤ g88 by have := C0.out.size; have := HG90.out; omega)
  have nx94 := qh (SL.out.ne_new (by decide) HG90)
  have ne95 := qh (FR.out.ne_new HG90)
  have ne96 := qh (FS.out.ne_new HG90)
  have ne97 := qh (Fg70.out.ne_new HG90)
  replace C0 := qh (C0.out.trans' C92 inw_nil)
  replace SL := qh (SL.out.chx C92 xnin_nil)
  replace FR := qh (C92.blk FR.out nin_nil)
  replace FS := qh (C92.blk FS.out nin_nil)
  replace Fg70 := qh (C92.blk Fg70.out nin_nil)
  have Fg88 := qh (show Blk w89 g88 (#[.int .i64 0, .int .i64 0, .int .i64 0]) 23 from B91); clear B91 C92
  refine hK87 _ _ ?_; clear hK87 K87
  try simp only [zP,zN,zA,zB,zC]
  refine ef_ (fun K98 hK98 => ?_)
  refine e_storeN (cells := #[.int .i64 (add3 q r).1.1, .int .i64 (add3 q r).1.2.1, .int .i64 (add3 q r).1.2.2]) (by rfl) rfl rfl (by rfl) (by rfl) Fg88.out (by kernel_rfl) (by rfl) (ones_cons rfl (ones_cons rfl (ones_cons rfl ones_nil))) ?_
  rintro w99 B100 C101
  replace C0 := qh (C0.out.trans' C101 (inw_cons (.inr nw93.out) inw_nil))
  replace SL := qh (SL.out.chx C101 (xnin_cons nx94.out xnin_nil))
  replace FR := qh (C101.blk FR.out (nin_cons ne95.out nin_nil))
  replace FS := qh (C101.blk FS.out (nin_cons ne96.out nin_nil))
  replace Fg70 := qh (C101.blk Fg70.out (nin_cons ne97.out nin_nil))
  clear Fg88; have Fg88 := qh (show Blk w99 g88 (#[.int .i64 (add3 q r).1.1, .int .i64 (add3 q r).1.2.1, .int .i64 (add3 q r).1.2.2]) 23 from B100); clear B100 C101
  refine hK98 _ _ ?_; clear hK98 K98
  try simp only [zP,zN,zA,zB,zC]
  refine pu_ (v := .bool false) (y_assign rfl (by rfl) (by rfl)) ?_
  try simp only [zP,zN,zA,zB,zC]
  refine nl_ (hK83 _ _ ?_); clear hK83 K83
  refine sq_ (fun K102 hK102 => ?_)
  refine s_ (fun K103 hK103 => ?_)
  refine pu_ (v := .bool false) (y_move rfl (by rfl) (by rfl)) ?_
  try simp only [zP,zN,zA,zB,zC]
  refine pu_ (v := .bool true) (y_run (by rfl) (fun W => by go_simp)) ?_
  try simp only [zP,zN,zA,zB,zC]
  refine nl_ (hK103 _ _ ?_); clear hK103 K103
  refine wp_cond_true rfl ?_
  refine s_ (fun K104 hK104 => ?_)
  refine pu_ (v := .agg #[.int .i64 0, .int .i64 0, .int .i64 0]) (y_build (vs := #[]) (by rfl) rfl (by first | rfl | (simp only [List.map_toArray, List.map_cons, List.map_nil]; first | done | rfl)) (by kernel_rfl)) ?_
  try simp only [zP,zN,zA,zB,zC]
  refine ef_ (fun K105 hK105 => ?_)
  refine e_storeN (cells := #[.int .i64 0, .int .i64 0, .int .i64 0]) (by rfl) rfl rfl (by rfl) (by rfl) FR.out (by kernel_rfl) (by rfl) (ones_cons rfl (ones_cons rfl (ones_cons rfl ones_nil))) ?_
  rintro w106 B107 C108
  replace C0 := qh (C0.out.trans' C108 (inw_cons (.inr nw7.out) inw_nil))
  replace SL := qh (SL.out.chx C108 (xnin_cons nx8.out xnin_nil))
  replace FS := qh (C108.blk FS.out (nin_cons (Ne.symm ne17.out) nin_nil))
  replace Fg70 := qh (C108.blk Fg70.out (nin_cons (Ne.symm ne77.out) nin_nil))
  replace Fg88 := qh (C108.blk Fg88.out (nin_cons (Ne.symm ne95.out) nin_nil))
  clear FR; have FR := qh (show Blk w106 gr (#[.int .i64 0, .int .i64 0, .int .i64 0]) 23 from B107); clear B107 C108
  refine hK105 _ _ ?_; clear hK105 K105
  try simp only [zP,zN,zA,zB,zC]
  refine pu_ (v := .bool false) (y_assign rfl (by rfl) (by rfl)) ?_
  try simp only [zP,zN,zA,zB,zC]
  refine nl_ (hK104 _ _ ?_); clear hK104 K104
  refine wp_ret ?_
  refine th_ret ?_
  refine ib_ret ?_
  refine th_ret ?_
  refine th_ret ?_
  refine ib_ret ?_
  refine th_ret ?_
  refine hQ _ _ _ ?_
  refine bodyPost_ret (res2 rfl (rdv_cell (by rfl) (run_loadVar_row _ _ 23 23 (#[.int .i64 0, .int .i64 0, .int .i64 0]) (0, 0) _ FR.out Try.underlying23 rfl (by kernel_rfl))) (rdv_tmp (v := .bool false) (by rfl))) rfl ?_
  exact ⟨by rw [HR.out], C0.out⟩
 ·have D12 := qh (show ¬ k < L.length by have := hk.out; omega)
  have HR := qh (sum_end hs.out h)
  clear h
  refine s_ (fun K109 hK109 => ?_)
  refine pu_ (v := .bool false) (y_run (by rfl) (fun W => by have d := D12.out; go_simp)) ?_
  try simp only [zP,zN,zA,zB,zC]
  refine nl_ (hK109 _ _ ?_); clear hK109 K109
  refine sq_ (fun K110 hK110 => ?_)
  refine wp_cond_false rfl ?_
  refine wp_exit ?_
  refine th_exit ?_
  refine th_exit ?_
  refine ib_exit ?_
  refine th_norm (hK18 _ _ ?_); try clear hK18 K18
  refine s_ (fun K111 hK111 => ?_)
  refine ld_ (v := .agg (#[.int .i64 q.1, .int .i64 q.2.1, .int .i64 q.2.2])) rfl (by rfl) (by rfl) (run_loadVar_row _ _ 23 23 (#[.int .i64 q.1, .int .i64 q.2.1, .int .i64 q.2.2]) (0, 0) _ FS.out Try.underlying23 rfl (by kernel_rfl)) ?_
  try simp only [zP,zN,zA,zB,zC]
  refine ef_ (fun K112 hK112 => ?_)
  refine e_storeN (cells := (#[.int .i64 q.1, .int .i64 q.2.1, .int .i64 q.2.2])) (by rfl) rfl rfl (by rfl) (by rfl) FR.out (by kernel_rfl) (by rfl) (ones_cons rfl (ones_cons rfl (ones_cons rfl ones_nil))) ?_
  rintro w113 B114 C115
  replace C0 := qh (C0.out.trans' C115 (inw_cons (.inr nw7.out) inw_nil))
  replace SL := qh (SL.out.chx C115 (xnin_cons nx8.out xnin_nil))
  replace FS := qh (C115.blk FS.out (nin_cons (Ne.symm ne17.out) nin_nil))
  clear FR; have FR := qh (show Blk w113 gr ((#[.int .i64 q.1, .int .i64 q.2.1, .int .i64 q.2.2])) 23 from B114); clear B114 C115
  refine hK112 _ _ ?_; clear hK112 K112
  try simp only [zP,zN,zA,zB,zC]
  refine pu_ (v := .bool true) (y_assign rfl (by rfl) (by rfl)) ?_
  try simp only [zP,zN,zA,zB,zC]
  refine nl_ (hK111 _ _ ?_); clear hK111 K111
  refine wp_ret ?_
  refine hQ _ _ _ ?_
  refine bodyPost_ret (res2 rfl (rdv_cell (by rfl) (run_loadVar_row _ _ 23 23 ((#[.int .i64 q.1, .int .i64 q.2.1, .int .i64 q.2.2])) (0, 0) _ FR.out Try.underlying23 rfl (by kernel_rfl))) (rdv_tmp (v := .bool true) (by rfl))) rfl ?_
  exact ⟨by rw [HR.out], C0.out⟩
theorem rof_ {s0 s1 : Value} {A2 A3 : Option Addr} {c2 c3 : Nat} {M N : List R3} {z1 z2 pr : Int} (HS0 : s0.oneCell' = true) (HS1 : s1.oneCell' = true) (HN : Hid (M.length ≤ 1000 ∧ N.length ≤ 1000)) (HR2 : Hid (reqF w A2 N.length N)) (HR3 : Hid (reqF w A3 M.length M))  :
  Calls Try.prog 47 #[.agg #[s0, s1, .slice A2 N.length c2, .slice A3 M.length c3, .int .i64 z1, .int .i64 z2, .int .i64 pr]] w fun en w' => en = .returned (.tuple #[.agg #[.int .i64 (of3 M N).1.1, .int .i64 (of3 M N).1.2.1, .int .i64 (of3 M N).1.2.2], .bool (of3 M N).2]) ∧ Ch [] w w' := by
 have C0 := qh (Ch.refl [] w)
 obtain ⟨i23, I23⟩ := Info.of info23
 go_enter Try.func47, Try.ntmps47
 refine q_ (fun Q hQ hP => ?_)
 refine s_ (fun K1 hK1 => ?_)
 refine ef_ (fun K2 hK2 => ?_)
 refine e_boxN (by rfl) rfl rfl (cs := #[s0, s1, .slice A2 N.length c2, .slice A3 M.length c3, .int .i64 z1, .int .i64 z2, .int .i64 pr]) (v := .agg #[s0, s1, .slice A2 N.length c2, .slice A3 M.length c3, .int .i64 z1, .int .i64 z2, .int .i64 pr]) (by rfl) rfl ?_
 rintro g1 w3 HG4 B5 C6
 have nw7 := qh (show w.heap.size ≤ g1 by have := C0.out.size; have := HG4.out; omega)
 replace C0 := qh (C0.out.trans' C6 inw_nil)
 have Fg1 := qh (show Blk w3 g1 (#[s0, s1, .slice A2 N.length c2, .slice A3 M.length c3, .int .i64 z1, .int .i64 z2, .int .i64 pr]) 39 from B5); clear B5 C6
 refine hK2 _ _ ?_; clear hK2 K2
 try simp only [zP,zN,zA,zB,zC]
 refine ef_ (fun K8 hK8 => ?_)
 refine e_alloc (by rfl) rfl rfl (cs := #[.int .i64 0, .int .i64 0, .int .i64 0]) (by kernel_rfl) ?_
 rintro gr w9 HG10 B11 C12
 have nw13 := qh (show w.heap.size ≤ gr by have := C0.out.size; have := HG10.out; omega)
 replace C0 := qh (C0.out.trans' C12 inw_nil)
 replace Fg1 := qh (C12.blk Fg1.out nin_nil)
 have Fgr := qh (show Blk w9 gr (#[.int .i64 0, .int .i64 0, .int .i64 0]) 23 from B11); clear B11 C12
 refine hK8 _ _ ?_; clear hK8 K8
 try simp only [zP,zN,zA,zB,zC]
 refine pu_ (v := .bool false) (y_assign rfl (by rfl) (by rfl)) ?_
 try simp only [zP,zN,zA,zB,zC]
 refine nl_ (hK1 _ _ ?_); clear hK1 K1
 refine s_ (fun K14 hK14 => ?_)
 refine pu_ (v := .slice none 0 0) (y_assign rfl (by rfl) (by rfl)) ?_
 try simp only [zP,zN,zA,zB,zC]
 refine nl_ (hK14 _ _ ?_); clear hK14 K14
 refine sq_ (fun K15 hK15 => ?_)
 refine s_ (fun K16 hK16 => ?_)
 refine pu_ (v := .pointer (some ⟨g1, 3, none⟩)) (y_run (by rfl) (fun W => by go_simp)) ?_
 try simp only [zP,zN,zA,zB,zC]
 refine ld_ (v := .slice A3 M.length c3) rfl (by rfl) (by rfl) (run_load_one ((Fg1.out.cell 3).trans rfl) Try.underlying37 rfl) ?_
 try simp only [zP,zN,zA,zB,zC]
 refine pu_ (v := .int .i64 M.length) (y_run (by rfl) (fun W => by go_simp)) ?_
 try simp only [zP,zN,zA,zB,zC]
 refine pu_ (v := .int .i64 0) (y_move rfl (by rfl) (by rfl)) ?_
 try simp only [zP,zN,zA,zB,zC]
 refine nl_ (hK16 _ _ ?_); clear hK16 K16
 refine wp_block ?_
 have OT0 := qh (show OwnS w9 w.heap.size 23 3 (.slice none 0 0) 0 ((M.take 0).flatMap r3C) from OwnS.nil _ _ _ _ _)
 refine loopk_ (fun (kq : Nat) (a' : Act) (w' : World) => ∃ (k : Nat), ∃ (vt : Value), a' = ⟨#[uo a' 0, .pointer (some ⟨g1, 0, none⟩), .pointer (some ⟨gr, 0, none⟩), .bool false, vt, uo a' 5, uo a' 6, uo a' 7, uo a' 8, uo a' 9, uo a' 10, uo a' 11, .slice A3 M.length c3, .int .i64 M.length, .int .i64 k, uo a' 15, uo a' 16, uo a' 17, uo a' 18, uo a' 19, uo a' 20, uo a' 21, uo a' 22, uo a' 23, uo a' 24, uo a' 25, uo a' 26, uo a' 27, uo a' 28, uo a' 29, uo a' 30, uo a' 31, uo a' 32, uo a' 33, uo a' 34, uo a' 35, uo a' 36, uo a' 37, uo a' 38, uo a' 39, uo a' 40, uo a' 41, uo a' 42, uo a' 43, uo a' 44], []⟩ ∧ Hid (Ch [] w w') ∧ Hid (Blk w' gr (#[.int .i64 0, .int .i64 0, .int .i64 0]) 23) ∧ Hid (Blk w' g1 (#[s0, s1, .slice A2 N.length c2, .slice A3 M.length c3, .int .i64 z1, .int .i64 z2, .int .i64 pr]) 39) ∧ Hid (OwnS w' w.heap.size 23 3 (vt) (k) ((M.take k).flatMap r3C)) ∧ Hid (k ≤ M.length ∧ kq + k = M.length) ∧ Hid (gr ∉ rl vt)) (M.length) (⟨0, _, rfl, C0, Fgr, Fg1, OT0, qh ⟨by omega, by omega⟩, qh (by simp [rl])⟩) ?_
 rintro kq a_ w17 ⟨k, vt, ha_, C0, FR, F1, OT, hk, hr⟩ K18 hK18
 obtain ⟨us, hus_⟩ : ∃ us, us = uo a_ := ⟨_, rfl⟩; try rw [← hus_] at ha_
 subst ha_; clear hus_
 rcases at_ways' hk.out.1 with ⟨r, ho0, hlt0⟩ | h
 ·have hlt := qh hlt0
  have ho := qh ho0
  clear hlt0 ho0
  obtain ⟨hi3, a, q0, q1, q5, q6, q7, q8, q9, q10, hA, hcl, hone⟩ := HR3.out.2 k r ho.out
  subst hA
  have HI3 := qh hi3
  have HCL := qh (cells_ch C0.out hcl)
  have HQ1 := qh hone
  clear hi3 hcl hone
  have D15 := qh (show (k : Int) < (M.length : Int) by have := hlt.out; omega)
  have Wk := qh (show IntKind.i64.wrap ((k : Int) + 1) = ((k + 1 : Nat) : Int) by rw [wr64 (by have := hlt.out; have h7 := HN.out; omega)]; omega)
  refine s_ (fun K19 hK19 => ?_)
  refine pu_ (v := .bool true) (y_run (by rfl) (fun W => by have d := D15.out; go_simp)) ?_
  try simp only [zP,zN,zA,zB,zC]
  refine nl_ (hK19 _ _ ?_); clear hK19 K19
  refine sq_ (fun K20 hK20 => ?_)
  refine wp_cond_true rfl ?_
  refine wp_skip ?_
  refine th_norm (hK20 _ _ ?_); try clear hK20 K20
  refine sq_ (fun K21 hK21 => ?_)
  refine wp_block ?_
  refine s_ (fun K22 hK22 => ?_)
  refine pu_ (v := .pointer (some (a.add (k * 11)))) (y_run (by rfl) (fun W => by have d := D15.out; go_simp)) ?_
  try simp only [zP,zN,zA,zB,zC]
  refine ld_ (v := .agg #[q0, q1, .int .i64 r.1, .int .i64 r.2.1, .int .i64 r.2.2, q5, q6, q7, q8, q9, q10]) rfl (by rfl) (by rfl) (run_loadVar_at HCL.out Try.underlying71 rfl (by kernel_rfl)) ?_
  try simp only [zP,zN,zA,zB,zC]
  refine ef_ (fun K23 hK23 => ?_)
  refine e_alloc (by rfl) rfl rfl (cs := #[.string ⟨#[]⟩, .string ⟨#[]⟩, .int .i64 0, .int .i64 0, .int .i64 0, .int .i64 0, .int .i64 0, .int .i64 0, .slice none 0 0, .int .i64 0, .int .i64 0]) (by kernel_rfl) ?_
  rintro g24 w25 HG26 B27 C28
  have nw29 := qh (show w.heap.size ≤ g24 by have := C0.out.size; have := HG26.out; omega)
  replace C0 := qh (C0.out.trans' C28 inw_nil)
  replace FR := qh (C28.blk FR.out nin_nil)
  replace F1 := qh (C28.blk F1.out nin_nil)
  replace OT := qh (OT.out.ch C28 rnin_nil)
  have Fg24 := qh (show Blk w25 g24 (#[.string ⟨#[]⟩, .string ⟨#[]⟩, .int .i64 0, .int .i64 0, .int .i64 0, .int .i64 0, .int .i64 0, .int .i64 0, .slice none 0 0, .int .i64 0, .int .i64 0]) 71 from B27); clear B27 C28
  refine hK23 _ _ ?_; clear hK23 K23
  try simp only [zP,zN,zA,zB,zC]
  refine ef_ (fun K30 hK30 => ?_)
  refine e_storeN (cells := #[q0, q1, .int .i64 r.1, .int .i64 r.2.1, .int .i64 r.2.2, q5, q6, q7, q8, q9, q10]) (by rfl) rfl rfl (by rfl) (by rfl) Fg24.out (by kernel_rfl) (by rfl) (ones_cons HQ1.out.1 (ones_cons HQ1.out.2.1 (ones_cons rfl (ones_cons rfl (ones_cons rfl (ones_cons HQ1.out.2.2.1 (ones_cons HQ1.out.2.2.2.1 (ones_cons HQ1.out.2.2.2.2.1 (ones_cons HQ1.out.2.2.2.2.2.1 (ones_cons HQ1.out.2.2.2.2.2.2.1 (ones_cons HQ1.out.2.2.2.2.2.2.2 ones_nil))))))))))) ?_
  rintro w31 B32 C33
  replace C0 := qh (C0.out.trans' C33 (inw_cons (.inr nw29.out) inw_nil))
  replace FR := qh (C33.blk FR.out (nin_cons (Blk.ne_type FR.out Fg24.out (by decide)) nin_nil))
  replace F1 := qh (C33.blk F1.out (nin_cons (Blk.ne_type F1.out Fg24.out (by decide)) nin_nil))
  replace OT := qh (OT.out.ch C33 (rnin_cons (OT.out.ne Fg24.out (by decide)) rnin_nil))
  clear Fg24; have Fg24 := qh (show Blk w31 g24 (#[q0, q1, .int .i64 r.1, .int .i64 r.2.1, .int .i64 r.2.2, q5, q6, q7, q8, q9, q10]) 71 from B32); clear B32 C33
  refine hK30 _ _ ?_; clear hK30 K30
  try simp only [zP,zN,zA,zB,zC]
  refine nl_ (hK22 _ _ ?_); clear hK22 K22
  refine r_ ?_
  refine pu_ (v := vt) (y_move rfl (by rfl) (by rfl)) ?_
  try simp only [zP,zN,zA,zB,zC]
  refine pu_ (v := .pointer (some ⟨g24, 2, none⟩)) (y_run (by rfl) (fun W => by go_simp)) ?_
  try simp only [zP,zN,zA,zB,zC]
  refine ld_ (v := .agg #[.int .i64 r.1, .int .i64 r.2.1, .int .i64 r.2.2]) rfl (by rfl) (by rfl) (run_loadVar_at (cs := [.int .i64 r.1, .int .i64 r.2.1, .int .i64 r.2.2]) (cells_part Fg24.out 2 (by rfl)) Try.underlying23 rfl (by kernel_rfl)) ?_
  try simp only [zP,zN,zA,zB,zC]
  refine ef_ (fun K34 hK34 => ?_)
  refine e_buildS (parts := #[(0, .agg #[.int .i64 r.1, .int .i64 r.2.1, .int .i64 r.2.2])]) (cells := #[.int .i64 r.1, .int .i64 r.2.1, .int .i64 r.2.2]) (by rfl) rfl rfl (by first | rfl | (simp only [List.map_toArray, List.map_cons, List.map_nil]; first | done | rfl)) Try.underlying93 I23.hi I23.hz I23.hs (by decide) (by decide) (by kernel_rfl) ?_
  rintro g35 w36 HG37 B38 C39
  have nw40 := qh (show w.heap.size ≤ g35 by have := C0.out.size; have := HG37.out; omega)
  have ne41 := qh (FR.out.ne_new HG37)
  have nr42 := qh (OT.out.ne_new HG37)
  replace C0 := qh (C0.out.trans' C39 inw_nil)
  replace FR := qh (C39.blk FR.out nin_nil)
  replace F1 := qh (C39.blk F1.out nin_nil)
  replace OT := qh (OT.out.ch C39 rnin_nil)
  replace Fg24 := qh (C39.blk Fg24.out nin_nil)
  have Fg35 := qh (show Blk w36 g35 (#[.int .i64 r.1, .int .i64 r.2.1, .int .i64 r.2.2]) 23 from B38); clear B38 C39
  refine hK34 _ _ ?_; clear hK34 K34
  try simp only [zP,zN,zA,zB,zC]
  refine ef_ (fun K43 hK43 => ?_)
  refine e_append (by rfl) rfl rfl (w.heap.size) 23 _ _ 3 24 Try.underlying93 I23.hi I23.hz I23.hs I23.hb rfl (by decide) (vt) (k) ((M.take k).flatMap r3C) (by rfl) OT.out (.slice (some ⟨g35, 0, none⟩) 1 1) 1 ((r3C r)) (by rfl) ⟨rfl, .inr ⟨_, _, rfl, CellsAt.blk Fg35.out 0⟩⟩ (ones_cons rfl (ones_cons rfl (ones_cons rfl ones_nil))) (by unfold maxLen; have := hlt.out; have := HN.out; omega) (by have := hlt.out; have := HN.out; omega) C0.out.size ?_
  rintro v44 w45 O46 C47 R48 -
  have nr50 := qh (show gr ∉ rl v44 from fun hk => (R48 _ hk).elim hr.out (fun h => by have := FR.out.lt; omega))
  have nr51 := qh (show g35 ∉ rl v44 from fun hk => (R48 _ hk).elim nr42.out (fun h => by have := Fg35.out.lt; omega))
  replace C0 := qh (C0.out.trans' C47 (fun x hx => .inr (OT.out.lt x hx).1))
  replace FR := qh (C47.blk FR.out hr.out)
  replace F1 := qh (C47.blk F1.out (OT.out.ne F1.out (by decide)))
  replace Fg24 := qh (C47.blk Fg24.out (OT.out.ne Fg24.out (by decide)))
  replace Fg35 := qh (C47.blk Fg35.out nr42.out)
  clear OT
  have OT := qh (show OwnS w45 w.heap.size 23 3 (v44) (k + 1) ((M.take k).flatMap r3C ++ (r3C r)) from O46); clear O46 C47
  refine hK43 _ _ ?_; clear hK43 K43
  try simp only [zP,zN,zA,zB,zC]
  refine pu_ (v := v44) (y_assign rfl (by rfl) (by rfl)) ?_
  try simp only [zP,zN,zA,zB,zC]
  refine nl_ ?_
  refine ib_norm ?_
  refine th_norm (hK21 _ _ ?_); try clear hK21 K21
  refine r_ ?_
  refine pu_ (v := .int .i64 (k + 1 : Nat)) (y_run (by rfl) (fun W => by have d := Wk.out; go_simp)) ?_
  try simp only [zP,zN,zA,zB,zC]
  refine pu_ (v := .int .i64 (k + 1 : Nat)) (y_move rfl (by rfl) (by rfl)) ?_
  try simp only [zP,zN,zA,zB,zC]
  refine nl_ ?_
  exact th_norm (hK18 (kq - 1) _ _ (by have := hlt.out; have := hk.out; omega) ⟨k + 1, _, rfl, C0, FR, F1, qh (by have h9 := OT.out; rw [take_snoc ho.out, List.flatMap_append, List.flatMap_cons, List.flatMap_nil, List.append_nil]; exact h9), qh ⟨by have := hlt.out; omega, by have := hlt.out; have := hk.out; omega⟩, nr50⟩)
 ·have D15 := qh (show ¬ k < M.length by have := hk.out; omega)
  have HE := qh h
  clear h
  refine s_ (fun K52 hK52 => ?_)
  refine pu_ (v := .bool false) (y_run (by rfl) (fun W => by have d := D15.out; go_simp)) ?_
  try simp only [zP,zN,zA,zB,zC]
  refine nl_ (hK52 _ _ ?_); clear hK52 K52
  refine sq_ (fun K53 hK53 => ?_)
  refine wp_cond_false rfl ?_
  refine wp_exit ?_
  refine th_exit ?_
  refine th_exit ?_
  refine ib_exit ?_
  refine th_norm (hK15 _ _ ?_); try clear hK15 K15
  rcases Bool.eq_false_or_eq_true (sum3 (0, 0, 0) M).2 with h | h
  ·have OT' := qh (show OwnS w17 w.heap.size 23 3 (vt) M.length (M.flatMap r3C) from by have h9 := OT.out; rw [HE.out, List.take_length] at h9; exact h9); clear OT; have OT := OT'; clear OT'
   obtain ⟨Ao, co, hvo, -, -⟩ := OT.out.slice
   subst hvo
   have HOK := qh h
   clear h
   refine s_ (fun K54 hK54 => ?_)
   refine pu_ (v := .slice Ao M.length co) (y_move rfl (by rfl) (by rfl)) ?_
   try simp only [zP,zN,zA,zB,zC]
   refine ef_ (fun K55 hK55 => ?_)
   refine e_call Try.func55 (by kernel_rfl) rfl #[.slice Ao M.length co] (by rfl) rfl rfl (mp1 rfl) ((by have h9 := sumr_ (w := w17) (qh HN.out.1) (qh (fun r hr => by obtain ⟨i, hi⟩ := List.mem_iff_getElem?.1 hr; exact (HR3.out.2 i r hi).1)) (qh OT.out.src); rw [HOK.out] at h9; exact h9)) ?_
   rintro en w57 ⟨rfl, cc56⟩
   refine ⟨_, rfl, ?_⟩
   replace C0 := qh (C0.out.trans' cc56 inw_nil)
   replace FR := qh (cc56.blk FR.out nin_nil)
   replace F1 := qh (cc56.blk F1.out nin_nil)
   replace OT := qh (OT.out.ch cc56 rnin_nil)
   clear cc56
   refine hK55 _ _ ?_; clear hK55 K55
   try simp only [zP,zN,zA,zB,zC]
   refine pu_ (v := .tuple #[.agg #[.int .i64 (sum3 (0, 0, 0) M).1.1, .int .i64 (sum3 (0, 0, 0) M).1.2.1, .int .i64 (sum3 (0, 0, 0) M).1.2.2], .bool true]) (y_move rfl (by rfl) (by rfl)) ?_
   try simp only [zP,zN,zA,zB,zC]
   refine pu_ (v := .agg #[.int .i64 (sum3 (0, 0, 0) M).1.1, .int .i64 (sum3 (0, 0, 0) M).1.2.1, .int .i64 (sum3 (0, 0, 0) M).1.2.2]) (y_run (by rfl) (fun W => by go_simp)) ?_
   try simp only [zP,zN,zA,zB,zC]
   refine pu_ (v := .bool true) (y_run (by rfl) (fun W => by go_simp)) ?_
   try simp only [zP,zN,zA,zB,zC]
   refine ef_ (fun K58 hK58 => ?_)
   refine e_alloc (by rfl) rfl rfl (cs := #[.int .i64 0, .int .i64 0, .int .i64 0]) (by kernel_rfl) ?_
   rintro gs w59 HG60 B61 C62
   have nw63 := qh (show w.heap.size ≤ gs by have := C0.out.size; have := HG60.out; omega)
   have ne64 := qh (FR.out.ne_new HG60)
   have nr65 := qh (OT.out.ne_new HG60)
   replace C0 := qh (C0.out.trans' C62 inw_nil)
   replace FR := qh (C62.blk FR.out nin_nil)
   replace F1 := qh (C62.blk F1.out nin_nil)
   replace OT := qh (OT.out.ch C62 rnin_nil)
   have Fgs := qh (show Blk w59 gs (#[.int .i64 0, .int .i64 0, .int .i64 0]) 23 from B61); clear B61 C62
   refine hK58 _ _ ?_; clear hK58 K58
   try simp only [zP,zN,zA,zB,zC]
   refine ef_ (fun K66 hK66 => ?_)
   refine e_storeN (cells := #[.int .i64 (sum3 (0, 0, 0) M).1.1, .int .i64 (sum3 (0, 0, 0) M).1.2.1, .int .i64 (sum3 (0, 0, 0) M).1.2.2]) (by rfl) rfl rfl (by rfl) (by rfl) Fgs.out (by kernel_rfl) (by rfl) (ones_cons rfl (ones_cons rfl (ones_cons rfl ones_nil))) ?_
   rintro w67 B68 C69
   replace C0 := qh (C0.out.trans' C69 (inw_cons (.inr nw63.out) inw_nil))
   replace FR := qh (C69.blk FR.out (nin_cons ne64.out nin_nil))
   replace F1 := qh (C69.blk F1.out (nin_cons (Blk.ne_type F1.out Fgs.out (by decide)) nin_nil))
   replace OT := qh (OT.out.ch C69 (rnin_cons nr65.out rnin_nil))
   clear Fgs; have Fgs := qh (show Blk w67 gs (#[.int .i64 (sum3 (0, 0, 0) M).1.1, .int .i64 (sum3 (0, 0, 0) M).1.2.1, .int .i64 (sum3 (0, 0, 0) M).1.2.2]) 23 from B68); clear B68 C69
   refine hK66 _ _ ?_; clear hK66 K66
   try simp only [zP,zN,zA,zB,zC]
   refine pu_ (v := .bool true) (y_assign rfl (by rfl) (by rfl)) ?_
   try simp only [zP,zN,zA,zB,zC]
   refine nl_ (hK54 _ _ ?_); clear hK54 K54
   refine sq_ (fun K70 hK70 => ?_)
   refine s_ (fun K71 hK71 => ?_)
   refine pu_ (v := .bool true) (y_move rfl (by rfl) (by rfl)) ?_
   try simp only [zP,zN,zA,zB,zC]
   refine pu_ (v := .bool false) (y_run (by rfl) (fun W => by go_simp)) ?_
   try simp only [zP,zN,zA,zB,zC]
   refine nl_ (hK71 _ _ ?_); clear hK71 K71
   refine wp_cond_false rfl ?_
   refine wp_skip ?_
   refine th_norm (hK70 _ _ ?_); try clear hK70 K70
   refine sq_ (fun K72 hK72 => ?_)
   refine s_ (fun K73 hK73 => ?_)
   refine pu_ (v := .pointer (some ⟨g1, 2, none⟩)) (y_run (by rfl) (fun W => by go_simp)) ?_
   try simp only [zP,zN,zA,zB,zC]
   refine ld_ (v := .slice A2 N.length c2) rfl (by rfl) (by rfl) (run_load_one ((F1.out.cell 2).trans rfl) Try.underlying37 rfl) ?_
   try simp only [zP,zN,zA,zB,zC]
   refine pu_ (v := .int .i64 N.length) (y_run (by rfl) (fun W => by go_simp)) ?_
   try simp only [zP,zN,zA,zB,zC]
   refine pu_ (v := .int .i64 0) (y_move rfl (by rfl) (by rfl)) ?_
   try simp only [zP,zN,zA,zB,zC]
   refine nl_ (hK73 _ _ ?_); clear hK73 K73
   refine wp_block ?_
   refine loopk_ (fun (kq : Nat) (a' : Act) (w' : World) => ∃ (k : Nat), a' = ⟨#[uo a' 0, .pointer (some ⟨g1, 0, none⟩), .pointer (some ⟨gr, 0, none⟩), .bool false, uo a' 4, uo a' 5, uo a' 6, .pointer (some ⟨gs, 0, none⟩), uo a' 8, uo a' 9, uo a' 10, uo a' 11, uo a' 12, uo a' 13, uo a' 14, uo a' 15, uo a' 16, uo a' 17, uo a' 18, uo a' 19, uo a' 20, uo a' 21, uo a' 22, uo a' 23, uo a' 24, uo a' 25, uo a' 26, uo a' 27, uo a' 28, uo a' 29, uo a' 30, uo a' 31, uo a' 32, .slice A2 N.length c2, .int .i64 N.length, .int .i64 k, uo a' 36, uo a' 37, uo a' 38, uo a' 39, uo a' 40, uo a' 41, uo a' 42, uo a' 43, uo a' 44], []⟩ ∧ Hid (Ch [] w w') ∧ Hid (Blk w' gr (#[.int .i64 0, .int .i64 0, .int .i64 0]) 23) ∧ Hid (Blk w' gs (#[.int .i64 ((N.take k).foldl max3 (sum3 (0, 0, 0) M).1).1, .int .i64 ((N.take k).foldl max3 (sum3 (0, 0, 0) M).1).2.1, .int .i64 ((N.take k).foldl max3 (sum3 (0, 0, 0) M).1).2.2]) 23) ∧ Hid (k ≤ N.length ∧ kq + k = N.length)) (N.length) (⟨0, rfl, C0, FR, Fgs, qh ⟨by omega, by omega⟩⟩) ?_
   rintro kq a_ w74 ⟨k, ha_, C0, FR, FS, hk⟩ K75 hK75
   obtain ⟨us, hus_⟩ : ∃ us, us = uo a_ := ⟨_, rfl⟩; try rw [← hus_] at ha_
   subst ha_; clear hus_
   rcases at_ways' hk.out.1 with ⟨r, ho0, hlt0⟩ | h
   ·have hlt := qh hlt0
    have ho := qh ho0
    clear hlt0 ho0
    obtain ⟨hi3, a, q0, q1, q5, q6, q7, q8, q9, q10, hA, hcl, hone⟩ := HR2.out.2 k r ho.out
    subst hA
    have HI3 := qh hi3
    have HCL := qh (cells_ch C0.out hcl)
    have HQ1 := qh hone
    clear hi3 hcl hone
    have D36 := qh (show (k : Int) < (N.length : Int) by have := hlt.out; omega)
    have Wk := qh (show IntKind.i64.wrap ((k : Int) + 1) = ((k + 1 : Nat) : Int) by rw [wr64 (by have := hlt.out; have h7 := HN.out; omega)]; omega)
    refine s_ (fun K76 hK76 => ?_)
    refine pu_ (v := .bool true) (y_run (by rfl) (fun W => by have d := D36.out; go_simp)) ?_
    try simp only [zP,zN,zA,zB,zC]
    refine nl_ (hK76 _ _ ?_); clear hK76 K76
    refine sq_ (fun K77 hK77 => ?_)
    refine wp_cond_true rfl ?_
    refine wp_skip ?_
    refine th_norm (hK77 _ _ ?_); try clear hK77 K77
    refine sq_ (fun K78 hK78 => ?_)
    refine wp_block ?_
    refine s_ (fun K79 hK79 => ?_)
    refine pu_ (v := .pointer (some (a.add (k * 11)))) (y_run (by rfl) (fun W => by have d := D36.out; go_simp)) ?_
    try simp only [zP,zN,zA,zB,zC]
    refine ld_ (v := .agg #[q0, q1, .int .i64 r.1, .int .i64 r.2.1, .int .i64 r.2.2, q5, q6, q7, q8, q9, q10]) rfl (by rfl) (by rfl) (run_loadVar_at HCL.out Try.underlying71 rfl (by kernel_rfl)) ?_
    try simp only [zP,zN,zA,zB,zC]
    refine ef_ (fun K80 hK80 => ?_)
    refine e_alloc (by rfl) rfl rfl (cs := #[.string ⟨#[]⟩, .string ⟨#[]⟩, .int .i64 0, .int .i64 0, .int .i64 0, .int .i64 0, .int .i64 0, .int .i64 0, .slice none 0 0, .int .i64 0, .int .i64 0]) (by kernel_rfl) ?_
    rintro g81 w82 HG83 B84 C85
    have nw86 := qh (show w.heap.size ≤ g81 by have := C0.out.size; have := HG83.out; omega)
    replace C0 := qh (C0.out.trans' C85 inw_nil)
    replace FR := qh (C85.blk FR.out nin_nil)
    replace FS := qh (C85.blk FS.out nin_nil)
    have Fg81 := qh (show Blk w82 g81 (#[.string ⟨#[]⟩, .string ⟨#[]⟩, .int .i64 0, .int .i64 0, .int .i64 0, .int .i64 0, .int .i64 0, .int .i64 0, .slice none 0 0, .int .i64 0, .int .i64 0]) 71 from B84); clear B84 C85
    refine hK80 _ _ ?_; clear hK80 K80
    try simp only [zP,zN,zA,zB,zC]
    refine ef_ (fun K87 hK87 => ?_)
    refine e_storeN (cells := #[q0, q1, .int .i64 r.1, .int .i64 r.2.1, .int .i64 r.2.2, q5, q6, q7, q8, q9, q10]) (by rfl) rfl rfl (by rfl) (by rfl) Fg81.out (by kernel_rfl) (by rfl) (ones_cons HQ1.out.1 (ones_cons HQ1.out.2.1 (ones_cons rfl (ones_cons rfl (ones_cons rfl (ones_cons HQ1.out.2.2.1 (ones_cons HQ1.out.2.2.2.1 (ones_cons HQ1.out.2.2.2.2.1 (ones_cons HQ1.out.2.2.2.2.2.1 (ones_cons HQ1.out.2.2.2.2.2.2.1 (ones_cons HQ1.out.2.2.2.2.2.2.2 ones_nil))))))))))) ?_
    rintro w88 B89 C90
    replace C0 := qh (C0.out.trans' C90 (inw_cons (.inr nw86.out) inw_nil))
    replace FR := qh (C90.blk FR.out (nin_cons (Blk.ne_type FR.out Fg81.out (by decide)) nin_nil))
    replace FS := qh (C90.blk FS.out (nin_cons (Blk.ne_type FS.out Fg81.out (by decide)) nin_nil))
    clear Fg81; have Fg81 := qh (show Blk w88 g81 (#[q0, q1, .int .i64 r.1, .int .i64 r.2.1, .int .i64 r.2.2, q5, q6, q7, q8, q9, q10]) 71 from B89); clear B89 C90
    refine hK87 _ _ ?_; clear hK87 K87
    try simp only [zP,zN,zA,zB,zC]
    refine nl_ (hK79 _ _ ?_); clear hK79 K79
    refine r_ ?_
    refine ld_ (v := .agg (#[.int .i64 ((N.take k).foldl max3 (sum3 (0, 0, 0) M).1).1, .int .i64 ((N.take k).foldl max3 (sum3 (0, 0, 0) M).1).2.1, .int .i64 ((N.take k).foldl max3 (sum3 (0, 0, 0) M).1).2.2])) rfl (by rfl) (by rfl) (run_loadVar_row _ _ 23 23 (#[.int .i64 ((N.take k).foldl max3 (sum3 (0, 0, 0) M).1).1, .int .i64 ((N.take k).foldl max3 (sum3 (0, 0, 0) M).1).2.1, .int .i64 ((N.take k).foldl max3 (sum3 (0, 0, 0) M).1).2.2]) (0, 0) _ FS.out Try.underlying23 rfl (by kernel_rfl)) ?_
    try simp only [zP,zN,zA,zB,zC]
    refine pu_ (v := .pointer (some ⟨g81, 2, none⟩)) (y_run (by rfl) (fun W => by go_simp)) ?_
    try simp only [zP,zN,zA,zB,zC]
    refine ld_ (v := .agg #[.int .i64 r.1, .int .i64 r.2.1, .int .i64 r.2.2]) rfl (by rfl) (by rfl) (run_loadVar_at (cs := [.int .i64 r.1, .int .i64 r.2.1, .int .i64 r.2.2]) (cells_part Fg81.out 2 (by rfl)) Try.underlying23 rfl (by kernel_rfl)) ?_
    try simp only [zP,zN,zA,zB,zC]
    refine ef_ (fun K91 hK91 => ?_)
    refine e_call Try.func56 (by kernel_rfl) rfl #[.agg (#[.int .i64 ((N.take k).foldl max3 (sum3 (0, 0, 0) M).1).1, .int .i64 ((N.take k).foldl max3 (sum3 (0, 0, 0) M).1).2.1, .int .i64 ((N.take k).foldl max3 (sum3 (0, 0, 0) M).1).2.2]), .agg #[.int .i64 r.1, .int .i64 r.2.1, .int .i64 r.2.2]] (by rfl) rfl rfl (mp2 rfl rfl) ((max_ (x0 := ((N.take k).foldl max3 (sum3 (0, 0, 0) M).1).1) (x1 := ((N.take k).foldl max3 (sum3 (0, 0, 0) M).1).2.1) (x2 := ((N.take k).foldl max3 (sum3 (0, 0, 0) M).1).2.2) (y0 := r.1) (y1 := r.2.1) (y2 := r.2.2))) ?_
    rintro en w93 ⟨rfl, cc92⟩
    refine ⟨_, rfl, ?_⟩
    replace C0 := qh (C0.out.trans' cc92 inw_nil)
    replace FR := qh (cc92.blk FR.out nin_nil)
    replace FS := qh (cc92.blk FS.out nin_nil)
    replace Fg81 := qh (cc92.blk Fg81.out nin_nil)
    clear cc92
    refine hK91 _ _ ?_; clear hK91 K91
    try simp only [zP,zN,zA,zB,zC]
    refine ef_ (fun K94 hK94 => ?_)
    refine e_storeN (cells := #[.int .i64 (max ((N.take k).foldl max3 (sum3 (0, 0, 0) M).1).1 r.1), .int .i64 (max ((N.take k).foldl max3 (sum3 (0, 0, 0) M).1).2.1 r.2.1), .int .i64 (max ((N.take k).foldl max3 (sum3 (0, 0, 0) M).1).2.2 r.2.2)]) (by rfl) rfl rfl (by rfl) (by rfl) FS.out (by kernel_rfl) (by rfl) (ones_cons rfl (ones_cons rfl (ones_cons rfl ones_nil))) ?_
    rintro w95 B96 C97
    replace C0 := qh (C0.out.trans' C97 (inw_cons (.inr nw63.out) inw_nil))
    replace FR := qh (C97.blk FR.out (nin_cons ne64.out nin_nil))
    replace Fg81 := qh (C97.blk Fg81.out (nin_cons (Blk.ne_type Fg81.out FS.out (by decide)) nin_nil))
    clear FS; have FS := qh (show Blk w95 gs (#[.int .i64 (max ((N.take k).foldl max3 (sum3 (0, 0, 0) M).1).1 r.1), .int .i64 (max ((N.take k).foldl max3 (sum3 (0, 0, 0) M).1).2.1 r.2.1), .int .i64 (max ((N.take k).foldl max3 (sum3 (0, 0, 0) M).1).2.2 r.2.2)]) 23 from B96); clear B96 C97
    refine hK94 _ _ ?_; clear hK94 K94
    try simp only [zP,zN,zA,zB,zC]
    refine nl_ ?_
    refine ib_norm ?_
    refine th_norm (hK78 _ _ ?_); try clear hK78 K78
    refine r_ ?_
    refine pu_ (v := .int .i64 (k + 1 : Nat)) (y_run (by rfl) (fun W => by have d := Wk.out; go_simp)) ?_
    try simp only [zP,zN,zA,zB,zC]
    refine pu_ (v := .int .i64 (k + 1 : Nat)) (y_move rfl (by rfl) (by rfl)) ?_
    try simp only [zP,zN,zA,zB,zC]
    refine nl_ ?_
    exact th_norm (hK75 (kq - 1) _ _ (by have := hlt.out; have := hk.out; omega) ⟨k + 1, rfl, C0, FR, qh (by rw [fold_take ho.out]; exact FS.out), qh ⟨by have := hlt.out; omega, by have := hlt.out; have := hk.out; omega⟩⟩)
   ·have D36 := qh (show ¬ k < N.length by have := hk.out; omega)
    have HR := qh (show of3 M N = (((N.take k).foldl max3 (sum3 (0, 0, 0) M).1), true) by rw [h, List.take_length]; exact if_pos HOK.out)
    clear h
    refine s_ (fun K98 hK98 => ?_)
    refine pu_ (v := .bool false) (y_run (by rfl) (fun W => by have d := D36.out; go_simp)) ?_
    try simp only [zP,zN,zA,zB,zC]
    refine nl_ (hK98 _ _ ?_); clear hK98 K98
    refine sq_ (fun K99 hK99 => ?_)
    refine wp_cond_false rfl ?_
    refine wp_exit ?_
    refine th_exit ?_
    refine th_exit ?_
    refine ib_exit ?_
    refine th_norm (hK72 _ _ ?_); try clear hK72 K72
    refine s_ (fun K100 hK100 => ?_)
    refine ld_ (v := .agg (#[.int .i64 ((N.take k).foldl max3 (sum3 (0, 0, 0) M).1).1, .int .i64 ((N.take k).foldl max3 (sum3 (0, 0, 0) M).1).2.1, .int .i64 ((N.take k).foldl max3 (sum3 (0, 0, 0) M).1).2.2])) rfl (by rfl) (by rfl) (run_loadVar_row _ _ 23 23 (#[.int .i64 ((N.take k).foldl max3 (sum3 (0, 0, 0) M).1).1, .int .i64 ((N.take k).foldl max3 (sum3 (0, 0, 0) M).1).2.1, .int .i64 ((N.take k).foldl max3 (sum3 (0, 0, 0) M).1).2.2]) (0, 0) _ FS.out Try.underlying23 rfl (by kernel_rfl)) ?_
    try simp only [zP,zN,zA,zB,zC]
    refine ef_ (fun K101 hK101 => ?_)
    refine e_storeN (cells := (#[.int .i64 ((N.take k).foldl max3 (sum3 (0, 0, 0) M).1).1, .int .i64 ((N.take k).foldl max3 (sum3 (0, 0, 0) M).1).2.1, .int .i64 ((N.take k).foldl max3 (sum3 (0, 0, 0) M).1).2.2])) (by rfl) rfl rfl (by rfl) (by rfl) FR.out (by kernel_rfl) (by rfl) (ones_cons rfl (ones_cons rfl (ones_cons rfl ones_nil))) ?_
    rintro w102 B103 C104
    replace C0 := qh (C0.out.trans' C104 (inw_cons (.inr nw13.out) inw_nil))
    replace FS := qh (C104.blk FS.out (nin_cons (Ne.symm ne64.out) nin_nil))
    clear FR; have FR := qh (show Blk w102 gr ((#[.int .i64 ((N.take k).foldl max3 (sum3 (0, 0, 0) M).1).1, .int .i64 ((N.take k).foldl max3 (sum3 (0, 0, 0) M).1).2.1, .int .i64 ((N.take k).foldl max3 (sum3 (0, 0, 0) M).1).2.2])) 23 from B103); clear B103 C104
    refine hK101 _ _ ?_; clear hK101 K101
    try simp only [zP,zN,zA,zB,zC]
    refine pu_ (v := .bool true) (y_assign rfl (by rfl) (by rfl)) ?_
    try simp only [zP,zN,zA,zB,zC]
    refine nl_ (hK100 _ _ ?_); clear hK100 K100
    refine wp_ret ?_
    refine hQ _ _ _ ?_
    refine bodyPost_ret (res2 rfl (rdv_cell (by rfl) (run_loadVar_row _ _ 23 23 ((#[.int .i64 ((N.take k).foldl max3 (sum3 (0, 0, 0) M).1).1, .int .i64 ((N.take k).foldl max3 (sum3 (0, 0, 0) M).1).2.1, .int .i64 ((N.take k).foldl max3 (sum3 (0, 0, 0) M).1).2.2])) (0, 0) _ FR.out Try.underlying23 rfl (by kernel_rfl))) (rdv_tmp (v := .bool true) (by rfl))) rfl ?_
    exact ⟨by rw [HR.out], C0.out⟩
  ·have OT' := qh (show OwnS w17 w.heap.size 23 3 (vt) M.length (M.flatMap r3C) from by have h9 := OT.out; rw [HE.out, List.take_length] at h9; exact h9); clear OT; have OT := OT'; clear OT'
   obtain ⟨Ao, co, hvo, -, -⟩ := OT.out.slice
   subst hvo
   have HOK := qh h
   clear h
   have HR := qh (show of3 M N = ((0, 0, 0), false) from if_neg (by rw [HOK.out]; simp))
   refine s_ (fun K105 hK105 => ?_)
   refine pu_ (v := .slice Ao M.length co) (y_move rfl (by rfl) (by rfl)) ?_
   try simp only [zP,zN,zA,zB,zC]
   refine ef_ (fun K106 hK106 => ?_)
   refine e_call Try.func55 (by kernel_rfl) rfl #[.slice Ao M.length co] (by rfl) rfl rfl (mp1 rfl) ((by have h9 := sumr_ (w := w17) (qh HN.out.1) (qh (fun r hr => by obtain ⟨i, hi⟩ := List.mem_iff_getElem?.1 hr; exact (HR3.out.2 i r hi).1)) (qh OT.out.src); rw [HOK.out] at h9; exact h9)) ?_
   rintro en w108 ⟨rfl, cc107⟩
   refine ⟨_, rfl, ?_⟩
   replace C0 := qh (C0.out.trans' cc107 inw_nil)
   replace FR := qh (cc107.blk FR.out nin_nil)
   replace F1 := qh (cc107.blk F1.out nin_nil)
   replace OT := qh (OT.out.ch cc107 rnin_nil)
   clear cc107
   refine hK106 _ _ ?_; clear hK106 K106
   try simp only [zP,zN,zA,zB,zC]
   refine pu_ (v := .tuple #[.agg #[.int .i64 (sum3 (0, 0, 0) M).1.1, .int .i64 (sum3 (0, 0, 0) M).1.2.1, .int .i64 (sum3 (0, 0, 0) M).1.2.2], .bool false]) (y_move rfl (by rfl) (by rfl)) ?_
   try simp only [zP,zN,zA,zB,zC]
   refine pu_ (v := .agg #[.int .i64 (sum3 (0, 0, 0) M).1.1, .int .i64 (sum3 (0, 0, 0) M).1.2.1, .int .i64 (sum3 (0, 0, 0) M).1.2.2]) (y_run (by rfl) (fun W => by go_simp)) ?_
   try simp only [zP,zN,zA,zB,zC]
   refine pu_ (v := .bool false) (y_run (by rfl) (fun W => by go_simp)) ?_
   try simp only [zP,zN,zA,zB,zC]
   refine ef_ (fun K109 hK109 => ?_)
   refine e_alloc (by rfl) rfl rfl (cs := #[.int .i64 0, .int .i64 0, .int .i64 0]) (by kernel_rfl) ?_
   rintro gs w110 HG111 B112 C113
   have nw114 := qh (show w.heap.size ≤ gs by have := C0.out.size; have := HG111.out; omega)
   have ne115 := qh (FR.out.ne_new HG111)
   have nr116 := qh (OT.out.ne_new HG111)
   replace C0 := qh (C0.out.trans' C113 inw_nil)
   replace FR := qh (C113.blk FR.out nin_nil)
   replace F1 := qh (C113.blk F1.out nin_nil)
   replace OT := qh (OT.out.ch C113 rnin_nil)
   have Fgs := qh (show Blk w110 gs (#[.int .i64 0, .int .i64 0, .int .i64 0]) 23 from B112); clear B112 C113
   refine hK109 _ _ ?_; clear hK109 K109
   try simp only [zP,zN,zA,zB,zC]
   refine ef_ (fun K117 hK117 => ?_)
   refine e_storeN (cells := #[.int .i64 (sum3 (0, 0, 0) M).1.1, .int .i64 (sum3 (0, 0, 0) M).1.2.1, .int .i64 (sum3 (0, 0, 0) M).1.2.2]) (by rfl) rfl rfl (by rfl) (by rfl) Fgs.out (by kernel_rfl) (by rfl) (ones_cons rfl (ones_cons rfl (ones_cons rfl ones_nil))) ?_
   rintro w118 B119 C120
   replace C0 := qh (C0.out.trans' C120 (inw_cons (.inr nw114.out) inw_nil))
   replace FR := qh (C120.blk FR.out (nin_cons ne115.out nin_nil))
   replace F1 := qh (C120.blk F1.out (nin_cons (Blk.ne_type F1.out Fgs.out (by decide)) nin_nil))
   replace OT := qh (OT.out.ch C120 (rnin_cons nr116.out rnin_nil))
   clear Fgs; have Fgs := qh (show Blk w118 gs (#[.int .i64 (sum3 (0, 0, 0) M).1.1, .int .i64 (sum3 (0, 0, 0) M).1.2.1, .int .i64 (sum3 (0, 0, 0) M).1.2.2]) 23 from B119); clear B119 C120
   refine hK117 _ _ ?_; clear hK117 K117
   try simp only [zP,zN,zA,zB,zC]
   refine pu_ (v := .bool false) (y_assign rfl (by rfl) (by rfl)) ?_
   try simp only [zP,zN,zA,zB,zC]
   refine nl_ (hK105 _ _ ?_); clear hK105 K105
   refine sq_ (fun K121 hK121 => ?_)
   refine s_ (fun K122 hK122 => ?_)
   refine pu_ (v := .bool false) (y_move rfl (by rfl) (by rfl)) ?_
   try simp only [zP,zN,zA,zB,zC]
   refine pu_ (v := .bool true) (y_run (by rfl) (fun W => by go_simp)) ?_
   try simp only [zP,zN,zA,zB,zC]
   refine nl_ (hK122 _ _ ?_); clear hK122 K122
   refine wp_cond_true rfl ?_
   refine s_ (fun K123 hK123 => ?_)
   refine pu_ (v := .agg #[.int .i64 0, .int .i64 0, .int .i64 0]) (y_build (vs := #[]) (by rfl) rfl (by first | rfl | (simp only [List.map_toArray, List.map_cons, List.map_nil]; first | done | rfl)) (by kernel_rfl)) ?_
   try simp only [zP,zN,zA,zB,zC]
   refine ef_ (fun K124 hK124 => ?_)
   refine e_storeN (cells := #[.int .i64 0, .int .i64 0, .int .i64 0]) (by rfl) rfl rfl (by rfl) (by rfl) FR.out (by kernel_rfl) (by rfl) (ones_cons rfl (ones_cons rfl (ones_cons rfl ones_nil))) ?_
   rintro w125 B126 C127
   replace C0 := qh (C0.out.trans' C127 (inw_cons (.inr nw13.out) inw_nil))
   replace F1 := qh (C127.blk F1.out (nin_cons (Blk.ne_type F1.out FR.out (by decide)) nin_nil))
   replace OT := qh (OT.out.ch C127 (rnin_cons hr.out rnin_nil))
   replace Fgs := qh (C127.blk Fgs.out (nin_cons (Ne.symm ne115.out) nin_nil))
   clear FR; have FR := qh (show Blk w125 gr (#[.int .i64 0, .int .i64 0, .int .i64 0]) 23 from B126); clear B126 C127
   refine hK124 _ _ ?_; clear hK124 K124
   try simp only [zP,zN,zA,zB,zC]
   refine pu_ (v := .bool false) (y_assign rfl (by rfl) (by rfl)) ?_
   try simp only [zP,zN,zA,zB,zC]
   refine nl_ (hK123 _ _ ?_); clear hK123 K123
   refine wp_ret ?_
   refine th_ret ?_
   refine hQ _ _ _ ?_
   refine bodyPost_ret (res2 rfl (rdv_cell (by rfl) (run_loadVar_row _ _ 23 23 (#[.int .i64 0, .int .i64 0, .int .i64 0]) (0, 0) _ FR.out Try.underlying23 rfl (by kernel_rfl))) (rdv_tmp (v := .bool false) (by rfl))) rfl ?_
   exact ⟨by rw [HR.out], C0.out⟩
theorem cover_ {u c m p : Int} {s0 s1 : Value} {A2 A3 : Option Addr} {c2 c3 : Nat} {M N : List R3} {z1 z2 pr : Int} (HS0 : s0.oneCell' = true) (HS1 : s1.oneCell' = true) (HN : Hid (M.length ≤ 1000 ∧ N.length ≤ 1000)) (HR2 : Hid (reqF w A2 N.length N)) (HR3 : Hid (reqF w A3 M.length M)) (HU : Hid (I3 (c, m, p)))  :
  Calls Try.prog 39 #[.agg #[.int .i64 u, s0, s1, .slice A2 N.length c2, .slice A3 M.length c3, .int .i64 z1, .int .i64 z2, .int .i64 pr, .int .i64 c, .int .i64 m, .int .i64 p]] w fun en w' => en = .returned (.int .i64 (over1 m (of3 M N).1.2.1)) ∧ Ch [] w w' := by
 have C0 := qh (Ch.refl [] w)
 go_enter Try.func39, Try.ntmps39
 refine q_ (fun Q hQ hP => ?_)
 refine s_ (fun K1 hK1 => ?_)
 refine ef_ (fun K2 hK2 => ?_)
 refine e_boxN (by rfl) rfl rfl (cs := #[.int .i64 u, s0, s1, .slice A2 N.length c2, .slice A3 M.length c3, .int .i64 z1, .int .i64 z2, .int .i64 pr, .int .i64 c, .int .i64 m, .int .i64 p]) (v := .agg #[.int .i64 u, s0, s1, .slice A2 N.length c2, .slice A3 M.length c3, .int .i64 z1, .int .i64 z2, .int .i64 pr, .int .i64 c, .int .i64 m, .int .i64 p]) (by rfl) rfl ?_
 rintro g3 w4 HG5 B6 C7
 have nw8 := qh (show w.heap.size ≤ g3 by have := C0.out.size; have := HG5.out; omega)
 replace C0 := qh (C0.out.trans' C7 inw_nil)
 have Fg3 := qh (show Blk w4 g3 (#[.int .i64 u, s0, s1, .slice A2 N.length c2, .slice A3 M.length c3, .int .i64 z1, .int .i64 z2, .int .i64 pr, .int .i64 c, .int .i64 m, .int .i64 p]) 41 from B6); clear B6 C7
 refine hK2 _ _ ?_; clear hK2 K2
 try simp only [zP,zN,zA,zB,zC]
 refine pu_ (v := .int .i64 0) (y_assign rfl (by rfl) (by rfl)) ?_
 try simp only [zP,zN,zA,zB,zC]
 refine nl_ (hK1 _ _ ?_); clear hK1 K1
 refine s_ (fun K9 hK9 => ?_)
 refine pu_ (v := .pointer (some ⟨g3, 1, none⟩)) (y_run (by rfl) (fun W => by go_simp)) ?_
 try simp only [zP,zN,zA,zB,zC]
 refine ld_ (v := .agg #[s0, s1, .slice A2 N.length c2, .slice A3 M.length c3, .int .i64 z1, .int .i64 z2, .int .i64 pr]) rfl (by rfl) (by rfl) (run_loadVar_at (cs := [s0, s1, .slice A2 N.length c2, .slice A3 M.length c3, .int .i64 z1, .int .i64 z2, .int .i64 pr]) (cells_part Fg3.out 1 (by rfl)) Try.underlying39 rfl (by kernel_rfl)) ?_
 try simp only [zP,zN,zA,zB,zC]
 refine ef_ (fun K10 hK10 => ?_)
 refine e_call Try.func47 (by kernel_rfl) rfl #[.agg #[s0, s1, .slice A2 N.length c2, .slice A3 M.length c3, .int .i64 z1, .int .i64 z2, .int .i64 pr]] (by rfl) rfl rfl (mp1 rfl) ((rof_ HS0 HS1 HN (qh (HR2.out.ch C0.out)) (qh (HR3.out.ch C0.out)))) ?_
 rintro en w12 ⟨rfl, cc11⟩
 refine ⟨_, rfl, ?_⟩
 replace C0 := qh (C0.out.trans' cc11 inw_nil)
 replace Fg3 := qh (cc11.blk Fg3.out nin_nil)
 clear cc11
 refine hK10 _ _ ?_; clear hK10 K10
 try simp only [zP,zN,zA,zB,zC]
 refine pu_ (v := .tuple #[.agg #[.int .i64 (of3 M N).1.1, .int .i64 (of3 M N).1.2.1, .int .i64 (of3 M N).1.2.2], .bool (of3 M N).2]) (y_move rfl (by rfl) (by rfl)) ?_
 try simp only [zP,zN,zA,zB,zC]
 refine pu_ (v := .agg #[.int .i64 (of3 M N).1.1, .int .i64 (of3 M N).1.2.1, .int .i64 (of3 M N).1.2.2]) (y_run (by rfl) (fun W => by go_simp)) ?_
 try simp only [zP,zN,zA,zB,zC]
 refine pu_ (v := .bool (of3 M N).2) (y_run (by rfl) (fun W => by go_simp)) ?_
 try simp only [zP,zN,zA,zB,zC]
 refine ef_ (fun K13 hK13 => ?_)
 refine e_alloc (by rfl) rfl rfl (cs := #[.int .i64 0, .int .i64 0, .int .i64 0]) (by kernel_rfl) ?_
 rintro g14 w15 HG16 B17 C18
 have nw19 := qh (show w.heap.size ≤ g14 by have := C0.out.size; have := HG16.out; omega)
 replace C0 := qh (C0.out.trans' C18 inw_nil)
 replace Fg3 := qh (C18.blk Fg3.out nin_nil)
 have Fg14 := qh (show Blk w15 g14 (#[.int .i64 0, .int .i64 0, .int .i64 0]) 23 from B17); clear B17 C18
 refine hK13 _ _ ?_; clear hK13 K13
 try simp only [zP,zN,zA,zB,zC]
 refine ef_ (fun K20 hK20 => ?_)
 refine e_storeN (cells := #[.int .i64 (of3 M N).1.1, .int .i64 (of3 M N).1.2.1, .int .i64 (of3 M N).1.2.2]) (by rfl) rfl rfl (by rfl) (by rfl) Fg14.out (by kernel_rfl) (by rfl) (ones_cons rfl (ones_cons rfl (ones_cons rfl ones_nil))) ?_
 rintro w21 B22 C23
 replace C0 := qh (C0.out.trans' C23 (inw_cons (.inr nw19.out) inw_nil))
 replace Fg3 := qh (C23.blk Fg3.out (nin_cons (Blk.ne_type Fg3.out Fg14.out (by decide)) nin_nil))
 clear Fg14; have Fg14 := qh (show Blk w21 g14 (#[.int .i64 (of3 M N).1.1, .int .i64 (of3 M N).1.2.1, .int .i64 (of3 M N).1.2.2]) 23 from B22); clear B22 C23
 refine hK20 _ _ ?_; clear hK20 K20
 try simp only [zP,zN,zA,zB,zC]
 refine pu_ (v := .bool (of3 M N).2) (y_assign rfl (by rfl) (by rfl)) ?_
 try simp only [zP,zN,zA,zB,zC]
 refine nl_ (hK9 _ _ ?_); clear hK9 K9
 refine s_ (fun K24 hK24 => ?_)
 refine pu_ (v := .pointer (some ⟨g3, 8, none⟩)) (y_run (by rfl) (fun W => by go_simp)) ?_
 try simp only [zP,zN,zA,zB,zC]
 refine ld_ (v := .agg #[.int .i64 c, .int .i64 m, .int .i64 p]) rfl (by rfl) (by rfl) (run_loadVar_at (cs := [.int .i64 c, .int .i64 m, .int .i64 p]) (cells_part Fg3.out 8 (by rfl)) Try.underlying23 rfl (by kernel_rfl)) ?_
 try simp only [zP,zN,zA,zB,zC]
 refine ld_ (v := .agg (#[.int .i64 (of3 M N).1.1, .int .i64 (of3 M N).1.2.1, .int .i64 (of3 M N).1.2.2])) rfl (by rfl) (by rfl) (run_loadVar_row _ _ 23 23 (#[.int .i64 (of3 M N).1.1, .int .i64 (of3 M N).1.2.1, .int .i64 (of3 M N).1.2.2]) (0, 0) _ Fg14.out Try.underlying23 rfl (by kernel_rfl)) ?_
 try simp only [zP,zN,zA,zB,zC]
 refine ef_ (fun K25 hK25 => ?_)
 refine e_call Try.func48 (by kernel_rfl) rfl #[.agg #[.int .i64 c, .int .i64 m, .int .i64 p], .agg (#[.int .i64 (of3 M N).1.1, .int .i64 (of3 M N).1.2.1, .int .i64 (of3 M N).1.2.2])] (by rfl) rfl rfl (mp2 rfl rfl) ((over_ (x0 := c) (x1 := m) (x2 := p) (y0 := (of3 M N).1.1) (y1 := (of3 M N).1.2.1) (y2 := (of3 M N).1.2.2) HU (qh (of_i3 (fun r hr => by obtain ⟨i, hi⟩ := List.mem_iff_getElem?.1 hr; exact (HR2.out.2 i r hi).1))))) ?_
 rintro en w27 ⟨rfl, cc26⟩
 refine ⟨_, rfl, ?_⟩
 replace C0 := qh (C0.out.trans' cc26 inw_nil)
 replace Fg3 := qh (cc26.blk Fg3.out nin_nil)
 replace Fg14 := qh (cc26.blk Fg14.out nin_nil)
 clear cc26
 refine hK25 _ _ ?_; clear hK25 K25
 try simp only [zP,zN,zA,zB,zC]
 refine pu_ (v := .int .i64 (over1 m (of3 M N).1.2.1)) (y_run (by rfl) (fun W => by have d := field23 (over1 c (of3 M N).1.1) (over1 m (of3 M N).1.2.1) (over1 p (of3 M N).1.2.2) W; go_simp)) ?_
 try simp only [zP,zN,zA,zB,zC]
 refine pu_ (v := .int .i64 (over1 m (of3 M N).1.2.1)) (y_assign rfl (by rfl) (by rfl)) ?_
 try simp only [zP,zN,zA,zB,zC]
 refine nl_ (hK24 _ _ ?_); clear hK24 K24
 refine wp_ret ?_
 refine hQ _ _ _ ?_
 refine bodyPost_ret (res1 rfl (rdv_tmp (v := .int .i64 (over1 m (of3 M N).1.2.1)) (by rfl))) rfl ?_
 exact ⟨rfl, C0.out⟩
theorem order_lit {ua ca ma pa : Int} {s0a s1a : Value} {A2a A3a : Option Addr} {c2a c3a : Nat} {Ma Na : List R3} {z1a z2a pra : Int} (HS0a : s0a.oneCell' = true) (HS1a : s1a.oneCell' = true) (HNa : Hid (Ma.length ≤ 1000 ∧ Na.length ≤ 1000)) (HR2a : Hid (reqF w A2a Na.length Na)) (HR3a : Hid (reqF w A3a Ma.length Ma)) (HUa : Hid (I3 (ca, ma, pa))) {ub cb mb pb : Int} {s0b s1b : Value} {A2b A3b : Option Addr} {c2b c3b : Nat} {Mb Nb : List R3} {z1b z2b prb : Int} (HS0b : s0b.oneCell' = true) (HS1b : s1b.oneCell' = true) (HNb : Hid (Mb.length ≤ 1000 ∧ Nb.length ≤ 1000)) (HR2b : Hid (reqF w A2b Nb.length Nb)) (HR3b : Hid (reqF w A3b Mb.length Mb)) (HUb : Hid (I3 (cb, mb, pb)))  :
  Calls Try.prog 34 #[.agg #[.int .i64 ua, s0a, s1a, .slice A2a Na.length c2a, .slice A3a Ma.length c3a, .int .i64 z1a, .int .i64 z2a, .int .i64 pra, .int .i64 ca, .int .i64 ma, .int .i64 pa], .agg #[.int .i64 ub, s0b, s1b, .slice A2b Nb.length c2b, .slice A3b Mb.length c3b, .int .i64 z1b, .int .i64 z2b, .int .i64 prb, .int .i64 cb, .int .i64 mb, .int .i64 pb]] w fun en w' => en = .returned (.int .i64 (orZ (cmpI (min (over1 mb (of3 Mb Nb).1.2.1) 1) (min (over1 ma (of3 Ma Na).1.2.1) 1)) (cmpI pra prb) (cmpI (over1 mb (of3 Mb Nb).1.2.1) (over1 ma (of3 Ma Na).1.2.1)) (cmpI ub ua))) ∧ Ch [] w w' := by
 have C0 := qh (Ch.refl [] w)
 obtain ⟨i3, I3_⟩ := Info.of info3
 go_enter Try.func34, Try.ntmps34
 refine q_ (fun Q hQ hP => ?_)
 refine s_ (fun K1 hK1 => ?_)
 refine ef_ (fun K2 hK2 => ?_)
 refine e_boxN (by rfl) rfl rfl (cs := #[.int .i64 ua, s0a, s1a, .slice A2a Na.length c2a, .slice A3a Ma.length c3a, .int .i64 z1a, .int .i64 z2a, .int .i64 pra, .int .i64 ca, .int .i64 ma, .int .i64 pa]) (v := .agg #[.int .i64 ua, s0a, s1a, .slice A2a Na.length c2a, .slice A3a Ma.length c3a, .int .i64 z1a, .int .i64 z2a, .int .i64 pra, .int .i64 ca, .int .i64 ma, .int .i64 pa]) (by rfl) rfl ?_
 rintro g3 w4 HG5 B6 C7
 have nw8 := qh (show w.heap.size ≤ g3 by have := C0.out.size; have := HG5.out; omega)
 replace C0 := qh (C0.out.trans' C7 inw_nil)
 have Fg3 := qh (show Blk w4 g3 (#[.int .i64 ua, s0a, s1a, .slice A2a Na.length c2a, .slice A3a Ma.length c3a, .int .i64 z1a, .int .i64 z2a, .int .i64 pra, .int .i64 ca, .int .i64 ma, .int .i64 pa]) 41 from B6); clear B6 C7
 refine hK2 _ _ ?_; clear hK2 K2
 try simp only [zP,zN,zA,zB,zC]
 refine ef_ (fun K9 hK9 => ?_)
 refine e_boxN (by rfl) rfl rfl (cs := #[.int .i64 ub, s0b, s1b, .slice A2b Nb.length c2b, .slice A3b Mb.length c3b, .int .i64 z1b, .int .i64 z2b, .int .i64 prb, .int .i64 cb, .int .i64 mb, .int .i64 pb]) (v := .agg #[.int .i64 ub, s0b, s1b, .slice A2b Nb.length c2b, .slice A3b Mb.length c3b, .int .i64 z1b, .int .i64 z2b, .int .i64 prb, .int .i64 cb, .int .i64 mb, .int .i64 pb]) (by rfl) rfl ?_
 rintro g10 w11 HG12 B13 C14
 have nw15 := qh (show w.heap.size ≤ g10 by have := C0.out.size; have := HG12.out; omega)
 have ne16 := qh (Fg3.out.ne_new HG12)
 replace C0 := qh (C0.out.trans' C14 inw_nil)
 replace Fg3 := qh (C14.blk Fg3.out nin_nil)
 have Fg10 := qh (show Blk w11 g10 (#[.int .i64 ub, s0b, s1b, .slice A2b Nb.length c2b, .slice A3b Mb.length c3b, .int .i64 z1b, .int .i64 z2b, .int .i64 prb, .int .i64 cb, .int .i64 mb, .int .i64 pb]) 41 from B13); clear B13 C14
 refine hK9 _ _ ?_; clear hK9 K9
 try simp only [zP,zN,zA,zB,zC]
 refine pu_ (v := .int .i64 0) (y_assign rfl (by rfl) (by rfl)) ?_
 try simp only [zP,zN,zA,zB,zC]
 refine nl_ (hK1 _ _ ?_); clear hK1 K1
 refine sq_ (fun K17 hK17 => ?_)
 refine startk_ (S := fun W => Blk W g3 (#[.int .i64 ua, s0a, s1a, .slice A2a Na.length c2a, .slice A3a Ma.length c3a, .int .i64 z1a, .int .i64 z2a, .int .i64 pra, .int .i64 ca, .int .i64 ma, .int .i64 pa]) 41 ∧ Blk W g10 (#[.int .i64 ub, s0b, s1b, .slice A2b Nb.length c2b, .slice A3b Mb.length c3b, .int .i64 z1b, .int .i64 z2b, .int .i64 prb, .int .i64 cb, .int .i64 mb, .int .i64 pb]) 41 ∧ True) (ds := []) (msk 6 0) (by kernel_rfl) rfl (by kernel_rfl) (fun W c => ⟨c.blk Fg3.out nin_nil, c.blk Fg10.out nin_nil, trivial⟩) (fun w18 C19 hS20 => ?_)
 replace C0 := qh (C0.out.trans' C19 inw_nil)
 replace Fg3 := qh (C19.blk Fg3.out nin_nil)
 replace Fg10 := qh (C19.blk Fg10.out nin_nil)
 clear C19
 refine takeh_ (i := 0) (N := some 7) (v := .agg (#[.int .i64 ua, s0a, s1a, .slice A2a Na.length c2a, .slice A3a Ma.length c3a, .int .i64 z1a, .int .i64 z2a, .int .i64 pra, .int .i64 ca, .int .i64 ma, .int .i64 pa])) (msk 6 1) rfl rfl (by kernel_rfl) hP (y_load (p := ⟨g3, 0, none⟩) rfl (by rfl) (by rfl) (fun W hS => run_loadVar_row _ _ 41 41 (#[.int .i64 ua, s0a, s1a, .slice A2a Na.length c2a, .slice A3a Ma.length c3a, .int .i64 z1a, .int .i64 z2a, .int .i64 pra, .int .i64 ca, .int .i64 ma, .int .i64 pa]) (0, 0) _ hS.1 Try.underlying41 rfl (by kernel_rfl))) hS20 rfl ?_
 try simp only [zP,zN,zA,zB,zC]
 refine takeh_ (i := 2) (N := some 9) (v := .agg (#[.int .i64 ub, s0b, s1b, .slice A2b Nb.length c2b, .slice A3b Mb.length c3b, .int .i64 z1b, .int .i64 z2b, .int .i64 prb, .int .i64 cb, .int .i64 mb, .int .i64 pb])) (msk 6 5) rfl rfl (by kernel_rfl) hP (y_load (p := ⟨g10, 0, none⟩) rfl (by rfl) (by rfl) (fun W hS => run_loadVar_row _ _ 41 41 (#[.int .i64 ub, s0b, s1b, .slice A2b Nb.length c2b, .slice A3b Mb.length c3b, .int .i64 z1b, .int .i64 z2b, .int .i64 prb, .int .i64 cb, .int .i64 mb, .int .i64 pb]) (0, 0) _ hS.2.1 Try.underlying41 rfl (by kernel_rfl))) hS20 rfl ?_
 try simp only [zP,zN,zA,zB,zC]
 refine one_ (i := 1) (N := some 8) (msk 6 7) rfl rfl (by kernel_rfl) (by simp) (fun K21 hK21 => ?_)
 refine e_call Try.func39 (by kernel_rfl) rfl #[.agg (#[.int .i64 ua, s0a, s1a, .slice A2a Na.length c2a, .slice A3a Ma.length c3a, .int .i64 z1a, .int .i64 z2a, .int .i64 pra, .int .i64 ca, .int .i64 ma, .int .i64 pa])] (by rfl) rfl rfl (mp1 rfl) ((cover_ HS0a HS1a HNa (qh (HR2a.out.ch C0.out)) (qh (HR3a.out.ch C0.out)) HUa)) ?_
 rintro en w23 ⟨rfl, cc22⟩
 refine ⟨_, rfl, ?_⟩
 replace C0 := qh (C0.out.trans' cc22 inw_nil)
 replace Fg3 := qh (cc22.blk Fg3.out nin_nil)
 replace Fg10 := qh (cc22.blk Fg10.out nin_nil)
 clear cc22
 refine hK21.out _ _ ⟨Fg3.out, Fg10.out, trivial⟩ (fun hS24 => ?_); clear hK21 K21
 try simp only [zP,zN,zA,zB,zC]
 refine one_ (i := 3) (N := some 10) (msk 6 15) rfl rfl (by kernel_rfl) (by simp) (fun K25 hK25 => ?_)
 refine e_call Try.func39 (by kernel_rfl) rfl #[.agg (#[.int .i64 ub, s0b, s1b, .slice A2b Nb.length c2b, .slice A3b Mb.length c3b, .int .i64 z1b, .int .i64 z2b, .int .i64 prb, .int .i64 cb, .int .i64 mb, .int .i64 pb])] (by rfl) rfl rfl (mp1 rfl) ((cover_ HS0b HS1b HNb (qh (HR2b.out.ch C0.out)) (qh (HR3b.out.ch C0.out)) HUb)) ?_
 rintro en w27 ⟨rfl, cc26⟩
 refine ⟨_, rfl, ?_⟩
 replace C0 := qh (C0.out.trans' cc26 inw_nil)
 replace Fg3 := qh (cc26.blk Fg3.out nin_nil)
 replace Fg10 := qh (cc26.blk Fg10.out nin_nil)
 clear cc26
 refine hK25.out _ _ ⟨Fg3.out, Fg10.out, trivial⟩ (fun hS28 => ?_); clear hK25 K25
 try simp only [zP,zN,zA,zB,zC]
 refine pureh_ (i := 4) (N := some 5) (v := .int .i64 (over1 ma (of3 Ma Na).1.2.1)) (msk 6 31) rfl rfl (by kernel_rfl) hP (y_assign rfl (by rfl) (by rfl)) rfl ?_
 try simp only [zP,zN,zA,zB,zC]
 refine pureh_ (i := 5) (N := some 6) (v := .int .i64 (over1 mb (of3 Mb Nb).1.2.1)) (msk 6 63) rfl rfl (by kernel_rfl) hP (y_assign rfl (by rfl) (by rfl)) rfl ?_
 try simp only [zP,zN,zA,zB,zC]
 refine done_ (by kernel_rfl) (th_norm (hK17 _ _ ?_)); clear hK17 K17
 refine sq_ (fun K29 hK29 => ?_)
 refine startk_ (S := fun W => Blk W g3 (#[.int .i64 ua, s0a, s1a, .slice A2a Na.length c2a, .slice A3a Ma.length c3a, .int .i64 z1a, .int .i64 z2a, .int .i64 pra, .int .i64 ca, .int .i64 ma, .int .i64 pa]) 41 ∧ Blk W g10 (#[.int .i64 ub, s0b, s1b, .slice A2b Nb.length c2b, .slice A3b Mb.length c3b, .int .i64 z1b, .int .i64 z2b, .int .i64 prb, .int .i64 cb, .int .i64 mb, .int .i64 pb]) 41 ∧ True) (ds := []) (msk 23 0) (by kernel_rfl) rfl (by kernel_rfl) (fun W c => ⟨c.blk Fg3.out nin_nil, c.blk Fg10.out nin_nil, trivial⟩) (fun w30 C31 hS32 => ?_)
 replace C0 := qh (C0.out.trans' C31 inw_nil)
 replace Fg3 := qh (C31.blk Fg3.out nin_nil)
 replace Fg10 := qh (C31.blk Fg10.out nin_nil)
 clear C31
 refine pureh_ (i := 0) (N := some 11) (v := .int .i64 (over1 mb (of3 Mb Nb).1.2.1)) (msk 23 1) rfl rfl (by kernel_rfl) hP (y_move rfl (by rfl) (by rfl)) rfl ?_
 try simp only [zP,zN,zA,zB,zC]
 refine pureh_ (i := 2) (N := some 13) (v := .int .i64 (over1 ma (of3 Ma Na).1.2.1)) (msk 23 5) rfl rfl (by kernel_rfl) hP (y_move rfl (by rfl) (by rfl)) rfl ?_
 try simp only [zP,zN,zA,zB,zC]
 refine pureh_ (i := 5) (N := some 16) (v := .pointer (some ⟨g3, 1, none⟩)) (msk 23 37) rfl rfl (by kernel_rfl) hP (y_run (by rfl) (fun W => by go_simp)) rfl ?_
 try simp only [zP,zN,zA,zB,zC]
 refine pureh_ (i := 6) (N := some 17) (v := .pointer (some ⟨g3, 7, none⟩)) (msk 23 101) rfl rfl (by kernel_rfl) hP (y_run (by rfl) (fun W => by go_simp)) rfl ?_
 try simp only [zP,zN,zA,zB,zC]
 refine takeh_ (i := 7) (N := some 18) (v := .int .i64 pra) (msk 23 229) rfl rfl (by kernel_rfl) hP (y_load (p := ⟨g3, 7, none⟩) rfl (by rfl) (by rfl) (fun W hS => run_load_one ((hS.1.cell 7).trans rfl) Try.underlying3 rfl)) hS32 rfl ?_
 try simp only [zP,zN,zA,zB,zC]
 refine pureh_ (i := 8) (N := some 19) (v := .pointer (some ⟨g10, 1, none⟩)) (msk 23 485) rfl rfl (by kernel_rfl) hP (y_run (by rfl) (fun W => by go_simp)) rfl ?_
 try simp only [zP,zN,zA,zB,zC]
 refine pureh_ (i := 9) (N := some 20) (v := .pointer (some ⟨g10, 7, none⟩)) (msk 23 997) rfl rfl (by kernel_rfl) hP (y_run (by rfl) (fun W => by go_simp)) rfl ?_
 try simp only [zP,zN,zA,zB,zC]
 refine takeh_ (i := 10) (N := some 21) (v := .int .i64 prb) (msk 23 2021) rfl rfl (by kernel_rfl) hP (y_load (p := ⟨g10, 7, none⟩) rfl (by rfl) (by rfl) (fun W hS => run_load_one ((hS.2.1.cell 7).trans rfl) Try.underlying3 rfl)) hS32 rfl ?_
 try simp only [zP,zN,zA,zB,zC]
 refine pureh_ (i := 12) (N := some 23) (v := .int .i64 (over1 mb (of3 Mb Nb).1.2.1)) (msk 23 6117) rfl rfl (by kernel_rfl) hP (y_move rfl (by rfl) (by rfl)) rfl ?_
 try simp only [zP,zN,zA,zB,zC]
 refine pureh_ (i := 13) (N := some 24) (v := .int .i64 (over1 ma (of3 Ma Na).1.2.1)) (msk 23 14309) rfl rfl (by kernel_rfl) hP (y_move rfl (by rfl) (by rfl)) rfl ?_
 try simp only [zP,zN,zA,zB,zC]
 refine pureh_ (i := 15) (N := some 26) (v := .pointer (some ⟨g10, 0, none⟩)) (msk 23 47077) rfl rfl (by kernel_rfl) hP (y_run (by rfl) (fun W => by go_simp)) rfl ?_
 try simp only [zP,zN,zA,zB,zC]
 refine takeh_ (i := 16) (N := some 27) (v := .int .i64 ub) (msk 23 112613) rfl rfl (by kernel_rfl) hP (y_load (p := ⟨g10, 0, none⟩) rfl (by rfl) (by rfl) (fun W hS => run_load_one ((hS.2.1.cell 0).trans rfl) Try.underlying3 rfl)) hS32 rfl ?_
 try simp only [zP,zN,zA,zB,zC]
 refine pureh_ (i := 17) (N := some 28) (v := .pointer (some ⟨g3, 0, none⟩)) (msk 23 243685) rfl rfl (by kernel_rfl) hP (y_run (by rfl) (fun W => by go_simp)) rfl ?_
 try simp only [zP,zN,zA,zB,zC]
 refine takeh_ (i := 18) (N := some 29) (v := .int .i64 ua) (msk 23 505829) rfl rfl (by kernel_rfl) hP (y_load (p := ⟨g3, 0, none⟩) rfl (by rfl) (by rfl) (fun W hS => run_load_one ((hS.1.cell 0).trans rfl) Try.underlying3 rfl)) hS32 rfl ?_
 try simp only [zP,zN,zA,zB,zC]
 refine one_ (i := 1) (N := some 12) (msk 23 505831) rfl rfl (by kernel_rfl) (by simp) (fun K33 hK33 => ?_)
 refine e_call Try.func42 (by kernel_rfl) rfl #[.int .i64 (over1 mb (of3 Mb Nb).1.2.1)] (by rfl) rfl rfl (mp1 rfl) (some_) ?_
 rintro en w35 ⟨rfl, cc34⟩
 refine ⟨_, rfl, ?_⟩
 replace C0 := qh (C0.out.trans' cc34 inw_nil)
 replace Fg3 := qh (cc34.blk Fg3.out nin_nil)
 replace Fg10 := qh (cc34.blk Fg10.out nin_nil)
 clear cc34
 refine hK33.out _ _ ⟨Fg3.out, Fg10.out, trivial⟩ (fun hS36 => ?_); clear hK33 K33
 try simp only [zP,zN,zA,zB,zC]
 refine one_ (i := 3) (N := some 14) (msk 23 505839) rfl rfl (by kernel_rfl) (by simp) (fun K37 hK37 => ?_)
 refine e_call Try.func42 (by kernel_rfl) rfl #[.int .i64 (over1 ma (of3 Ma Na).1.2.1)] (by rfl) rfl rfl (mp1 rfl) (some_) ?_
 rintro en w39 ⟨rfl, cc38⟩
 refine ⟨_, rfl, ?_⟩
 replace C0 := qh (C0.out.trans' cc38 inw_nil)
 replace Fg3 := qh (cc38.blk Fg3.out nin_nil)
 replace Fg10 := qh (cc38.blk Fg10.out nin_nil)
 clear cc38
 refine hK37.out _ _ ⟨Fg3.out, Fg10.out, trivial⟩ (fun hS40 => ?_); clear hK37 K37
 try simp only [zP,zN,zA,zB,zC]
 refine one_ (i := 4) (N := some 15) (msk 23 505855) rfl rfl (by kernel_rfl) (by simp) (fun K41 hK41 => ?_)
 refine e_call Try.func41 (by kernel_rfl) rfl #[.int .i64 (min (over1 mb (of3 Mb Nb).1.2.1) 1), .int .i64 (min (over1 ma (of3 Ma Na).1.2.1) 1)] (by rfl) rfl rfl (mp2 rfl rfl) (cmp_) ?_
 rintro en w43 ⟨rfl, cc42⟩
 refine ⟨_, rfl, ?_⟩
 replace C0 := qh (C0.out.trans' cc42 inw_nil)
 replace Fg3 := qh (cc42.blk Fg3.out nin_nil)
 replace Fg10 := qh (cc42.blk Fg10.out nin_nil)
 clear cc42
 refine hK41.out _ _ ⟨Fg3.out, Fg10.out, trivial⟩ (fun hS44 => ?_); clear hK41 K41
 try simp only [zP,zN,zA,zB,zC]
 refine one_ (i := 11) (N := some 22) (msk 23 507903) rfl rfl (by kernel_rfl) (by simp) (fun K45 hK45 => ?_)
 refine e_call Try.func41 (by kernel_rfl) rfl #[.int .i64 pra, .int .i64 prb] (by rfl) rfl rfl (mp2 rfl rfl) (cmp_) ?_
 rintro en w47 ⟨rfl, cc46⟩
 refine ⟨_, rfl, ?_⟩
 replace C0 := qh (C0.out.trans' cc46 inw_nil)
 replace Fg3 := qh (cc46.blk Fg3.out nin_nil)
 replace Fg10 := qh (cc46.blk Fg10.out nin_nil)
 clear cc46
 refine hK45.out _ _ ⟨Fg3.out, Fg10.out, trivial⟩ (fun hS48 => ?_); clear hK45 K45
 try simp only [zP,zN,zA,zB,zC]
 refine one_ (i := 14) (N := some 25) (msk 23 524287) rfl rfl (by kernel_rfl) (by simp) (fun K49 hK49 => ?_)
 refine e_call Try.func41 (by kernel_rfl) rfl #[.int .i64 (over1 mb (of3 Mb Nb).1.2.1), .int .i64 (over1 ma (of3 Ma Na).1.2.1)] (by rfl) rfl rfl (mp2 rfl rfl) (cmp_) ?_
 rintro en w51 ⟨rfl, cc50⟩
 refine ⟨_, rfl, ?_⟩
 replace C0 := qh (C0.out.trans' cc50 inw_nil)
 replace Fg3 := qh (cc50.blk Fg3.out nin_nil)
 replace Fg10 := qh (cc50.blk Fg10.out nin_nil)
 clear cc50
 refine hK49.out _ _ ⟨Fg3.out, Fg10.out, trivial⟩ (fun hS52 => ?_); clear hK49 K49
 try simp only [zP,zN,zA,zB,zC]
 refine one_ (i := 19) (N := some 30) (msk 23 1048575) rfl rfl (by kernel_rfl) (by simp) (fun K53 hK53 => ?_)
 refine e_call Try.func41 (by kernel_rfl) rfl #[.int .i64 ub, .int .i64 ua] (by rfl) rfl rfl (mp2 rfl rfl) (cmp_) ?_
 rintro en w55 ⟨rfl, cc54⟩
 refine ⟨_, rfl, ?_⟩
 replace C0 := qh (C0.out.trans' cc54 inw_nil)
 replace Fg3 := qh (cc54.blk Fg3.out nin_nil)
 replace Fg10 := qh (cc54.blk Fg10.out nin_nil)
 clear cc54
 refine hK53.out _ _ ⟨Fg3.out, Fg10.out, trivial⟩ (fun hS56 => ?_); clear hK53 K53
 try simp only [zP,zN,zA,zB,zC]
 refine one_ (i := 20) (N := some 31) (msk 23 2097151) rfl rfl (by kernel_rfl) (by simp) (fun K57 hK57 => ?_)
 refine e_buildS (parts := #[(0, .int .i64 (cmpI (min (over1 mb (of3 Mb Nb).1.2.1) 1) (min (over1 ma (of3 Ma Na).1.2.1) 1))), (1, .int .i64 (cmpI pra prb)), (2, .int .i64 (cmpI (over1 mb (of3 Mb Nb).1.2.1) (over1 ma (of3 Ma Na).1.2.1))), (3, .int .i64 (cmpI ub ua))]) (cells := #[.int .i64 (cmpI (min (over1 mb (of3 Mb Nb).1.2.1) 1) (min (over1 ma (of3 Ma Na).1.2.1) 1)), .int .i64 (cmpI pra prb), .int .i64 (cmpI (over1 mb (of3 Mb Nb).1.2.1) (over1 ma (of3 Ma Na).1.2.1)), .int .i64 (cmpI ub ua)]) (by rfl) rfl rfl (by first | rfl | (simp only [List.map_toArray, List.map_cons, List.map_nil]; first | done | rfl)) Try.underlying51 I3_.hi I3_.hz I3_.hs (by decide) (by decide) (by kernel_rfl) ?_
 rintro g58 w59 HG60 B61 C62
 have nw63 := qh (show w.heap.size ≤ g58 by have := C0.out.size; have := HG60.out; omega)
 replace C0 := qh (C0.out.trans' C62 inw_nil)
 replace Fg3 := qh (C62.blk Fg3.out nin_nil)
 replace Fg10 := qh (C62.blk Fg10.out nin_nil)
 have Fg58 := qh (show Blk w59 g58 (#[.int .i64 (cmpI (min (over1 mb (of3 Mb Nb).1.2.1) 1) (min (over1 ma (of3 Ma Na).1.2.1) 1)), .int .i64 (cmpI pra prb), .int .i64 (cmpI (over1 mb (of3 Mb Nb).1.2.1) (over1 ma (of3 Ma Na).1.2.1)), .int .i64 (cmpI ub ua)]) 3 from B61); clear B61 C62
 refine hK57.out _ _ ⟨Fg3.out, Fg10.out, trivial⟩ (fun hS64 => ?_); clear hK57 K57
 try simp only [zP,zN,zA,zB,zC]
 refine one_ (i := 21) (N := some 32) (msk 23 4194303) rfl rfl (by kernel_rfl) (by simp) (fun K65 hK65 => ?_)
 refine e_call Try.func40 (by kernel_rfl) rfl #[.slice (some ⟨g58, 0, none⟩) 4 4] (by rfl) rfl rfl (mp1 rfl) ((or_ Fg58)) ?_
 rintro en w67 ⟨rfl, cc66⟩
 refine ⟨_, rfl, ?_⟩
 replace C0 := qh (C0.out.trans' cc66 inw_nil)
 replace Fg3 := qh (cc66.blk Fg3.out nin_nil)
 replace Fg10 := qh (cc66.blk Fg10.out nin_nil)
 replace Fg58 := qh (cc66.blk Fg58.out nin_nil)
 clear cc66
 refine hK65.out _ _ ⟨Fg3.out, Fg10.out, trivial⟩ (fun hS68 => ?_); clear hK65 K65
 try simp only [zP,zN,zA,zB,zC]
 refine pureh_ (i := 22) (N := some 4) (v := .int .i64 (orZ (cmpI (min (over1 mb (of3 Mb Nb).1.2.1) 1) (min (over1 ma (of3 Ma Na).1.2.1) 1)) (cmpI pra prb) (cmpI (over1 mb (of3 Mb Nb).1.2.1) (over1 ma (of3 Ma Na).1.2.1)) (cmpI ub ua))) (msk 23 8388607) rfl rfl (by kernel_rfl) hP (y_assign rfl (by rfl) (by rfl)) rfl ?_
 try simp only [zP,zN,zA,zB,zC]
 refine done_ (by kernel_rfl) (th_norm (hK29 _ _ ?_)); clear hK29 K29
 refine wp_ret ?_
 refine hQ _ _ _ ?_
 refine bodyPost_ret (res1 rfl (rdv_tmp (v := .int .i64 (orZ (cmpI (min (over1 mb (of3 Mb Nb).1.2.1) 1) (min (over1 ma (of3 Ma Na).1.2.1) 1)) (cmpI pra prb) (cmpI (over1 mb (of3 Mb Nb).1.2.1) (over1 ma (of3 Ma Na).1.2.1)) (cmpI ub ua))) (by rfl))) rfl ?_
 exact ⟨rfl, C0.out⟩
end
end Go.Proofs.Ytmoelehhofmhcaa.V
