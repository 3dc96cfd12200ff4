/- The walks of the sort that is stable, of up to 20 candidates. -/
import Derived.Test.YtmoelehhofmhcaaPrS
namespace Go.Proofs.Ytmoelehhofmhcaa.V
open Go Go.RowKit Go.Proofs.Ytmoelehhofmhcaa.K Go.Proofs.YtmoelehhofmhcaaW.PrintLast
set_option linter.unusedVariables false
set_option linter.unusedSimpArgs false
set_option maxRecDepth 100000
set_option maxHeartbeats 1600000
section
variable {w : World}
theorem insort_ {W : World} {gx cx n base : Nat} {X : List HC} {cz : HC → HC → Int} (HN : Hid (n ≤ 20)) (HCM : Hid (CmpOk W X cz)) (HB0 : Hid (W.heap.size ≤ w.heap.size)) (HBW : Hid (Below W.heap.size W w)) (HBS : Hid (∀ x, x ∈ rl (.slice (some ⟨gx, 0, none⟩) n cx) → W.heap.size ≤ x)) (OX : Hid (OwnS w base 41 11 (.slice (some ⟨gx, 0, none⟩) n cx) (n) ((X).flatMap candC))) :
  Calls Try.prog 53 #[.slice (some ⟨gx, 0, none⟩) n cx, .int .i64 0, .int .i64 n, .func (.func 34) #[] #[]] w fun en w' => en = .returned (.tuple #[]) ∧ OwnS w' base 41 11 (.slice (some ⟨gx, 0, none⟩) n cx) n ((isort (ltz cz) X).flatMap candC) ∧ Ch (rl (.slice (some ⟨gx, 0, none⟩) n cx)) w w' := by
 have C0 := qh (Ch.refl (rl (.slice (some ⟨gx, 0, none⟩) n cx)) w)
 have BC := qh (show n ≤ cx by obtain ⟨_, _, he, hc, _⟩ := OX.out.slice; injection he with _ _ e3; rw [e3]; exact hc)
 have HLN0 := qh (show (X).length = n by have h := OX.out.1; rw [flat_len candC_len] at h; omega)
 go_enter Try.func53, Try.ntmps53
 refine q_ (fun Q hQ hP => ?_)
 refine s_ (fun K1 hK1 => ?_)
 refine pu_ (v := .int .i64 0) (y_move rfl (by rfl) (by rfl)) ?_
 try simp only [zP,zN,zA,zB,zC]
 refine pu_ (v := .int .i64 1) (y_run (by rfl) (fun W => by first | (go_simp; done) | (go_simp; rfl) | (go_simp; decide))) ?_
 try simp only [zP,zN,zA,zB,zC]
 refine pu_ (v := .int .i64 1) (y_assign rfl (by rfl) (by rfl)) ?_
 try simp only [zP,zN,zA,zB,zC]
 refine nl_ (hK1 _ _ ?_); clear hK1 K1
 refine wp_block ?_
 refine loopk_ (fun (kq : Nat) (a' : Act) (w' : World) => ∃ (k : Nat), a' = ⟨#[.slice (some ⟨gx, 0, none⟩) n cx, .int .i64 0, .int .i64 n, .func (.func 34) #[] #[], uo a' 4, uo a' 5, uo a' 6, uo a' 7, .int .i64 k, uo a' 9, uo a' 10, uo a' 11, uo a' 12, uo a' 13, uo a' 14, uo a' 15, uo a' 16, uo a' 17, uo a' 18, uo a' 19, uo a' 20, uo a' 21, uo a' 22, uo a' 23, uo a' 24, uo a' 25, uo a' 26, uo a' 27, uo a' 28, uo a' 29, uo a' 30, uo a' 31, uo a' 32, uo a' 33, uo a' 34, uo a' 35, uo a' 36, uo a' 37, uo a' 38, uo a' 39, uo a' 40, uo a' 41, uo a' 42, uo a' 43, uo a' 44, uo a' 45, uo a' 46, uo a' 47, uo a' 48, uo a' 49, uo a' 50, uo a' 51, uo a' 52], []⟩ ∧ Hid (Ch (rl (.slice (some ⟨gx, 0, none⟩) n cx)) w w') ∧ Hid (OwnS w' base 41 11 (.slice (some ⟨gx, 0, none⟩) n cx) (n) ((isort (ltz cz) (X.take k) ++ X.drop k).flatMap candC)) ∧ Hid (1 ≤ k ∧ (k ≤ n ∨ k = 1) ∧ kq + k = n + 1)) (n) (⟨1, rfl, C0, qh (by have h := OX.out; rw [isort_one, List.take_append_drop]; exact h), qh ⟨by omega, by omega, by omega⟩⟩) ?_
 rintro kq a_ w2 ⟨k, ha_, C0, OX, hk⟩ K3 hK3
 obtain ⟨us, hus_⟩ : ∃ us, us = uo a_ := ⟨_, rfl⟩; try rw [← hus_] at ha_
 subst ha_; clear hus_
 refine sq_ (fun K4 hK4 => ?_)
 rcases Nat.lt_or_ge k n with h | h
 ·have hlt := qh h
  clear h
  obtain ⟨e, he0, hd0, ht0⟩ := apart (A := X) (k := k) (by have := HLN0.out; have := hlt.out; omega)
  have he := qh he0; have hd := qh hd0; clear he0 hd0 ht0
  obtain ⟨B, hB⟩ : ∃ B, B = isort (ltz cz) (X.take k) := ⟨_, rfl⟩
  have EB := qh hB; clear hB
  have D14 := qh (show k < n from hlt.out)
  have WA := qh (show IntKind.i64.wrap ((k : Int) + 1) = ((k + 1 : Nat) : Int) by rw [wr64 (by have := HN.out; have := hlt.out; omega)]; omega)
  have HBE := qh (show ∀ y ∈ B, y ∈ X.take k from fun y hy => isort_mem (by rw [← EB.out]; exact hy))
  have HBL := qh (show B.length = k by rw [EB.out, isort_len, List.length_take]; have := HLN0.out; have := hlt.out; omega)
  refine s_ (fun K5 hK5 => ?_)
  refine pu_ (v := .int .i64 k) (y_move rfl (by rfl) (by rfl)) ?_
  try simp only [zP,zN,zA,zB,zC]
  refine pu_ (v := .int .i64 n) (y_move rfl (by rfl) (by rfl)) ?_
  try simp only [zP,zN,zA,zB,zC]
  refine pu_ (v := .bool true) (y_run (by rfl) (fun W => by have d := D14.out; go_simp)) ?_
  try simp only [zP,zN,zA,zB,zC]
  refine nl_ (hK5 _ _ ?_); clear hK5 K5
  refine wp_cond_true rfl ?_
  refine wp_skip ?_
  refine th_norm (hK4 _ _ ?_); try clear hK4 K4
  refine sq_ (fun K6 hK6 => ?_)
  refine wp_block ?_
  refine s_ (fun K7 hK7 => ?_)
  refine pu_ (v := .int .i64 k) (y_move rfl (by rfl) (by rfl)) ?_
  try simp only [zP,zN,zA,zB,zC]
  refine pu_ (v := .int .i64 k) (y_assign rfl (by rfl) (by rfl)) ?_
  try simp only [zP,zN,zA,zB,zC]
  refine nl_ (hK7 _ _ ?_); clear hK7 K7
  refine wp_block ?_
  refine loopk_ (fun (jq : Nat) (a' : Act) (w' : World) => ∃ (j : Nat), ∃ (C : List HC), ∃ (D : List HC), a' = ⟨#[.slice (some ⟨gx, 0, none⟩) n cx, .int .i64 0, .int .i64 n, .func (.func 34) #[] #[], uo a' 4, uo a' 5, uo a' 6, uo a' 7, .int .i64 k, .int .i64 j, uo a' 10, uo a' 11, uo a' 12, uo a' 13, uo a' 14, uo a' 15, uo a' 16, uo a' 17, uo a' 18, uo a' 19, uo a' 20, uo a' 21, uo a' 22, uo a' 23, uo a' 24, uo a' 25, uo a' 26, uo a' 27, uo a' 28, uo a' 29, uo a' 30, uo a' 31, uo a' 32, uo a' 33, uo a' 34, uo a' 35, uo a' 36, uo a' 37, uo a' 38, uo a' 39, uo a' 40, uo a' 41, uo a' 42, uo a' 43, uo a' 44, uo a' 45, uo a' 46, uo a' 47, uo a' 48, uo a' 49, uo a' 50, uo a' 51, uo a' 52], []⟩ ∧ Hid (Ch (rl (.slice (some ⟨gx, 0, none⟩) n cx)) w w') ∧ Hid (OwnS w' base 41 11 (.slice (some ⟨gx, 0, none⟩) n cx) (n) ((C ++ e :: (D ++ X.drop (k + 1))).flatMap candC)) ∧ Hid (B = C ++ D) ∧ Hid (rins (ltz cz) e B.reverse = D.reverse ++ rins (ltz cz) e C.reverse) ∧ Hid (j = C.length ∧ jq = C.length)) (B.length) (⟨k, B, [], rfl, C0, qh (by have h := OX.out; rw [← EB.out, hd.out] at h; exact h), qh (List.append_nil B).symm, qh rfl, qh ⟨by have := HBL.out; omega, rfl⟩⟩) ?_
  rintro jq a_ w8 ⟨j, C, D, ha_, C0, OX, HCD, HRI, hj⟩ K9 hK9
  obtain ⟨us, hus_⟩ : ∃ us, us = uo a_ := ⟨_, rfl⟩; try rw [← hus_] at ha_
  subst ha_; clear hus_
  refine sq_ (fun K10 hK10 => ?_)
  rcases ins_ways (ltz cz) C e with h | ⟨C1, y, hC0, h⟩ | ⟨C1, y, hC0, h⟩
  ·have EC := qh h
   have HFIN := qh (show (rins (ltz cz) e (isort (ltz cz) (X.take k)).reverse).reverse = e :: D from by rw [← EB.out]; exact rins_nil (by have h9 := HRI.out; rw [h] at h9; exact h9))
   have D20 := qh (show j ≤ 0 by have := hj.out; rw [h] at this; simp at this; omega)
   clear h
   refine sq_ (fun K11 hK11 => ?_)
   refine startk_ (S := fun W => True) (ds := []) (msk 17 0) (by kernel_rfl) rfl (by kernel_rfl) (fun W c => trivial) (fun w12 C13 hS14 => ?_)
   replace C0 := qh (C0.out.trans' C13 inw_nil)
   replace OX := qh (OX.out.ch C13 rnin_nil)
   clear C13
   refine pureh_ (i := 0) (N := some 18) (v := .int .i64 j) (msk 17 1) rfl rfl (by kernel_rfl) hP (y_move rfl (by rfl) (by rfl)) rfl ?_
   try simp only [zP,zN,zA,zB,zC]
   refine pureh_ (i := 1) (N := some 19) (v := .int .i64 0) (msk 17 3) rfl rfl (by kernel_rfl) hP (y_move rfl (by rfl) (by rfl)) rfl ?_
   try simp only [zP,zN,zA,zB,zC]
   refine pureh_ (i := 2) (N := some 20) (v := .bool false) (msk 17 7) rfl rfl (by kernel_rfl) hP (y_run (by rfl) (fun W => by have d := D20.out; go_simp)) rfl ?_
   try simp only [zP,zN,zA,zB,zC]
   refine pureh_ (i := 3) (N := some 21) (v := .bool false) (msk 17 15) rfl rfl (by kernel_rfl) hP (y_move rfl (by rfl) (by rfl)) rfl ?_
   try simp only [zP,zN,zA,zB,zC]
   refine pureh_ (i := 4) (N := some 22) (v := undef) (msk 17 31) rfl rfl (by kernel_rfl) hP (y_off (by rfl)) rfl ?_
   try simp only [zP,zN,zA,zB,zC]
   refine pureh_ (i := 5) (N := some 23) (v := undef) (msk 17 63) rfl rfl (by kernel_rfl) hP (y_off (by rfl)) rfl ?_
   try simp only [zP,zN,zA,zB,zC]
   refine pureh_ (i := 6) (N := some 24) (v := undef) (msk 17 127) rfl rfl (by kernel_rfl) hP (y_off (by rfl)) rfl ?_
   try simp only [zP,zN,zA,zB,zC]
   refine pureh_ (i := 7) (N := some 25) (v := undef) (msk 17 255) rfl rfl (by kernel_rfl) hP (y_off (by rfl)) rfl ?_
   try simp only [zP,zN,zA,zB,zC]
   refine pureh_ (i := 8) (N := some 26) (v := undef) (msk 17 511) rfl rfl (by kernel_rfl) hP (y_off (by rfl)) rfl ?_
   try simp only [zP,zN,zA,zB,zC]
   refine pureh_ (i := 9) (N := some 27) (v := undef) (msk 17 1023) rfl rfl (by kernel_rfl) hP (y_off (by rfl)) rfl ?_
   try simp only [zP,zN,zA,zB,zC]
   refine pureh_ (i := 10) (N := some 28) (v := undef) (msk 17 2047) rfl rfl (by kernel_rfl) hP (y_off (by rfl)) rfl ?_
   try simp only [zP,zN,zA,zB,zC]
   refine pureh_ (i := 11) (N := some 29) (v := undef) (msk 17 4095) rfl rfl (by kernel_rfl) hP (y_off (by rfl)) rfl ?_
   try simp only [zP,zN,zA,zB,zC]
   refine pureh_ (i := 12) (N := some 30) (v := undef) (msk 17 8191) rfl rfl (by kernel_rfl) hP (y_off (by rfl)) rfl ?_
   try simp only [zP,zN,zA,zB,zC]
   refine pureh_ (i := 13) (N := some 31) (v := undef) (msk 17 16383) rfl rfl (by kernel_rfl) hP (y_off (by rfl)) rfl ?_
   try simp only [zP,zN,zA,zB,zC]
   refine pureh_ (i := 14) (N := some 32) (v := undef) (msk 17 32767) rfl rfl (by kernel_rfl) hP (y_off (by rfl)) rfl ?_
   try simp only [zP,zN,zA,zB,zC]
   refine pureh_ (i := 15) (N := some 33) (v := undef) (msk 17 65535) rfl rfl (by kernel_rfl) hP (y_off (by rfl)) rfl ?_
   try simp only [zP,zN,zA,zB,zC]
   refine pureh_ (i := 16) (N := some 34) (v := .bool false) (msk 17 131071) rfl rfl (by kernel_rfl) hP (y_pick (t := false) (by rfl) rfl (by rfl) (by rfl)) rfl ?_
   try simp only [zP,zN,zA,zB,zC]
   refine done_ (by kernel_rfl) (th_norm (hK11 _ _ ?_)); clear hK11 K11
   refine wp_cond_false rfl ?_
   refine wp_exit ?_
   refine th_exit ?_
   refine th_exit ?_
   refine ib_exit ?_
   refine ib_norm ?_
   refine th_norm (hK6 _ _ ?_); try clear hK6 K6
   refine r_ ?_
   refine pu_ (v := .int .i64 k) (y_move rfl (by rfl) (by rfl)) ?_
   try simp only [zP,zN,zA,zB,zC]
   refine pu_ (v := .int .i64 (k + 1 : Nat)) (y_run (by rfl) (fun W => by have d := WA.out; go_simp)) ?_
   try simp only [zP,zN,zA,zB,zC]
   refine pu_ (v := .int .i64 (k + 1 : Nat)) (y_assign rfl (by rfl) (by rfl)) ?_
   try simp only [zP,zN,zA,zB,zC]
   refine nl_ ?_
   exact th_norm (hK3 (kq - 1) _ _ (by have := hlt.out; have := hk.out; omega) ⟨k + 1, rfl, C0, qh (by have h := OX.out; rw [isort_snoc _ he.out, HFIN.out]; rw [EC.out, List.nil_append] at h; rw [List.cons_append]; exact h), qh ⟨by have := hk.out; omega, by have := hlt.out; omega, by have := hlt.out; have := hk.out; omega⟩⟩)
  ·have EC := qh hC0
   have ECL := qh (show C.length = C1.length + 1 by rw [hC0]; simp)
   have HYB := qh (show y ∈ X.take k from HBE.out y (by rw [HCD.out, hC0]; simp))
   have HLT := qh h
   clear h hC0
   have D20 := qh (show 0 < j by have := hj.out; have := ECL.out; omega)
   have OX' := qh (show OwnS w8 base 41 11 (.slice (some ⟨gx, 0, none⟩) n cx) (n) ((C1 ++ y :: ([] ++ e :: (D ++ X.drop (k + 1)))).flatMap candC) from by have h := OX.out; rw [EC.out, show (C1 ++ [y]) ++ e :: (D ++ X.drop (k + 1)) = C1 ++ y :: ([] ++ e :: (D ++ X.drop (k + 1))) by simp] at h; exact h); clear OX; have OX := OX'; clear OX'
   have HLN1 := qh (show (C1 ++ y :: ([] ++ e :: (D ++ X.drop (k + 1)))).length = n by have h := OX.out.1; rw [flat_len candC_len] at h; omega)
   obtain ⟨i, hi⟩ : ∃ x, x = j - 1 := ⟨_, rfl⟩
   have Ei := qh hi; clear hi
   have Wi := qh (show IntKind.i64.wrap ((j : Int) - 1) = (i : Int) by rw [wr64 (by have := Ei.out; have := hj.out; have := ECL.out; have := HN.out; have h8 := HLN1.out; simp only [List.length_append, List.length_cons, List.length_nil] at h8; omega)]; have := Ei.out; have := hj.out; have := ECL.out; have := HN.out; have h8 := HLN1.out; simp only [List.length_append, List.length_cons, List.length_nil] at h8; omega)
   have Bi := qh (show (i : Int) < (n : Int) by have := Ei.out; have := hj.out; have := ECL.out; have := HN.out; have h8 := HLN1.out; simp only [List.length_append, List.length_cons, List.length_nil] at h8; omega)
   have Bj := qh (show (j : Int) < (n : Int) by have := hj.out; have := ECL.out; have := HN.out; have h8 := HLN1.out; simp only [List.length_append, List.length_cons, List.length_nil] at h8; omega)
   have PE := qh (show i = C1.length by have := Ei.out; have := hj.out; have := ECL.out; have := HN.out; have h8 := HLN1.out; simp only [List.length_append, List.length_cons, List.length_nil] at h8; omega)
   have QE := qh (show j = C1.length + 1 + ([] : List HC).length by rw [List.length_nil]; have := hj.out; have := ECL.out; have := HN.out; have h8 := HLN1.out; simp only [List.length_append, List.length_cons, List.length_nil] at h8; omega)
   have D33 := qh (show decide (cz e y < 0) = true from HLT.out)
   refine sq_ (fun K15 hK15 => ?_)
   refine startk_ (S := fun W => OwnS W base 41 11 (.slice (some ⟨gx, 0, none⟩) n cx) (n) ((C1 ++ y :: ([] ++ e :: (D ++ X.drop (k + 1)))).flatMap candC) ∧ True) (ds := []) (msk 17 0) (by kernel_rfl) rfl (by kernel_rfl) (fun W c => ⟨OX.out.ch c rnin_nil, trivial⟩) (fun w16 C17 hS18 => ?_)
   replace C0 := qh (C0.out.trans' C17 inw_nil)
   replace OX := qh (OX.out.ch C17 rnin_nil)
   clear C17
   refine pureh_ (i := 0) (N := some 18) (v := .int .i64 j) (msk 17 1) rfl rfl (by kernel_rfl) hP (y_move rfl (by rfl) (by rfl)) rfl ?_
   try simp only [zP,zN,zA,zB,zC]
   refine pureh_ (i := 1) (N := some 19) (v := .int .i64 0) (msk 17 3) rfl rfl (by kernel_rfl) hP (y_move rfl (by rfl) (by rfl)) rfl ?_
   try simp only [zP,zN,zA,zB,zC]
   refine pureh_ (i := 2) (N := some 20) (v := .bool true) (msk 17 7) rfl rfl (by kernel_rfl) hP (y_run (by rfl) (fun W => by have d := D20.out; go_simp)) rfl ?_
   try simp only [zP,zN,zA,zB,zC]
   refine pureh_ (i := 3) (N := some 21) (v := .bool true) (msk 17 15) rfl rfl (by kernel_rfl) hP (y_move rfl (by rfl) (by rfl)) rfl ?_
   try simp only [zP,zN,zA,zB,zC]
   refine pureh_ (i := 4) (N := some 22) (v := .func (.func 34) #[] #[]) (msk 17 31) rfl rfl (by kernel_rfl) hP (y_move rfl (by rfl) (by rfl)) rfl ?_
   try simp only [zP,zN,zA,zB,zC]
   refine pureh_ (i := 5) (N := some 23) (v := .slice (some ⟨gx, 0, none⟩) n cx) (msk 17 63) rfl rfl (by kernel_rfl) hP (y_move rfl (by rfl) (by rfl)) rfl ?_
   try simp only [zP,zN,zA,zB,zC]
   refine pureh_ (i := 6) (N := some 24) (v := .int .i64 j) (msk 17 127) rfl rfl (by kernel_rfl) hP (y_move rfl (by rfl) (by rfl)) rfl ?_
   try simp only [zP,zN,zA,zB,zC]
   refine pureh_ (i := 7) (N := some 25) (v := .pointer (some ⟨gx, j * 11, none⟩)) (msk 17 255) rfl rfl (by kernel_rfl) hP (y_run (by rfl) (fun W => by have d := Bj.out; go_simp)) rfl ?_
   try simp only [zP,zN,zA,zB,zC]
   refine takeh_ (i := 8) (N := some 26) (v := .agg (candC e).toArray) (msk 17 511) rfl rfl (by kernel_rfl) hP (y_load (p := ⟨gx, j * 11, none⟩) rfl (by rfl) (by rfl) (fun W hS => run_loadVar_at (own_at candC_len hS.1 (by rw [QE.out]; exact get_2 _ _ _ _ _)) Try.underlying41 rfl (by rw [candC_len]; kernel_rfl))) hS18 rfl ?_
   try simp only [zP,zN,zA,zB,zC]
   refine pureh_ (i := 9) (N := some 27) (v := .slice (some ⟨gx, 0, none⟩) n cx) (msk 17 1023) rfl rfl (by kernel_rfl) hP (y_move rfl (by rfl) (by rfl)) rfl ?_
   try simp only [zP,zN,zA,zB,zC]
   refine pureh_ (i := 10) (N := some 28) (v := .int .i64 j) (msk 17 2047) rfl rfl (by kernel_rfl) hP (y_move rfl (by rfl) (by rfl)) rfl ?_
   try simp only [zP,zN,zA,zB,zC]
   refine pureh_ (i := 11) (N := some 29) (v := .int .i64 i) (msk 17 4095) rfl rfl (by kernel_rfl) hP (y_run (by rfl) (fun W => by have d := Wi.out; go_simp)) rfl ?_
   try simp only [zP,zN,zA,zB,zC]
   refine pureh_ (i := 12) (N := some 30) (v := .pointer (some ⟨gx, i * 11, none⟩)) (msk 17 8191) rfl rfl (by kernel_rfl) hP (y_run (by rfl) (fun W => by have d := Bi.out; go_simp)) rfl ?_
   try simp only [zP,zN,zA,zB,zC]
   refine takeh_ (i := 13) (N := some 31) (v := .agg (candC y).toArray) (msk 17 16383) rfl rfl (by kernel_rfl) hP (y_load (p := ⟨gx, i * 11, none⟩) rfl (by rfl) (by rfl) (fun W hS => run_loadVar_at (own_at candC_len hS.1 (by rw [PE.out]; exact get_1 _ _ _)) Try.underlying41 rfl (by rw [candC_len]; kernel_rfl))) hS18 rfl ?_
   try simp only [zP,zN,zA,zB,zC]
   refine one_ (i := 14) (N := some 32) (msk 17 32767) rfl rfl (by kernel_rfl) (by simp) (fun K19 hK19 => ?_)
   refine e_callf Try.func34 (by kernel_rfl) rfl #[.agg (candC e).toArray, .agg (candC y).toArray] (by rfl) rfl rfl (by rfl) (by first | rfl | simp [Act.eval]) (HCM.out k e y he.out HYB.out _ (HBW.out.trans (C0.out.below HB0.out HBS.out))) ?_
   rintro en w20 ⟨rfl, cc⟩
   refine ⟨_, rfl, ?_⟩
   replace C0 := qh (C0.out.trans' cc inw_nil)
   replace OX := qh (OX.out.ch cc rnin_nil)
   clear cc
   refine hK19.out _ _ ⟨OX.out, trivial⟩ (fun hS21 => ?_); clear hK19 K19
   try simp only [zP,zN,zA,zB,zC]
   refine pureh_ (i := 15) (N := some 33) (v := .bool true) (msk 17 65535) rfl rfl (by kernel_rfl) hP (y_run (by rfl) (fun W => by have d := D33.out; go_simp)) rfl ?_
   try simp only [zP,zN,zA,zB,zC]
   refine pureh_ (i := 16) (N := some 34) (v := .bool true) (msk 17 131071) rfl rfl (by kernel_rfl) hP (y_pick (t := true) (by rfl) rfl (by rfl) (by rfl)) rfl ?_
   try simp only [zP,zN,zA,zB,zC]
   refine done_ (by kernel_rfl) (th_norm (hK15 _ _ ?_)); clear hK15 K15
   refine wp_cond_true rfl ?_
   refine wp_skip ?_
   refine th_norm (hK10 _ _ ?_); try clear hK10 K10
   refine sq_ (fun K22 hK22 => ?_)
   refine wp_block ?_
   refine startk_ (S := fun W => OwnS W base 41 11 (.slice (some ⟨gx, 0, none⟩) n cx) (n) ((C1 ++ y :: ([] ++ e :: (D ++ X.drop (k + 1)))).flatMap candC) ∧ True) (ds := [15, 17]) (msk 18 0) (by kernel_rfl) rfl (by kernel_rfl) (fun W c => ⟨OX.out.ch c rnin_nil, trivial⟩) (fun w23 C24 hS25 => ?_)
   replace C0 := qh (C0.out.trans' C24 inw_nil)
   replace OX := qh (OX.out.ch C24 rnin_nil)
   clear C24
   refine pureh_ (i := 0) (N := some 37) (v := .slice (some ⟨gx, 0, none⟩) n cx) (msk 18 1) rfl rfl (by kernel_rfl) hP (y_move rfl (by rfl) (by rfl)) rfl ?_
   try simp only [zP,zN,zA,zB,zC]
   refine pureh_ (i := 1) (N := some 38) (v := .int .i64 j) (msk 18 3) rfl rfl (by kernel_rfl) hP (y_move rfl (by rfl) (by rfl)) rfl ?_
   try simp only [zP,zN,zA,zB,zC]
   refine pureh_ (i := 2) (N := some 39) (v := .slice (some ⟨gx, 0, none⟩) n cx) (msk 18 7) rfl rfl (by kernel_rfl) hP (y_move rfl (by rfl) (by rfl)) rfl ?_
   try simp only [zP,zN,zA,zB,zC]
   refine pureh_ (i := 3) (N := some 40) (v := .int .i64 j) (msk 18 15) rfl rfl (by kernel_rfl) hP (y_move rfl (by rfl) (by rfl)) rfl ?_
   try simp only [zP,zN,zA,zB,zC]
   refine pureh_ (i := 4) (N := some 41) (v := .int .i64 i) (msk 18 31) rfl rfl (by kernel_rfl) hP (y_run (by rfl) (fun W => by have d := Wi.out; go_simp)) rfl ?_
   try simp only [zP,zN,zA,zB,zC]
   refine pureh_ (i := 5) (N := some 42) (v := .slice (some ⟨gx, 0, none⟩) n cx) (msk 18 63) rfl rfl (by kernel_rfl) hP (y_move rfl (by rfl) (by rfl)) rfl ?_
   try simp only [zP,zN,zA,zB,zC]
   refine pureh_ (i := 6) (N := some 43) (v := .int .i64 j) (msk 18 127) rfl rfl (by kernel_rfl) hP (y_move rfl (by rfl) (by rfl)) rfl ?_
   try simp only [zP,zN,zA,zB,zC]
   refine pureh_ (i := 7) (N := some 44) (v := .int .i64 i) (msk 18 255) rfl rfl (by kernel_rfl) hP (y_run (by rfl) (fun W => by have d := Wi.out; go_simp)) rfl ?_
   try simp only [zP,zN,zA,zB,zC]
   refine pureh_ (i := 8) (N := some 45) (v := .pointer (some ⟨gx, i * 11, none⟩)) (msk 18 511) rfl rfl (by kernel_rfl) hP (y_run (by rfl) (fun W => by have d := Bi.out; go_simp)) rfl ?_
   try simp only [zP,zN,zA,zB,zC]
   refine takeh_ (i := 9) (N := some 46) (v := .agg (candC y).toArray) (msk 18 1023) rfl rfl (by kernel_rfl) hP (y_load (p := ⟨gx, i * 11, none⟩) rfl (by rfl) (by rfl) (fun W hS => run_loadVar_at (own_at candC_len hS.1 (by rw [PE.out]; exact get_1 _ _ _)) Try.underlying41 rfl (by rw [candC_len]; kernel_rfl))) hS25 rfl ?_
   try simp only [zP,zN,zA,zB,zC]
   refine pureh_ (i := 10) (N := some 47) (v := .slice (some ⟨gx, 0, none⟩) n cx) (msk 18 2047) rfl rfl (by kernel_rfl) hP (y_move rfl (by rfl) (by rfl)) rfl ?_
   try simp only [zP,zN,zA,zB,zC]
   refine pureh_ (i := 11) (N := some 48) (v := .int .i64 j) (msk 18 4095) rfl rfl (by kernel_rfl) hP (y_move rfl (by rfl) (by rfl)) rfl ?_
   try simp only [zP,zN,zA,zB,zC]
   refine pureh_ (i := 12) (N := some 49) (v := .pointer (some ⟨gx, j * 11, none⟩)) (msk 18 8191) rfl rfl (by kernel_rfl) hP (y_run (by rfl) (fun W => by have d := Bj.out; go_simp)) rfl ?_
   try simp only [zP,zN,zA,zB,zC]
   refine takeh_ (i := 13) (N := some 50) (v := .agg (candC e).toArray) (msk 18 16383) rfl rfl (by kernel_rfl) hP (y_load (p := ⟨gx, j * 11, none⟩) rfl (by rfl) (by rfl) (fun W hS => run_loadVar_at (own_at candC_len hS.1 (by rw [QE.out]; exact get_2 _ _ _ _ _)) Try.underlying41 rfl (by rw [candC_len]; kernel_rfl))) hS25 rfl ?_
   try simp only [zP,zN,zA,zB,zC]
   refine pureh_ (i := 14) (N := some 51) (v := .pointer (some ⟨gx, j * 11, none⟩)) (msk 18 32767) rfl rfl (by kernel_rfl) hP (y_run (by rfl) (fun W => by have d := Bj.out; go_simp)) rfl ?_
   try simp only [zP,zN,zA,zB,zC]
   refine last_ (i := 15) (N := none) (msk 18 65535) rfl rfl (by kernel_rfl) (by simp) (fun K26 hK26 => ?_)
   refine e_storeS (by rfl) rfl rfl OX.out (j * 11) (candC y).toArray (by rfl) (by rfl) (sz41 y) (by rw [List.size_toArray, candC_len]; have := Bj.out; omega) (by simpa using candC_one y) (by have := BC.out; have := Bj.out; omega) ?_
   rintro w27 O28 C29
   have RC29 := qh (show Ch (rl (.slice (some ⟨gx, 0, none⟩) n cx)) w23 w27 from by rw [rl_some gx n cx (by have := BC.out; have := Bj.out; omega)]; exact C29)
   replace C0 := qh (C0.out.trans' RC29.out (fun x hx => .inl hx))
   clear OX
   have OX := qh (show OwnS w27 base 41 11 (.slice (some ⟨gx, 0, none⟩) n cx) (n) ((C1 ++ y :: ([] ++ y :: (D ++ X.drop (k + 1)))).flatMap candC) from by have h := O28; rw [QE.out, List.size_toArray, candC_len, show (candC y).toArray.toList = candC y by simp, fset2 candC_len] at h; exact h); clear O28 C29 RC29
   refine hK26.out _ _ ?_; clear hK26 K26
   try simp only [zP,zN,zA,zB,zC]
   refine pureh_ (i := 16) (N := some 52) (v := .pointer (some ⟨gx, i * 11, none⟩)) (msk 18 131071) rfl rfl (by kernel_rfl) hP (y_run (by rfl) (fun W => by have d := Bi.out; go_simp)) rfl ?_
   try simp only [zP,zN,zA,zB,zC]
   refine last_ (i := 17) (N := none) (msk 18 262143) rfl rfl (by kernel_rfl) (by simp) (fun K30 hK30 => ?_)
   refine e_storeS (by rfl) rfl rfl OX.out (i * 11) (candC e).toArray (by rfl) (by rfl) (sz41 e) (by rw [List.size_toArray, candC_len]; have := Bi.out; omega) (by simpa using candC_one e) (by have := BC.out; have := Bi.out; omega) ?_
   rintro w31 O32 C33
   have RC33 := qh (show Ch (rl (.slice (some ⟨gx, 0, none⟩) n cx)) w27 w31 from by rw [rl_some gx n cx (by have := BC.out; have := Bi.out; omega)]; exact C33)
   replace C0 := qh (C0.out.trans' RC33.out (fun x hx => .inl hx))
   clear OX
   have OX := qh (show OwnS w31 base 41 11 (.slice (some ⟨gx, 0, none⟩) n cx) (n) ((C1 ++ e :: ([] ++ y :: (D ++ X.drop (k + 1)))).flatMap candC) from by have h := O32; rw [PE.out, List.size_toArray, candC_len, show (candC e).toArray.toList = candC e by simp, fset candC_len] at h; exact h); clear O32 C33 RC33
   refine hK30.out _ _ ?_; clear hK30 K30
   try simp only [zP,zN,zA,zB,zC]
   refine done_ (by kernel_rfl) ?_
   refine ib_norm ?_
   refine th_norm (hK22 _ _ ?_); try clear hK22 K22
   refine r_ ?_
   refine pu_ (v := .int .i64 j) (y_move rfl (by rfl) (by rfl)) ?_
   try simp only [zP,zN,zA,zB,zC]
   refine pu_ (v := .int .i64 i) (y_run (by rfl) (fun W => by have d := Wi.out; go_simp)) ?_
   try simp only [zP,zN,zA,zB,zC]
   refine pu_ (v := .int .i64 i) (y_assign rfl (by rfl) (by rfl)) ?_
   try simp only [zP,zN,zA,zB,zC]
   refine nl_ ?_
   exact th_norm (hK9 (jq - 1) _ _ (by have := hj.out; have := ECL.out; omega) ⟨i, C1, y :: D, rfl, C0, qh (by have h := OX.out; rw [show C1 ++ e :: ([] ++ y :: (D ++ X.drop (k + 1))) = C1 ++ e :: ((y :: D) ++ X.drop (k + 1)) by simp] at h; exact h), qh (by rw [HCD.out, EC.out]; simp), qh (rins_step (by have h := HRI.out; rw [EC.out] at h; exact h) HLT.out), qh (by have := hj.out; have := ECL.out; have := Ei.out; omega)⟩)
  ·have EC := qh hC0
   have ECL := qh (show C.length = C1.length + 1 by rw [hC0]; simp)
   have HYB := qh (show y ∈ X.take k from HBE.out y (by rw [HCD.out, hC0]; simp))
   have HLT := qh h
   clear h hC0
   have D20 := qh (show 0 < j by have := hj.out; have := ECL.out; omega)
   have OX' := qh (show OwnS w8 base 41 11 (.slice (some ⟨gx, 0, none⟩) n cx) (n) ((C1 ++ y :: ([] ++ e :: (D ++ X.drop (k + 1)))).flatMap candC) from by have h := OX.out; rw [EC.out, show (C1 ++ [y]) ++ e :: (D ++ X.drop (k + 1)) = C1 ++ y :: ([] ++ e :: (D ++ X.drop (k + 1))) by simp] at h; exact h); clear OX; have OX := OX'; clear OX'
   have HLN1 := qh (show (C1 ++ y :: ([] ++ e :: (D ++ X.drop (k + 1)))).length = n by have h := OX.out.1; rw [flat_len candC_len] at h; omega)
   obtain ⟨i, hi⟩ : ∃ x, x = j - 1 := ⟨_, rfl⟩
   have Ei := qh hi; clear hi
   have Wi := qh (show IntKind.i64.wrap ((j : Int) - 1) = (i : Int) by rw [wr64 (by have := Ei.out; have := hj.out; have := ECL.out; have := HN.out; have h8 := HLN1.out; simp only [List.length_append, List.length_cons, List.length_nil] at h8; omega)]; have := Ei.out; have := hj.out; have := ECL.out; have := HN.out; have h8 := HLN1.out; simp only [List.length_append, List.length_cons, List.length_nil] at h8; omega)
   have Bi := qh (show (i : Int) < (n : Int) by have := Ei.out; have := hj.out; have := ECL.out; have := HN.out; have h8 := HLN1.out; simp only [List.length_append, List.length_cons, List.length_nil] at h8; omega)
   have Bj := qh (show (j : Int) < (n : Int) by have := hj.out; have := ECL.out; have := HN.out; have h8 := HLN1.out; simp only [List.length_append, List.length_cons, List.length_nil] at h8; omega)
   have PE := qh (show i = C1.length by have := Ei.out; have := hj.out; have := ECL.out; have := HN.out; have h8 := HLN1.out; simp only [List.length_append, List.length_cons, List.length_nil] at h8; omega)
   have QE := qh (show j = C1.length + 1 + ([] : List HC).length by rw [List.length_nil]; have := hj.out; have := ECL.out; have := HN.out; have h8 := HLN1.out; simp only [List.length_append, List.length_cons, List.length_nil] at h8; omega)
   have D33 := qh (show decide (cz e y < 0) = false from HLT.out)
   have HFIN := qh (show (rins (ltz cz) e (isort (ltz cz) (X.take k)).reverse).reverse = (C1 ++ [y]) ++ e :: D from by rw [← EB.out]; exact rins_stop (by have h9 := HRI.out; rw [EC.out] at h9; exact h9) HLT.out)
   refine sq_ (fun K34 hK34 => ?_)
   refine startk_ (S := fun W => OwnS W base 41 11 (.slice (some ⟨gx, 0, none⟩) n cx) (n) ((C1 ++ y :: ([] ++ e :: (D ++ X.drop (k + 1)))).flatMap candC) ∧ True) (ds := []) (msk 17 0) (by kernel_rfl) rfl (by kernel_rfl) (fun W c => ⟨OX.out.ch c rnin_nil, trivial⟩) (fun w35 C36 hS37 => ?_)
   replace C0 := qh (C0.out.trans' C36 inw_nil)
   replace OX := qh (OX.out.ch C36 rnin_nil)
   clear C36
   refine pureh_ (i := 0) (N := some 18) (v := .int .i64 j) (msk 17 1) rfl rfl (by kernel_rfl) hP (y_move rfl (by rfl) (by rfl)) rfl ?_
   try simp only [zP,zN,zA,zB,zC]
   refine pureh_ (i := 1) (N := some 19) (v := .int .i64 0) (msk 17 3) rfl rfl (by kernel_rfl) hP (y_move rfl (by rfl) (by rfl)) rfl ?_
   try simp only [zP,zN,zA,zB,zC]
   refine pureh_ (i := 2) (N := some 20) (v := .bool true) (msk 17 7) rfl rfl (by kernel_rfl) hP (y_run (by rfl) (fun W => by have d := D20.out; go_simp)) rfl ?_
   try simp only [zP,zN,zA,zB,zC]
   refine pureh_ (i := 3) (N := some 21) (v := .bool true) (msk 17 15) rfl rfl (by kernel_rfl) hP (y_move rfl (by rfl) (by rfl)) rfl ?_
   try simp only [zP,zN,zA,zB,zC]
   refine pureh_ (i := 4) (N := some 22) (v := .func (.func 34) #[] #[]) (msk 17 31) rfl rfl (by kernel_rfl) hP (y_move rfl (by rfl) (by rfl)) rfl ?_
   try simp only [zP,zN,zA,zB,zC]
   refine pureh_ (i := 5) (N := some 23) (v := .slice (some ⟨gx, 0, none⟩) n cx) (msk 17 63) rfl rfl (by kernel_rfl) hP (y_move rfl (by rfl) (by rfl)) rfl ?_
   try simp only [zP,zN,zA,zB,zC]
   refine pureh_ (i := 6) (N := some 24) (v := .int .i64 j) (msk 17 127) rfl rfl (by kernel_rfl) hP (y_move rfl (by rfl) (by rfl)) rfl ?_
   try simp only [zP,zN,zA,zB,zC]
   refine pureh_ (i := 7) (N := some 25) (v := .pointer (some ⟨gx, j * 11, none⟩)) (msk 17 255) rfl rfl (by kernel_rfl) hP (y_run (by rfl) (fun W => by have d := Bj.out; go_simp)) rfl ?_
   try simp only [zP,zN,zA,zB,zC]
   refine takeh_ (i := 8) (N := some 26) (v := .agg (candC e).toArray) (msk 17 511) rfl rfl (by kernel_rfl) hP (y_load (p := ⟨gx, j * 11, none⟩) rfl (by rfl) (by rfl) (fun W hS => run_loadVar_at (own_at candC_len hS.1 (by rw [QE.out]; exact get_2 _ _ _ _ _)) Try.underlying41 rfl (by rw [candC_len]; kernel_rfl))) hS37 rfl ?_
   try simp only [zP,zN,zA,zB,zC]
   refine pureh_ (i := 9) (N := some 27) (v := .slice (some ⟨gx, 0, none⟩) n cx) (msk 17 1023) rfl rfl (by kernel_rfl) hP (y_move rfl (by rfl) (by rfl)) rfl ?_
   try simp only [zP,zN,zA,zB,zC]
   refine pureh_ (i := 10) (N := some 28) (v := .int .i64 j) (msk 17 2047) rfl rfl (by kernel_rfl) hP (y_move rfl (by rfl) (by rfl)) rfl ?_
   try simp only [zP,zN,zA,zB,zC]
   refine pureh_ (i := 11) (N := some 29) (v := .int .i64 i) (msk 17 4095) rfl rfl (by kernel_rfl) hP (y_run (by rfl) (fun W => by have d := Wi.out; go_simp)) rfl ?_
   try simp only [zP,zN,zA,zB,zC]
   refine pureh_ (i := 12) (N := some 30) (v := .pointer (some ⟨gx, i * 11, none⟩)) (msk 17 8191) rfl rfl (by kernel_rfl) hP (y_run (by rfl) (fun W => by have d := Bi.out; go_simp)) rfl ?_
   try simp only [zP,zN,zA,zB,zC]
   refine takeh_ (i := 13) (N := some 31) (v := .agg (candC y).toArray) (msk 17 16383) rfl rfl (by kernel_rfl) hP (y_load (p := ⟨gx, i * 11, none⟩) rfl (by rfl) (by rfl) (fun W hS => run_loadVar_at (own_at candC_len hS.1 (by rw [PE.out]; exact get_1 _ _ _)) Try.underlying41 rfl (by rw [candC_len]; kernel_rfl))) hS37 rfl ?_
   try simp only [zP,zN,zA,zB,zC]
   refine one_ (i := 14) (N := some 32) (msk 17 32767) rfl rfl (by kernel_rfl) (by simp) (fun K38 hK38 => ?_)
   refine e_callf Try.func34 (by kernel_rfl) rfl #[.agg (candC e).toArray, .agg (candC y).toArray] (by rfl) rfl rfl (by rfl) (by first | rfl | simp [Act.eval]) (HCM.out k e y he.out HYB.out _ (HBW.out.trans (C0.out.below HB0.out HBS.out))) ?_
   rintro en w39 ⟨rfl, cc⟩
   refine ⟨_, rfl, ?_⟩
   replace C0 := qh (C0.out.trans' cc inw_nil)
   replace OX := qh (OX.out.ch cc rnin_nil)
   clear cc
   refine hK38.out _ _ ⟨OX.out, trivial⟩ (fun hS40 => ?_); clear hK38 K38
   try simp only [zP,zN,zA,zB,zC]
   refine pureh_ (i := 15) (N := some 33) (v := .bool false) (msk 17 65535) rfl rfl (by kernel_rfl) hP (y_run (by rfl) (fun W => by have d := D33.out; go_simp)) rfl ?_
   try simp only [zP,zN,zA,zB,zC]
   refine pureh_ (i := 16) (N := some 34) (v := .bool false) (msk 17 131071) rfl rfl (by kernel_rfl) hP (y_pick (t := true) (by rfl) rfl (by rfl) (by rfl)) rfl ?_
   try simp only [zP,zN,zA,zB,zC]
   refine done_ (by kernel_rfl) (th_norm (hK34 _ _ ?_)); clear hK34 K34
   refine wp_cond_false rfl ?_
   refine wp_exit ?_
   refine th_exit ?_
   refine th_exit ?_
   refine ib_exit ?_
   refine ib_norm ?_
   refine th_norm (hK6 _ _ ?_); try clear hK6 K6
   refine r_ ?_
   refine pu_ (v := .int .i64 k) (y_move rfl (by rfl) (by rfl)) ?_
   try simp only [zP,zN,zA,zB,zC]
   refine pu_ (v := .int .i64 (k + 1 : Nat)) (y_run (by rfl) (fun W => by have d := WA.out; go_simp)) ?_
   try simp only [zP,zN,zA,zB,zC]
   refine pu_ (v := .int .i64 (k + 1 : Nat)) (y_assign rfl (by rfl) (by rfl)) ?_
   try simp only [zP,zN,zA,zB,zC]
   refine nl_ ?_
   exact th_norm (hK3 (kq - 1) _ _ (by have := hlt.out; have := hk.out; omega) ⟨k + 1, rfl, C0, qh (by have h := OX.out; rw [isort_snoc _ he.out, HFIN.out]; rw [show C1 ++ y :: ([] ++ e :: (D ++ X.drop (k + 1))) = ((C1 ++ [y]) ++ e :: D) ++ X.drop (k + 1) by simp] at h; exact h), qh ⟨by have := hk.out; omega, by have := hlt.out; omega, by have := hlt.out; have := hk.out; omega⟩⟩)
 ·have D14 := qh (show n ≤ k by omega)
  have HE := qh h
  clear h
  refine s_ (fun K41 hK41 => ?_)
  refine pu_ (v := .int .i64 k) (y_move rfl (by rfl) (by rfl)) ?_
  try simp only [zP,zN,zA,zB,zC]
  refine pu_ (v := .int .i64 n) (y_move rfl (by rfl) (by rfl)) ?_
  try simp only [zP,zN,zA,zB,zC]
  refine pu_ (v := .bool false) (y_run (by rfl) (fun W => by have d := D14.out; go_simp)) ?_
  try simp only [zP,zN,zA,zB,zC]
  refine nl_ (hK41 _ _ ?_); clear hK41 K41
  refine wp_cond_false rfl ?_
  refine wp_exit ?_
  refine th_exit ?_
  refine th_exit ?_
  refine ib_exit ?_
  refine hQ _ _ _ ?_
  refine bodyPost_end (res0 rfl) rfl ?_
  exact ⟨rfl, by have h := OX.out; rw [List.take_of_length_le (by have := HLN0.out; have := HE.out; omega), List.drop_of_length_le (by have := HLN0.out; have := HE.out; omega), List.append_nil] at h; exact h, C0.out⟩
theorem insort_nil {gx cx n : Nat}  :
  Calls Try.prog 53 #[.slice (some ⟨gx, 0, none⟩) n cx, .int .i64 20, .int .i64 20, .func (.func 34) #[] #[]] w fun en w' => en = .returned (.tuple #[]) ∧ Ch [] w w' := by
 have C0 := qh (Ch.refl [] w)
 go_enter Try.func53, Try.ntmps53
 refine q_ (fun Q hQ hP => ?_)
 refine s_ (fun K1 hK1 => ?_)
 refine pu_ (v := .int .i64 20) (y_move rfl (by rfl) (by rfl)) ?_
 try simp only [zP,zN,zA,zB,zC]
 refine pu_ (v := .int .i64 21) (y_run (by rfl) (fun W => by first | (go_simp; done) | (go_simp; rfl) | (go_simp; decide))) ?_
 try simp only [zP,zN,zA,zB,zC]
 refine pu_ (v := .int .i64 21) (y_assign rfl (by rfl) (by rfl)) ?_
 try simp only [zP,zN,zA,zB,zC]
 refine nl_ (hK1 _ _ ?_); clear hK1 K1
 refine wp_block ?_
 refine loop_none ?_
 refine sq_ (fun K2 hK2 => ?_)
 refine s_ (fun K3 hK3 => ?_)
 refine pu_ (v := .int .i64 21) (y_move rfl (by rfl) (by rfl)) ?_
 try simp only [zP,zN,zA,zB,zC]
 refine pu_ (v := .int .i64 20) (y_move rfl (by rfl) (by rfl)) ?_
 try simp only [zP,zN,zA,zB,zC]
 refine pu_ (v := .bool false) (y_run (by rfl) (fun W => by first | (go_simp; done) | (go_simp; rfl) | (go_simp; decide))) ?_
 try simp only [zP,zN,zA,zB,zC]
 refine nl_ (hK3 _ _ ?_); clear hK3 K3
 refine wp_cond_false rfl ?_
 refine wp_exit ?_
 refine th_exit ?_
 refine th_exit ?_
 refine ib_exit ?_
 refine hQ _ _ _ ?_
 refine bodyPost_end (res0 rfl) rfl ?_
 exact ⟨rfl, C0.out⟩
theorem stable_ {W : World} {gx cx n base : Nat} {X : List HC} {cz : HC → HC → Int} (HN : Hid (n ≤ 20)) (HCM : Hid (CmpOk W X cz)) (HB0 : Hid (W.heap.size ≤ w.heap.size)) (HBW : Hid (Below W.heap.size W w)) (HBS : Hid (∀ x, x ∈ rl (.slice (some ⟨gx, 0, none⟩) n cx) → W.heap.size ≤ x)) (OX : Hid (OwnS w base 41 11 (.slice (some ⟨gx, 0, none⟩) n cx) (n) ((X).flatMap candC))) :
  Calls Try.prog 46 #[.slice (some ⟨gx, 0, none⟩) n cx, .int .i64 n, .func (.func 34) #[] #[]] w fun en w' => en = .returned (.tuple #[]) ∧ OwnS w' base 41 11 (.slice (some ⟨gx, 0, none⟩) n cx) n ((isort (ltz cz) X).flatMap candC) ∧ Ch (rl (.slice (some ⟨gx, 0, none⟩) n cx)) w w' := by
 have C0 := qh (Ch.refl (rl (.slice (some ⟨gx, 0, none⟩) n cx)) w)
 go_enter Try.func46, Try.ntmps46
 refine q_ (fun Q hQ hP => ?_)
 refine s_ (fun K1 hK1 => ?_)
 refine pu_ (v := .int .i64 20) (y_assign rfl (by rfl) (by rfl)) ?_
 try simp only [zP,zN,zA,zB,zC]
 refine nl_ (hK1 _ _ ?_); clear hK1 K1
 refine s_ (fun K2 hK2 => ?_)
 refine pu_ (v := .int .i64 20) (y_move rfl (by rfl) (by rfl)) ?_
 try simp only [zP,zN,zA,zB,zC]
 refine pu_ (v := .int .i64 0) (y_assign rfl (by rfl) (by rfl)) ?_
 try simp only [zP,zN,zA,zB,zC]
 refine pu_ (v := .int .i64 20) (y_assign rfl (by rfl) (by rfl)) ?_
 try simp only [zP,zN,zA,zB,zC]
 refine nl_ (hK2 _ _ ?_); clear hK2 K2
 refine sq_ (fun K3 hK3 => ?_)
 refine wp_block ?_
 refine loopk_ (fun (kq : Nat) (a' : Act) (w' : World) => ∃ (a : Nat), ∃ (b : Nat), ∃ (Y : List HC), a' = ⟨#[.slice (some ⟨gx, 0, none⟩) n cx, .int .i64 n, .func (.func 34) #[] #[], uo a' 3, uo a' 4, uo a' 5, .int .i64 20, .int .i64 a, .int .i64 b, uo a' 9, uo a' 10, uo a' 11, uo a' 12, uo a' 13, uo a' 14, uo a' 15, uo a' 16, uo a' 17, uo a' 18, uo a' 19, uo a' 20, uo a' 21, uo a' 22, uo a' 23, uo a' 24, uo a' 25, uo a' 26, uo a' 27, uo a' 28, uo a' 29, uo a' 30, uo a' 31, uo a' 32, uo a' 33, uo a' 34, uo a' 35, uo a' 36, uo a' 37, uo a' 38, uo a' 39, uo a' 40, uo a' 41, uo a' 42, uo a' 43, uo a' 44, uo a' 45, uo a' 46, uo a' 47, uo a' 48, uo a' 49, uo a' 50, uo a' 51, uo a' 52, uo a' 53, uo a' 54, uo a' 55, uo a' 56, uo a' 57, uo a' 58, uo a' 59, uo a' 60, uo a' 61, uo a' 62], []⟩ ∧ Hid (Ch (rl (.slice (some ⟨gx, 0, none⟩) n cx)) w w') ∧ Hid (OwnS w' base 41 11 (.slice (some ⟨gx, 0, none⟩) n cx) (n) ((Y).flatMap candC)) ∧ Hid ((a = 0 ∧ b = 20 ∧ Y = X ∧ kq = 1) ∨ (a = 20 ∧ b = 40 ∧ n = 20 ∧ Y = isort (ltz cz) X ∧ kq = 0))) (1) (⟨0, 20, X, rfl, C0, OX, qh (.inl ⟨rfl, rfl, rfl, rfl⟩)⟩) ?_
 rintro kq a_ w4 ⟨a, b, Y, ha_, C0, OX, ha⟩ K5 hK5
 obtain ⟨us, hus_⟩ : ∃ us, us = uo a_ := ⟨_, rfl⟩; try rw [← hus_] at ha_
 subst ha_; clear hus_
 refine sq_ (fun K6 hK6 => ?_)
 rcases (show ((a = 0 ∧ b = 20 ∧ Y = X ∧ kq = 1) ∧ n = 20) ∨ ((a = 0 ∧ b = 20 ∧ Y = X ∧ kq = 1) ∧ n < 20) ∨ (a = 20 ∧ b = 40 ∧ n = 20 ∧ Y = isort (ltz cz) X ∧ kq = 0) from ha.out.elim (fun h => by rcases (show n = 20 ∨ n < 20 by have := HN.out; omega) with h9 | h9; exact .inl ⟨h, h9⟩; exact .inr (.inl ⟨h, h9⟩)) (fun h => .inr (.inr h))) with ⟨h, h5⟩ | ⟨h, h5⟩ | h
 ·obtain ⟨h1, h2, h3, h4⟩ := h
  subst h1 h2 h4
  have HY := qh h3
  clear h3
  have h20 := qh h5
  clear h5
  have OX' := qh (show OwnS w4 base 41 11 (.slice (some ⟨gx, 0, none⟩) n cx) (n) ((X).flatMap candC) from by have h9 := OX.out; rw [HY.out] at h9; exact h9); clear OX; have OX := OX'; clear OX'
  have D13 := qh (show (20 : Int) ≤ (n : Int) by have := h20.out; omega)
  have E20 := qh (show Value.int .i64 20 = .int .i64 (n : Int) by rw [h20.out]; rfl)
  refine s_ (fun K7 hK7 => ?_)
  refine pu_ (v := .int .i64 20) (y_move rfl (by rfl) (by rfl)) ?_
  try simp only [zP,zN,zA,zB,zC]
  refine pu_ (v := .int .i64 n) (y_move rfl (by rfl) (by rfl)) ?_
  try simp only [zP,zN,zA,zB,zC]
  refine pu_ (v := .bool true) (y_run (by rfl) (fun W => by have d := D13.out; go_simp)) ?_
  try simp only [zP,zN,zA,zB,zC]
  refine nl_ (hK7 _ _ ?_); clear hK7 K7
  refine wp_cond_true rfl ?_
  refine wp_skip ?_
  refine th_norm (hK6 _ _ ?_); try clear hK6 K6
  refine wp_block ?_
  refine s_ (fun K8 hK8 => ?_)
  refine pu_ (v := .slice (some ⟨gx, 0, none⟩) n cx) (y_move rfl (by rfl) (by rfl)) ?_
  try simp only [zP,zN,zA,zB,zC]
  refine pu_ (v := .int .i64 0) (y_move rfl (by rfl) (by rfl)) ?_
  try simp only [zP,zN,zA,zB,zC]
  refine pu_ (v := .int .i64 20) (y_move rfl (by rfl) (by rfl)) ?_
  try simp only [zP,zN,zA,zB,zC]
  refine pu_ (v := .func (.func 34) #[] #[]) (y_move rfl (by rfl) (by rfl)) ?_
  try simp only [zP,zN,zA,zB,zC]
  refine ef_ (fun K9 hK9 => ?_)
  refine e_call Try.func53 (by kernel_rfl) rfl #[.slice (some ⟨gx, 0, none⟩) n cx, .int .i64 0, .int .i64 20, .func (.func 34) #[] #[]] (by rfl) rfl rfl (mp4 rfl rfl rfl rfl) ((by have h9 := insort_ (w := w4) HN HCM (qh (Nat.le_trans HB0.out C0.out.size)) (qh (HBW.out.trans (C0.out.below HB0.out HBS.out))) HBS OX; rw [← E20.out] at h9; exact h9)) ?_
  rintro en w12 ⟨rfl, O11, cc10⟩
  refine ⟨_, rfl, ?_⟩
  replace C0 := qh (C0.out.trans' cc10 (fun x hx => .inl hx))
  clear OX
  clear cc10
  have OX := qh (show OwnS w12 base 41 11 (.slice (some ⟨gx, 0, none⟩) n cx) (n) ((isort (ltz cz) X).flatMap candC) from O11)
  refine hK9 _ _ ?_; clear hK9 K9
  try simp only [zP,zN,zA,zB,zC]
  refine nl_ (hK8 _ _ ?_); clear hK8 K8
  refine s_ (fun K13 hK13 => ?_)
  refine pu_ (v := .int .i64 20) (y_move rfl (by rfl) (by rfl)) ?_
  try simp only [zP,zN,zA,zB,zC]
  refine pu_ (v := .int .i64 20) (y_assign rfl (by rfl) (by rfl)) ?_
  try simp only [zP,zN,zA,zB,zC]
  refine nl_ (hK13 _ _ ?_); clear hK13 K13
  refine r_ ?_
  refine pu_ (v := .int .i64 20) (y_move rfl (by rfl) (by rfl)) ?_
  try simp only [zP,zN,zA,zB,zC]
  refine pu_ (v := .int .i64 20) (y_move rfl (by rfl) (by rfl)) ?_
  try simp only [zP,zN,zA,zB,zC]
  refine pu_ (v := .int .i64 40) (y_run (by rfl) (fun W => by first | (go_simp; done) | (go_simp; rfl) | (go_simp; decide))) ?_
  try simp only [zP,zN,zA,zB,zC]
  refine pu_ (v := .int .i64 40) (y_assign rfl (by rfl) (by rfl)) ?_
  try simp only [zP,zN,zA,zB,zC]
  refine nl_ ?_
  refine ib_norm ?_
  exact th_norm (hK5 (0) _ _ (by omega) ⟨20, 40, isort (ltz cz) X, rfl, C0, OX, qh (.inr ⟨rfl, rfl, h20.out, rfl, rfl⟩)⟩)
 ·obtain ⟨h1, h2, h3, h4⟩ := h
  subst h1 h2 h4
  have HY := qh h3
  clear h3
  have hlt := qh h5
  clear h5
  have OX' := qh (show OwnS w4 base 41 11 (.slice (some ⟨gx, 0, none⟩) n cx) (n) ((X).flatMap candC) from by have h9 := OX.out; rw [HY.out] at h9; exact h9); clear OX; have OX := OX'; clear OX'
  have D13 := qh (show ¬ (20 : Int) ≤ (n : Int) by have := hlt.out; omega)
  refine s_ (fun K14 hK14 => ?_)
  refine pu_ (v := .int .i64 20) (y_move rfl (by rfl) (by rfl)) ?_
  try simp only [zP,zN,zA,zB,zC]
  refine pu_ (v := .int .i64 n) (y_move rfl (by rfl) (by rfl)) ?_
  try simp only [zP,zN,zA,zB,zC]
  refine pu_ (v := .bool false) (y_run (by rfl) (fun W => by have d := D13.out; go_simp)) ?_
  try simp only [zP,zN,zA,zB,zC]
  refine nl_ (hK14 _ _ ?_); clear hK14 K14
  refine wp_cond_false rfl ?_
  refine wp_exit ?_
  refine th_exit ?_
  refine th_exit ?_
  refine ib_exit ?_
  refine th_norm (hK3 _ _ ?_); try clear hK3 K3
  refine s_ (fun K15 hK15 => ?_)
  refine pu_ (v := .slice (some ⟨gx, 0, none⟩) n cx) (y_move rfl (by rfl) (by rfl)) ?_
  try simp only [zP,zN,zA,zB,zC]
  refine pu_ (v := .int .i64 0) (y_move rfl (by rfl) (by rfl)) ?_
  try simp only [zP,zN,zA,zB,zC]
  refine pu_ (v := .int .i64 n) (y_move rfl (by rfl) (by rfl)) ?_
  try simp only [zP,zN,zA,zB,zC]
  refine pu_ (v := .func (.func 34) #[] #[]) (y_move rfl (by rfl) (by rfl)) ?_
  try simp only [zP,zN,zA,zB,zC]
  refine ef_ (fun K16 hK16 => ?_)
  refine e_call Try.func53 (by kernel_rfl) rfl #[.slice (some ⟨gx, 0, none⟩) n cx, .int .i64 0, .int .i64 n, .func (.func 34) #[] #[]] (by rfl) rfl rfl (mp4 rfl rfl rfl rfl) ((by have h9 := insort_ (w := w4) HN HCM (qh (Nat.le_trans HB0.out C0.out.size)) (qh (HBW.out.trans (C0.out.below HB0.out HBS.out))) HBS OX;  exact h9)) ?_
  rintro en w19 ⟨rfl, O18, cc17⟩
  refine ⟨_, rfl, ?_⟩
  replace C0 := qh (C0.out.trans' cc17 (fun x hx => .inl hx))
  clear OX
  clear cc17
  have OX := qh (show OwnS w19 base 41 11 (.slice (some ⟨gx, 0, none⟩) n cx) (n) ((isort (ltz cz) X).flatMap candC) from O18)
  refine hK16 _ _ ?_; clear hK16 K16
  try simp only [zP,zN,zA,zB,zC]
  refine nl_ (hK15 _ _ ?_); clear hK15 K15
  refine wp_block ?_
  refine loop_none ?_
  refine sq_ (fun K20 hK20 => ?_)
  skip
  ·have D30 := qh (show ¬ (20 : Int) < (n : Int) by have := HN.out; omega)
   refine s_ (fun K21 hK21 => ?_)
   refine pu_ (v := .int .i64 20) (y_move rfl (by rfl) (by rfl)) ?_
   try simp only [zP,zN,zA,zB,zC]
   refine pu_ (v := .int .i64 n) (y_move rfl (by rfl) (by rfl)) ?_
   try simp only [zP,zN,zA,zB,zC]
   refine pu_ (v := .bool false) (y_run (by rfl) (fun W => by have d := D30.out; go_simp)) ?_
   try simp only [zP,zN,zA,zB,zC]
   refine nl_ (hK21 _ _ ?_); clear hK21 K21
   refine wp_cond_false rfl ?_
   refine wp_exit ?_
   refine th_exit ?_
   refine th_exit ?_
   refine ib_exit ?_
   refine hQ _ _ _ ?_
   refine bodyPost_end (res0 rfl) rfl ?_
   exact ⟨rfl, OX.out, C0.out⟩
 ·obtain ⟨h1, h2, h3, h4, h5⟩ := h
  subst h1 h2 h5
  have HY := qh h4
  clear h4
  have h20 := qh h3
  clear h3
  have OX' := qh (show OwnS w4 base 41 11 (.slice (some ⟨gx, 0, none⟩) n cx) (n) ((isort (ltz cz) X).flatMap candC) from by have h9 := OX.out; rw [HY.out] at h9; exact h9); clear OX; have OX := OX'; clear OX'
  have D13 := qh (show ¬ (40 : Int) ≤ (n : Int) by have := h20.out; omega)
  have E20 := qh (show Value.int .i64 20 = .int .i64 (n : Int) by rw [h20.out]; rfl)
  refine s_ (fun K22 hK22 => ?_)
  refine pu_ (v := .int .i64 40) (y_move rfl (by rfl) (by rfl)) ?_
  try simp only [zP,zN,zA,zB,zC]
  refine pu_ (v := .int .i64 n) (y_move rfl (by rfl) (by rfl)) ?_
  try simp only [zP,zN,zA,zB,zC]
  refine pu_ (v := .bool false) (y_run (by rfl) (fun W => by have d := D13.out; go_simp)) ?_
  try simp only [zP,zN,zA,zB,zC]
  refine nl_ (hK22 _ _ ?_); clear hK22 K22
  refine wp_cond_false rfl ?_
  refine wp_exit ?_
  refine th_exit ?_
  refine th_exit ?_
  refine ib_exit ?_
  refine th_norm (hK3 _ _ ?_); try clear hK3 K3
  refine s_ (fun K23 hK23 => ?_)
  refine pu_ (v := .slice (some ⟨gx, 0, none⟩) n cx) (y_move rfl (by rfl) (by rfl)) ?_
  try simp only [zP,zN,zA,zB,zC]
  refine pu_ (v := .int .i64 20) (y_move rfl (by rfl) (by rfl)) ?_
  try simp only [zP,zN,zA,zB,zC]
  refine pu_ (v := .int .i64 n) (y_move rfl (by rfl) (by rfl)) ?_
  try simp only [zP,zN,zA,zB,zC]
  refine pu_ (v := .func (.func 34) #[] #[]) (y_move rfl (by rfl) (by rfl)) ?_
  try simp only [zP,zN,zA,zB,zC]
  refine ef_ (fun K24 hK24 => ?_)
  refine e_call Try.func53 (by kernel_rfl) rfl #[.slice (some ⟨gx, 0, none⟩) n cx, .int .i64 20, .int .i64 n, .func (.func 34) #[] #[]] (by rfl) rfl rfl (mp4 rfl rfl rfl rfl) ((by have h9 := insort_nil (w := w4) (gx := gx) (cx := cx) (n := n); rw [E20.out] at h9 ⊢; exact h9)) ?_
  rintro en w26 ⟨rfl, cc25⟩
  refine ⟨_, rfl, ?_⟩
  replace C0 := qh (C0.out.trans' cc25 inw_nil)
  replace OX := qh (OX.out.ch cc25 rnin_nil)
  clear cc25
  refine hK24 _ _ ?_; clear hK24 K24
  try simp only [zP,zN,zA,zB,zC]
  refine nl_ (hK23 _ _ ?_); clear hK23 K23
  refine wp_block ?_
  refine loop_none ?_
  refine sq_ (fun K27 hK27 => ?_)
  skip
  ·have D30 := qh (show ¬ (20 : Int) < (n : Int) by have := HN.out; omega)
   refine s_ (fun K28 hK28 => ?_)
   refine pu_ (v := .int .i64 20) (y_move rfl (by rfl) (by rfl)) ?_
   try simp only [zP,zN,zA,zB,zC]
   refine pu_ (v := .int .i64 n) (y_move rfl (by rfl) (by rfl)) ?_
   try simp only [zP,zN,zA,zB,zC]
   refine pu_ (v := .bool false) (y_run (by rfl) (fun W => by have d := D30.out; go_simp)) ?_
   try simp only [zP,zN,zA,zB,zC]
   refine nl_ (hK28 _ _ ?_); clear hK28 K28
   refine wp_cond_false rfl ?_
   refine wp_exit ?_
   refine th_exit ?_
   refine th_exit ?_
   refine ib_exit ?_
   refine hQ _ _ _ ?_
   refine bodyPost_end (res0 rfl) rfl ?_
   exact ⟨rfl, OX.out, C0.out⟩
theorem sortst_ {W : World} {gx cx n base : Nat} {X : List HC} {cz : HC → HC → Int} (HN : Hid (n ≤ 20)) (HCM : Hid (CmpOk W X cz)) (HB0 : Hid (W.heap.size ≤ w.heap.size)) (HBW : Hid (Below W.heap.size W w)) (HBS : Hid (∀ x, x ∈ rl (.slice (some ⟨gx, 0, none⟩) n cx) → W.heap.size ≤ x)) (OX : Hid (OwnS w base 41 11 (.slice (some ⟨gx, 0, none⟩) n cx) (n) ((X).flatMap candC))) :
  Calls Try.prog 37 #[.slice (some ⟨gx, 0, none⟩) n cx, .func (.func 34) #[] #[]] w fun en w' => en = .returned (.tuple #[]) ∧ OwnS w' base 41 11 (.slice (some ⟨gx, 0, none⟩) n cx) n ((isort (ltz cz) X).flatMap candC) ∧ Ch (rl (.slice (some ⟨gx, 0, none⟩) n cx)) w w' := by
 have C0 := qh (Ch.refl (rl (.slice (some ⟨gx, 0, none⟩) n cx)) w)
 go_enter Try.func37, Try.ntmps37
 refine q_ (fun Q hQ hP => ?_)
 refine r_ ?_
 refine pu_ (v := .slice (some ⟨gx, 0, none⟩) n cx) (y_move rfl (by rfl) (by rfl)) ?_
 try simp only [zP,zN,zA,zB,zC]
 refine pu_ (v := .slice (some ⟨gx, 0, none⟩) n cx) (y_move rfl (by rfl) (by rfl)) ?_
 try simp only [zP,zN,zA,zB,zC]
 refine pu_ (v := .int .i64 n) (y_run (by rfl) (fun W => by go_simp)) ?_
 try simp only [zP,zN,zA,zB,zC]
 refine pu_ (v := .func (.func 34) #[] #[]) (y_move rfl (by rfl) (by rfl)) ?_
 try simp only [zP,zN,zA,zB,zC]
 refine ef_ (fun K1 hK1 => ?_)
 refine e_call Try.func46 (by kernel_rfl) rfl #[.slice (some ⟨gx, 0, none⟩) n cx, .int .i64 n, .func (.func 34) #[] #[]] (by rfl) rfl rfl (mp3 rfl rfl rfl) ((stable_ HN HCM (qh (Nat.le_trans HB0.out C0.out.size)) (qh (HBW.out.trans (C0.out.below HB0.out HBS.out))) HBS OX)) ?_
 rintro en w4 ⟨rfl, O3, cc2⟩
 refine ⟨_, rfl, ?_⟩
 replace C0 := qh (C0.out.trans' cc2 (fun x hx => .inl hx))
 clear OX
 clear cc2
 have OX := qh (show OwnS w4 base 41 11 (.slice (some ⟨gx, 0, none⟩) n cx) (n) ((isort (ltz cz) X).flatMap candC) from O3)
 refine hK1 _ _ ?_; clear hK1 K1
 try simp only [zP,zN,zA,zB,zC]
 refine nl_ ?_
 refine hQ _ _ _ ?_
 refine bodyPost_end (res0 rfl) rfl ?_
 exact ⟨rfl, OX.out, C0.out⟩
end
end Go.Proofs.Ytmoelehhofmhcaa.V
