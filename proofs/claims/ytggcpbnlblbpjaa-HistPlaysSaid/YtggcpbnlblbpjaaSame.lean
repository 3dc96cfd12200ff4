/- The walks of what compares values with themselves. -/
import Derived.Test.YtggcpbnlblbpjaaLineI
namespace Go.Proofs.Ytggcpbnlblbpjaa.L
open Go Go.RowKit Go.Proofs.Ytggcpbnlblbpjaa.K Go.Proofs.Ytggcpbnlblbpjaa.H Go.Proofs.YtggcpbnlblbpjaaW.PrintLast
set_option linter.unusedVariables false
set_option linter.unusedSimpArgs false
set_option maxRecDepth 100000
set_option maxHeartbeats 1600000
section
variable {w : World}
theorem same_ {A B : Option Addr} {c d : Nat} {M : List Int} (HM : Hid (M.length ≤ 9223372036854775807)) (SM : Hid (SrcIs w (.slice A M.length c) (M.length) ((M).map (Value.int .i64)) 1)) (SN : Hid (SrcIs w (.slice B M.length d) (M.length) ((M).map (Value.int .i64)) 1)) :
    Calls Try.prog 36 #[.slice A M.length c, .slice B M.length d] w fun en w' => en = .returned (.bool true) ∧ Ch [] w w' := by
  have C0 := Lib.hid (Ch.refl [] w)
  go_enter Try.func36, Try.ntmps36
  refine q_ (fun Q hQ hP => ?_)
  refine s_ (fun K1 hK1 => ?_)
  refine pu_ (v := .bool false) (y_assign rfl (by rfl) (by rfl)) ?_
  (try simp only [zP, zN, zA, zB, zC])
  refine nl_ (hK1 _ _ ?_); clear hK1 K1
  refine s_ (fun K2 hK2 => ?_)
  refine pu_ (v := .slice A M.length c) (y_move rfl (by rfl) (by rfl)) ?_
  (try simp only [zP, zN, zA, zB, zC])
  refine pu_ (v := .int .i64 M.length) (y_run (by rfl) (fun W => by go_simp)) ?_
  (try simp only [zP, zN, zA, zB, zC])
  refine pu_ (v := .slice B M.length d) (y_move rfl (by rfl) (by rfl)) ?_
  (try simp only [zP, zN, zA, zB, zC])
  refine pu_ (v := .int .i64 M.length) (y_run (by rfl) (fun W => by go_simp)) ?_
  (try simp only [zP, zN, zA, zB, zC])
  refine pu_ (v := .bool true) (y_run (by rfl) (fun W => by go_simp)) ?_
  (try simp only [zP, zN, zA, zB, zC])
  refine pu_ (v := .bool true) (y_assign rfl (by rfl) (by rfl)) ?_
  (try simp only [zP, zN, zA, zB, zC])
  refine nl_ (hK2 _ _ ?_); clear hK2 K2
  refine sq_ (fun K3 hK3 => ?_)
  refine s_ (fun K4 hK4 => ?_)
  refine pu_ (v := .int .i64 0) (y_assign rfl (by rfl) (by rfl)) ?_
  (try simp only [zP, zN, zA, zB, zC])
  refine nl_ (hK4 _ _ ?_); clear hK4 K4
  refine wp_block ?_
  refine loopk_ (fun (kq : Nat) (a' : Act) (w' : World) => ∃ (k : Nat), ∃ (us : Nat → Value), a' = ⟨#[.slice A M.length c, .slice B M.length d, us 2, us 3, .bool false, .bool true, .int .i64 k, us 7, us 8, us 9, us 10, us 11, us 12, us 13, us 14, us 15, us 16, us 17, us 18, us 19, us 20, us 21, us 22, us 23, us 24, us 25, us 26, us 27, us 28, us 29, us 30, us 31, us 32, us 33, us 34, us 35, us 36], []⟩ ∧ Hid (Ch [] w w') ∧ Hid (SrcIs w' (.slice A M.length c) (M.length) ((M).map (Value.int .i64)) 1) ∧ Hid (SrcIs w' (.slice B M.length d) (M.length) ((M).map (Value.int .i64)) 1) ∧ Hid (k ≤ M.length ∧ kq + k = M.length)) (M.length) (⟨0, fun us_ => (#[.slice A M.length c, .slice B M.length d, undef, undef, .bool false, .bool true, .int .i64 0, .slice A M.length c, .int .i64 M.length, .slice B M.length d, .int .i64 M.length, .bool true, undef, undef, undef, undef, undef, undef, undef, undef, undef, undef, undef, undef, undef, undef, undef, undef, undef, undef, undef, undef, undef, undef, undef, undef, undef] : Array Value).getD us_ undef, rfl, C0, SM, SN, Lib.hid ⟨by omega, by omega⟩⟩) ?_
  rintro kq _ w5 ⟨k, us, rfl, C0, SM, SN, hk⟩ K6 hK6
  refine sq_ (fun K7 hK7 => ?_)
  rcases at_ways hk.out.1 with ⟨z, hlt0, ho0⟩ | h
  · have hlt := Lib.hid hlt0
    have ho := Lib.hid ho0
    clear hlt0 ho0
    obtain ⟨a, hsm_a⟩ := src_some SM.out (by have := hlt.out; omega)
    subst hsm_a
    obtain ⟨b, hsm_b⟩ := src_some SN.out (by have := hlt.out; omega)
    subst hsm_b
    have D17 := Lib.hid (show (k : Int) < (M.length : Int) by have := hlt.out; omega)
    have Wk := Lib.hid (show IntKind.i64.wrap ((k : Int) + 1) = ((k + 1 : Nat) : Int) by rw [wr64 (by have := hlt.out; have := HM.out; omega)]; omega)
    refine s_ (fun K8 hK8 => ?_)
    refine pu_ (v := .bool true) (y_move rfl (by rfl) (by rfl)) ?_
    (try simp only [zP, zN, zA, zB, zC])
    refine pu_ (v := .bool true) (y_move rfl (by rfl) (by rfl)) ?_
    (try simp only [zP, zN, zA, zB, zC])
    refine pu_ (v := .int .i64 k) (y_move rfl (by rfl) (by rfl)) ?_
    (try simp only [zP, zN, zA, zB, zC])
    refine pu_ (v := .slice (some a) M.length c) (y_move rfl (by rfl) (by rfl)) ?_
    (try simp only [zP, zN, zA, zB, zC])
    refine pu_ (v := .int .i64 M.length) (y_run (by rfl) (fun W => by go_simp)) ?_
    (try simp only [zP, zN, zA, zB, zC])
    refine pu_ (v := .bool true) (y_run (by rfl) (fun W => by have d := D17.out; go_simp)) ?_
    (try simp only [zP, zN, zA, zB, zC])
    refine pu_ (v := .bool true) (y_pick (t := true) (by rfl) rfl (by rfl) (by rfl)) ?_
    (try simp only [zP, zN, zA, zB, zC])
    refine pu_ (v := .bool true) (y_move rfl (by rfl) (by rfl)) ?_
    (try simp only [zP, zN, zA, zB, zC])
    refine pu_ (v := .int .i64 k) (y_move rfl (by rfl) (by rfl)) ?_
    (try simp only [zP, zN, zA, zB, zC])
    refine pu_ (v := .slice (some b) M.length d) (y_move rfl (by rfl) (by rfl)) ?_
    (try simp only [zP, zN, zA, zB, zC])
    refine pu_ (v := .int .i64 M.length) (y_run (by rfl) (fun W => by go_simp)) ?_
    (try simp only [zP, zN, zA, zB, zC])
    refine pu_ (v := .bool true) (y_run (by rfl) (fun W => by have d := D17.out; go_simp)) ?_
    (try simp only [zP, zN, zA, zB, zC])
    refine pu_ (v := .bool true) (y_pick (t := true) (by rfl) rfl (by rfl) (by rfl)) ?_
    (try simp only [zP, zN, zA, zB, zC])
    refine nl_ (hK8 _ _ ?_); clear hK8 K8
    refine wp_cond_true rfl ?_
    refine wp_skip ?_
    refine th_norm (hK7 _ _ ?_); try clear hK7 K7
    refine sq_ (fun K9 hK9 => ?_)
    refine wp_block ?_
    refine startk_ (S := fun W => SrcIs W (.slice (some a) M.length c) (M.length) ((M).map (Value.int .i64)) 1 ∧ SrcIs W (.slice (some b) M.length d) (M.length) ((M).map (Value.int .i64)) 1 ∧ True) (ds := []) #[false, false, false, false, false, false, false, false, false, false] (by kernel_rfl) rfl rfl (fun W c => ⟨SM.out.chx c xnin_nil, SN.out.chx c xnin_nil, trivial⟩) (fun w10 C11 hS12 => ?_)
    have C0' := Lib.hid (show Ch [] w w10 from C0.out.trans' C11 (fun x hx => absurd hx (by simp)))
    have SM' := Lib.hid (show SrcIs w10 (.slice (some a) M.length c) (M.length) ((M).map (Value.int .i64)) 1 from SM.out.chx C11 xnin_nil)
    have SN' := Lib.hid (show SrcIs w10 (.slice (some b) M.length d) (M.length) ((M).map (Value.int .i64)) 1 from SN.out.chx C11 xnin_nil)
    clear C0 SM SN
    have C0 := C0'; clear C0'
    have SM := SM'; clear SM'
    have SN := SN'; clear SN'
    clear C11
    refine pure_ (i := 0) (N := some 27) (v := .slice (some a) M.length c) #[true, false, false, false, false, false, false, false, false, false] rfl rfl (by kernel_rfl) (fun c a w h => hP c a _ _ w h) (y_move rfl (by rfl) (by rfl)) rfl ?_
    (try simp only [zP, zN, zA, zB, zC])
    refine pure_ (i := 1) (N := some 28) (v := .int .i64 k) #[true, true, false, false, false, false, false, false, false, false] rfl rfl (by kernel_rfl) (fun c a w h => hP c a _ _ w h) (y_move rfl (by rfl) (by rfl)) rfl ?_
    (try simp only [zP, zN, zA, zB, zC])
    refine pure_ (i := 2) (N := some 29) (v := .pointer (some (a.add (k)))) #[true, true, true, false, false, false, false, false, false, false] rfl rfl (by kernel_rfl) (fun c a w h => hP c a _ _ w h) (y_run (by rfl) (fun W => by have d := D17.out; go_simp)) rfl ?_
    (try simp only [zP, zN, zA, zB, zC])
    refine take_ (i := 3) (N := some 30) (v := .int .i64 z) #[true, true, true, true, false, false, false, false, false, false] rfl rfl (by kernel_rfl) (fun c a w h => hP c a _ _ w h) (y_load (p := (a.add (k))) rfl (by rfl) (by rfl) (fun W hS => run_load_one (src_int hS.1 ho.out) Try.underlying3 rfl)) hS12 rfl ?_
    (try simp only [zP, zN, zA, zB, zC])
    refine pure_ (i := 4) (N := some 31) (v := .slice (some b) M.length d) #[true, true, true, true, true, false, false, false, false, false] rfl rfl (by kernel_rfl) (fun c a w h => hP c a _ _ w h) (y_move rfl (by rfl) (by rfl)) rfl ?_
    (try simp only [zP, zN, zA, zB, zC])
    refine pure_ (i := 5) (N := some 32) (v := .int .i64 k) #[true, true, true, true, true, true, false, false, false, false] rfl rfl (by kernel_rfl) (fun c a w h => hP c a _ _ w h) (y_move rfl (by rfl) (by rfl)) rfl ?_
    (try simp only [zP, zN, zA, zB, zC])
    refine pure_ (i := 6) (N := some 33) (v := .pointer (some (b.add (k)))) #[true, true, true, true, true, true, true, false, false, false] rfl rfl (by kernel_rfl) (fun c a w h => hP c a _ _ w h) (y_run (by rfl) (fun W => by have d := D17.out; go_simp)) rfl ?_
    (try simp only [zP, zN, zA, zB, zC])
    refine take_ (i := 7) (N := some 34) (v := .int .i64 z) #[true, true, true, true, true, true, true, true, false, false] rfl rfl (by kernel_rfl) (fun c a w h => hP c a _ _ w h) (y_load (p := (b.add (k))) rfl (by rfl) (by rfl) (fun W hS => run_load_one (src_int hS.2.1 ho.out) Try.underlying3 rfl)) hS12 rfl ?_
    (try simp only [zP, zN, zA, zB, zC])
    refine pure_ (i := 8) (N := some 35) (v := .bool true) #[true, true, true, true, true, true, true, true, true, false] rfl rfl (by kernel_rfl) (fun c a w h => hP c a _ _ w h) (y_run (by rfl) (fun W => by go_simp)) rfl ?_
    (try simp only [zP, zN, zA, zB, zC])
    refine pure_ (i := 9) (N := some 5) (v := .bool true) #[true, true, true, true, true, true, true, true, true, true] rfl rfl (by kernel_rfl) (fun c a w h => hP c a _ _ w h) (y_assign rfl (by rfl) (by rfl)) rfl ?_
    (try simp only [zP, zN, zA, zB, zC])
    refine done_ (by kernel_rfl) ?_
    refine ib_norm ?_
    refine th_norm (hK9 _ _ ?_); try clear hK9 K9
    refine r_ ?_
    refine pu_ (v := .int .i64 k) (y_move rfl (by rfl) (by rfl)) ?_
    (try simp only [zP, zN, zA, zB, zC])
    refine pu_ (v := .int .i64 (k + 1 : Nat)) (y_run (by rfl) (fun W => by have d := Wk.out; go_simp)) ?_
    (try simp only [zP, zN, zA, zB, zC])
    refine pu_ (v := .int .i64 (k + 1 : Nat)) (y_assign rfl (by rfl) (by rfl)) ?_
    (try simp only [zP, zN, zA, zB, zC])
    refine nl_ ?_
    exact th_norm (hK6 (kq - 1) _ _ (by have := hlt.out; have := hk.out; omega) ⟨k + 1, fun us_ => (#[.slice (some a) M.length c, .slice (some b) M.length d, us 2, us 3, .bool false, .bool true, .int .i64 (k + 1 : Nat), us 7, us 8, us 9, us 10, us 11, .bool true, .bool true, .int .i64 k, .slice (some a) M.length c, .int .i64 M.length, .bool true, .bool true, .bool true, .int .i64 k, .slice (some b) M.length d, .int .i64 M.length, .bool true, .bool true, .int .i64 k, .int .i64 (k + 1 : Nat), .slice (some a) M.length c, .int .i64 k, .pointer (some (a.add (k))), .int .i64 z, .slice (some b) M.length d, .int .i64 k, .pointer (some (b.add (k))), .int .i64 z, .bool true, us 36] : Array Value).getD us_ undef, rfl, C0, SM, SN, Lib.hid ⟨by have := hlt.out; omega, by have := hlt.out; have := hk.out; omega⟩⟩)
  · have D17 := Lib.hid (show ¬ k < M.length by have := hk.out; omega)
    clear h
    refine s_ (fun K13 hK13 => ?_)
    refine pu_ (v := .bool true) (y_move rfl (by rfl) (by rfl)) ?_
    (try simp only [zP, zN, zA, zB, zC])
    refine pu_ (v := .bool true) (y_move rfl (by rfl) (by rfl)) ?_
    (try simp only [zP, zN, zA, zB, zC])
    refine pu_ (v := .int .i64 k) (y_move rfl (by rfl) (by rfl)) ?_
    (try simp only [zP, zN, zA, zB, zC])
    refine pu_ (v := .slice A M.length c) (y_move rfl (by rfl) (by rfl)) ?_
    (try simp only [zP, zN, zA, zB, zC])
    refine pu_ (v := .int .i64 M.length) (y_run (by rfl) (fun W => by go_simp)) ?_
    (try simp only [zP, zN, zA, zB, zC])
    refine pu_ (v := .bool false) (y_run (by rfl) (fun W => by have d := D17.out; go_simp)) ?_
    (try simp only [zP, zN, zA, zB, zC])
    refine pu_ (v := .bool false) (y_pick (t := true) (by rfl) rfl (by rfl) (by rfl)) ?_
    (try simp only [zP, zN, zA, zB, zC])
    refine pu_ (v := .bool false) (y_move rfl (by rfl) (by rfl)) ?_
    (try simp only [zP, zN, zA, zB, zC])
    refine pu_ (y_off (by rfl)) ?_
    (try simp only [zP, zN, zA, zB, zC])
    refine pu_ (y_off (by rfl)) ?_
    (try simp only [zP, zN, zA, zB, zC])
    refine pu_ (y_off (by rfl)) ?_
    (try simp only [zP, zN, zA, zB, zC])
    refine pu_ (y_off (by rfl)) ?_
    (try simp only [zP, zN, zA, zB, zC])
    refine pu_ (v := .bool false) (y_pick (t := false) (by rfl) rfl (by rfl) (by rfl)) ?_
    (try simp only [zP, zN, zA, zB, zC])
    refine nl_ (hK13 _ _ ?_); clear hK13 K13
    refine wp_cond_false rfl ?_
    refine wp_exit ?_
    refine th_exit ?_
    refine th_exit ?_
    refine ib_exit ?_
    refine th_norm (hK3 _ _ ?_); try clear hK3 K3
    refine s_ (fun K14 hK14 => ?_)
    refine pu_ (v := .bool true) (y_move rfl (by rfl) (by rfl)) ?_
    (try simp only [zP, zN, zA, zB, zC])
    refine pu_ (v := .bool true) (y_assign rfl (by rfl) (by rfl)) ?_
    (try simp only [zP, zN, zA, zB, zC])
    refine nl_ (hK14 _ _ ?_); clear hK14 K14
    refine wp_ret ?_
    refine hQ _ _ _ ?_
    refine bodyPost_ret (res1 rfl (rdv_tmp (v := .bool true) (by rfl))) rfl ?_
    exact ⟨rfl, C0.out⟩
theorem slab_ {A : Option Addr} {n c : Nat} {f1 f2 : Nat → ByteArray} (HN : Hid (n ≤ 9223372036854775807)) (HC : Hid (labF w A n f1 f2))  :
    Calls Try.prog 59 #[.slice A n c, .slice A n c] w fun en w' => en = .returned (.bool true) ∧ Ch [] w w' := by
  have C0 := Lib.hid (Ch.refl [] w)
  go_enter Try.func59, Try.ntmps59
  refine q_ (fun Q hQ hP => ?_)
  refine s_ (fun K1 hK1 => ?_)
  refine pu_ (v := .bool false) (y_assign rfl (by rfl) (by rfl)) ?_
  (try simp only [zP, zN, zA, zB, zC])
  refine nl_ (hK1 _ _ ?_); clear hK1 K1
  refine s_ (fun K2 hK2 => ?_)
  refine pu_ (v := .slice A n c) (y_move rfl (by rfl) (by rfl)) ?_
  (try simp only [zP, zN, zA, zB, zC])
  refine pu_ (v := .int .i64 n) (y_run (by rfl) (fun W => by go_simp)) ?_
  (try simp only [zP, zN, zA, zB, zC])
  refine pu_ (v := .slice A n c) (y_move rfl (by rfl) (by rfl)) ?_
  (try simp only [zP, zN, zA, zB, zC])
  refine pu_ (v := .int .i64 n) (y_run (by rfl) (fun W => by go_simp)) ?_
  (try simp only [zP, zN, zA, zB, zC])
  refine pu_ (v := .bool true) (y_run (by rfl) (fun W => by go_simp)) ?_
  (try simp only [zP, zN, zA, zB, zC])
  refine pu_ (v := .bool true) (y_assign rfl (by rfl) (by rfl)) ?_
  (try simp only [zP, zN, zA, zB, zC])
  refine nl_ (hK2 _ _ ?_); clear hK2 K2
  refine sq_ (fun K3 hK3 => ?_)
  refine s_ (fun K4 hK4 => ?_)
  refine pu_ (v := .int .i64 0) (y_assign rfl (by rfl) (by rfl)) ?_
  (try simp only [zP, zN, zA, zB, zC])
  refine nl_ (hK4 _ _ ?_); clear hK4 K4
  refine wp_block ?_
  refine loopk_ (fun (kq : Nat) (a' : Act) (w' : World) => ∃ (k : Nat), ∃ (us : Nat → Value), a' = ⟨#[.slice A n c, .slice A n c, us 2, us 3, .bool false, .bool true, .int .i64 k, us 7, us 8, us 9, us 10, us 11, us 12, us 13, us 14, us 15, us 16, us 17, us 18, us 19, us 20, us 21, us 22, us 23, us 24, us 25, us 26, us 27, us 28, us 29, us 30, us 31, us 32, us 33, us 34, us 35, us 36], []⟩ ∧ Hid (Ch [] w w') ∧ Hid (k ≤ n ∧ kq + k = n)) (n) (⟨0, fun us_ => (#[.slice A n c, .slice A n c, undef, undef, .bool false, .bool true, .int .i64 0, .slice A n c, .int .i64 n, .slice A n c, .int .i64 n, .bool true, undef, undef, undef, undef, undef, undef, undef, undef, undef, undef, undef, undef, undef, undef, undef, undef, undef, undef, undef, undef, undef, undef, undef, undef, undef] : Array Value).getD us_ undef, rfl, C0, Lib.hid ⟨by omega, by omega⟩⟩) ?_
  rintro kq _ w5 ⟨k, us, rfl, C0, hk⟩ K6 hK6
  refine sq_ (fun K7 hK7 => ?_)
  rcases (show k < n ∨ k = n by have := hk.out; omega) with h | h
  · have hlt := Lib.hid h
    clear h
    obtain ⟨a, hA, hcl⟩ := HC.out k hlt.out
    subst hA
    have HCL := Lib.hid (below_cells C0.out.below0 hcl)
    clear hcl
    have D17 := Lib.hid (show (k : Int) < (n : Int) by have := hlt.out; omega)
    have Wk := Lib.hid (show IntKind.i64.wrap ((k : Int) + 1) = ((k + 1 : Nat) : Int) by rw [wr64 (by have := hlt.out; have := HN.out; omega)]; omega)
    refine s_ (fun K8 hK8 => ?_)
    refine pu_ (v := .bool true) (y_move rfl (by rfl) (by rfl)) ?_
    (try simp only [zP, zN, zA, zB, zC])
    refine pu_ (v := .bool true) (y_move rfl (by rfl) (by rfl)) ?_
    (try simp only [zP, zN, zA, zB, zC])
    refine pu_ (v := .int .i64 k) (y_move rfl (by rfl) (by rfl)) ?_
    (try simp only [zP, zN, zA, zB, zC])
    refine pu_ (v := .slice (some a) n c) (y_move rfl (by rfl) (by rfl)) ?_
    (try simp only [zP, zN, zA, zB, zC])
    refine pu_ (v := .int .i64 n) (y_run (by rfl) (fun W => by go_simp)) ?_
    (try simp only [zP, zN, zA, zB, zC])
    refine pu_ (v := .bool true) (y_run (by rfl) (fun W => by have d := D17.out; go_simp)) ?_
    (try simp only [zP, zN, zA, zB, zC])
    refine pu_ (v := .bool true) (y_pick (t := true) (by rfl) rfl (by rfl) (by rfl)) ?_
    (try simp only [zP, zN, zA, zB, zC])
    refine pu_ (v := .bool true) (y_move rfl (by rfl) (by rfl)) ?_
    (try simp only [zP, zN, zA, zB, zC])
    refine pu_ (v := .int .i64 k) (y_move rfl (by rfl) (by rfl)) ?_
    (try simp only [zP, zN, zA, zB, zC])
    refine pu_ (v := .slice (some a) n c) (y_move rfl (by rfl) (by rfl)) ?_
    (try simp only [zP, zN, zA, zB, zC])
    refine pu_ (v := .int .i64 n) (y_run (by rfl) (fun W => by go_simp)) ?_
    (try simp only [zP, zN, zA, zB, zC])
    refine pu_ (v := .bool true) (y_run (by rfl) (fun W => by have d := D17.out; go_simp)) ?_
    (try simp only [zP, zN, zA, zB, zC])
    refine pu_ (v := .bool true) (y_pick (t := true) (by rfl) rfl (by rfl) (by rfl)) ?_
    (try simp only [zP, zN, zA, zB, zC])
    refine nl_ (hK8 _ _ ?_); clear hK8 K8
    refine wp_cond_true rfl ?_
    refine wp_skip ?_
    refine th_norm (hK7 _ _ ?_); try clear hK7 K7
    refine sq_ (fun K9 hK9 => ?_)
    refine wp_block ?_
    refine startk_ (S := fun W => CellsAt W (a.add (k * 2)) [.string (f1 k), .string (f2 k)] ∧ True) (ds := []) #[false, false, false, false, false, false, false, false, false, false] (by kernel_rfl) rfl rfl (fun W c => ⟨below_cells c.below0 HCL.out, trivial⟩) (fun w10 C11 hS12 => ?_)
    have C0' := Lib.hid (show Ch [] w w10 from C0.out.trans' C11 (fun x hx => absurd hx (by simp)))
    clear C0 HCL
    have C0 := C0'; clear C0'
    clear C11
    refine pure_ (i := 0) (N := some 27) (v := .slice (some a) n c) #[true, false, false, false, false, false, false, false, false, false] rfl rfl (by kernel_rfl) (fun c a w h => hP c a _ _ w h) (y_move rfl (by rfl) (by rfl)) rfl ?_
    (try simp only [zP, zN, zA, zB, zC])
    refine pure_ (i := 1) (N := some 28) (v := .int .i64 k) #[true, true, false, false, false, false, false, false, false, false] rfl rfl (by kernel_rfl) (fun c a w h => hP c a _ _ w h) (y_move rfl (by rfl) (by rfl)) rfl ?_
    (try simp only [zP, zN, zA, zB, zC])
    refine pure_ (i := 2) (N := some 29) (v := .pointer (some (a.add (k * 2)))) #[true, true, true, false, false, false, false, false, false, false] rfl rfl (by kernel_rfl) (fun c a w h => hP c a _ _ w h) (y_run (by rfl) (fun W => by have d := D17.out; go_simp)) rfl ?_
    (try simp only [zP, zN, zA, zB, zC])
    refine take_ (i := 3) (N := some 30) (v := .agg #[.string (f1 k), .string (f2 k)]) #[true, true, true, true, false, false, false, false, false, false] rfl rfl (by kernel_rfl) (fun c a w h => hP c a _ _ w h) (y_load (p := (a.add (k * 2))) rfl (by rfl) (by rfl) (fun W hS => run_loadVar_at hS.1 Try.underlying91 rfl (by kernel_rfl))) hS12 rfl ?_
    (try simp only [zP, zN, zA, zB, zC])
    refine pure_ (i := 4) (N := some 31) (v := .slice (some a) n c) #[true, true, true, true, true, false, false, false, false, false] rfl rfl (by kernel_rfl) (fun c a w h => hP c a _ _ w h) (y_move rfl (by rfl) (by rfl)) rfl ?_
    (try simp only [zP, zN, zA, zB, zC])
    refine pure_ (i := 5) (N := some 32) (v := .int .i64 k) #[true, true, true, true, true, true, false, false, false, false] rfl rfl (by kernel_rfl) (fun c a w h => hP c a _ _ w h) (y_move rfl (by rfl) (by rfl)) rfl ?_
    (try simp only [zP, zN, zA, zB, zC])
    refine pure_ (i := 6) (N := some 33) (v := .pointer (some (a.add (k * 2)))) #[true, true, true, true, true, true, true, false, false, false] rfl rfl (by kernel_rfl) (fun c a w h => hP c a _ _ w h) (y_run (by rfl) (fun W => by have d := D17.out; go_simp)) rfl ?_
    (try simp only [zP, zN, zA, zB, zC])
    refine take_ (i := 7) (N := some 34) (v := .agg #[.string (f1 k), .string (f2 k)]) #[true, true, true, true, true, true, true, true, false, false] rfl rfl (by kernel_rfl) (fun c a w h => hP c a _ _ w h) (y_load (p := (a.add (k * 2))) rfl (by rfl) (by rfl) (fun W hS => run_loadVar_at hS.1 Try.underlying91 rfl (by kernel_rfl))) hS12 rfl ?_
    (try simp only [zP, zN, zA, zB, zC])
    refine pure_ (i := 8) (N := some 35) (v := .bool true) #[true, true, true, true, true, true, true, true, true, false] rfl rfl (by kernel_rfl) (fun c a w h => hP c a _ _ w h) (y_run (by rfl) (fun W => by go_simp)) rfl ?_
    (try simp only [zP, zN, zA, zB, zC])
    refine pure_ (i := 9) (N := some 5) (v := .bool true) #[true, true, true, true, true, true, true, true, true, true] rfl rfl (by kernel_rfl) (fun c a w h => hP c a _ _ w h) (y_assign rfl (by rfl) (by rfl)) rfl ?_
    (try simp only [zP, zN, zA, zB, zC])
    refine done_ (by kernel_rfl) ?_
    refine ib_norm ?_
    refine th_norm (hK9 _ _ ?_); try clear hK9 K9
    refine r_ ?_
    refine pu_ (v := .int .i64 k) (y_move rfl (by rfl) (by rfl)) ?_
    (try simp only [zP, zN, zA, zB, zC])
    refine pu_ (v := .int .i64 (k + 1 : Nat)) (y_run (by rfl) (fun W => by have d := Wk.out; go_simp)) ?_
    (try simp only [zP, zN, zA, zB, zC])
    refine pu_ (v := .int .i64 (k + 1 : Nat)) (y_assign rfl (by rfl) (by rfl)) ?_
    (try simp only [zP, zN, zA, zB, zC])
    refine nl_ ?_
    exact th_norm (hK6 (kq - 1) _ _ (by have := hlt.out; have := hk.out; omega) ⟨k + 1, fun us_ => (#[.slice (some a) n c, .slice (some a) n c, us 2, us 3, .bool false, .bool true, .int .i64 (k + 1 : Nat), us 7, us 8, us 9, us 10, us 11, .bool true, .bool true, .int .i64 k, .slice (some a) n c, .int .i64 n, .bool true, .bool true, .bool true, .int .i64 k, .slice (some a) n c, .int .i64 n, .bool true, .bool true, .int .i64 k, .int .i64 (k + 1 : Nat), .slice (some a) n c, .int .i64 k, .pointer (some (a.add (k * 2))), .agg #[.string (f1 k), .string (f2 k)], .slice (some a) n c, .int .i64 k, .pointer (some (a.add (k * 2))), .agg #[.string (f1 k), .string (f2 k)], .bool true, us 36] : Array Value).getD us_ undef, rfl, C0, Lib.hid ⟨by have := hlt.out; omega, by have := hlt.out; have := hk.out; omega⟩⟩)
  · have D17 := Lib.hid (show ¬ (k : Int) < (n : Int) by have := hk.out; omega)
    clear h
    refine s_ (fun K13 hK13 => ?_)
    refine pu_ (v := .bool true) (y_move rfl (by rfl) (by rfl)) ?_
    (try simp only [zP, zN, zA, zB, zC])
    refine pu_ (v := .bool true) (y_move rfl (by rfl) (by rfl)) ?_
    (try simp only [zP, zN, zA, zB, zC])
    refine pu_ (v := .int .i64 k) (y_move rfl (by rfl) (by rfl)) ?_
    (try simp only [zP, zN, zA, zB, zC])
    refine pu_ (v := .slice A n c) (y_move rfl (by rfl) (by rfl)) ?_
    (try simp only [zP, zN, zA, zB, zC])
    refine pu_ (v := .int .i64 n) (y_run (by rfl) (fun W => by go_simp)) ?_
    (try simp only [zP, zN, zA, zB, zC])
    refine pu_ (v := .bool false) (y_run (by rfl) (fun W => by have d := D17.out; go_simp)) ?_
    (try simp only [zP, zN, zA, zB, zC])
    refine pu_ (v := .bool false) (y_pick (t := true) (by rfl) rfl (by rfl) (by rfl)) ?_
    (try simp only [zP, zN, zA, zB, zC])
    refine pu_ (v := .bool false) (y_move rfl (by rfl) (by rfl)) ?_
    (try simp only [zP, zN, zA, zB, zC])
    refine pu_ (y_off (by rfl)) ?_
    (try simp only [zP, zN, zA, zB, zC])
    refine pu_ (y_off (by rfl)) ?_
    (try simp only [zP, zN, zA, zB, zC])
    refine pu_ (y_off (by rfl)) ?_
    (try simp only [zP, zN, zA, zB, zC])
    refine pu_ (y_off (by rfl)) ?_
    (try simp only [zP, zN, zA, zB, zC])
    refine pu_ (v := .bool false) (y_pick (t := false) (by rfl) rfl (by rfl) (by rfl)) ?_
    (try simp only [zP, zN, zA, zB, zC])
    refine nl_ (hK13 _ _ ?_); clear hK13 K13
    refine wp_cond_false rfl ?_
    refine wp_exit ?_
    refine th_exit ?_
    refine th_exit ?_
    refine ib_exit ?_
    refine th_norm (hK3 _ _ ?_); try clear hK3 K3
    refine s_ (fun K14 hK14 => ?_)
    refine pu_ (v := .bool true) (y_move rfl (by rfl) (by rfl)) ?_
    (try simp only [zP, zN, zA, zB, zC])
    refine pu_ (v := .bool true) (y_assign rfl (by rfl) (by rfl)) ?_
    (try simp only [zP, zN, zA, zB, zC])
    refine nl_ (hK14 _ _ ?_); clear hK14 K14
    refine wp_ret ?_
    refine hQ _ _ _ ?_
    refine bodyPost_ret (res1 rfl (rdv_tmp (v := .bool true) (by rfl))) rfl ?_
    exact ⟨rfl, C0.out⟩
theorem spods_   :
    Calls Try.prog 60 #[.slice none 0 0, .slice none 0 0] w fun en w' => en = .returned (.bool true) ∧ Ch [] w w' := by
  have C0 := Lib.hid (Ch.refl [] w)
  go_enter Try.func60, Try.ntmps60
  refine q_ (fun Q hQ hP => ?_)
  refine s_ (fun K1 hK1 => ?_)
  refine pu_ (v := .bool false) (y_assign rfl (by rfl) (by rfl)) ?_
  (try simp only [zP, zN, zA, zB, zC])
  refine nl_ (hK1 _ _ ?_); clear hK1 K1
  refine s_ (fun K2 hK2 => ?_)
  refine pu_ (v := .slice none 0 0) (y_move rfl (by rfl) (by rfl)) ?_
  (try simp only [zP, zN, zA, zB, zC])
  refine pu_ (v := .int .i64 0) (y_run (by rfl) (fun W => by go_simp)) ?_
  (try simp only [zP, zN, zA, zB, zC])
  refine pu_ (v := .slice none 0 0) (y_move rfl (by rfl) (by rfl)) ?_
  (try simp only [zP, zN, zA, zB, zC])
  refine pu_ (v := .int .i64 0) (y_run (by rfl) (fun W => by go_simp)) ?_
  (try simp only [zP, zN, zA, zB, zC])
  refine pu_ (v := .bool true) (y_run (by rfl) (fun W => by go_simp)) ?_
  (try simp only [zP, zN, zA, zB, zC])
  refine pu_ (v := .bool true) (y_assign rfl (by rfl) (by rfl)) ?_
  (try simp only [zP, zN, zA, zB, zC])
  refine nl_ (hK2 _ _ ?_); clear hK2 K2
  refine sq_ (fun K3 hK3 => ?_)
  refine s_ (fun K4 hK4 => ?_)
  refine pu_ (v := .int .i64 0) (y_assign rfl (by rfl) (by rfl)) ?_
  (try simp only [zP, zN, zA, zB, zC])
  refine nl_ (hK4 _ _ ?_); clear hK4 K4
  refine wp_block ?_
  refine loopk_ (fun (kq : Nat) (a' : Act) (w' : World) => ∃ (k : Nat), ∃ (us : Nat → Value), a' = ⟨#[.slice none 0 0, .slice none 0 0, us 2, us 3, .bool false, .bool true, .int .i64 0, us 7, us 8, us 9, us 10, us 11, us 12, us 13, us 14, us 15, us 16, us 17, us 18, us 19, us 20, us 21, us 22, us 23, us 24, us 25, us 26, us 27, us 28, us 29, us 30, us 31, us 32, us 33, us 34, us 35, us 36], []⟩ ∧ Hid (Ch [] w w') ∧ Hid (k = 0 ∧ kq = 0)) (0) (⟨0, fun us_ => (#[.slice none 0 0, .slice none 0 0, undef, undef, .bool false, .bool true, .int .i64 0, .slice none 0 0, .int .i64 0, .slice none 0 0, .int .i64 0, .bool true, undef, undef, undef, undef, undef, undef, undef, undef, undef, undef, undef, undef, undef, undef, undef, undef, undef, undef, undef, undef, undef, undef, undef, undef, undef] : Array Value).getD us_ undef, rfl, C0, Lib.hid ⟨rfl, rfl⟩⟩) ?_
  rintro kq _ w5 ⟨k, us, rfl, C0, hk⟩ K6 hK6
  refine sq_ (fun K7 hK7 => ?_)
  refine s_ (fun K8 hK8 => ?_)
  refine pu_ (v := .bool true) (y_move rfl (by rfl) (by rfl)) ?_
  (try simp only [zP, zN, zA, zB, zC])
  refine pu_ (v := .bool true) (y_move rfl (by rfl) (by rfl)) ?_
  (try simp only [zP, zN, zA, zB, zC])
  refine pu_ (v := .int .i64 0) (y_move rfl (by rfl) (by rfl)) ?_
  (try simp only [zP, zN, zA, zB, zC])
  refine pu_ (v := .slice none 0 0) (y_move rfl (by rfl) (by rfl)) ?_
  (try simp only [zP, zN, zA, zB, zC])
  refine pu_ (v := .int .i64 0) (y_run (by rfl) (fun W => by go_simp)) ?_
  (try simp only [zP, zN, zA, zB, zC])
  refine pu_ (v := .bool false) (y_run (by rfl) (fun W => by go_simp)) ?_
  (try simp only [zP, zN, zA, zB, zC])
  refine pu_ (v := .bool false) (y_pick (t := true) (by rfl) rfl (by rfl) (by rfl)) ?_
  (try simp only [zP, zN, zA, zB, zC])
  refine pu_ (v := .bool false) (y_move rfl (by rfl) (by rfl)) ?_
  (try simp only [zP, zN, zA, zB, zC])
  refine pu_ (y_off (by rfl)) ?_
  (try simp only [zP, zN, zA, zB, zC])
  refine pu_ (y_off (by rfl)) ?_
  (try simp only [zP, zN, zA, zB, zC])
  refine pu_ (y_off (by rfl)) ?_
  (try simp only [zP, zN, zA, zB, zC])
  refine pu_ (y_off (by rfl)) ?_
  (try simp only [zP, zN, zA, zB, zC])
  refine pu_ (v := .bool false) (y_pick (t := false) (by rfl) rfl (by rfl) (by rfl)) ?_
  (try simp only [zP, zN, zA, zB, zC])
  refine nl_ (hK8 _ _ ?_); clear hK8 K8
  refine wp_cond_false rfl ?_
  refine wp_exit ?_
  refine th_exit ?_
  refine th_exit ?_
  refine ib_exit ?_
  refine th_norm (hK3 _ _ ?_); try clear hK3 K3
  refine s_ (fun K9 hK9 => ?_)
  refine pu_ (v := .bool true) (y_move rfl (by rfl) (by rfl)) ?_
  (try simp only [zP, zN, zA, zB, zC])
  refine pu_ (v := .bool true) (y_assign rfl (by rfl) (by rfl)) ?_
  (try simp only [zP, zN, zA, zB, zC])
  refine nl_ (hK9 _ _ ?_); clear hK9 K9
  refine wp_ret ?_
  refine hQ _ _ _ ?_
  refine bodyPost_ret (res1 rfl (rdv_tmp (v := .bool true) (by rfl))) rfl ?_
  exact ⟨rfl, C0.out⟩
theorem sres_   :
    Calls Try.prog 61 #[.slice none 0 0, .slice none 0 0] w fun en w' => en = .returned (.bool true) ∧ Ch [] w w' := by
  have C0 := Lib.hid (Ch.refl [] w)
  go_enter Try.func61, Try.ntmps61
  refine q_ (fun Q hQ hP => ?_)
  refine s_ (fun K1 hK1 => ?_)
  refine pu_ (v := .bool false) (y_assign rfl (by rfl) (by rfl)) ?_
  (try simp only [zP, zN, zA, zB, zC])
  refine nl_ (hK1 _ _ ?_); clear hK1 K1
  refine s_ (fun K2 hK2 => ?_)
  refine pu_ (v := .slice none 0 0) (y_move rfl (by rfl) (by rfl)) ?_
  (try simp only [zP, zN, zA, zB, zC])
  refine pu_ (v := .int .i64 0) (y_run (by rfl) (fun W => by go_simp)) ?_
  (try simp only [zP, zN, zA, zB, zC])
  refine pu_ (v := .slice none 0 0) (y_move rfl (by rfl) (by rfl)) ?_
  (try simp only [zP, zN, zA, zB, zC])
  refine pu_ (v := .int .i64 0) (y_run (by rfl) (fun W => by go_simp)) ?_
  (try simp only [zP, zN, zA, zB, zC])
  refine pu_ (v := .bool true) (y_run (by rfl) (fun W => by go_simp)) ?_
  (try simp only [zP, zN, zA, zB, zC])
  refine pu_ (v := .bool true) (y_assign rfl (by rfl) (by rfl)) ?_
  (try simp only [zP, zN, zA, zB, zC])
  refine nl_ (hK2 _ _ ?_); clear hK2 K2
  refine sq_ (fun K3 hK3 => ?_)
  refine s_ (fun K4 hK4 => ?_)
  refine pu_ (v := .int .i64 0) (y_assign rfl (by rfl) (by rfl)) ?_
  (try simp only [zP, zN, zA, zB, zC])
  refine nl_ (hK4 _ _ ?_); clear hK4 K4
  refine wp_block ?_
  refine loopk_ (fun (kq : Nat) (a' : Act) (w' : World) => ∃ (k : Nat), ∃ (us : Nat → Value), a' = ⟨#[.slice none 0 0, .slice none 0 0, us 2, us 3, .bool false, .bool true, .int .i64 0, us 7, us 8, us 9, us 10, us 11, us 12, us 13, us 14, us 15, us 16, us 17, us 18, us 19, us 20, us 21, us 22, us 23, us 24, us 25, us 26, us 27, us 28, us 29, us 30, us 31, us 32, us 33, us 34, us 35, us 36], []⟩ ∧ Hid (Ch [] w w') ∧ Hid (k = 0 ∧ kq = 0)) (0) (⟨0, fun us_ => (#[.slice none 0 0, .slice none 0 0, undef, undef, .bool false, .bool true, .int .i64 0, .slice none 0 0, .int .i64 0, .slice none 0 0, .int .i64 0, .bool true, undef, undef, undef, undef, undef, undef, undef, undef, undef, undef, undef, undef, undef, undef, undef, undef, undef, undef, undef, undef, undef, undef, undef, undef, undef] : Array Value).getD us_ undef, rfl, C0, Lib.hid ⟨rfl, rfl⟩⟩) ?_
  rintro kq _ w5 ⟨k, us, rfl, C0, hk⟩ K6 hK6
  refine sq_ (fun K7 hK7 => ?_)
  refine s_ (fun K8 hK8 => ?_)
  refine pu_ (v := .bool true) (y_move rfl (by rfl) (by rfl)) ?_
  (try simp only [zP, zN, zA, zB, zC])
  refine pu_ (v := .bool true) (y_move rfl (by rfl) (by rfl)) ?_
  (try simp only [zP, zN, zA, zB, zC])
  refine pu_ (v := .int .i64 0) (y_move rfl (by rfl) (by rfl)) ?_
  (try simp only [zP, zN, zA, zB, zC])
  refine pu_ (v := .slice none 0 0) (y_move rfl (by rfl) (by rfl)) ?_
  (try simp only [zP, zN, zA, zB, zC])
  refine pu_ (v := .int .i64 0) (y_run (by rfl) (fun W => by go_simp)) ?_
  (try simp only [zP, zN, zA, zB, zC])
  refine pu_ (v := .bool false) (y_run (by rfl) (fun W => by go_simp)) ?_
  (try simp only [zP, zN, zA, zB, zC])
  refine pu_ (v := .bool false) (y_pick (t := true) (by rfl) rfl (by rfl) (by rfl)) ?_
  (try simp only [zP, zN, zA, zB, zC])
  refine pu_ (v := .bool false) (y_move rfl (by rfl) (by rfl)) ?_
  (try simp only [zP, zN, zA, zB, zC])
  refine pu_ (y_off (by rfl)) ?_
  (try simp only [zP, zN, zA, zB, zC])
  refine pu_ (y_off (by rfl)) ?_
  (try simp only [zP, zN, zA, zB, zC])
  refine pu_ (y_off (by rfl)) ?_
  (try simp only [zP, zN, zA, zB, zC])
  refine pu_ (y_off (by rfl)) ?_
  (try simp only [zP, zN, zA, zB, zC])
  refine pu_ (v := .bool false) (y_pick (t := false) (by rfl) rfl (by rfl) (by rfl)) ?_
  (try simp only [zP, zN, zA, zB, zC])
  refine nl_ (hK8 _ _ ?_); clear hK8 K8
  refine wp_cond_false rfl ?_
  refine wp_exit ?_
  refine th_exit ?_
  refine th_exit ?_
  refine ib_exit ?_
  refine th_norm (hK3 _ _ ?_); try clear hK3 K3
  refine s_ (fun K9 hK9 => ?_)
  refine pu_ (v := .bool true) (y_move rfl (by rfl) (by rfl)) ?_
  (try simp only [zP, zN, zA, zB, zC])
  refine pu_ (v := .bool true) (y_assign rfl (by rfl) (by rfl)) ?_
  (try simp only [zP, zN, zA, zB, zC])
  refine nl_ (hK9 _ _ ?_); clear hK9 K9
  refine wp_ret ?_
  refine hQ _ _ _ ?_
  refine bodyPost_ret (res1 rfl (rdv_tmp (v := .bool true) (by rfl))) rfl ?_
  exact ⟨rfl, C0.out⟩
theorem sreply_ {y0 y1 y2 y3 : Int} {y4 : ByteArray}  :
    Calls Try.prog 50 #[.agg #[.int .i64 y0, .int .i64 y1, .int .i64 y2, .int .u64 y3, .string y4, .slice none 0 0, .slice none 0 0], .agg #[.int .i64 y0, .int .i64 y1, .int .i64 y2, .int .u64 y3, .string y4, .slice none 0 0, .slice none 0 0]] w fun en w' => en = .returned (.bool true) ∧ Ch [] w w' := by
  have C0 := Lib.hid (Ch.refl [] w)
  go_enter Try.func50, Try.ntmps50
  refine q_ (fun Q hQ hP => ?_)
  refine s_ (fun K1 hK1 => ?_)
  refine ef_ (fun K2 hK2 => ?_)
  refine e_boxN (by rfl) rfl rfl (cs := #[.int .i64 y0, .int .i64 y1, .int .i64 y2, .int .u64 y3, .string y4, .slice none 0 0, .slice none 0 0]) (v := .agg #[.int .i64 y0, .int .i64 y1, .int .i64 y2, .int .u64 y3, .string y4, .slice none 0 0, .slice none 0 0]) (by rfl) rfl ?_
  rintro g3 w4 HG5 B6 C7
  have nw8 := Lib.hid (show w.heap.size ≤ g3 by have := C0.out.size; have := HG5.out; omega)
  have C0' := Lib.hid (show Ch [] w w4 from C0.out.trans' C7 (fun x hx => absurd hx (by simp)))
  clear C0
  have C0 := C0'; clear C0'
  have Fg3 := Lib.hid (show Blk w4 g3 (#[.int .i64 y0, .int .i64 y1, .int .i64 y2, .int .u64 y3, .string y4, .slice none 0 0, .slice none 0 0]) 42 from B6); clear B6 C7
  refine hK2 _ _ ?_; clear hK2 K2
  (try simp only [zP, zN, zA, zB, zC])
  refine ef_ (fun K9 hK9 => ?_)
  refine e_boxN (by rfl) rfl rfl (cs := #[.int .i64 y0, .int .i64 y1, .int .i64 y2, .int .u64 y3, .string y4, .slice none 0 0, .slice none 0 0]) (v := .agg #[.int .i64 y0, .int .i64 y1, .int .i64 y2, .int .u64 y3, .string y4, .slice none 0 0, .slice none 0 0]) (by rfl) rfl ?_
  rintro g10 w11 HG12 B13 C14
  have nw15 := Lib.hid (show w.heap.size ≤ g10 by have := C0.out.size; have := HG12.out; omega)
  have ne16 := Lib.hid (Fg3.out.ne_new HG12)
  have C0' := Lib.hid (show Ch [] w w11 from C0.out.trans' C14 (fun x hx => absurd hx (by simp)))
  have Fg3' := Lib.hid (show Blk w11 g3 (#[.int .i64 y0, .int .i64 y1, .int .i64 y2, .int .u64 y3, .string y4, .slice none 0 0, .slice none 0 0]) 42 from C14.blk Fg3.out nin_nil)
  clear C0 Fg3
  have C0 := C0'; clear C0'
  have Fg3 := Fg3'; clear Fg3'
  have Fg10 := Lib.hid (show Blk w11 g10 (#[.int .i64 y0, .int .i64 y1, .int .i64 y2, .int .u64 y3, .string y4, .slice none 0 0, .slice none 0 0]) 42 from B13); clear B13 C14
  refine hK9 _ _ ?_; clear hK9 K9
  (try simp only [zP, zN, zA, zB, zC])
  refine pu_ (v := .bool false) (y_assign rfl (by rfl) (by rfl)) ?_
  (try simp only [zP, zN, zA, zB, zC])
  refine nl_ (hK1 _ _ ?_); clear hK1 K1
  refine s_ (fun K17 hK17 => ?_)
  refine pu_ (v := .pointer (some ⟨g3, 0, none⟩)) (y_run (by rfl) (fun W => by go_simp)) ?_
  (try simp only [zP, zN, zA, zB, zC])
  refine ld_ (v := .int .i64 y0) rfl (by rfl) (by rfl) (run_load_one ((Fg3.out.cell 0).trans rfl) Try.underlying35 rfl) ?_
  (try simp only [zP, zN, zA, zB, zC])
  refine pu_ (v := .pointer (some ⟨g10, 0, none⟩)) (y_run (by rfl) (fun W => by go_simp)) ?_
  (try simp only [zP, zN, zA, zB, zC])
  refine ld_ (v := .int .i64 y0) rfl (by rfl) (by rfl) (run_load_one ((Fg10.out.cell 0).trans rfl) Try.underlying35 rfl) ?_
  (try simp only [zP, zN, zA, zB, zC])
  refine pu_ (v := .bool true) (y_run (by rfl) (fun W => by go_simp)) ?_
  (try simp only [zP, zN, zA, zB, zC])
  refine pu_ (v := .bool true) (y_move rfl (by rfl) (by rfl)) ?_
  (try simp only [zP, zN, zA, zB, zC])
  refine pu_ (v := .pointer (some ⟨g3, 1, none⟩)) (y_run (by rfl) (fun W => by go_simp)) ?_
  (try simp only [zP, zN, zA, zB, zC])
  refine ld_ (v := .int .i64 y1) rfl (by rfl) (by rfl) (run_load_one ((Fg3.out.cell 1).trans rfl) Try.underlying3 rfl) ?_
  (try simp only [zP, zN, zA, zB, zC])
  refine pu_ (v := .pointer (some ⟨g10, 1, none⟩)) (y_run (by rfl) (fun W => by go_simp)) ?_
  (try simp only [zP, zN, zA, zB, zC])
  refine ld_ (v := .int .i64 y1) rfl (by rfl) (by rfl) (run_load_one ((Fg10.out.cell 1).trans rfl) Try.underlying3 rfl) ?_
  (try simp only [zP, zN, zA, zB, zC])
  refine pu_ (v := .bool true) (y_run (by rfl) (fun W => by go_simp)) ?_
  (try simp only [zP, zN, zA, zB, zC])
  refine pu_ (v := .bool true) (y_pick (t := true) (by rfl) rfl (by rfl) (by rfl)) ?_
  (try simp only [zP, zN, zA, zB, zC])
  refine pu_ (v := .bool true) (y_move rfl (by rfl) (by rfl)) ?_
  (try simp only [zP, zN, zA, zB, zC])
  refine pu_ (v := .pointer (some ⟨g3, 2, none⟩)) (y_run (by rfl) (fun W => by go_simp)) ?_
  (try simp only [zP, zN, zA, zB, zC])
  refine ld_ (v := .int .i64 y2) rfl (by rfl) (by rfl) (run_load_one ((Fg3.out.cell 2).trans rfl) Try.underlying3 rfl) ?_
  (try simp only [zP, zN, zA, zB, zC])
  refine pu_ (v := .pointer (some ⟨g10, 2, none⟩)) (y_run (by rfl) (fun W => by go_simp)) ?_
  (try simp only [zP, zN, zA, zB, zC])
  refine ld_ (v := .int .i64 y2) rfl (by rfl) (by rfl) (run_load_one ((Fg10.out.cell 2).trans rfl) Try.underlying3 rfl) ?_
  (try simp only [zP, zN, zA, zB, zC])
  refine pu_ (v := .bool true) (y_run (by rfl) (fun W => by go_simp)) ?_
  (try simp only [zP, zN, zA, zB, zC])
  refine pu_ (v := .bool true) (y_pick (t := true) (by rfl) rfl (by rfl) (by rfl)) ?_
  (try simp only [zP, zN, zA, zB, zC])
  refine pu_ (v := .bool true) (y_move rfl (by rfl) (by rfl)) ?_
  (try simp only [zP, zN, zA, zB, zC])
  refine pu_ (v := .pointer (some ⟨g3, 3, none⟩)) (y_run (by rfl) (fun W => by go_simp)) ?_
  (try simp only [zP, zN, zA, zB, zC])
  refine ld_ (v := .int .u64 y3) rfl (by rfl) (by rfl) (run_load_one ((Fg3.out.cell 3).trans rfl) Try.underlying26 rfl) ?_
  (try simp only [zP, zN, zA, zB, zC])
  refine pu_ (v := .pointer (some ⟨g10, 3, none⟩)) (y_run (by rfl) (fun W => by go_simp)) ?_
  (try simp only [zP, zN, zA, zB, zC])
  refine ld_ (v := .int .u64 y3) rfl (by rfl) (by rfl) (run_load_one ((Fg10.out.cell 3).trans rfl) Try.underlying26 rfl) ?_
  (try simp only [zP, zN, zA, zB, zC])
  refine pu_ (v := .bool true) (y_run (by rfl) (fun W => by go_simp)) ?_
  (try simp only [zP, zN, zA, zB, zC])
  refine pu_ (v := .bool true) (y_pick (t := true) (by rfl) rfl (by rfl) (by rfl)) ?_
  (try simp only [zP, zN, zA, zB, zC])
  refine pu_ (v := .bool true) (y_move rfl (by rfl) (by rfl)) ?_
  (try simp only [zP, zN, zA, zB, zC])
  refine pu_ (v := .pointer (some ⟨g3, 4, none⟩)) (y_run (by rfl) (fun W => by go_simp)) ?_
  (try simp only [zP, zN, zA, zB, zC])
  refine ld_ (v := .string y4) rfl (by rfl) (by rfl) (run_load_one ((Fg3.out.cell 4).trans rfl) Try.underlying9 rfl) ?_
  (try simp only [zP, zN, zA, zB, zC])
  refine pu_ (v := .pointer (some ⟨g10, 4, none⟩)) (y_run (by rfl) (fun W => by go_simp)) ?_
  (try simp only [zP, zN, zA, zB, zC])
  refine ld_ (v := .string y4) rfl (by rfl) (by rfl) (run_load_one ((Fg10.out.cell 4).trans rfl) Try.underlying9 rfl) ?_
  (try simp only [zP, zN, zA, zB, zC])
  refine pu_ (v := .bool true) (y_run (by rfl) (fun W => by go_simp)) ?_
  (try simp only [zP, zN, zA, zB, zC])
  refine pu_ (v := .bool true) (y_pick (t := true) (by rfl) rfl (by rfl) (by rfl)) ?_
  (try simp only [zP, zN, zA, zB, zC])
  refine pu_ (v := .bool true) (y_move rfl (by rfl) (by rfl)) ?_
  (try simp only [zP, zN, zA, zB, zC])
  refine pu_ (v := .pointer (some ⟨g3, 5, none⟩)) (y_run (by rfl) (fun W => by go_simp)) ?_
  (try simp only [zP, zN, zA, zB, zC])
  refine ld_ (v := .slice none 0 0) rfl (by rfl) (by rfl) (run_load_one ((Fg3.out.cell 5).trans rfl) Try.underlying39 rfl) ?_
  (try simp only [zP, zN, zA, zB, zC])
  refine pu_ (v := .pointer (some ⟨g10, 5, none⟩)) (y_run (by rfl) (fun W => by go_simp)) ?_
  (try simp only [zP, zN, zA, zB, zC])
  refine ld_ (v := .slice none 0 0) rfl (by rfl) (by rfl) (run_load_one ((Fg10.out.cell 5).trans rfl) Try.underlying39 rfl) ?_
  (try simp only [zP, zN, zA, zB, zC])
  refine ef_ (fun K18 hK18 => ?_)
  refine e_call Try.func60 (by kernel_rfl) rfl #[.slice none 0 0, .slice none 0 0] (by rfl) rfl rfl (by first | rfl | (simp only [List.map_toArray, List.map_cons, List.map_nil]; first | done | rfl)) (spods_) ?_
  rintro en w20 ⟨rfl, cc19⟩
  refine ⟨_, rfl, ?_⟩
  have C0' := Lib.hid (show Ch [] w w20 from C0.out.trans' cc19 (fun x hx => absurd hx (by simp)))
  have Fg3' := Lib.hid (show Blk w20 g3 (#[.int .i64 y0, .int .i64 y1, .int .i64 y2, .int .u64 y3, .string y4, .slice none 0 0, .slice none 0 0]) 42 from cc19.blk Fg3.out nin_nil)
  have Fg10' := Lib.hid (show Blk w20 g10 (#[.int .i64 y0, .int .i64 y1, .int .i64 y2, .int .u64 y3, .string y4, .slice none 0 0, .slice none 0 0]) 42 from cc19.blk Fg10.out nin_nil)
  clear C0 Fg3 Fg10
  have C0 := C0'; clear C0'
  have Fg3 := Fg3'; clear Fg3'
  have Fg10 := Fg10'; clear Fg10'
  clear cc19
  refine hK18 _ _ ?_; clear hK18 K18
  (try simp only [zP, zN, zA, zB, zC])
  refine pu_ (v := .bool true) (y_pick (t := true) (by rfl) rfl (by rfl) (by rfl)) ?_
  (try simp only [zP, zN, zA, zB, zC])
  refine pu_ (v := .bool true) (y_move rfl (by rfl) (by rfl)) ?_
  (try simp only [zP, zN, zA, zB, zC])
  refine pu_ (v := .pointer (some ⟨g3, 6, none⟩)) (y_run (by rfl) (fun W => by go_simp)) ?_
  (try simp only [zP, zN, zA, zB, zC])
  refine ld_ (v := .slice none 0 0) rfl (by rfl) (by rfl) (run_load_one ((Fg3.out.cell 6).trans rfl) Try.underlying40 rfl) ?_
  (try simp only [zP, zN, zA, zB, zC])
  refine pu_ (v := .pointer (some ⟨g10, 6, none⟩)) (y_run (by rfl) (fun W => by go_simp)) ?_
  (try simp only [zP, zN, zA, zB, zC])
  refine ld_ (v := .slice none 0 0) rfl (by rfl) (by rfl) (run_load_one ((Fg10.out.cell 6).trans rfl) Try.underlying40 rfl) ?_
  (try simp only [zP, zN, zA, zB, zC])
  refine ef_ (fun K21 hK21 => ?_)
  refine e_call Try.func61 (by kernel_rfl) rfl #[.slice none 0 0, .slice none 0 0] (by rfl) rfl rfl (by first | rfl | (simp only [List.map_toArray, List.map_cons, List.map_nil]; first | done | rfl)) (sres_) ?_
  rintro en w23 ⟨rfl, cc22⟩
  refine ⟨_, rfl, ?_⟩
  have C0' := Lib.hid (show Ch [] w w23 from C0.out.trans' cc22 (fun x hx => absurd hx (by simp)))
  have Fg3' := Lib.hid (show Blk w23 g3 (#[.int .i64 y0, .int .i64 y1, .int .i64 y2, .int .u64 y3, .string y4, .slice none 0 0, .slice none 0 0]) 42 from cc22.blk Fg3.out nin_nil)
  have Fg10' := Lib.hid (show Blk w23 g10 (#[.int .i64 y0, .int .i64 y1, .int .i64 y2, .int .u64 y3, .string y4, .slice none 0 0, .slice none 0 0]) 42 from cc22.blk Fg10.out nin_nil)
  clear C0 Fg3 Fg10
  have C0 := C0'; clear C0'
  have Fg3 := Fg3'; clear Fg3'
  have Fg10 := Fg10'; clear Fg10'
  clear cc22
  refine hK21 _ _ ?_; clear hK21 K21
  (try simp only [zP, zN, zA, zB, zC])
  refine pu_ (v := .bool true) (y_pick (t := true) (by rfl) rfl (by rfl) (by rfl)) ?_
  (try simp only [zP, zN, zA, zB, zC])
  refine pu_ (v := .bool true) (y_assign rfl (by rfl) (by rfl)) ?_
  (try simp only [zP, zN, zA, zB, zC])
  refine nl_ (hK17 _ _ ?_); clear hK17 K17
  refine wp_ret ?_
  refine hQ _ _ _ ?_
  refine bodyPost_ret (res1 rfl (rdv_tmp (v := .bool true) (by rfl))) rfl ?_
  exact ⟨rfl, C0.out⟩
/-- A spec that is the same as itself. -/
def SameS (W : World) (cs : List Value) : Prop := ∀ w', Below W.heap.size W w' → Calls Try.prog 58 #[.agg cs.toArray, .agg cs.toArray] w' fun en w2 => en = .returned (.bool true) ∧ Ch [] w' w2
theorem scall_ {x0 x1 x2 x10 x11 x12 x13 q1 q2 q3 : Int} {sn x14 : ByteArray} {A A1 A2 A3 : Option Addr} {n c n1 c1 n2 c2 n3 c3 : Nat} {f1 f2 : Nat → ByteArray} (HS : Hid (SameS w [.string sn, .slice A1 n1 c1, .slice A2 n2 c2, .slice A3 n3 c3, .int .i64 q1, .int .i64 q2, .int .i64 q3])) (HN : Hid (n ≤ 9223372036854775807)) (HC : Hid (labF w A n f1 f2))  :
    Calls Try.prog 49 #[.agg #[.int .i64 x0, .int .i64 x1, .int .u64 x2, .string sn, .slice A1 n1 c1, .slice A2 n2 c2, .slice A3 n3 c3, .int .i64 q1, .int .i64 q2, .int .i64 q3, .int .i64 x10, .int .i64 x11, .int .i64 x12, .int .i64 x13, .string x14, .slice A n c], .agg #[.int .i64 x0, .int .i64 x1, .int .u64 x2, .string sn, .slice A1 n1 c1, .slice A2 n2 c2, .slice A3 n3 c3, .int .i64 q1, .int .i64 q2, .int .i64 q3, .int .i64 x10, .int .i64 x11, .int .i64 x12, .int .i64 x13, .string x14, .slice A n c]] w fun en w' => en = .returned (.bool true) ∧ Ch [] w w' := by
  have C0 := Lib.hid (Ch.refl [] w)
  go_enter Try.func49, Try.ntmps49
  refine q_ (fun Q hQ hP => ?_)
  refine s_ (fun K1 hK1 => ?_)
  refine ef_ (fun K2 hK2 => ?_)
  refine e_boxN (by rfl) rfl rfl (cs := #[.int .i64 x0, .int .i64 x1, .int .u64 x2, .string sn, .slice A1 n1 c1, .slice A2 n2 c2, .slice A3 n3 c3, .int .i64 q1, .int .i64 q2, .int .i64 q3, .int .i64 x10, .int .i64 x11, .int .i64 x12, .int .i64 x13, .string x14, .slice A n c]) (v := .agg #[.int .i64 x0, .int .i64 x1, .int .u64 x2, .string sn, .slice A1 n1 c1, .slice A2 n2 c2, .slice A3 n3 c3, .int .i64 q1, .int .i64 q2, .int .i64 q3, .int .i64 x10, .int .i64 x11, .int .i64 x12, .int .i64 x13, .string x14, .slice A n c]) (by rfl) rfl ?_
  rintro g3 w4 HG5 B6 C7
  have nw8 := Lib.hid (show w.heap.size ≤ g3 by have := C0.out.size; have := HG5.out; omega)
  have C0' := Lib.hid (show Ch [] w w4 from C0.out.trans' C7 (fun x hx => absurd hx (by simp)))
  clear C0
  have C0 := C0'; clear C0'
  have Fg3 := Lib.hid (show Blk w4 g3 (#[.int .i64 x0, .int .i64 x1, .int .u64 x2, .string sn, .slice A1 n1 c1, .slice A2 n2 c2, .slice A3 n3 c3, .int .i64 q1, .int .i64 q2, .int .i64 q3, .int .i64 x10, .int .i64 x11, .int .i64 x12, .int .i64 x13, .string x14, .slice A n c]) 32 from B6); clear B6 C7
  refine hK2 _ _ ?_; clear hK2 K2
  (try simp only [zP, zN, zA, zB, zC])
  refine ef_ (fun K9 hK9 => ?_)
  refine e_boxN (by rfl) rfl rfl (cs := #[.int .i64 x0, .int .i64 x1, .int .u64 x2, .string sn, .slice A1 n1 c1, .slice A2 n2 c2, .slice A3 n3 c3, .int .i64 q1, .int .i64 q2, .int .i64 q3, .int .i64 x10, .int .i64 x11, .int .i64 x12, .int .i64 x13, .string x14, .slice A n c]) (v := .agg #[.int .i64 x0, .int .i64 x1, .int .u64 x2, .string sn, .slice A1 n1 c1, .slice A2 n2 c2, .slice A3 n3 c3, .int .i64 q1, .int .i64 q2, .int .i64 q3, .int .i64 x10, .int .i64 x11, .int .i64 x12, .int .i64 x13, .string x14, .slice A n c]) (by rfl) rfl ?_
  rintro g10 w11 HG12 B13 C14
  have nw15 := Lib.hid (show w.heap.size ≤ g10 by have := C0.out.size; have := HG12.out; omega)
  have ne16 := Lib.hid (Fg3.out.ne_new HG12)
  have C0' := Lib.hid (show Ch [] w w11 from C0.out.trans' C14 (fun x hx => absurd hx (by simp)))
  have Fg3' := Lib.hid (show Blk w11 g3 (#[.int .i64 x0, .int .i64 x1, .int .u64 x2, .string sn, .slice A1 n1 c1, .slice A2 n2 c2, .slice A3 n3 c3, .int .i64 q1, .int .i64 q2, .int .i64 q3, .int .i64 x10, .int .i64 x11, .int .i64 x12, .int .i64 x13, .string x14, .slice A n c]) 32 from C14.blk Fg3.out nin_nil)
  clear C0 Fg3
  have C0 := C0'; clear C0'
  have Fg3 := Fg3'; clear Fg3'
  have Fg10 := Lib.hid (show Blk w11 g10 (#[.int .i64 x0, .int .i64 x1, .int .u64 x2, .string sn, .slice A1 n1 c1, .slice A2 n2 c2, .slice A3 n3 c3, .int .i64 q1, .int .i64 q2, .int .i64 q3, .int .i64 x10, .int .i64 x11, .int .i64 x12, .int .i64 x13, .string x14, .slice A n c]) 32 from B13); clear B13 C14
  refine hK9 _ _ ?_; clear hK9 K9
  (try simp only [zP, zN, zA, zB, zC])
  refine pu_ (v := .bool false) (y_assign rfl (by rfl) (by rfl)) ?_
  (try simp only [zP, zN, zA, zB, zC])
  refine nl_ (hK1 _ _ ?_); clear hK1 K1
  refine s_ (fun K17 hK17 => ?_)
  refine pu_ (v := .pointer (some ⟨g3, 0, none⟩)) (y_run (by rfl) (fun W => by go_simp)) ?_
  (try simp only [zP, zN, zA, zB, zC])
  refine ld_ (v := .int .i64 x0) rfl (by rfl) (by rfl) (run_load_one ((Fg3.out.cell 0).trans rfl) Try.underlying3 rfl) ?_
  (try simp only [zP, zN, zA, zB, zC])
  refine pu_ (v := .pointer (some ⟨g10, 0, none⟩)) (y_run (by rfl) (fun W => by go_simp)) ?_
  (try simp only [zP, zN, zA, zB, zC])
  refine ld_ (v := .int .i64 x0) rfl (by rfl) (by rfl) (run_load_one ((Fg10.out.cell 0).trans rfl) Try.underlying3 rfl) ?_
  (try simp only [zP, zN, zA, zB, zC])
  refine pu_ (v := .bool true) (y_run (by rfl) (fun W => by go_simp)) ?_
  (try simp only [zP, zN, zA, zB, zC])
  refine pu_ (v := .bool true) (y_move rfl (by rfl) (by rfl)) ?_
  (try simp only [zP, zN, zA, zB, zC])
  refine pu_ (v := .pointer (some ⟨g3, 1, none⟩)) (y_run (by rfl) (fun W => by go_simp)) ?_
  (try simp only [zP, zN, zA, zB, zC])
  refine ld_ (v := .int .i64 x1) rfl (by rfl) (by rfl) (run_load_one ((Fg3.out.cell 1).trans rfl) Try.underlying3 rfl) ?_
  (try simp only [zP, zN, zA, zB, zC])
  refine pu_ (v := .pointer (some ⟨g10, 1, none⟩)) (y_run (by rfl) (fun W => by go_simp)) ?_
  (try simp only [zP, zN, zA, zB, zC])
  refine ld_ (v := .int .i64 x1) rfl (by rfl) (by rfl) (run_load_one ((Fg10.out.cell 1).trans rfl) Try.underlying3 rfl) ?_
  (try simp only [zP, zN, zA, zB, zC])
  refine pu_ (v := .bool true) (y_run (by rfl) (fun W => by go_simp)) ?_
  (try simp only [zP, zN, zA, zB, zC])
  refine pu_ (v := .bool true) (y_pick (t := true) (by rfl) rfl (by rfl) (by rfl)) ?_
  (try simp only [zP, zN, zA, zB, zC])
  refine pu_ (v := .bool true) (y_move rfl (by rfl) (by rfl)) ?_
  (try simp only [zP, zN, zA, zB, zC])
  refine pu_ (v := .pointer (some ⟨g3, 2, none⟩)) (y_run (by rfl) (fun W => by go_simp)) ?_
  (try simp only [zP, zN, zA, zB, zC])
  refine ld_ (v := .int .u64 x2) rfl (by rfl) (by rfl) (run_load_one ((Fg3.out.cell 2).trans rfl) Try.underlying26 rfl) ?_
  (try simp only [zP, zN, zA, zB, zC])
  refine pu_ (v := .pointer (some ⟨g10, 2, none⟩)) (y_run (by rfl) (fun W => by go_simp)) ?_
  (try simp only [zP, zN, zA, zB, zC])
  refine ld_ (v := .int .u64 x2) rfl (by rfl) (by rfl) (run_load_one ((Fg10.out.cell 2).trans rfl) Try.underlying26 rfl) ?_
  (try simp only [zP, zN, zA, zB, zC])
  refine pu_ (v := .bool true) (y_run (by rfl) (fun W => by go_simp)) ?_
  (try simp only [zP, zN, zA, zB, zC])
  refine pu_ (v := .bool true) (y_pick (t := true) (by rfl) rfl (by rfl) (by rfl)) ?_
  (try simp only [zP, zN, zA, zB, zC])
  refine pu_ (v := .bool true) (y_move rfl (by rfl) (by rfl)) ?_
  (try simp only [zP, zN, zA, zB, zC])
  refine pu_ (v := .pointer (some ⟨g3, 3, none⟩)) (y_run (by rfl) (fun W => by go_simp)) ?_
  (try simp only [zP, zN, zA, zB, zC])
  refine ld_ (v := .agg #[.string sn, .slice A1 n1 c1, .slice A2 n2 c2, .slice A3 n3 c3, .int .i64 q1, .int .i64 q2, .int .i64 q3]) rfl (by rfl) (by rfl) (run_loadVar_at (cs := [.string sn, .slice A1 n1 c1, .slice A2 n2 c2, .slice A3 n3 c3, .int .i64 q1, .int .i64 q2, .int .i64 q3]) (cells_part Fg3.out 3 (by rfl)) Try.underlying30 rfl (by kernel_rfl)) ?_
  (try simp only [zP, zN, zA, zB, zC])
  refine pu_ (v := .pointer (some ⟨g10, 3, none⟩)) (y_run (by rfl) (fun W => by go_simp)) ?_
  (try simp only [zP, zN, zA, zB, zC])
  refine ld_ (v := .agg #[.string sn, .slice A1 n1 c1, .slice A2 n2 c2, .slice A3 n3 c3, .int .i64 q1, .int .i64 q2, .int .i64 q3]) rfl (by rfl) (by rfl) (run_loadVar_at (cs := [.string sn, .slice A1 n1 c1, .slice A2 n2 c2, .slice A3 n3 c3, .int .i64 q1, .int .i64 q2, .int .i64 q3]) (cells_part Fg10.out 3 (by rfl)) Try.underlying30 rfl (by kernel_rfl)) ?_
  (try simp only [zP, zN, zA, zB, zC])
  refine ef_ (fun K18 hK18 => ?_)
  refine e_call Try.func58 (by kernel_rfl) rfl #[.agg #[.string sn, .slice A1 n1 c1, .slice A2 n2 c2, .slice A3 n3 c3, .int .i64 q1, .int .i64 q2, .int .i64 q3], .agg #[.string sn, .slice A1 n1 c1, .slice A2 n2 c2, .slice A3 n3 c3, .int .i64 q1, .int .i64 q2, .int .i64 q3]] (by rfl) rfl rfl (by first | rfl | (simp only [List.map_toArray, List.map_cons, List.map_nil]; first | done | rfl)) ((HS.out w11 C0.out.below0)) ?_
  rintro en w20 ⟨rfl, cc19⟩
  refine ⟨_, rfl, ?_⟩
  have C0' := Lib.hid (show Ch [] w w20 from C0.out.trans' cc19 (fun x hx => absurd hx (by simp)))
  have Fg3' := Lib.hid (show Blk w20 g3 (#[.int .i64 x0, .int .i64 x1, .int .u64 x2, .string sn, .slice A1 n1 c1, .slice A2 n2 c2, .slice A3 n3 c3, .int .i64 q1, .int .i64 q2, .int .i64 q3, .int .i64 x10, .int .i64 x11, .int .i64 x12, .int .i64 x13, .string x14, .slice A n c]) 32 from cc19.blk Fg3.out nin_nil)
  have Fg10' := Lib.hid (show Blk w20 g10 (#[.int .i64 x0, .int .i64 x1, .int .u64 x2, .string sn, .slice A1 n1 c1, .slice A2 n2 c2, .slice A3 n3 c3, .int .i64 q1, .int .i64 q2, .int .i64 q3, .int .i64 x10, .int .i64 x11, .int .i64 x12, .int .i64 x13, .string x14, .slice A n c]) 32 from cc19.blk Fg10.out nin_nil)
  clear C0 Fg3 Fg10
  have C0 := C0'; clear C0'
  have Fg3 := Fg3'; clear Fg3'
  have Fg10 := Fg10'; clear Fg10'
  clear cc19
  refine hK18 _ _ ?_; clear hK18 K18
  (try simp only [zP, zN, zA, zB, zC])
  refine pu_ (v := .bool true) (y_pick (t := true) (by rfl) rfl (by rfl) (by rfl)) ?_
  (try simp only [zP, zN, zA, zB, zC])
  refine pu_ (v := .bool true) (y_move rfl (by rfl) (by rfl)) ?_
  (try simp only [zP, zN, zA, zB, zC])
  refine pu_ (v := .pointer (some ⟨g3, 10, none⟩)) (y_run (by rfl) (fun W => by go_simp)) ?_
  (try simp only [zP, zN, zA, zB, zC])
  refine ld_ (v := .int .i64 x10) rfl (by rfl) (by rfl) (run_load_one ((Fg3.out.cell 10).trans rfl) Try.underlying3 rfl) ?_
  (try simp only [zP, zN, zA, zB, zC])
  refine pu_ (v := .pointer (some ⟨g10, 10, none⟩)) (y_run (by rfl) (fun W => by go_simp)) ?_
  (try simp only [zP, zN, zA, zB, zC])
  refine ld_ (v := .int .i64 x10) rfl (by rfl) (by rfl) (run_load_one ((Fg10.out.cell 10).trans rfl) Try.underlying3 rfl) ?_
  (try simp only [zP, zN, zA, zB, zC])
  refine pu_ (v := .bool true) (y_run (by rfl) (fun W => by go_simp)) ?_
  (try simp only [zP, zN, zA, zB, zC])
  refine pu_ (v := .bool true) (y_pick (t := true) (by rfl) rfl (by rfl) (by rfl)) ?_
  (try simp only [zP, zN, zA, zB, zC])
  refine pu_ (v := .bool true) (y_move rfl (by rfl) (by rfl)) ?_
  (try simp only [zP, zN, zA, zB, zC])
  refine pu_ (v := .pointer (some ⟨g3, 11, none⟩)) (y_run (by rfl) (fun W => by go_simp)) ?_
  (try simp only [zP, zN, zA, zB, zC])
  refine ld_ (v := .int .i64 x11) rfl (by rfl) (by rfl) (run_load_one ((Fg3.out.cell 11).trans rfl) Try.underlying3 rfl) ?_
  (try simp only [zP, zN, zA, zB, zC])
  refine pu_ (v := .pointer (some ⟨g10, 11, none⟩)) (y_run (by rfl) (fun W => by go_simp)) ?_
  (try simp only [zP, zN, zA, zB, zC])
  refine ld_ (v := .int .i64 x11) rfl (by rfl) (by rfl) (run_load_one ((Fg10.out.cell 11).trans rfl) Try.underlying3 rfl) ?_
  (try simp only [zP, zN, zA, zB, zC])
  refine pu_ (v := .bool true) (y_run (by rfl) (fun W => by go_simp)) ?_
  (try simp only [zP, zN, zA, zB, zC])
  refine pu_ (v := .bool true) (y_pick (t := true) (by rfl) rfl (by rfl) (by rfl)) ?_
  (try simp only [zP, zN, zA, zB, zC])
  refine pu_ (v := .bool true) (y_move rfl (by rfl) (by rfl)) ?_
  (try simp only [zP, zN, zA, zB, zC])
  refine pu_ (v := .pointer (some ⟨g3, 12, none⟩)) (y_run (by rfl) (fun W => by go_simp)) ?_
  (try simp only [zP, zN, zA, zB, zC])
  refine ld_ (v := .int .i64 x12) rfl (by rfl) (by rfl) (run_load_one ((Fg3.out.cell 12).trans rfl) Try.underlying3 rfl) ?_
  (try simp only [zP, zN, zA, zB, zC])
  refine pu_ (v := .pointer (some ⟨g10, 12, none⟩)) (y_run (by rfl) (fun W => by go_simp)) ?_
  (try simp only [zP, zN, zA, zB, zC])
  refine ld_ (v := .int .i64 x12) rfl (by rfl) (by rfl) (run_load_one ((Fg10.out.cell 12).trans rfl) Try.underlying3 rfl) ?_
  (try simp only [zP, zN, zA, zB, zC])
  refine pu_ (v := .bool true) (y_run (by rfl) (fun W => by go_simp)) ?_
  (try simp only [zP, zN, zA, zB, zC])
  refine pu_ (v := .bool true) (y_pick (t := true) (by rfl) rfl (by rfl) (by rfl)) ?_
  (try simp only [zP, zN, zA, zB, zC])
  refine pu_ (v := .bool true) (y_move rfl (by rfl) (by rfl)) ?_
  (try simp only [zP, zN, zA, zB, zC])
  refine pu_ (v := .pointer (some ⟨g3, 13, none⟩)) (y_run (by rfl) (fun W => by go_simp)) ?_
  (try simp only [zP, zN, zA, zB, zC])
  refine ld_ (v := .int .i64 x13) rfl (by rfl) (by rfl) (run_load_one ((Fg3.out.cell 13).trans rfl) Try.underlying3 rfl) ?_
  (try simp only [zP, zN, zA, zB, zC])
  refine pu_ (v := .pointer (some ⟨g10, 13, none⟩)) (y_run (by rfl) (fun W => by go_simp)) ?_
  (try simp only [zP, zN, zA, zB, zC])
  refine ld_ (v := .int .i64 x13) rfl (by rfl) (by rfl) (run_load_one ((Fg10.out.cell 13).trans rfl) Try.underlying3 rfl) ?_
  (try simp only [zP, zN, zA, zB, zC])
  refine pu_ (v := .bool true) (y_run (by rfl) (fun W => by go_simp)) ?_
  (try simp only [zP, zN, zA, zB, zC])
  refine pu_ (v := .bool true) (y_pick (t := true) (by rfl) rfl (by rfl) (by rfl)) ?_
  (try simp only [zP, zN, zA, zB, zC])
  refine pu_ (v := .bool true) (y_move rfl (by rfl) (by rfl)) ?_
  (try simp only [zP, zN, zA, zB, zC])
  refine pu_ (v := .pointer (some ⟨g3, 14, none⟩)) (y_run (by rfl) (fun W => by go_simp)) ?_
  (try simp only [zP, zN, zA, zB, zC])
  refine ld_ (v := .string x14) rfl (by rfl) (by rfl) (run_load_one ((Fg3.out.cell 14).trans rfl) Try.underlying9 rfl) ?_
  (try simp only [zP, zN, zA, zB, zC])
  refine pu_ (v := .pointer (some ⟨g10, 14, none⟩)) (y_run (by rfl) (fun W => by go_simp)) ?_
  (try simp only [zP, zN, zA, zB, zC])
  refine ld_ (v := .string x14) rfl (by rfl) (by rfl) (run_load_one ((Fg10.out.cell 14).trans rfl) Try.underlying9 rfl) ?_
  (try simp only [zP, zN, zA, zB, zC])
  refine pu_ (v := .bool true) (y_run (by rfl) (fun W => by go_simp)) ?_
  (try simp only [zP, zN, zA, zB, zC])
  refine pu_ (v := .bool true) (y_pick (t := true) (by rfl) rfl (by rfl) (by rfl)) ?_
  (try simp only [zP, zN, zA, zB, zC])
  refine pu_ (v := .bool true) (y_move rfl (by rfl) (by rfl)) ?_
  (try simp only [zP, zN, zA, zB, zC])
  refine pu_ (v := .pointer (some ⟨g3, 15, none⟩)) (y_run (by rfl) (fun W => by go_simp)) ?_
  (try simp only [zP, zN, zA, zB, zC])
  refine ld_ (v := .slice A n c) rfl (by rfl) (by rfl) (run_load_one ((Fg3.out.cell 15).trans rfl) Try.underlying27 rfl) ?_
  (try simp only [zP, zN, zA, zB, zC])
  refine pu_ (v := .pointer (some ⟨g10, 15, none⟩)) (y_run (by rfl) (fun W => by go_simp)) ?_
  (try simp only [zP, zN, zA, zB, zC])
  refine ld_ (v := .slice A n c) rfl (by rfl) (by rfl) (run_load_one ((Fg10.out.cell 15).trans rfl) Try.underlying27 rfl) ?_
  (try simp only [zP, zN, zA, zB, zC])
  refine ef_ (fun K21 hK21 => ?_)
  refine e_call Try.func59 (by kernel_rfl) rfl #[.slice A n c, .slice A n c] (by rfl) rfl rfl (by first | rfl | (simp only [List.map_toArray, List.map_cons, List.map_nil]; first | done | rfl)) ((slab_ HN (Lib.hid (HC.out.below C0.out.below0)))) ?_
  rintro en w23 ⟨rfl, cc22⟩
  refine ⟨_, rfl, ?_⟩
  have C0' := Lib.hid (show Ch [] w w23 from C0.out.trans' cc22 (fun x hx => absurd hx (by simp)))
  have Fg3' := Lib.hid (show Blk w23 g3 (#[.int .i64 x0, .int .i64 x1, .int .u64 x2, .string sn, .slice A1 n1 c1, .slice A2 n2 c2, .slice A3 n3 c3, .int .i64 q1, .int .i64 q2, .int .i64 q3, .int .i64 x10, .int .i64 x11, .int .i64 x12, .int .i64 x13, .string x14, .slice A n c]) 32 from cc22.blk Fg3.out nin_nil)
  have Fg10' := Lib.hid (show Blk w23 g10 (#[.int .i64 x0, .int .i64 x1, .int .u64 x2, .string sn, .slice A1 n1 c1, .slice A2 n2 c2, .slice A3 n3 c3, .int .i64 q1, .int .i64 q2, .int .i64 q3, .int .i64 x10, .int .i64 x11, .int .i64 x12, .int .i64 x13, .string x14, .slice A n c]) 32 from cc22.blk Fg10.out nin_nil)
  clear C0 Fg3 Fg10
  have C0 := C0'; clear C0'
  have Fg3 := Fg3'; clear Fg3'
  have Fg10 := Fg10'; clear Fg10'
  clear cc22
  refine hK21 _ _ ?_; clear hK21 K21
  (try simp only [zP, zN, zA, zB, zC])
  refine pu_ (v := .bool true) (y_pick (t := true) (by rfl) rfl (by rfl) (by rfl)) ?_
  (try simp only [zP, zN, zA, zB, zC])
  refine pu_ (v := .bool true) (y_assign rfl (by rfl) (by rfl)) ?_
  (try simp only [zP, zN, zA, zB, zC])
  refine nl_ (hK17 _ _ ?_); clear hK17 K17
  refine wp_ret ?_
  refine hQ _ _ _ ?_
  refine bodyPost_ret (res1 rfl (rdv_tmp (v := .bool true) (by rfl))) rfl ?_
  exact ⟨rfl, C0.out⟩
/-- Containers that are the same as themselves. -/
def SameK (W : World) (A : Option Addr) (n c : Nat) : Prop := ∀ w', Below W.heap.size W w' → Calls Try.prog 65 #[.slice A n c, .slice A n c] w' fun en w2 => en = .returned (.bool true) ∧ Ch [] w' w2
theorem sspec_ {q1 q2 q3 : Int} {sn : ByteArray} {A1 A2 A3 : Option Addr} {n1 c1 n2 c2 n3 c3 : Nat} {f1 f2 : Nat → ByteArray} (H2 : Hid (SameK w A2 n2 c2)) (H3 : Hid (SameK w A3 n3 c3)) (HN : Hid (n1 ≤ 9223372036854775807)) (HC : Hid (labF w A1 n1 f1 f2))  :
    Calls Try.prog 58 #[.agg #[.string sn, .slice A1 n1 c1, .slice A2 n2 c2, .slice A3 n3 c3, .int .i64 q1, .int .i64 q2, .int .i64 q3], .agg #[.string sn, .slice A1 n1 c1, .slice A2 n2 c2, .slice A3 n3 c3, .int .i64 q1, .int .i64 q2, .int .i64 q3]] w fun en w' => en = .returned (.bool true) ∧ Ch [] w w' := by
  have C0 := Lib.hid (Ch.refl [] w)
  go_enter Try.func58, Try.ntmps58
  refine q_ (fun Q hQ hP => ?_)
  refine s_ (fun K1 hK1 => ?_)
  refine ef_ (fun K2 hK2 => ?_)
  refine e_boxN (by rfl) rfl rfl (cs := #[.string sn, .slice A1 n1 c1, .slice A2 n2 c2, .slice A3 n3 c3, .int .i64 q1, .int .i64 q2, .int .i64 q3]) (v := .agg #[.string sn, .slice A1 n1 c1, .slice A2 n2 c2, .slice A3 n3 c3, .int .i64 q1, .int .i64 q2, .int .i64 q3]) (by rfl) rfl ?_
  rintro g3 w4 HG5 B6 C7
  have nw8 := Lib.hid (show w.heap.size ≤ g3 by have := C0.out.size; have := HG5.out; omega)
  have C0' := Lib.hid (show Ch [] w w4 from C0.out.trans' C7 (fun x hx => absurd hx (by simp)))
  clear C0
  have C0 := C0'; clear C0'
  have Fg3 := Lib.hid (show Blk w4 g3 (#[.string sn, .slice A1 n1 c1, .slice A2 n2 c2, .slice A3 n3 c3, .int .i64 q1, .int .i64 q2, .int .i64 q3]) 30 from B6); clear B6 C7
  refine hK2 _ _ ?_; clear hK2 K2
  (try simp only [zP, zN, zA, zB, zC])
  refine ef_ (fun K9 hK9 => ?_)
  refine e_boxN (by rfl) rfl rfl (cs := #[.string sn, .slice A1 n1 c1, .slice A2 n2 c2, .slice A3 n3 c3, .int .i64 q1, .int .i64 q2, .int .i64 q3]) (v := .agg #[.string sn, .slice A1 n1 c1, .slice A2 n2 c2, .slice A3 n3 c3, .int .i64 q1, .int .i64 q2, .int .i64 q3]) (by rfl) rfl ?_
  rintro g10 w11 HG12 B13 C14
  have nw15 := Lib.hid (show w.heap.size ≤ g10 by have := C0.out.size; have := HG12.out; omega)
  have ne16 := Lib.hid (Fg3.out.ne_new HG12)
  have C0' := Lib.hid (show Ch [] w w11 from C0.out.trans' C14 (fun x hx => absurd hx (by simp)))
  have Fg3' := Lib.hid (show Blk w11 g3 (#[.string sn, .slice A1 n1 c1, .slice A2 n2 c2, .slice A3 n3 c3, .int .i64 q1, .int .i64 q2, .int .i64 q3]) 30 from C14.blk Fg3.out nin_nil)
  clear C0 Fg3
  have C0 := C0'; clear C0'
  have Fg3 := Fg3'; clear Fg3'
  have Fg10 := Lib.hid (show Blk w11 g10 (#[.string sn, .slice A1 n1 c1, .slice A2 n2 c2, .slice A3 n3 c3, .int .i64 q1, .int .i64 q2, .int .i64 q3]) 30 from B13); clear B13 C14
  refine hK9 _ _ ?_; clear hK9 K9
  (try simp only [zP, zN, zA, zB, zC])
  refine pu_ (v := .bool false) (y_assign rfl (by rfl) (by rfl)) ?_
  (try simp only [zP, zN, zA, zB, zC])
  refine nl_ (hK1 _ _ ?_); clear hK1 K1
  refine s_ (fun K17 hK17 => ?_)
  refine pu_ (v := .pointer (some ⟨g3, 0, none⟩)) (y_run (by rfl) (fun W => by go_simp)) ?_
  (try simp only [zP, zN, zA, zB, zC])
  refine ld_ (v := .string sn) rfl (by rfl) (by rfl) (run_load_one ((Fg3.out.cell 0).trans rfl) Try.underlying9 rfl) ?_
  (try simp only [zP, zN, zA, zB, zC])
  refine pu_ (v := .pointer (some ⟨g10, 0, none⟩)) (y_run (by rfl) (fun W => by go_simp)) ?_
  (try simp only [zP, zN, zA, zB, zC])
  refine ld_ (v := .string sn) rfl (by rfl) (by rfl) (run_load_one ((Fg10.out.cell 0).trans rfl) Try.underlying9 rfl) ?_
  (try simp only [zP, zN, zA, zB, zC])
  refine pu_ (v := .bool true) (y_run (by rfl) (fun W => by go_simp)) ?_
  (try simp only [zP, zN, zA, zB, zC])
  refine pu_ (v := .bool true) (y_move rfl (by rfl) (by rfl)) ?_
  (try simp only [zP, zN, zA, zB, zC])
  refine pu_ (v := .pointer (some ⟨g3, 1, none⟩)) (y_run (by rfl) (fun W => by go_simp)) ?_
  (try simp only [zP, zN, zA, zB, zC])
  refine ld_ (v := .slice A1 n1 c1) rfl (by rfl) (by rfl) (run_load_one ((Fg3.out.cell 1).trans rfl) Try.underlying27 rfl) ?_
  (try simp only [zP, zN, zA, zB, zC])
  refine pu_ (v := .pointer (some ⟨g10, 1, none⟩)) (y_run (by rfl) (fun W => by go_simp)) ?_
  (try simp only [zP, zN, zA, zB, zC])
  refine ld_ (v := .slice A1 n1 c1) rfl (by rfl) (by rfl) (run_load_one ((Fg10.out.cell 1).trans rfl) Try.underlying27 rfl) ?_
  (try simp only [zP, zN, zA, zB, zC])
  refine ef_ (fun K18 hK18 => ?_)
  refine e_call Try.func59 (by kernel_rfl) rfl #[.slice A1 n1 c1, .slice A1 n1 c1] (by rfl) rfl rfl (by first | rfl | (simp only [List.map_toArray, List.map_cons, List.map_nil]; first | done | rfl)) ((slab_ HN (Lib.hid (HC.out.below C0.out.below0)))) ?_
  rintro en w20 ⟨rfl, cc19⟩
  refine ⟨_, rfl, ?_⟩
  have C0' := Lib.hid (show Ch [] w w20 from C0.out.trans' cc19 (fun x hx => absurd hx (by simp)))
  have Fg3' := Lib.hid (show Blk w20 g3 (#[.string sn, .slice A1 n1 c1, .slice A2 n2 c2, .slice A3 n3 c3, .int .i64 q1, .int .i64 q2, .int .i64 q3]) 30 from cc19.blk Fg3.out nin_nil)
  have Fg10' := Lib.hid (show Blk w20 g10 (#[.string sn, .slice A1 n1 c1, .slice A2 n2 c2, .slice A3 n3 c3, .int .i64 q1, .int .i64 q2, .int .i64 q3]) 30 from cc19.blk Fg10.out nin_nil)
  clear C0 Fg3 Fg10
  have C0 := C0'; clear C0'
  have Fg3 := Fg3'; clear Fg3'
  have Fg10 := Fg10'; clear Fg10'
  clear cc19
  refine hK18 _ _ ?_; clear hK18 K18
  (try simp only [zP, zN, zA, zB, zC])
  refine pu_ (v := .bool true) (y_pick (t := true) (by rfl) rfl (by rfl) (by rfl)) ?_
  (try simp only [zP, zN, zA, zB, zC])
  refine pu_ (v := .bool true) (y_move rfl (by rfl) (by rfl)) ?_
  (try simp only [zP, zN, zA, zB, zC])
  refine pu_ (v := .pointer (some ⟨g3, 2, none⟩)) (y_run (by rfl) (fun W => by go_simp)) ?_
  (try simp only [zP, zN, zA, zB, zC])
  refine ld_ (v := .slice A2 n2 c2) rfl (by rfl) (by rfl) (run_load_one ((Fg3.out.cell 2).trans rfl) Try.underlying28 rfl) ?_
  (try simp only [zP, zN, zA, zB, zC])
  refine pu_ (v := .pointer (some ⟨g10, 2, none⟩)) (y_run (by rfl) (fun W => by go_simp)) ?_
  (try simp only [zP, zN, zA, zB, zC])
  refine ld_ (v := .slice A2 n2 c2) rfl (by rfl) (by rfl) (run_load_one ((Fg10.out.cell 2).trans rfl) Try.underlying28 rfl) ?_
  (try simp only [zP, zN, zA, zB, zC])
  refine ef_ (fun K21 hK21 => ?_)
  refine e_call Try.func65 (by kernel_rfl) rfl #[.slice A2 n2 c2, .slice A2 n2 c2] (by rfl) rfl rfl (by first | rfl | (simp only [List.map_toArray, List.map_cons, List.map_nil]; first | done | rfl)) ((H2.out w20 C0.out.below0)) ?_
  rintro en w23 ⟨rfl, cc22⟩
  refine ⟨_, rfl, ?_⟩
  have C0' := Lib.hid (show Ch [] w w23 from C0.out.trans' cc22 (fun x hx => absurd hx (by simp)))
  have Fg3' := Lib.hid (show Blk w23 g3 (#[.string sn, .slice A1 n1 c1, .slice A2 n2 c2, .slice A3 n3 c3, .int .i64 q1, .int .i64 q2, .int .i64 q3]) 30 from cc22.blk Fg3.out nin_nil)
  have Fg10' := Lib.hid (show Blk w23 g10 (#[.string sn, .slice A1 n1 c1, .slice A2 n2 c2, .slice A3 n3 c3, .int .i64 q1, .int .i64 q2, .int .i64 q3]) 30 from cc22.blk Fg10.out nin_nil)
  clear C0 Fg3 Fg10
  have C0 := C0'; clear C0'
  have Fg3 := Fg3'; clear Fg3'
  have Fg10 := Fg10'; clear Fg10'
  clear cc22
  refine hK21 _ _ ?_; clear hK21 K21
  (try simp only [zP, zN, zA, zB, zC])
  refine pu_ (v := .bool true) (y_pick (t := true) (by rfl) rfl (by rfl) (by rfl)) ?_
  (try simp only [zP, zN, zA, zB, zC])
  refine pu_ (v := .bool true) (y_move rfl (by rfl) (by rfl)) ?_
  (try simp only [zP, zN, zA, zB, zC])
  refine pu_ (v := .pointer (some ⟨g3, 3, none⟩)) (y_run (by rfl) (fun W => by go_simp)) ?_
  (try simp only [zP, zN, zA, zB, zC])
  refine ld_ (v := .slice A3 n3 c3) rfl (by rfl) (by rfl) (run_load_one ((Fg3.out.cell 3).trans rfl) Try.underlying28 rfl) ?_
  (try simp only [zP, zN, zA, zB, zC])
  refine pu_ (v := .pointer (some ⟨g10, 3, none⟩)) (y_run (by rfl) (fun W => by go_simp)) ?_
  (try simp only [zP, zN, zA, zB, zC])
  refine ld_ (v := .slice A3 n3 c3) rfl (by rfl) (by rfl) (run_load_one ((Fg10.out.cell 3).trans rfl) Try.underlying28 rfl) ?_
  (try simp only [zP, zN, zA, zB, zC])
  refine ef_ (fun K24 hK24 => ?_)
  refine e_call Try.func65 (by kernel_rfl) rfl #[.slice A3 n3 c3, .slice A3 n3 c3] (by rfl) rfl rfl (by first | rfl | (simp only [List.map_toArray, List.map_cons, List.map_nil]; first | done | rfl)) ((H3.out w23 C0.out.below0)) ?_
  rintro en w26 ⟨rfl, cc25⟩
  refine ⟨_, rfl, ?_⟩
  have C0' := Lib.hid (show Ch [] w w26 from C0.out.trans' cc25 (fun x hx => absurd hx (by simp)))
  have Fg3' := Lib.hid (show Blk w26 g3 (#[.string sn, .slice A1 n1 c1, .slice A2 n2 c2, .slice A3 n3 c3, .int .i64 q1, .int .i64 q2, .int .i64 q3]) 30 from cc25.blk Fg3.out nin_nil)
  have Fg10' := Lib.hid (show Blk w26 g10 (#[.string sn, .slice A1 n1 c1, .slice A2 n2 c2, .slice A3 n3 c3, .int .i64 q1, .int .i64 q2, .int .i64 q3]) 30 from cc25.blk Fg10.out nin_nil)
  clear C0 Fg3 Fg10
  have C0 := C0'; clear C0'
  have Fg3 := Fg3'; clear Fg3'
  have Fg10 := Fg10'; clear Fg10'
  clear cc25
  refine hK24 _ _ ?_; clear hK24 K24
  (try simp only [zP, zN, zA, zB, zC])
  refine pu_ (v := .bool true) (y_pick (t := true) (by rfl) rfl (by rfl) (by rfl)) ?_
  (try simp only [zP, zN, zA, zB, zC])
  refine pu_ (v := .bool true) (y_move rfl (by rfl) (by rfl)) ?_
  (try simp only [zP, zN, zA, zB, zC])
  refine pu_ (v := .pointer (some ⟨g3, 4, none⟩)) (y_run (by rfl) (fun W => by go_simp)) ?_
  (try simp only [zP, zN, zA, zB, zC])
  refine ld_ (v := .int .i64 q1) rfl (by rfl) (by rfl) (run_load_one ((Fg3.out.cell 4).trans rfl) Try.underlying3 rfl) ?_
  (try simp only [zP, zN, zA, zB, zC])
  refine pu_ (v := .pointer (some ⟨g10, 4, none⟩)) (y_run (by rfl) (fun W => by go_simp)) ?_
  (try simp only [zP, zN, zA, zB, zC])
  refine ld_ (v := .int .i64 q1) rfl (by rfl) (by rfl) (run_load_one ((Fg10.out.cell 4).trans rfl) Try.underlying3 rfl) ?_
  (try simp only [zP, zN, zA, zB, zC])
  refine pu_ (v := .bool true) (y_run (by rfl) (fun W => by go_simp)) ?_
  (try simp only [zP, zN, zA, zB, zC])
  refine pu_ (v := .bool true) (y_pick (t := true) (by rfl) rfl (by rfl) (by rfl)) ?_
  (try simp only [zP, zN, zA, zB, zC])
  refine pu_ (v := .bool true) (y_move rfl (by rfl) (by rfl)) ?_
  (try simp only [zP, zN, zA, zB, zC])
  refine pu_ (v := .pointer (some ⟨g3, 5, none⟩)) (y_run (by rfl) (fun W => by go_simp)) ?_
  (try simp only [zP, zN, zA, zB, zC])
  refine ld_ (v := .int .i64 q2) rfl (by rfl) (by rfl) (run_load_one ((Fg3.out.cell 5).trans rfl) Try.underlying3 rfl) ?_
  (try simp only [zP, zN, zA, zB, zC])
  refine pu_ (v := .pointer (some ⟨g10, 5, none⟩)) (y_run (by rfl) (fun W => by go_simp)) ?_
  (try simp only [zP, zN, zA, zB, zC])
  refine ld_ (v := .int .i64 q2) rfl (by rfl) (by rfl) (run_load_one ((Fg10.out.cell 5).trans rfl) Try.underlying3 rfl) ?_
  (try simp only [zP, zN, zA, zB, zC])
  refine pu_ (v := .bool true) (y_run (by rfl) (fun W => by go_simp)) ?_
  (try simp only [zP, zN, zA, zB, zC])
  refine pu_ (v := .bool true) (y_pick (t := true) (by rfl) rfl (by rfl) (by rfl)) ?_
  (try simp only [zP, zN, zA, zB, zC])
  refine pu_ (v := .bool true) (y_move rfl (by rfl) (by rfl)) ?_
  (try simp only [zP, zN, zA, zB, zC])
  refine pu_ (v := .pointer (some ⟨g3, 6, none⟩)) (y_run (by rfl) (fun W => by go_simp)) ?_
  (try simp only [zP, zN, zA, zB, zC])
  refine ld_ (v := .int .i64 q3) rfl (by rfl) (by rfl) (run_load_one ((Fg3.out.cell 6).trans rfl) Try.underlying3 rfl) ?_
  (try simp only [zP, zN, zA, zB, zC])
  refine pu_ (v := .pointer (some ⟨g10, 6, none⟩)) (y_run (by rfl) (fun W => by go_simp)) ?_
  (try simp only [zP, zN, zA, zB, zC])
  refine ld_ (v := .int .i64 q3) rfl (by rfl) (by rfl) (run_load_one ((Fg10.out.cell 6).trans rfl) Try.underlying3 rfl) ?_
  (try simp only [zP, zN, zA, zB, zC])
  refine pu_ (v := .bool true) (y_run (by rfl) (fun W => by go_simp)) ?_
  (try simp only [zP, zN, zA, zB, zC])
  refine pu_ (v := .bool true) (y_pick (t := true) (by rfl) rfl (by rfl) (by rfl)) ?_
  (try simp only [zP, zN, zA, zB, zC])
  refine pu_ (v := .bool true) (y_assign rfl (by rfl) (by rfl)) ?_
  (try simp only [zP, zN, zA, zB, zC])
  refine nl_ (hK17 _ _ ?_); clear hK17 K17
  refine wp_ret ?_
  refine hQ _ _ _ ?_
  refine bodyPost_ret (res1 rfl (rdv_tmp (v := .bool true) (by rfl))) rfl ?_
  exact ⟨rfl, C0.out⟩
/-- Containers, read cell by cell. -/
def conG (w : World) (A : Option Addr) (n : Nat) : Prop := ∀ i, i < n → ∃ (a : Addr) (s1 s2 : ByteArray) (r0 r1 r2 r3 r4 r5 : Int) (B : Option Addr) (d : Nat) (M : List Int) (p0 p1 : Int), A = some a ∧ CellsAt w (a.add (i * 11)) [.string s1, .string s2, .int .i64 r0, .int .i64 r1, .int .i64 r2, .int .i64 r3, .int .i64 r4, .int .i64 r5, .slice B M.length d, .int .i64 p0, .int .i64 p1] ∧ M.length ≤ 9223372036854775807 ∧ SrcIs w (.slice B M.length d) M.length (M.map (Value.int .i64)) 1
theorem scon_ {A : Option Addr} {n c : Nat} (HN : Hid (n ≤ 9223372036854775807)) (HC : Hid (conG w A n))  :
    Calls Try.prog 65 #[.slice A n c, .slice A n c] w fun en w' => en = .returned (.bool true) ∧ Ch [] w w' := by
  have C0 := Lib.hid (Ch.refl [] w)
  go_enter Try.func65, Try.ntmps65
  refine q_ (fun Q hQ hP => ?_)
  refine s_ (fun K1 hK1 => ?_)
  refine pu_ (v := .bool false) (y_assign rfl (by rfl) (by rfl)) ?_
  (try simp only [zP, zN, zA, zB, zC])
  refine nl_ (hK1 _ _ ?_); clear hK1 K1
  refine s_ (fun K2 hK2 => ?_)
  refine pu_ (v := .slice A n c) (y_move rfl (by rfl) (by rfl)) ?_
  (try simp only [zP, zN, zA, zB, zC])
  refine pu_ (v := .int .i64 n) (y_run (by rfl) (fun W => by go_simp)) ?_
  (try simp only [zP, zN, zA, zB, zC])
  refine pu_ (v := .slice A n c) (y_move rfl (by rfl) (by rfl)) ?_
  (try simp only [zP, zN, zA, zB, zC])
  refine pu_ (v := .int .i64 n) (y_run (by rfl) (fun W => by go_simp)) ?_
  (try simp only [zP, zN, zA, zB, zC])
  refine pu_ (v := .bool true) (y_run (by rfl) (fun W => by go_simp)) ?_
  (try simp only [zP, zN, zA, zB, zC])
  refine pu_ (v := .bool true) (y_assign rfl (by rfl) (by rfl)) ?_
  (try simp only [zP, zN, zA, zB, zC])
  refine nl_ (hK2 _ _ ?_); clear hK2 K2
  refine sq_ (fun K3 hK3 => ?_)
  refine s_ (fun K4 hK4 => ?_)
  refine pu_ (v := .int .i64 0) (y_assign rfl (by rfl) (by rfl)) ?_
  (try simp only [zP, zN, zA, zB, zC])
  refine nl_ (hK4 _ _ ?_); clear hK4 K4
  refine wp_block ?_
  refine loopk_ (fun (kq : Nat) (a' : Act) (w' : World) => ∃ (k : Nat), ∃ (us : Nat → Value), a' = ⟨#[.slice A n c, .slice A n c, us 2, us 3, .bool false, .bool true, .int .i64 k, us 7, us 8, us 9, us 10, us 11, us 12, us 13, us 14, us 15, us 16, us 17, us 18, us 19, us 20, us 21, us 22, us 23, us 24, us 25, us 26, us 27, us 28, us 29, us 30, us 31, us 32, us 33, us 34, us 35, us 36, us 37, us 38, us 39, us 40, us 41, us 42, us 43, us 44, us 45, us 46, us 47, us 48, us 49, us 50, us 51, us 52, us 53, us 54, us 55, us 56, us 57, us 58, us 59, us 60, us 61, us 62, us 63, us 64, us 65, us 66, us 67, us 68, us 69, us 70, us 71, us 72, us 73, us 74, us 75, us 76, us 77], []⟩ ∧ Hid (Ch [] w w') ∧ Hid (k ≤ n ∧ kq + k = n)) (n) (⟨0, fun us_ => (#[.slice A n c, .slice A n c, undef, undef, .bool false, .bool true, .int .i64 0, undef, undef, .slice A n c, .int .i64 n, .slice A n c, .int .i64 n, .bool true, undef, undef, undef, undef, undef, undef, undef, undef, undef, undef, undef, undef, undef, undef, undef, undef, undef, undef, undef, undef, undef, undef, undef, undef, undef, undef, undef, undef, undef, undef, undef, undef, undef, undef, undef, undef, undef, undef, undef, undef, undef, undef, undef, undef, undef, undef, undef, undef, undef, undef, undef, undef, undef, undef, undef, undef, undef, undef, undef, undef, undef, undef, undef, undef] : Array Value).getD us_ undef, rfl, C0, Lib.hid ⟨by omega, by omega⟩⟩) ?_
  rintro kq _ w5 ⟨k, us, rfl, C0, hk⟩ K6 hK6
  refine sq_ (fun K7 hK7 => ?_)
  rcases (show k < n ∨ k = n by have := hk.out; omega) with h | h
  · have hlt := Lib.hid h
    clear h
    obtain ⟨a, s1, s2, r0, r1, r2, r3, r4, r5, B, d, M, p0, p1, hA, hcl, hm, hsm⟩ := HC.out k hlt.out
    subst hA
    have HCL := Lib.hid hcl
    have HMM := Lib.hid hm
    have HSM := Lib.hid hsm
    clear hcl hm hsm
    have D19 := Lib.hid (show (k : Int) < (n : Int) by have := hlt.out; omega)
    have Wk := Lib.hid (show IntKind.i64.wrap ((k : Int) + 1) = ((k + 1 : Nat) : Int) by rw [wr64 (by have := hlt.out; have := HN.out; omega)]; omega)
    refine s_ (fun K8 hK8 => ?_)
    refine pu_ (v := .bool true) (y_move rfl (by rfl) (by rfl)) ?_
    (try simp only [zP, zN, zA, zB, zC])
    refine pu_ (v := .bool true) (y_move rfl (by rfl) (by rfl)) ?_
    (try simp only [zP, zN, zA, zB, zC])
    refine pu_ (v := .int .i64 k) (y_move rfl (by rfl) (by rfl)) ?_
    (try simp only [zP, zN, zA, zB, zC])
    refine pu_ (v := .slice (some a) n c) (y_move rfl (by rfl) (by rfl)) ?_
    (try simp only [zP, zN, zA, zB, zC])
    refine pu_ (v := .int .i64 n) (y_run (by rfl) (fun W => by go_simp)) ?_
    (try simp only [zP, zN, zA, zB, zC])
    refine pu_ (v := .bool true) (y_run (by rfl) (fun W => by have d := D19.out; go_simp)) ?_
    (try simp only [zP, zN, zA, zB, zC])
    refine pu_ (v := .bool true) (y_pick (t := true) (by rfl) rfl (by rfl) (by rfl)) ?_
    (try simp only [zP, zN, zA, zB, zC])
    refine pu_ (v := .bool true) (y_move rfl (by rfl) (by rfl)) ?_
    (try simp only [zP, zN, zA, zB, zC])
    refine pu_ (v := .int .i64 k) (y_move rfl (by rfl) (by rfl)) ?_
    (try simp only [zP, zN, zA, zB, zC])
    refine pu_ (v := .slice (some a) n c) (y_move rfl (by rfl) (by rfl)) ?_
    (try simp only [zP, zN, zA, zB, zC])
    refine pu_ (v := .int .i64 n) (y_run (by rfl) (fun W => by go_simp)) ?_
    (try simp only [zP, zN, zA, zB, zC])
    refine pu_ (v := .bool true) (y_run (by rfl) (fun W => by have d := D19.out; go_simp)) ?_
    (try simp only [zP, zN, zA, zB, zC])
    refine pu_ (v := .bool true) (y_pick (t := true) (by rfl) rfl (by rfl) (by rfl)) ?_
    (try simp only [zP, zN, zA, zB, zC])
    refine nl_ (hK8 _ _ ?_); clear hK8 K8
    refine wp_cond_true rfl ?_
    refine wp_skip ?_
    refine th_norm (hK7 _ _ ?_); try clear hK7 K7
    refine sq_ (fun K9 hK9 => ?_)
    refine wp_block ?_
    refine s_ (fun K10 hK10 => ?_)
    refine pu_ (v := .slice (some a) n c) (y_move rfl (by rfl) (by rfl)) ?_
    (try simp only [zP, zN, zA, zB, zC])
    refine pu_ (v := .int .i64 k) (y_move rfl (by rfl) (by rfl)) ?_
    (try simp only [zP, zN, zA, zB, zC])
    refine pu_ (v := .pointer (some (a.add (k * 11)))) (y_run (by rfl) (fun W => by have d := D19.out; go_simp)) ?_
    (try simp only [zP, zN, zA, zB, zC])
    refine ld_ (v := .agg #[.string s1, .string s2, .int .i64 r0, .int .i64 r1, .int .i64 r2, .int .i64 r3, .int .i64 r4, .int .i64 r5, .slice B M.length d, .int .i64 p0, .int .i64 p1]) rfl (by rfl) (by rfl) (run_loadVar_at (below_cells C0.out.below0 HCL.out) Try.underlying106 rfl (by kernel_rfl)) ?_
    (try simp only [zP, zN, zA, zB, zC])
    refine ef_ (fun K11 hK11 => ?_)
    refine e_alloc (by rfl) rfl rfl (cs := #[.string ⟨#[]⟩, .string ⟨#[]⟩, .int .i64 0, .int .i64 0, .int .i64 0, .int .i64 0, .int .i64 0, .int .i64 0, .slice none 0 0, .int .i64 0, .int .i64 0]) (by kernel_rfl) ?_
    rintro g12 w13 HG14 B15 C16
    have nw17 := Lib.hid (show w.heap.size ≤ g12 by have := C0.out.size; have := HG14.out; omega)
    have C0' := Lib.hid (show Ch [] w w13 from C0.out.trans' C16 (fun x hx => absurd hx (by simp)))
    clear C0
    have C0 := C0'; clear C0'
    have Fg12 := Lib.hid (show Blk w13 g12 (#[.string ⟨#[]⟩, .string ⟨#[]⟩, .int .i64 0, .int .i64 0, .int .i64 0, .int .i64 0, .int .i64 0, .int .i64 0, .slice none 0 0, .int .i64 0, .int .i64 0]) 106 from B15); clear B15 C16
    refine hK11 _ _ ?_; clear hK11 K11
    (try simp only [zP, zN, zA, zB, zC])
    refine ef_ (fun K18 hK18 => ?_)
    refine e_storeN (cells := #[.string s1, .string s2, .int .i64 r0, .int .i64 r1, .int .i64 r2, .int .i64 r3, .int .i64 r4, .int .i64 r5, .slice B M.length d, .int .i64 p0, .int .i64 p1]) (by rfl) rfl rfl (by rfl) (by rfl) Fg12.out (by kernel_rfl) (by rfl) (ones_cons rfl (ones_cons rfl (ones_cons rfl (ones_cons rfl (ones_cons rfl (ones_cons rfl (ones_cons rfl (ones_cons rfl (ones_cons rfl (ones_cons rfl (ones_cons rfl ones_nil))))))))))) ?_
    rintro w19 B20 C21
    have C0' := Lib.hid (show Ch [] w w19 from C0.out.trans' C21 (inw_cons (.inr nw17.out) inw_nil))
    clear C0
    have C0 := C0'; clear C0'
    clear Fg12; have Fg12 := Lib.hid (show Blk w19 g12 (#[.string s1, .string s2, .int .i64 r0, .int .i64 r1, .int .i64 r2, .int .i64 r3, .int .i64 r4, .int .i64 r5, .slice B M.length d, .int .i64 p0, .int .i64 p1]) 106 from B20); clear B20 C21
    refine hK18 _ _ ?_; clear hK18 K18
    (try simp only [zP, zN, zA, zB, zC])
    refine nl_ (hK10 _ _ ?_); clear hK10 K10
    refine s_ (fun K22 hK22 => ?_)
    refine pu_ (v := .slice (some a) n c) (y_move rfl (by rfl) (by rfl)) ?_
    (try simp only [zP, zN, zA, zB, zC])
    refine pu_ (v := .int .i64 k) (y_move rfl (by rfl) (by rfl)) ?_
    (try simp only [zP, zN, zA, zB, zC])
    refine pu_ (v := .pointer (some (a.add (k * 11)))) (y_run (by rfl) (fun W => by have d := D19.out; go_simp)) ?_
    (try simp only [zP, zN, zA, zB, zC])
    refine ld_ (v := .agg #[.string s1, .string s2, .int .i64 r0, .int .i64 r1, .int .i64 r2, .int .i64 r3, .int .i64 r4, .int .i64 r5, .slice B M.length d, .int .i64 p0, .int .i64 p1]) rfl (by rfl) (by rfl) (run_loadVar_at (below_cells C0.out.below0 HCL.out) Try.underlying106 rfl (by kernel_rfl)) ?_
    (try simp only [zP, zN, zA, zB, zC])
    refine ef_ (fun K23 hK23 => ?_)
    refine e_alloc (by rfl) rfl rfl (cs := #[.string ⟨#[]⟩, .string ⟨#[]⟩, .int .i64 0, .int .i64 0, .int .i64 0, .int .i64 0, .int .i64 0, .int .i64 0, .slice none 0 0, .int .i64 0, .int .i64 0]) (by kernel_rfl) ?_
    rintro g24 w25 HG26 B27 C28
    have nw29 := Lib.hid (show w.heap.size ≤ g24 by have := C0.out.size; have := HG26.out; omega)
    have ne30 := Lib.hid (Fg12.out.ne_new HG26)
    have C0' := Lib.hid (show Ch [] w w25 from C0.out.trans' C28 (fun x hx => absurd hx (by simp)))
    have Fg12' := Lib.hid (show Blk w25 g12 (#[.string s1, .string s2, .int .i64 r0, .int .i64 r1, .int .i64 r2, .int .i64 r3, .int .i64 r4, .int .i64 r5, .slice B M.length d, .int .i64 p0, .int .i64 p1]) 106 from C28.blk Fg12.out nin_nil)
    clear C0 Fg12
    have C0 := C0'; clear C0'
    have Fg12 := Fg12'; clear Fg12'
    have Fg24 := Lib.hid (show Blk w25 g24 (#[.string ⟨#[]⟩, .string ⟨#[]⟩, .int .i64 0, .int .i64 0, .int .i64 0, .int .i64 0, .int .i64 0, .int .i64 0, .slice none 0 0, .int .i64 0, .int .i64 0]) 106 from B27); clear B27 C28
    refine hK23 _ _ ?_; clear hK23 K23
    (try simp only [zP, zN, zA, zB, zC])
    refine ef_ (fun K31 hK31 => ?_)
    refine e_storeN (cells := #[.string s1, .string s2, .int .i64 r0, .int .i64 r1, .int .i64 r2, .int .i64 r3, .int .i64 r4, .int .i64 r5, .slice B M.length d, .int .i64 p0, .int .i64 p1]) (by rfl) rfl rfl (by rfl) (by rfl) Fg24.out (by kernel_rfl) (by rfl) (ones_cons rfl (ones_cons rfl (ones_cons rfl (ones_cons rfl (ones_cons rfl (ones_cons rfl (ones_cons rfl (ones_cons rfl (ones_cons rfl (ones_cons rfl (ones_cons rfl ones_nil))))))))))) ?_
    rintro w32 B33 C34
    have C0' := Lib.hid (show Ch [] w w32 from C0.out.trans' C34 (inw_cons (.inr nw29.out) inw_nil))
    have Fg12' := Lib.hid (show Blk w32 g12 (#[.string s1, .string s2, .int .i64 r0, .int .i64 r1, .int .i64 r2, .int .i64 r3, .int .i64 r4, .int .i64 r5, .slice B M.length d, .int .i64 p0, .int .i64 p1]) 106 from C34.blk Fg12.out (nin_cons ne30.out nin_nil))
    clear C0 Fg12
    have C0 := C0'; clear C0'
    have Fg12 := Fg12'; clear Fg12'
    clear Fg24; have Fg24 := Lib.hid (show Blk w32 g24 (#[.string s1, .string s2, .int .i64 r0, .int .i64 r1, .int .i64 r2, .int .i64 r3, .int .i64 r4, .int .i64 r5, .slice B M.length d, .int .i64 p0, .int .i64 p1]) 106 from B33); clear B33 C34
    refine hK31 _ _ ?_; clear hK31 K31
    (try simp only [zP, zN, zA, zB, zC])
    refine nl_ (hK22 _ _ ?_); clear hK22 K22
    refine r_ ?_
    refine pu_ (v := .pointer (some ⟨g12, 0, none⟩)) (y_run (by rfl) (fun W => by go_simp)) ?_
    (try simp only [zP, zN, zA, zB, zC])
    refine ld_ (v := .string s1) rfl (by rfl) (by rfl) (run_load_one ((Fg12.out.cell 0).trans rfl) Try.underlying9 rfl) ?_
    (try simp only [zP, zN, zA, zB, zC])
    refine pu_ (v := .pointer (some ⟨g24, 0, none⟩)) (y_run (by rfl) (fun W => by go_simp)) ?_
    (try simp only [zP, zN, zA, zB, zC])
    refine ld_ (v := .string s1) rfl (by rfl) (by rfl) (run_load_one ((Fg24.out.cell 0).trans rfl) Try.underlying9 rfl) ?_
    (try simp only [zP, zN, zA, zB, zC])
    refine pu_ (v := .bool true) (y_run (by rfl) (fun W => by go_simp)) ?_
    (try simp only [zP, zN, zA, zB, zC])
    refine pu_ (v := .bool true) (y_move rfl (by rfl) (by rfl)) ?_
    (try simp only [zP, zN, zA, zB, zC])
    refine pu_ (v := .pointer (some ⟨g12, 1, none⟩)) (y_run (by rfl) (fun W => by go_simp)) ?_
    (try simp only [zP, zN, zA, zB, zC])
    refine ld_ (v := .string s2) rfl (by rfl) (by rfl) (run_load_one ((Fg12.out.cell 1).trans rfl) Try.underlying9 rfl) ?_
    (try simp only [zP, zN, zA, zB, zC])
    refine pu_ (v := .pointer (some ⟨g24, 1, none⟩)) (y_run (by rfl) (fun W => by go_simp)) ?_
    (try simp only [zP, zN, zA, zB, zC])
    refine ld_ (v := .string s2) rfl (by rfl) (by rfl) (run_load_one ((Fg24.out.cell 1).trans rfl) Try.underlying9 rfl) ?_
    (try simp only [zP, zN, zA, zB, zC])
    refine pu_ (v := .bool true) (y_run (by rfl) (fun W => by go_simp)) ?_
    (try simp only [zP, zN, zA, zB, zC])
    refine pu_ (v := .bool true) (y_pick (t := true) (by rfl) rfl (by rfl) (by rfl)) ?_
    (try simp only [zP, zN, zA, zB, zC])
    refine pu_ (v := .bool true) (y_move rfl (by rfl) (by rfl)) ?_
    (try simp only [zP, zN, zA, zB, zC])
    refine pu_ (v := .pointer (some ⟨g12, 2, none⟩)) (y_run (by rfl) (fun W => by go_simp)) ?_
    (try simp only [zP, zN, zA, zB, zC])
    refine ld_ (v := .agg #[.int .i64 r0, .int .i64 r1, .int .i64 r2]) rfl (by rfl) (by rfl) (run_loadVar_at (cs := [.int .i64 r0, .int .i64 r1, .int .i64 r2]) (cells_part Fg12.out 2 (by rfl)) Try.underlying102 rfl (by kernel_rfl)) ?_
    (try simp only [zP, zN, zA, zB, zC])
    refine pu_ (v := .pointer (some ⟨g24, 2, none⟩)) (y_run (by rfl) (fun W => by go_simp)) ?_
    (try simp only [zP, zN, zA, zB, zC])
    refine ld_ (v := .agg #[.int .i64 r0, .int .i64 r1, .int .i64 r2]) rfl (by rfl) (by rfl) (run_loadVar_at (cs := [.int .i64 r0, .int .i64 r1, .int .i64 r2]) (cells_part Fg24.out 2 (by rfl)) Try.underlying102 rfl (by kernel_rfl)) ?_
    (try simp only [zP, zN, zA, zB, zC])
    refine pu_ (v := .bool true) (y_run (by rfl) (fun W => by go_simp)) ?_
    (try simp only [zP, zN, zA, zB, zC])
    refine pu_ (v := .bool true) (y_pick (t := true) (by rfl) rfl (by rfl) (by rfl)) ?_
    (try simp only [zP, zN, zA, zB, zC])
    refine pu_ (v := .bool true) (y_move rfl (by rfl) (by rfl)) ?_
    (try simp only [zP, zN, zA, zB, zC])
    refine pu_ (v := .pointer (some ⟨g12, 5, none⟩)) (y_run (by rfl) (fun W => by go_simp)) ?_
    (try simp only [zP, zN, zA, zB, zC])
    refine ld_ (v := .agg #[.int .i64 r3, .int .i64 r4, .int .i64 r5]) rfl (by rfl) (by rfl) (run_loadVar_at (cs := [.int .i64 r3, .int .i64 r4, .int .i64 r5]) (cells_part Fg12.out 5 (by rfl)) Try.underlying102 rfl (by kernel_rfl)) ?_
    (try simp only [zP, zN, zA, zB, zC])
    refine pu_ (v := .pointer (some ⟨g24, 5, none⟩)) (y_run (by rfl) (fun W => by go_simp)) ?_
    (try simp only [zP, zN, zA, zB, zC])
    refine ld_ (v := .agg #[.int .i64 r3, .int .i64 r4, .int .i64 r5]) rfl (by rfl) (by rfl) (run_loadVar_at (cs := [.int .i64 r3, .int .i64 r4, .int .i64 r5]) (cells_part Fg24.out 5 (by rfl)) Try.underlying102 rfl (by kernel_rfl)) ?_
    (try simp only [zP, zN, zA, zB, zC])
    refine pu_ (v := .bool true) (y_run (by rfl) (fun W => by go_simp)) ?_
    (try simp only [zP, zN, zA, zB, zC])
    refine pu_ (v := .bool true) (y_pick (t := true) (by rfl) rfl (by rfl) (by rfl)) ?_
    (try simp only [zP, zN, zA, zB, zC])
    refine pu_ (v := .bool true) (y_move rfl (by rfl) (by rfl)) ?_
    (try simp only [zP, zN, zA, zB, zC])
    refine pu_ (v := .pointer (some ⟨g12, 8, none⟩)) (y_run (by rfl) (fun W => by go_simp)) ?_
    (try simp only [zP, zN, zA, zB, zC])
    refine ld_ (v := .slice B M.length d) rfl (by rfl) (by rfl) (run_load_one ((Fg12.out.cell 8).trans rfl) Try.underlying44 rfl) ?_
    (try simp only [zP, zN, zA, zB, zC])
    refine pu_ (v := .pointer (some ⟨g24, 8, none⟩)) (y_run (by rfl) (fun W => by go_simp)) ?_
    (try simp only [zP, zN, zA, zB, zC])
    refine ld_ (v := .slice B M.length d) rfl (by rfl) (by rfl) (run_load_one ((Fg24.out.cell 8).trans rfl) Try.underlying44 rfl) ?_
    (try simp only [zP, zN, zA, zB, zC])
    refine ef_ (fun K35 hK35 => ?_)
    refine e_call Try.func36 (by kernel_rfl) rfl #[.slice B M.length d, .slice B M.length d] (by rfl) rfl rfl (by first | rfl | (simp only [List.map_toArray, List.map_cons, List.map_nil]; first | done | rfl)) ((same_ (A := B) (B := B) (c := d) (d := d) (M := M) HMM (Lib.hid (HSM.out.chx C0.out xnin_nil)) (Lib.hid (HSM.out.chx C0.out xnin_nil)))) ?_
    rintro en w37 ⟨rfl, cc36⟩
    refine ⟨_, rfl, ?_⟩
    have C0' := Lib.hid (show Ch [] w w37 from C0.out.trans' cc36 (fun x hx => absurd hx (by simp)))
    have Fg12' := Lib.hid (show Blk w37 g12 (#[.string s1, .string s2, .int .i64 r0, .int .i64 r1, .int .i64 r2, .int .i64 r3, .int .i64 r4, .int .i64 r5, .slice B M.length d, .int .i64 p0, .int .i64 p1]) 106 from cc36.blk Fg12.out nin_nil)
    have Fg24' := Lib.hid (show Blk w37 g24 (#[.string s1, .string s2, .int .i64 r0, .int .i64 r1, .int .i64 r2, .int .i64 r3, .int .i64 r4, .int .i64 r5, .slice B M.length d, .int .i64 p0, .int .i64 p1]) 106 from cc36.blk Fg24.out nin_nil)
    clear C0 Fg12 Fg24
    have C0 := C0'; clear C0'
    have Fg12 := Fg12'; clear Fg12'
    have Fg24 := Fg24'; clear Fg24'
    clear cc36
    refine hK35 _ _ ?_; clear hK35 K35
    (try simp only [zP, zN, zA, zB, zC])
    refine pu_ (v := .bool true) (y_pick (t := true) (by rfl) rfl (by rfl) (by rfl)) ?_
    (try simp only [zP, zN, zA, zB, zC])
    refine pu_ (v := .bool true) (y_move rfl (by rfl) (by rfl)) ?_
    (try simp only [zP, zN, zA, zB, zC])
    refine pu_ (v := .pointer (some ⟨g12, 9, none⟩)) (y_run (by rfl) (fun W => by go_simp)) ?_
    (try simp only [zP, zN, zA, zB, zC])
    refine ld_ (v := .agg #[.int .i64 p0, .int .i64 p1]) rfl (by rfl) (by rfl) (run_loadVar_at (cs := [.int .i64 p0, .int .i64 p1]) (cells_part Fg12.out 9 (by rfl)) Try.underlying104 rfl (by kernel_rfl)) ?_
    (try simp only [zP, zN, zA, zB, zC])
    refine pu_ (v := .pointer (some ⟨g24, 9, none⟩)) (y_run (by rfl) (fun W => by go_simp)) ?_
    (try simp only [zP, zN, zA, zB, zC])
    refine ld_ (v := .agg #[.int .i64 p0, .int .i64 p1]) rfl (by rfl) (by rfl) (run_loadVar_at (cs := [.int .i64 p0, .int .i64 p1]) (cells_part Fg24.out 9 (by rfl)) Try.underlying104 rfl (by kernel_rfl)) ?_
    (try simp only [zP, zN, zA, zB, zC])
    refine pu_ (v := .bool true) (y_run (by rfl) (fun W => by go_simp)) ?_
    (try simp only [zP, zN, zA, zB, zC])
    refine pu_ (v := .bool true) (y_pick (t := true) (by rfl) rfl (by rfl) (by rfl)) ?_
    (try simp only [zP, zN, zA, zB, zC])
    refine pu_ (v := .bool true) (y_assign rfl (by rfl) (by rfl)) ?_
    (try simp only [zP, zN, zA, zB, zC])
    refine nl_ ?_
    refine ib_norm ?_
    refine th_norm (hK9 _ _ ?_); try clear hK9 K9
    refine r_ ?_
    refine pu_ (v := .int .i64 k) (y_move rfl (by rfl) (by rfl)) ?_
    (try simp only [zP, zN, zA, zB, zC])
    refine pu_ (v := .int .i64 (k + 1 : Nat)) (y_run (by rfl) (fun W => by have d := Wk.out; go_simp)) ?_
    (try simp only [zP, zN, zA, zB, zC])
    refine pu_ (v := .int .i64 (k + 1 : Nat)) (y_assign rfl (by rfl) (by rfl)) ?_
    (try simp only [zP, zN, zA, zB, zC])
    refine nl_ ?_
    exact th_norm (hK6 (kq - 1) _ _ (by have := hlt.out; have := hk.out; omega) ⟨k + 1, fun us_ => (#[.slice (some a) n c, .slice (some a) n c, us 2, us 3, .bool false, .bool true, .int .i64 (k + 1 : Nat), .pointer (some ⟨g12, 0, none⟩), .pointer (some ⟨g24, 0, none⟩), us 9, us 10, us 11, us 12, us 13, .bool true, .bool true, .int .i64 k, .slice (some a) n c, .int .i64 n, .bool true, .bool true, .bool true, .int .i64 k, .slice (some a) n c, .int .i64 n, .bool true, .bool true, .int .i64 k, .int .i64 (k + 1 : Nat), .slice (some a) n c, .int .i64 k, .pointer (some (a.add (k * 11))), .agg #[.string s1, .string s2, .int .i64 r0, .int .i64 r1, .int .i64 r2, .int .i64 r3, .int .i64 r4, .int .i64 r5, .slice B M.length d, .int .i64 p0, .int .i64 p1], .slice (some a) n c, .int .i64 k, .pointer (some (a.add (k * 11))), .agg #[.string s1, .string s2, .int .i64 r0, .int .i64 r1, .int .i64 r2, .int .i64 r3, .int .i64 r4, .int .i64 r5, .slice B M.length d, .int .i64 p0, .int .i64 p1], .pointer (some ⟨g12, 0, none⟩), .string s1, .pointer (some ⟨g24, 0, none⟩), .string s1, .bool true, .bool true, .pointer (some ⟨g12, 1, none⟩), .string s2, .pointer (some ⟨g24, 1, none⟩), .string s2, .bool true, .bool true, .bool true, .pointer (some ⟨g12, 2, none⟩), .agg #[.int .i64 r0, .int .i64 r1, .int .i64 r2], .pointer (some ⟨g24, 2, none⟩), .agg #[.int .i64 r0, .int .i64 r1, .int .i64 r2], .bool true, .bool true, .bool true, .pointer (some ⟨g12, 5, none⟩), .agg #[.int .i64 r3, .int .i64 r4, .int .i64 r5], .pointer (some ⟨g24, 5, none⟩), .agg #[.int .i64 r3, .int .i64 r4, .int .i64 r5], .bool true, .bool true, .bool true, .pointer (some ⟨g12, 8, none⟩), .slice B M.length d, .pointer (some ⟨g24, 8, none⟩), .slice B M.length d, .bool true, .bool true, .bool true, .pointer (some ⟨g12, 9, none⟩), .agg #[.int .i64 p0, .int .i64 p1], .pointer (some ⟨g24, 9, none⟩), .agg #[.int .i64 p0, .int .i64 p1], .bool true, .bool true, us 77] : Array Value).getD us_ undef, rfl, C0, Lib.hid ⟨by have := hlt.out; omega, by have := hlt.out; have := hk.out; omega⟩⟩)
  · have D19 := Lib.hid (show ¬ (k : Int) < (n : Int) by have := hk.out; omega)
    clear h
    refine s_ (fun K38 hK38 => ?_)
    refine pu_ (v := .bool true) (y_move rfl (by rfl) (by rfl)) ?_
    (try simp only [zP, zN, zA, zB, zC])
    refine pu_ (v := .bool true) (y_move rfl (by rfl) (by rfl)) ?_
    (try simp only [zP, zN, zA, zB, zC])
    refine pu_ (v := .int .i64 k) (y_move rfl (by rfl) (by rfl)) ?_
    (try simp only [zP, zN, zA, zB, zC])
    refine pu_ (v := .slice A n c) (y_move rfl (by rfl) (by rfl)) ?_
    (try simp only [zP, zN, zA, zB, zC])
    refine pu_ (v := .int .i64 n) (y_run (by rfl) (fun W => by go_simp)) ?_
    (try simp only [zP, zN, zA, zB, zC])
    refine pu_ (v := .bool false) (y_run (by rfl) (fun W => by have d := D19.out; go_simp)) ?_
    (try simp only [zP, zN, zA, zB, zC])
    refine pu_ (v := .bool false) (y_pick (t := true) (by rfl) rfl (by rfl) (by rfl)) ?_
    (try simp only [zP, zN, zA, zB, zC])
    refine pu_ (v := .bool false) (y_move rfl (by rfl) (by rfl)) ?_
    (try simp only [zP, zN, zA, zB, zC])
    refine pu_ (y_off (by rfl)) ?_
    (try simp only [zP, zN, zA, zB, zC])
    refine pu_ (y_off (by rfl)) ?_
    (try simp only [zP, zN, zA, zB, zC])
    refine pu_ (y_off (by rfl)) ?_
    (try simp only [zP, zN, zA, zB, zC])
    refine pu_ (y_off (by rfl)) ?_
    (try simp only [zP, zN, zA, zB, zC])
    refine pu_ (v := .bool false) (y_pick (t := false) (by rfl) rfl (by rfl) (by rfl)) ?_
    (try simp only [zP, zN, zA, zB, zC])
    refine nl_ (hK38 _ _ ?_); clear hK38 K38
    refine wp_cond_false rfl ?_
    refine wp_exit ?_
    refine th_exit ?_
    refine th_exit ?_
    refine ib_exit ?_
    refine th_norm (hK3 _ _ ?_); try clear hK3 K3
    refine s_ (fun K39 hK39 => ?_)
    refine pu_ (v := .bool true) (y_move rfl (by rfl) (by rfl)) ?_
    (try simp only [zP, zN, zA, zB, zC])
    refine pu_ (v := .bool true) (y_assign rfl (by rfl) (by rfl)) ?_
    (try simp only [zP, zN, zA, zB, zC])
    refine nl_ (hK39 _ _ ?_); clear hK39 K39
    refine wp_ret ?_
    refine hQ _ _ _ ?_
    refine bodyPost_ret (res1 rfl (rdv_tmp (v := .bool true) (by rfl))) rfl ?_
    exact ⟨rfl, C0.out⟩
end
end Go.Proofs.Ytggcpbnlblbpjaa.L
