/- The walk of the merge of the sort that is stable. -/
import Derived.Test.YtggcpbnlblbpjaaLineM
namespace Go.Proofs.Ytggcpbnlblbpjaa.L
open Go Go.RowKit Go.Proofs.Ytggcpbnlblbpjaa.K Go.Proofs.Ytggcpbnlblbpjaa.H Go.Proofs.YtggcpbnlblbpjaaW.PrintLast
set_option linter.unusedVariables false
set_option linter.unusedSimpArgs false
set_option maxRecDepth 100000
set_option maxHeartbeats 8000000
section
variable {w : World}
theorem symm_ : ∀ (N : Nat) {w : World} {a : Addr} {c bx gx cx n base : Nat} {L : List HOp} {U A B T : List Int} {a0 m0 b0 : Nat} (HM : Hid (a0 = U.length ∧ m0 = U.length + A.length ∧ b0 = U.length + A.length + B.length ∧ 0 < A.length ∧ 0 < B.length)) (HN : Hid (n ≤ 1000)) (HIN : Hid (∀ z ∈ A ++ B, inL L z)) (HSA : Hid (srt L A)) (HSB : Hid (srt L B)) (HAH : Hid (ahead A B)) (HXR : Hid (∀ k, k ∈ xb (.slice (some a) L.length c) → k ∉ rl (.slice (some ⟨gx, 0, none⟩) n cx))) (FX : Hid (Blk w bx (#[.slice (some a) L.length c]) 45)) (SL : Hid (SrcIs w (.slice (some a) L.length c) (L.length) ((L).flatMap opC) 28)) (OX : Hid (OwnS w base 3 1 (.slice (some ⟨gx, 0, none⟩) n cx) (n) ((U ++ (A ++ (B ++ T))).map vi))) (HNN : Hid (A.length + B.length < N)),
    Calls Try.prog 68 #[.slice (some ⟨gx, 0, none⟩) n cx, .int .i64 a0, .int .i64 m0, .int .i64 b0, .func (.func 54) #[] #[.pointer (some ⟨bx, 0, none⟩)]] w fun en w' => en = .returned (.tuple #[]) ∧ ∃ M, sorts L (A ++ B) M ∧ OwnS w' base 3 1 (.slice (some ⟨gx, 0, none⟩) n cx) n ((U ++ (M ++ T)).map vi) ∧ Ch (rl (.slice (some ⟨gx, 0, none⟩) n cx)) w w' := by
  intro N
  induction N with
  | zero => intro w a c bx gx cx n base L U A B T a0 m0 b0 HM HN HIN HSA HSB HAH HXR FX SL OX HNN; exact absurd HNN.out (by omega)
  | succ N ih =>
    intro w a c bx gx cx n base L U A B T a0 m0 b0 HM HN HIN HSA HSB HAH HXR FX SL OX HNN
    have C0 := Lib.hid (Ch.refl (rl (.slice (some ⟨gx, 0, none⟩) n cx)) w)
    have BC := Lib.hid (show n ≤ cx by obtain ⟨_, _, he, hc, _⟩ := OX.out.slice; injection he with _ _ e3; rw [e3]; exact hc)
    have HLN := Lib.hid (show (U ++ (A ++ (B ++ T))).length = n by have h := OX.out.1; rw [List.length_map, Nat.mul_one] at h; exact h)
    go_enter Try.func68, Try.ntmps68
    refine q_ (fun Q hQ hP => ?_)
    refine sq_ (fun K1 hK1 => ?_)
    rcases merge_ways A B with h | h | h
    · obtain ⟨x, hx1⟩ := len_one h
      have EA := Lib.hid hx1
      have hA1 := Lib.hid h
      clear h hx1
      obtain ⟨ml, hml⟩ : ∃ x, x = m0 - a0 := ⟨_, rfl⟩
      have Eml := Lib.hid hml; clear hml
      have Wml := Lib.hid (show IntKind.i64.wrap ((m0 : Int) - (a0 : Int)) = (ml : Int) by rw [wr64 (by have := Eml.out; have := HM.out; have := HN.out; have h8 := HLN.out; simp only [List.length_append] at h8; omega)]; have := Eml.out; have := HM.out; have := HN.out; have h8 := HLN.out; simp only [List.length_append] at h8; omega)
      have D28 := Lib.hid (show ml = 1 by have := Eml.out; have := HM.out; have := hA1.out; omega)
      refine s_ (fun K2 hK2 => ?_)
      refine pu_ (v := .int .i64 m0) (y_move rfl (by rfl) (by rfl)) ?_
      (try simp only [zP, zN, zA, zB, zC])
      refine pu_ (v := .int .i64 a0) (y_move rfl (by rfl) (by rfl)) ?_
      (try simp only [zP, zN, zA, zB, zC])
      refine pu_ (v := .int .i64 ml) (y_run (by rfl) (fun W => by have d := Wml.out; go_simp)) ?_
      (try simp only [zP, zN, zA, zB, zC])
      refine pu_ (v := .bool true) (y_run (by rfl) (fun W => by have d := D28.out; go_simp)) ?_
      (try simp only [zP, zN, zA, zB, zC])
      refine nl_ (hK2 _ _ ?_); clear hK2 K2
      refine wp_cond_true rfl ?_
      refine s_ (fun K3 hK3 => ?_)
      refine pu_ (v := .int .i64 m0) (y_move rfl (by rfl) (by rfl)) ?_
      (try simp only [zP, zN, zA, zB, zC])
      refine pu_ (v := .int .i64 m0) (y_assign rfl (by rfl) (by rfl)) ?_
      (try simp only [zP, zN, zA, zB, zC])
      refine nl_ (hK3 _ _ ?_); clear hK3 K3
      refine s_ (fun K4 hK4 => ?_)
      refine pu_ (v := .int .i64 b0) (y_move rfl (by rfl) (by rfl)) ?_
      (try simp only [zP, zN, zA, zB, zC])
      refine pu_ (v := .int .i64 b0) (y_assign rfl (by rfl) (by rfl)) ?_
      (try simp only [zP, zN, zA, zB, zC])
      refine nl_ (hK4 _ _ ?_); clear hK4 K4
      refine sq_ (fun K5 hK5 => ?_)
      refine wp_block ?_
      refine loopk_ (fun (kq : Nat) (a' : Act) (w' : World) => ∃ (i : Nat), ∃ (j : Nat), ∃ (us : Nat → Value), a' = ⟨#[.slice (some ⟨gx, 0, none⟩) n cx, .int .i64 a0, .int .i64 m0, .int .i64 b0, .func (.func 54) #[] #[.pointer (some ⟨bx, 0, none⟩)], us 5, us 6, us 7, us 8, us 9, .int .i64 i, .int .i64 j, us 12, us 13, us 14, us 15, us 16, us 17, us 18, us 19, us 20, us 21, us 22, us 23, us 24, us 25, us 26, us 27, us 28, us 29, us 30, us 31, us 32, us 33, us 34, us 35, us 36, us 37, us 38, us 39, us 40, us 41, us 42, us 43, us 44, us 45, us 46, us 47, us 48, us 49, us 50, us 51, us 52, us 53, us 54, us 55, us 56, us 57, us 58, us 59, us 60, us 61, us 62, us 63, us 64, us 65, us 66, us 67, us 68, us 69, us 70, us 71, us 72, us 73, us 74, us 75, us 76, us 77, us 78, us 79, us 80, us 81, us 82, us 83, us 84, us 85, us 86, us 87, us 88, us 89, us 90, us 91, us 92, us 93, us 94, us 95, us 96, us 97, us 98, us 99, us 100, us 101, us 102, us 103, us 104, us 105, us 106, us 107, us 108, us 109, us 110, us 111, us 112, us 113, us 114, us 115, us 116, us 117, us 118, us 119, us 120, us 121, us 122, us 123, us 124, us 125, us 126, us 127, us 128, us 129, us 130, us 131, us 132, us 133, us 134, us 135, us 136, us 137, us 138, us 139, us 140, us 141, us 142, us 143, us 144, us 145, us 146, us 147, us 148, us 149, us 150, us 151, us 152, us 153, us 154, us 155, us 156, us 157, us 158, us 159, us 160, us 161, us 162, us 163, us 164, us 165, us 166, us 167, us 168, us 169, us 170, us 171, us 172, us 173, us 174, us 175, us 176, us 177, us 178, us 179, us 180, us 181, us 182, us 183, us 184, us 185, us 186, us 187, us 188, us 189, us 190, us 191, us 192, us 193, us 194, us 195, us 196, us 197, us 198, us 199, us 200, us 201, us 202, us 203, us 204, us 205, us 206, us 207, us 208, us 209, us 210, us 211, us 212, us 213, us 214, us 215, us 216, us 217, us 218, us 219], []⟩ ∧ Hid (Ch (rl (.slice (some ⟨gx, 0, none⟩) n cx)) w w') ∧ Hid (Blk w' bx (#[.slice (some a) L.length c]) 45) ∧ Hid (SrcIs w' (.slice (some a) L.length c) (L.length) ((L).flatMap opC) 28) ∧ Hid (OwnS w' base 3 1 (.slice (some ⟨gx, 0, none⟩) n cx) (n) ((U ++ (A ++ (B ++ T))).map vi)) ∧ Hid (bsL L B x (i - m0) (j - m0) ∧ m0 ≤ i ∧ i ≤ j ∧ j ≤ b0 ∧ kq = j - i)) (b0 - m0) (⟨m0, b0, fun us_ => (#[.slice (some ⟨gx, 0, none⟩) n cx, .int .i64 a0, .int .i64 m0, .int .i64 b0, .func (.func 54) #[] #[.pointer (some ⟨bx, 0, none⟩)], undef, undef, undef, undef, undef, .int .i64 m0, .int .i64 b0, undef, undef, undef, undef, undef, undef, undef, undef, undef, undef, undef, undef, undef, .int .i64 m0, .int .i64 a0, .int .i64 ml, .bool true, .int .i64 m0, .int .i64 b0, undef, undef, undef, undef, undef, undef, undef, undef, undef, undef, undef, undef, undef, undef, undef, undef, undef, undef, undef, undef, undef, undef, undef, undef, undef, undef, undef, undef, undef, undef, undef, undef, undef, undef, undef, undef, undef, undef, undef, undef, undef, undef, undef, undef, undef, undef, undef, undef, undef, undef, undef, undef, undef, undef, undef, undef, undef, undef, undef, undef, undef, undef, undef, undef, undef, undef, undef, undef, undef, undef, undef, undef, undef, undef, undef, undef, undef, undef, undef, undef, undef, undef, undef, undef, undef, undef, undef, undef, undef, undef, undef, undef, undef, undef, undef, undef, undef, undef, undef, undef, undef, undef, undef, undef, undef, undef, undef, undef, undef, undef, undef, undef, undef, undef, undef, undef, undef, undef, undef, undef, undef, undef, undef, undef, undef, undef, undef, undef, undef, undef, undef, undef, undef, undef, undef, undef, undef, undef, undef, undef, undef, undef, undef, undef, undef, undef, undef, undef, undef, undef, undef, undef, undef, undef, undef, undef, undef, undef, undef, undef, undef, undef, undef, undef, undef, undef, undef, undef, undef, undef, undef, undef, undef, undef, undef, undef, undef, undef, undef, undef, undef, undef, undef, undef, undef, undef, undef, undef, undef] : Array Value).getD us_ undef, rfl, C0, FX, SL, OX, Lib.hid ⟨by have := HM.out; rw [show m0 - m0 = 0 by omega, show b0 - m0 = B.length by omega]; exact bsL_start L B x, by omega, by have := HM.out; omega, by omega, rfl⟩⟩) ?_
      rintro kq _ w6 ⟨i, j, us, rfl, C0, FX, SL, OX, hb⟩ K7 hK7
      refine sq_ (fun K8 hK8 => ?_)
      rcases find_ways (fun h => kd L (B.getD (h - m0) 0) < kd L x) i j with ⟨h1, h2⟩ | ⟨h1, h2⟩ | h
      · have hij := Lib.hid h1
        have hcm := Lib.hid h2
        clear h1 h2
        have D33 := Lib.hid (show i < j from hij.out)
        obtain ⟨hs, hhs⟩ : ∃ x, x = i + j := ⟨_, rfl⟩
        have Ehs := Lib.hid hhs; clear hhs
        have Whs := Lib.hid (show IntKind.i64.wrap ((i : Int) + (j : Int)) = (hs : Int) by rw [wr64 (by have := Ehs.out; have := HM.out; have := HN.out; have h8 := HLN.out; simp only [List.length_append] at h8; have := hb.out; have := hij.out; omega)]; have := Ehs.out; have := HM.out; have := HN.out; have h8 := HLN.out; simp only [List.length_append] at h8; have := hb.out; have := hij.out; omega)
        have Uh := Lib.hid (show IntKind.u64.wrap (hs : Int) = (hs : Int) from wu64 (by have := Ehs.out; have := HM.out; have := HN.out; have h8 := HLN.out; simp only [List.length_append] at h8; have := hb.out; have := hij.out; omega))
        obtain ⟨h, hh⟩ : ∃ x, x = hs / 2 := ⟨_, rfl⟩
        have Eh := Lib.hid (show h = (i + j) / 2 by rw [hh, Ehs.out])
        have Vh := Lib.hid (show (hs : Int) / 2 = (h : Int) by omega)
        have Zh := Lib.hid (show IntKind.i64.wrap (h : Int) = (h : Int) from wr64 (by have := Eh.out; have := HM.out; have := HN.out; have h8 := HLN.out; simp only [List.length_append] at h8; have := hb.out; have := hij.out; omega)); clear hh
        have Ea0 := Lib.hid (show a0 = a0 from rfl)
        have Bh := Lib.hid (show (h : Int) < (n : Int) by have := Eh.out; have := HM.out; have := HN.out; have h8 := HLN.out; simp only [List.length_append] at h8; have := hb.out; have := hij.out; omega)
        have Ba0 := Lib.hid (show (a0 : Int) < (n : Int) by have := Ea0.out; have := HM.out; have := HN.out; have h8 := HLN.out; simp only [List.length_append] at h8; have := hb.out; have := hij.out; omega)
        obtain ⟨y, hy0, hyB0⟩ : ∃ y, B[h - m0]? = some y ∧ y ∈ B := ⟨_, List.getElem?_eq_getElem (by have := Eh.out; have := HM.out; have := HN.out; have h8 := HLN.out; simp only [List.length_append] at h8; have := hb.out; have := hij.out; omega), List.getElem_mem _⟩
        have hy := Lib.hid hy0; have hyB := Lib.hid hyB0; clear hy0 hyB0
        have hcy := Lib.hid (show kd L y < kd L x from (by have h9 := hcm.out; rw [show (i + j) / 2 = h by rw [Eh.out]] at h9; rw [List.getD_eq_getElem?_getD, hy.out] at h9; exact h9))
        have D50 := Lib.hid (show decide (cmpI (kd L y) (kd L x) < 0) = true from cmp_lt hcy.out)
        obtain ⟨i2, hi2⟩ : ∃ x, x = h + 1 := ⟨_, rfl⟩
        have Ei2 := Lib.hid hi2; clear hi2
        have Wi2 := Lib.hid (show IntKind.i64.wrap ((h : Int) + 1) = (i2 : Int) by rw [wr64 (by have := Ei2.out; have := HM.out; have := HN.out; have h8 := HLN.out; simp only [List.length_append] at h8; have := hb.out; have := hij.out; have := Eh.out; omega)]; have := Ei2.out; have := HM.out; have := HN.out; have h8 := HLN.out; simp only [List.length_append] at h8; have := hb.out; have := hij.out; have := Eh.out; omega)
        refine s_ (fun K9 hK9 => ?_)
        refine pu_ (v := .int .i64 i) (y_move rfl (by rfl) (by rfl)) ?_
        (try simp only [zP, zN, zA, zB, zC])
        refine pu_ (v := .int .i64 j) (y_move rfl (by rfl) (by rfl)) ?_
        (try simp only [zP, zN, zA, zB, zC])
        refine pu_ (v := .bool true) (y_run (by rfl) (fun W => by have d := D33.out; go_simp)) ?_
        (try simp only [zP, zN, zA, zB, zC])
        refine nl_ (hK9 _ _ ?_); clear hK9 K9
        refine wp_cond_true rfl ?_
        refine wp_skip ?_
        refine th_norm (hK8 _ _ ?_); try clear hK8 K8
        refine wp_block ?_
        refine s_ (fun K10 hK10 => ?_)
        refine pu_ (v := .int .i64 i) (y_move rfl (by rfl) (by rfl)) ?_
        (try simp only [zP, zN, zA, zB, zC])
        refine pu_ (v := .int .i64 j) (y_move rfl (by rfl) (by rfl)) ?_
        (try simp only [zP, zN, zA, zB, zC])
        refine pu_ (v := .int .i64 hs) (y_run (by rfl) (fun W => by have d := Whs.out; go_simp)) ?_
        (try simp only [zP, zN, zA, zB, zC])
        refine pu_ (v := .int .u64 hs) (y_run (by rfl) (fun W => by have d := Uh.out; go_simp)) ?_
        (try simp only [zP, zN, zA, zB, zC])
        refine pu_ (v := .int .u64 h) (y_run (by rfl) (fun W => by have d := Vh.out; go_simp)) ?_
        (try simp only [zP, zN, zA, zB, zC])
        refine pu_ (v := .int .i64 h) (y_run (by rfl) (fun W => by have d := Zh.out; go_simp)) ?_
        (try simp only [zP, zN, zA, zB, zC])
        refine pu_ (v := .int .i64 h) (y_assign rfl (by rfl) (by rfl)) ?_
        (try simp only [zP, zN, zA, zB, zC])
        refine nl_ (hK10 _ _ ?_); clear hK10 K10
        refine sq_ (fun K11 hK11 => ?_)
        refine startk_ (S := fun W => OwnS W base 3 1 (.slice (some ⟨gx, 0, none⟩) n cx) (n) ((U ++ (A ++ (B ++ T))).map vi) ∧ True) (ds := []) #[false, false, false, false, false, false, false, false, false, false, false] (by kernel_rfl) rfl rfl (fun W c => ⟨OX.out.ch c rnin_nil, trivial⟩) (fun w12 C13 hS14 => ?_)
        have C0' := Lib.hid (show Ch (rl (.slice (some ⟨gx, 0, none⟩) n cx)) w w12 from C0.out.trans' C13 (fun x hx => absurd hx (by simp)))
        have FX' := Lib.hid (show Blk w12 bx (#[.slice (some a) L.length c]) 45 from C13.blk FX.out nin_nil)
        have SL' := Lib.hid (show SrcIs w12 (.slice (some a) L.length c) (L.length) ((L).flatMap opC) 28 from SL.out.chx C13 xnin_nil)
        have OX' := Lib.hid (show OwnS w12 base 3 1 (.slice (some ⟨gx, 0, none⟩) n cx) (n) ((U ++ (A ++ (B ++ T))).map vi) from OX.out.ch C13 rnin_nil)
        clear C0 FX SL OX
        have C0 := C0'; clear C0'
        have FX := FX'; clear FX'
        have SL := SL'; clear SL'
        have OX := OX'; clear OX'
        clear C13
        refine pure_ (i := 0) (N := some 40) (v := .func (.func 54) #[] #[.pointer (some ⟨bx, 0, none⟩)]) #[true, false, false, false, false, false, false, false, false, false, false] rfl rfl (by kernel_rfl) (fun c a w h => hP c a _ _ w h) (y_move rfl (by rfl) (by rfl)) rfl ?_
        (try simp only [zP, zN, zA, zB, zC])
        refine pure_ (i := 1) (N := some 41) (v := .slice (some ⟨gx, 0, none⟩) n cx) #[true, true, false, false, false, false, false, false, false, false, false] rfl rfl (by kernel_rfl) (fun c a w h => hP c a _ _ w h) (y_move rfl (by rfl) (by rfl)) rfl ?_
        (try simp only [zP, zN, zA, zB, zC])
        refine pure_ (i := 2) (N := some 42) (v := .int .i64 h) #[true, true, true, false, false, false, false, false, false, false, false] rfl rfl (by kernel_rfl) (fun c a w h => hP c a _ _ w h) (y_move rfl (by rfl) (by rfl)) rfl ?_
        (try simp only [zP, zN, zA, zB, zC])
        refine pure_ (i := 3) (N := some 43) (v := .pointer (some ⟨gx, h, none⟩)) #[true, true, true, true, false, false, false, false, false, false, false] rfl rfl (by kernel_rfl) (fun c a w h => hP c a _ _ w h) (y_run (by rfl) (fun W => by have d := Bh.out; go_simp)) rfl ?_
        (try simp only [zP, zN, zA, zB, zC])
        refine take_ (i := 4) (N := some 44) (v := .int .i64 y) #[true, true, true, true, true, false, false, false, false, false, false] rfl rfl (by kernel_rfl) (fun c a w h => hP c a _ _ w h) (y_load (p := ⟨gx, h, none⟩) rfl (by rfl) (by rfl) (fun W hS => run_load_one (own_cell hS.1 (row_part2 hy.out (by have := Eh.out; have := HM.out; have := HN.out; have h8 := HLN.out; simp only [List.length_append] at h8; have := hb.out; have := hij.out; have := hb.out; omega))) Try.underlying3 rfl)) hS14 rfl ?_
        (try simp only [zP, zN, zA, zB, zC])
        refine pure_ (i := 5) (N := some 45) (v := .slice (some ⟨gx, 0, none⟩) n cx) #[true, true, true, true, true, true, false, false, false, false, false] rfl rfl (by kernel_rfl) (fun c a w h => hP c a _ _ w h) (y_move rfl (by rfl) (by rfl)) rfl ?_
        (try simp only [zP, zN, zA, zB, zC])
        refine pure_ (i := 6) (N := some 46) (v := .int .i64 a0) #[true, true, true, true, true, true, true, false, false, false, false] rfl rfl (by kernel_rfl) (fun c a w h => hP c a _ _ w h) (y_move rfl (by rfl) (by rfl)) rfl ?_
        (try simp only [zP, zN, zA, zB, zC])
        refine pure_ (i := 7) (N := some 47) (v := .pointer (some ⟨gx, a0, none⟩)) #[true, true, true, true, true, true, true, true, false, false, false] rfl rfl (by kernel_rfl) (fun c a w h => hP c a _ _ w h) (y_run (by rfl) (fun W => by have d := Ba0.out; go_simp)) rfl ?_
        (try simp only [zP, zN, zA, zB, zC])
        refine take_ (i := 8) (N := some 48) (v := .int .i64 x) #[true, true, true, true, true, true, true, true, true, false, false] rfl rfl (by kernel_rfl) (fun c a w h => hP c a _ _ w h) (y_load (p := ⟨gx, a0, none⟩) rfl (by rfl) (by rfl) (fun W hS => run_load_one (own_cell hS.1 (by rw [EA.out]; exact row_part1 (show [x][0]? = some x from rfl) (by have := HM.out; omega))) Try.underlying3 rfl)) hS14 rfl ?_
        (try simp only [zP, zN, zA, zB, zC])
        refine one_ (i := 9) (N := some 49) #[true, true, true, true, true, true, true, true, true, true, false] rfl rfl (by kernel_rfl) (by simp) (fun K15 hK15 => ?_)
        refine e_callf Try.func54 (by kernel_rfl) rfl #[.int .i64 y, .int .i64 x, .pointer (some ⟨bx, 0, none⟩)] (by rfl) rfl rfl (by rfl) (by first | rfl | simp [Act.eval]) ((cmp2_ (HIN.out y (by simp [hyB.out])) (HIN.out x (by rw [EA.out]; simp)) FX SL)) ?_
        rintro en w16 ⟨rfl, cc⟩
        refine ⟨_, rfl, ?_⟩
        have C0' := Lib.hid (show Ch (rl (.slice (some ⟨gx, 0, none⟩) n cx)) w w16 from C0.out.trans' cc (fun x hx => absurd hx (by simp)))
        have FX' := Lib.hid (show Blk w16 bx (#[.slice (some a) L.length c]) 45 from cc.blk FX.out nin_nil)
        have SL' := Lib.hid (show SrcIs w16 (.slice (some a) L.length c) (L.length) ((L).flatMap opC) 28 from SL.out.chx cc xnin_nil)
        have OX' := Lib.hid (show OwnS w16 base 3 1 (.slice (some ⟨gx, 0, none⟩) n cx) (n) ((U ++ (A ++ (B ++ T))).map vi) from OX.out.ch cc rnin_nil)
        clear C0 FX SL OX
        have C0 := C0'; clear C0'
        have FX := FX'; clear FX'
        have SL := SL'; clear SL'
        have OX := OX'; clear OX'
        clear cc
        refine hK15.out _ _ ⟨OX.out, trivial⟩ (fun hS17 => ?_); clear hK15 K15
        (try simp only [zP, zN, zA, zB, zC])
        refine pure_ (i := 10) (N := some 50) (v := .bool true) #[true, true, true, true, true, true, true, true, true, true, true] rfl rfl (by kernel_rfl) (fun c a w h => hP c a _ _ w h) (y_run (by rfl) (fun W => by have d := D50.out; go_simp)) rfl ?_
        (try simp only [zP, zN, zA, zB, zC])
        refine done_ (by kernel_rfl) (th_norm (hK11 _ _ ?_)); clear hK11 K11
        refine wp_cond_true rfl ?_
        refine r_ ?_
        refine pu_ (v := .int .i64 h) (y_move rfl (by rfl) (by rfl)) ?_
        (try simp only [zP, zN, zA, zB, zC])
        refine pu_ (v := .int .i64 i2) (y_run (by rfl) (fun W => by have d := Wi2.out; go_simp)) ?_
        (try simp only [zP, zN, zA, zB, zC])
        refine pu_ (v := .int .i64 i2) (y_assign rfl (by rfl) (by rfl)) ?_
        (try simp only [zP, zN, zA, zB, zC])
        refine nl_ ?_
        refine ib_norm ?_
        exact th_norm (hK7 (j - i2) _ _ (by have := Ei2.out; have := Eh.out; have := hij.out; have := hb.out; omega) ⟨i2, j, fun us_ => (#[.slice (some ⟨gx, 0, none⟩) n cx, .int .i64 a0, .int .i64 m0, .int .i64 b0, .func (.func 54) #[] #[.pointer (some ⟨bx, 0, none⟩)], us 5, us 6, us 7, us 8, us 9, .int .i64 i2, .int .i64 j, .int .i64 h, us 13, us 14, us 15, us 16, us 17, us 18, us 19, us 20, us 21, us 22, us 23, us 24, us 25, us 26, us 27, us 28, us 29, us 30, .int .i64 i, .int .i64 j, .bool true, .int .i64 i, .int .i64 j, .int .i64 hs, .int .u64 hs, .int .u64 h, .int .i64 h, .func (.func 54) #[] #[.pointer (some ⟨bx, 0, none⟩)], .slice (some ⟨gx, 0, none⟩) n cx, .int .i64 h, .pointer (some ⟨gx, h, none⟩), .int .i64 y, .slice (some ⟨gx, 0, none⟩) n cx, .int .i64 a0, .pointer (some ⟨gx, a0, none⟩), .int .i64 x, .int .i64 (cmpI (kd L y) (kd L x)), .bool true, .int .i64 h, .int .i64 i2, us 53, us 54, us 55, us 56, us 57, us 58, us 59, us 60, us 61, us 62, us 63, us 64, us 65, us 66, us 67, us 68, us 69, us 70, us 71, us 72, us 73, us 74, us 75, us 76, us 77, us 78, us 79, us 80, us 81, us 82, us 83, us 84, us 85, us 86, us 87, us 88, us 89, us 90, us 91, us 92, us 93, us 94, us 95, us 96, us 97, us 98, us 99, us 100, us 101, us 102, us 103, us 104, us 105, us 106, us 107, us 108, us 109, us 110, us 111, us 112, us 113, us 114, us 115, us 116, us 117, us 118, us 119, us 120, us 121, us 122, us 123, us 124, us 125, us 126, us 127, us 128, us 129, us 130, us 131, us 132, us 133, us 134, us 135, us 136, us 137, us 138, us 139, us 140, us 141, us 142, us 143, us 144, us 145, us 146, us 147, us 148, us 149, us 150, us 151, us 152, us 153, us 154, us 155, us 156, us 157, us 158, us 159, us 160, us 161, us 162, us 163, us 164, us 165, us 166, us 167, us 168, us 169, us 170, us 171, us 172, us 173, us 174, us 175, us 176, us 177, us 178, us 179, us 180, us 181, us 182, us 183, us 184, us 185, us 186, us 187, us 188, us 189, us 190, us 191, us 192, us 193, us 194, us 195, us 196, us 197, us 198, us 199, us 200, us 201, us 202, us 203, us 204, us 205, us 206, us 207, us 208, us 209, us 210, us 211, us 212, us 213, us 214, us 215, us 216, us 217, us 218, us 219] : Array Value).getD us_ undef, rfl, C0, FX, SL, OX, Lib.hid ⟨by rw [show i2 - m0 = h - m0 + 1 by have := Ei2.out; have := Eh.out; have := hb.out; omega]; exact bsL_up HSB.out hb.out.1 hy.out hcy.out (by have := Eh.out; have := hb.out; have := hij.out; omega), by have := Ei2.out; have := Eh.out; have := hb.out; omega, by have := Ei2.out; have := Eh.out; have := hij.out; omega, by have := hb.out; omega, rfl⟩⟩)
      · have hij := Lib.hid h1
        have hcm := Lib.hid h2
        clear h1 h2
        have D33 := Lib.hid (show i < j from hij.out)
        obtain ⟨hs, hhs⟩ : ∃ x, x = i + j := ⟨_, rfl⟩
        have Ehs := Lib.hid hhs; clear hhs
        have Whs := Lib.hid (show IntKind.i64.wrap ((i : Int) + (j : Int)) = (hs : Int) by rw [wr64 (by have := Ehs.out; have := HM.out; have := HN.out; have h8 := HLN.out; simp only [List.length_append] at h8; have := hb.out; have := hij.out; omega)]; have := Ehs.out; have := HM.out; have := HN.out; have h8 := HLN.out; simp only [List.length_append] at h8; have := hb.out; have := hij.out; omega)
        have Uh := Lib.hid (show IntKind.u64.wrap (hs : Int) = (hs : Int) from wu64 (by have := Ehs.out; have := HM.out; have := HN.out; have h8 := HLN.out; simp only [List.length_append] at h8; have := hb.out; have := hij.out; omega))
        obtain ⟨h, hh⟩ : ∃ x, x = hs / 2 := ⟨_, rfl⟩
        have Eh := Lib.hid (show h = (i + j) / 2 by rw [hh, Ehs.out])
        have Vh := Lib.hid (show (hs : Int) / 2 = (h : Int) by omega)
        have Zh := Lib.hid (show IntKind.i64.wrap (h : Int) = (h : Int) from wr64 (by have := Eh.out; have := HM.out; have := HN.out; have h8 := HLN.out; simp only [List.length_append] at h8; have := hb.out; have := hij.out; omega)); clear hh
        have Ea0 := Lib.hid (show a0 = a0 from rfl)
        have Bh := Lib.hid (show (h : Int) < (n : Int) by have := Eh.out; have := HM.out; have := HN.out; have h8 := HLN.out; simp only [List.length_append] at h8; have := hb.out; have := hij.out; omega)
        have Ba0 := Lib.hid (show (a0 : Int) < (n : Int) by have := Ea0.out; have := HM.out; have := HN.out; have h8 := HLN.out; simp only [List.length_append] at h8; have := hb.out; have := hij.out; omega)
        obtain ⟨y, hy0, hyB0⟩ : ∃ y, B[h - m0]? = some y ∧ y ∈ B := ⟨_, List.getElem?_eq_getElem (by have := Eh.out; have := HM.out; have := HN.out; have h8 := HLN.out; simp only [List.length_append] at h8; have := hb.out; have := hij.out; omega), List.getElem_mem _⟩
        have hy := Lib.hid hy0; have hyB := Lib.hid hyB0; clear hy0 hyB0
        have hcy := Lib.hid (show ¬ kd L y < kd L x from (by have h9 := hcm.out; rw [show (i + j) / 2 = h by rw [Eh.out]] at h9; rw [List.getD_eq_getElem?_getD, hy.out] at h9; exact h9))
        have D50 := Lib.hid (show decide (cmpI (kd L y) (kd L x) < 0) = false from cmp_ge hcy.out)
        refine s_ (fun K18 hK18 => ?_)
        refine pu_ (v := .int .i64 i) (y_move rfl (by rfl) (by rfl)) ?_
        (try simp only [zP, zN, zA, zB, zC])
        refine pu_ (v := .int .i64 j) (y_move rfl (by rfl) (by rfl)) ?_
        (try simp only [zP, zN, zA, zB, zC])
        refine pu_ (v := .bool true) (y_run (by rfl) (fun W => by have d := D33.out; go_simp)) ?_
        (try simp only [zP, zN, zA, zB, zC])
        refine nl_ (hK18 _ _ ?_); clear hK18 K18
        refine wp_cond_true rfl ?_
        refine wp_skip ?_
        refine th_norm (hK8 _ _ ?_); try clear hK8 K8
        refine wp_block ?_
        refine s_ (fun K19 hK19 => ?_)
        refine pu_ (v := .int .i64 i) (y_move rfl (by rfl) (by rfl)) ?_
        (try simp only [zP, zN, zA, zB, zC])
        refine pu_ (v := .int .i64 j) (y_move rfl (by rfl) (by rfl)) ?_
        (try simp only [zP, zN, zA, zB, zC])
        refine pu_ (v := .int .i64 hs) (y_run (by rfl) (fun W => by have d := Whs.out; go_simp)) ?_
        (try simp only [zP, zN, zA, zB, zC])
        refine pu_ (v := .int .u64 hs) (y_run (by rfl) (fun W => by have d := Uh.out; go_simp)) ?_
        (try simp only [zP, zN, zA, zB, zC])
        refine pu_ (v := .int .u64 h) (y_run (by rfl) (fun W => by have d := Vh.out; go_simp)) ?_
        (try simp only [zP, zN, zA, zB, zC])
        refine pu_ (v := .int .i64 h) (y_run (by rfl) (fun W => by have d := Zh.out; go_simp)) ?_
        (try simp only [zP, zN, zA, zB, zC])
        refine pu_ (v := .int .i64 h) (y_assign rfl (by rfl) (by rfl)) ?_
        (try simp only [zP, zN, zA, zB, zC])
        refine nl_ (hK19 _ _ ?_); clear hK19 K19
        refine sq_ (fun K20 hK20 => ?_)
        refine startk_ (S := fun W => OwnS W base 3 1 (.slice (some ⟨gx, 0, none⟩) n cx) (n) ((U ++ (A ++ (B ++ T))).map vi) ∧ True) (ds := []) #[false, false, false, false, false, false, false, false, false, false, false] (by kernel_rfl) rfl rfl (fun W c => ⟨OX.out.ch c rnin_nil, trivial⟩) (fun w21 C22 hS23 => ?_)
        have C0' := Lib.hid (show Ch (rl (.slice (some ⟨gx, 0, none⟩) n cx)) w w21 from C0.out.trans' C22 (fun x hx => absurd hx (by simp)))
        have FX' := Lib.hid (show Blk w21 bx (#[.slice (some a) L.length c]) 45 from C22.blk FX.out nin_nil)
        have SL' := Lib.hid (show SrcIs w21 (.slice (some a) L.length c) (L.length) ((L).flatMap opC) 28 from SL.out.chx C22 xnin_nil)
        have OX' := Lib.hid (show OwnS w21 base 3 1 (.slice (some ⟨gx, 0, none⟩) n cx) (n) ((U ++ (A ++ (B ++ T))).map vi) from OX.out.ch C22 rnin_nil)
        clear C0 FX SL OX
        have C0 := C0'; clear C0'
        have FX := FX'; clear FX'
        have SL := SL'; clear SL'
        have OX := OX'; clear OX'
        clear C22
        refine pure_ (i := 0) (N := some 40) (v := .func (.func 54) #[] #[.pointer (some ⟨bx, 0, none⟩)]) #[true, false, false, false, false, false, false, false, false, false, false] rfl rfl (by kernel_rfl) (fun c a w h => hP c a _ _ w h) (y_move rfl (by rfl) (by rfl)) rfl ?_
        (try simp only [zP, zN, zA, zB, zC])
        refine pure_ (i := 1) (N := some 41) (v := .slice (some ⟨gx, 0, none⟩) n cx) #[true, true, false, false, false, false, false, false, false, false, false] rfl rfl (by kernel_rfl) (fun c a w h => hP c a _ _ w h) (y_move rfl (by rfl) (by rfl)) rfl ?_
        (try simp only [zP, zN, zA, zB, zC])
        refine pure_ (i := 2) (N := some 42) (v := .int .i64 h) #[true, true, true, false, false, false, false, false, false, false, false] rfl rfl (by kernel_rfl) (fun c a w h => hP c a _ _ w h) (y_move rfl (by rfl) (by rfl)) rfl ?_
        (try simp only [zP, zN, zA, zB, zC])
        refine pure_ (i := 3) (N := some 43) (v := .pointer (some ⟨gx, h, none⟩)) #[true, true, true, true, false, false, false, false, false, false, false] rfl rfl (by kernel_rfl) (fun c a w h => hP c a _ _ w h) (y_run (by rfl) (fun W => by have d := Bh.out; go_simp)) rfl ?_
        (try simp only [zP, zN, zA, zB, zC])
        refine take_ (i := 4) (N := some 44) (v := .int .i64 y) #[true, true, true, true, true, false, false, false, false, false, false] rfl rfl (by kernel_rfl) (fun c a w h => hP c a _ _ w h) (y_load (p := ⟨gx, h, none⟩) rfl (by rfl) (by rfl) (fun W hS => run_load_one (own_cell hS.1 (row_part2 hy.out (by have := Eh.out; have := HM.out; have := HN.out; have h8 := HLN.out; simp only [List.length_append] at h8; have := hb.out; have := hij.out; have := hb.out; omega))) Try.underlying3 rfl)) hS23 rfl ?_
        (try simp only [zP, zN, zA, zB, zC])
        refine pure_ (i := 5) (N := some 45) (v := .slice (some ⟨gx, 0, none⟩) n cx) #[true, true, true, true, true, true, false, false, false, false, false] rfl rfl (by kernel_rfl) (fun c a w h => hP c a _ _ w h) (y_move rfl (by rfl) (by rfl)) rfl ?_
        (try simp only [zP, zN, zA, zB, zC])
        refine pure_ (i := 6) (N := some 46) (v := .int .i64 a0) #[true, true, true, true, true, true, true, false, false, false, false] rfl rfl (by kernel_rfl) (fun c a w h => hP c a _ _ w h) (y_move rfl (by rfl) (by rfl)) rfl ?_
        (try simp only [zP, zN, zA, zB, zC])
        refine pure_ (i := 7) (N := some 47) (v := .pointer (some ⟨gx, a0, none⟩)) #[true, true, true, true, true, true, true, true, false, false, false] rfl rfl (by kernel_rfl) (fun c a w h => hP c a _ _ w h) (y_run (by rfl) (fun W => by have d := Ba0.out; go_simp)) rfl ?_
        (try simp only [zP, zN, zA, zB, zC])
        refine take_ (i := 8) (N := some 48) (v := .int .i64 x) #[true, true, true, true, true, true, true, true, true, false, false] rfl rfl (by kernel_rfl) (fun c a w h => hP c a _ _ w h) (y_load (p := ⟨gx, a0, none⟩) rfl (by rfl) (by rfl) (fun W hS => run_load_one (own_cell hS.1 (by rw [EA.out]; exact row_part1 (show [x][0]? = some x from rfl) (by have := HM.out; omega))) Try.underlying3 rfl)) hS23 rfl ?_
        (try simp only [zP, zN, zA, zB, zC])
        refine one_ (i := 9) (N := some 49) #[true, true, true, true, true, true, true, true, true, true, false] rfl rfl (by kernel_rfl) (by simp) (fun K24 hK24 => ?_)
        refine e_callf Try.func54 (by kernel_rfl) rfl #[.int .i64 y, .int .i64 x, .pointer (some ⟨bx, 0, none⟩)] (by rfl) rfl rfl (by rfl) (by first | rfl | simp [Act.eval]) ((cmp2_ (HIN.out y (by simp [hyB.out])) (HIN.out x (by rw [EA.out]; simp)) FX SL)) ?_
        rintro en w25 ⟨rfl, cc⟩
        refine ⟨_, rfl, ?_⟩
        have C0' := Lib.hid (show Ch (rl (.slice (some ⟨gx, 0, none⟩) n cx)) w w25 from C0.out.trans' cc (fun x hx => absurd hx (by simp)))
        have FX' := Lib.hid (show Blk w25 bx (#[.slice (some a) L.length c]) 45 from cc.blk FX.out nin_nil)
        have SL' := Lib.hid (show SrcIs w25 (.slice (some a) L.length c) (L.length) ((L).flatMap opC) 28 from SL.out.chx cc xnin_nil)
        have OX' := Lib.hid (show OwnS w25 base 3 1 (.slice (some ⟨gx, 0, none⟩) n cx) (n) ((U ++ (A ++ (B ++ T))).map vi) from OX.out.ch cc rnin_nil)
        clear C0 FX SL OX
        have C0 := C0'; clear C0'
        have FX := FX'; clear FX'
        have SL := SL'; clear SL'
        have OX := OX'; clear OX'
        clear cc
        refine hK24.out _ _ ⟨OX.out, trivial⟩ (fun hS26 => ?_); clear hK24 K24
        (try simp only [zP, zN, zA, zB, zC])
        refine pure_ (i := 10) (N := some 50) (v := .bool false) #[true, true, true, true, true, true, true, true, true, true, true] rfl rfl (by kernel_rfl) (fun c a w h => hP c a _ _ w h) (y_run (by rfl) (fun W => by have d := D50.out; go_simp)) rfl ?_
        (try simp only [zP, zN, zA, zB, zC])
        refine done_ (by kernel_rfl) (th_norm (hK20 _ _ ?_)); clear hK20 K20
        refine wp_cond_false rfl ?_
        refine r_ ?_
        refine pu_ (v := .int .i64 h) (y_move rfl (by rfl) (by rfl)) ?_
        (try simp only [zP, zN, zA, zB, zC])
        refine pu_ (v := .int .i64 h) (y_assign rfl (by rfl) (by rfl)) ?_
        (try simp only [zP, zN, zA, zB, zC])
        refine nl_ ?_
        refine ib_norm ?_
        exact th_norm (hK7 (h - i) _ _ (by have := Eh.out; have := hij.out; have := hb.out; omega) ⟨i, h, fun us_ => (#[.slice (some ⟨gx, 0, none⟩) n cx, .int .i64 a0, .int .i64 m0, .int .i64 b0, .func (.func 54) #[] #[.pointer (some ⟨bx, 0, none⟩)], us 5, us 6, us 7, us 8, us 9, .int .i64 i, .int .i64 h, .int .i64 h, us 13, us 14, us 15, us 16, us 17, us 18, us 19, us 20, us 21, us 22, us 23, us 24, us 25, us 26, us 27, us 28, us 29, us 30, .int .i64 i, .int .i64 j, .bool true, .int .i64 i, .int .i64 j, .int .i64 hs, .int .u64 hs, .int .u64 h, .int .i64 h, .func (.func 54) #[] #[.pointer (some ⟨bx, 0, none⟩)], .slice (some ⟨gx, 0, none⟩) n cx, .int .i64 h, .pointer (some ⟨gx, h, none⟩), .int .i64 y, .slice (some ⟨gx, 0, none⟩) n cx, .int .i64 a0, .pointer (some ⟨gx, a0, none⟩), .int .i64 x, .int .i64 (cmpI (kd L y) (kd L x)), .bool false, us 51, us 52, .int .i64 h, us 54, us 55, us 56, us 57, us 58, us 59, us 60, us 61, us 62, us 63, us 64, us 65, us 66, us 67, us 68, us 69, us 70, us 71, us 72, us 73, us 74, us 75, us 76, us 77, us 78, us 79, us 80, us 81, us 82, us 83, us 84, us 85, us 86, us 87, us 88, us 89, us 90, us 91, us 92, us 93, us 94, us 95, us 96, us 97, us 98, us 99, us 100, us 101, us 102, us 103, us 104, us 105, us 106, us 107, us 108, us 109, us 110, us 111, us 112, us 113, us 114, us 115, us 116, us 117, us 118, us 119, us 120, us 121, us 122, us 123, us 124, us 125, us 126, us 127, us 128, us 129, us 130, us 131, us 132, us 133, us 134, us 135, us 136, us 137, us 138, us 139, us 140, us 141, us 142, us 143, us 144, us 145, us 146, us 147, us 148, us 149, us 150, us 151, us 152, us 153, us 154, us 155, us 156, us 157, us 158, us 159, us 160, us 161, us 162, us 163, us 164, us 165, us 166, us 167, us 168, us 169, us 170, us 171, us 172, us 173, us 174, us 175, us 176, us 177, us 178, us 179, us 180, us 181, us 182, us 183, us 184, us 185, us 186, us 187, us 188, us 189, us 190, us 191, us 192, us 193, us 194, us 195, us 196, us 197, us 198, us 199, us 200, us 201, us 202, us 203, us 204, us 205, us 206, us 207, us 208, us 209, us 210, us 211, us 212, us 213, us 214, us 215, us 216, us 217, us 218, us 219] : Array Value).getD us_ undef, rfl, C0, FX, SL, OX, Lib.hid ⟨bsL_down HSB.out hb.out.1 hy.out hcy.out (by have := Eh.out; have := hb.out; have := hij.out; omega), by have := hb.out; omega, by have := Eh.out; have := hij.out; omega, by have := Eh.out; have := hb.out; have := hij.out; omega, rfl⟩⟩)
      · have D33 := Lib.hid (show j ≤ i by omega)
        have HE := Lib.hid (show i = j by have := hb.out; omega)
        clear h
        refine s_ (fun K27 hK27 => ?_)
        refine pu_ (v := .int .i64 i) (y_move rfl (by rfl) (by rfl)) ?_
        (try simp only [zP, zN, zA, zB, zC])
        refine pu_ (v := .int .i64 j) (y_move rfl (by rfl) (by rfl)) ?_
        (try simp only [zP, zN, zA, zB, zC])
        refine pu_ (v := .bool false) (y_run (by rfl) (fun W => by have d := D33.out; go_simp)) ?_
        (try simp only [zP, zN, zA, zB, zC])
        refine nl_ (hK27 _ _ ?_); clear hK27 K27
        refine wp_cond_false rfl ?_
        refine wp_exit ?_
        refine th_exit ?_
        refine th_exit ?_
        refine ib_exit ?_
        refine th_norm (hK5 _ _ ?_); try clear hK5 K5
        refine sq_ (fun K28 hK28 => ?_)
        refine s_ (fun K29 hK29 => ?_)
        refine pu_ (v := .int .i64 a0) (y_move rfl (by rfl) (by rfl)) ?_
        (try simp only [zP, zN, zA, zB, zC])
        refine pu_ (v := .int .i64 a0) (y_assign rfl (by rfl) (by rfl)) ?_
        (try simp only [zP, zN, zA, zB, zC])
        refine nl_ (hK29 _ _ ?_); clear hK29 K29
        refine wp_block ?_
        have HS := Lib.hid (show bsL L B x (i - m0) (i - m0) from by have h := hb.out.1; rw [← HE.out] at h; exact h)
        have HIB := Lib.hid (show m0 ≤ i ∧ i ≤ b0 by have := hb.out; have := HE.out; omega)
        clear hb
        refine loopk_ (fun (kq : Nat) (a' : Act) (w' : World) => ∃ (k : Nat), ∃ (t : Nat), ∃ (us : Nat → Value), a' = ⟨#[.slice (some ⟨gx, 0, none⟩) n cx, .int .i64 a0, us 2, us 3, us 4, us 5, us 6, us 7, us 8, us 9, .int .i64 i, us 11, us 12, .int .i64 k, us 14, us 15, us 16, us 17, us 18, us 19, us 20, us 21, us 22, us 23, us 24, us 25, us 26, us 27, us 28, us 29, us 30, us 31, us 32, us 33, us 34, us 35, us 36, us 37, us 38, us 39, us 40, us 41, us 42, us 43, us 44, us 45, us 46, us 47, us 48, us 49, us 50, us 51, us 52, us 53, us 54, us 55, us 56, us 57, us 58, us 59, us 60, us 61, us 62, us 63, us 64, us 65, us 66, us 67, us 68, us 69, us 70, us 71, us 72, us 73, us 74, us 75, us 76, us 77, us 78, us 79, us 80, us 81, us 82, us 83, us 84, us 85, us 86, us 87, us 88, us 89, us 90, us 91, us 92, us 93, us 94, us 95, us 96, us 97, us 98, us 99, us 100, us 101, us 102, us 103, us 104, us 105, us 106, us 107, us 108, us 109, us 110, us 111, us 112, us 113, us 114, us 115, us 116, us 117, us 118, us 119, us 120, us 121, us 122, us 123, us 124, us 125, us 126, us 127, us 128, us 129, us 130, us 131, us 132, us 133, us 134, us 135, us 136, us 137, us 138, us 139, us 140, us 141, us 142, us 143, us 144, us 145, us 146, us 147, us 148, us 149, us 150, us 151, us 152, us 153, us 154, us 155, us 156, us 157, us 158, us 159, us 160, us 161, us 162, us 163, us 164, us 165, us 166, us 167, us 168, us 169, us 170, us 171, us 172, us 173, us 174, us 175, us 176, us 177, us 178, us 179, us 180, us 181, us 182, us 183, us 184, us 185, us 186, us 187, us 188, us 189, us 190, us 191, us 192, us 193, us 194, us 195, us 196, us 197, us 198, us 199, us 200, us 201, us 202, us 203, us 204, us 205, us 206, us 207, us 208, us 209, us 210, us 211, us 212, us 213, us 214, us 215, us 216, us 217, us 218, us 219], []⟩ ∧ Hid (Ch (rl (.slice (some ⟨gx, 0, none⟩) n cx)) w w') ∧ Hid (Blk w' bx (#[.slice (some a) L.length c]) 45) ∧ Hid (SrcIs w' (.slice (some a) L.length c) (L.length) ((L).flatMap opC) 28) ∧ Hid (OwnS w' base 3 1 (.slice (some ⟨gx, 0, none⟩) n cx) (n) ((U ++ (B.take t ++ x :: (B.drop t ++ T))).map vi)) ∧ Hid (k = a0 + t ∧ t ≤ i - m0 ∧ kq + t = i - m0)) (i - m0) (⟨a0, 0, fun us_ => (#[.slice (some ⟨gx, 0, none⟩) n cx, .int .i64 a0, .int .i64 m0, .int .i64 b0, .func (.func 54) #[] #[.pointer (some ⟨bx, 0, none⟩)], us 5, us 6, us 7, us 8, us 9, .int .i64 i, .int .i64 j, us 12, .int .i64 a0, us 14, us 15, us 16, us 17, us 18, us 19, us 20, us 21, us 22, us 23, us 24, us 25, us 26, us 27, us 28, us 29, us 30, .int .i64 i, .int .i64 j, .bool false, us 34, us 35, us 36, us 37, us 38, us 39, us 40, us 41, us 42, us 43, us 44, us 45, us 46, us 47, us 48, us 49, us 50, us 51, us 52, us 53, .int .i64 a0, us 55, us 56, us 57, us 58, us 59, us 60, us 61, us 62, us 63, us 64, us 65, us 66, us 67, us 68, us 69, us 70, us 71, us 72, us 73, us 74, us 75, us 76, us 77, us 78, us 79, us 80, us 81, us 82, us 83, us 84, us 85, us 86, us 87, us 88, us 89, us 90, us 91, us 92, us 93, us 94, us 95, us 96, us 97, us 98, us 99, us 100, us 101, us 102, us 103, us 104, us 105, us 106, us 107, us 108, us 109, us 110, us 111, us 112, us 113, us 114, us 115, us 116, us 117, us 118, us 119, us 120, us 121, us 122, us 123, us 124, us 125, us 126, us 127, us 128, us 129, us 130, us 131, us 132, us 133, us 134, us 135, us 136, us 137, us 138, us 139, us 140, us 141, us 142, us 143, us 144, us 145, us 146, us 147, us 148, us 149, us 150, us 151, us 152, us 153, us 154, us 155, us 156, us 157, us 158, us 159, us 160, us 161, us 162, us 163, us 164, us 165, us 166, us 167, us 168, us 169, us 170, us 171, us 172, us 173, us 174, us 175, us 176, us 177, us 178, us 179, us 180, us 181, us 182, us 183, us 184, us 185, us 186, us 187, us 188, us 189, us 190, us 191, us 192, us 193, us 194, us 195, us 196, us 197, us 198, us 199, us 200, us 201, us 202, us 203, us 204, us 205, us 206, us 207, us 208, us 209, us 210, us 211, us 212, us 213, us 214, us 215, us 216, us 217, us 218, us 219] : Array Value).getD us_ undef, rfl, C0, FX, SL, Lib.hid (by have h := OX.out; rw [EA.out] at h; simpa using h), Lib.hid ⟨by omega, by omega, by omega⟩⟩) ?_
        rintro kq _ w30 ⟨k, t, us, rfl, C0, FX, SL, OX, hk⟩ K31 hK31
        refine sq_ (fun K32 hK32 => ?_)
        rcases Nat.lt_or_ge t (i - m0) with h | h
        · have hlt := Lib.hid (show t < i - m0 from h)
          clear h
          obtain ⟨y, hy0, hd0, ht0⟩ := apart (A := B) (k := t) (by have := hlt.out; have := HIB.out; have := HM.out; omega)
          have hd := Lib.hid hd0; have HT1 := Lib.hid ht0; clear hy0 hd0 ht0
          obtain ⟨i1, hi1⟩ : ∃ x, x = i - 1 := ⟨_, rfl⟩
          have Ei1 := Lib.hid hi1; clear hi1
          have Wi1 := Lib.hid (show IntKind.i64.wrap ((i : Int) - 1) = (i1 : Int) by rw [wr64 (by have := Ei1.out; have := HIB.out; have := HM.out; have := HN.out; have hA1 : A.length = 1 := (by rw [EA.out]; rfl); have h8 := HLN.out; simp only [List.length_append] at h8; have := hk.out; have := hlt.out; omega)]; have := Ei1.out; have := HIB.out; have := HM.out; have := HN.out; have hA1 : A.length = 1 := (by rw [EA.out]; rfl); have h8 := HLN.out; simp only [List.length_append] at h8; have := hk.out; have := hlt.out; omega)
          have D58 := Lib.hid (show k < i1 by have := Ei1.out; have := HIB.out; have := HM.out; have := HN.out; have hA1 : A.length = 1 := (by rw [EA.out]; rfl); have h8 := HLN.out; simp only [List.length_append] at h8; have := hk.out; have := hlt.out; omega)
          obtain ⟨k2, hk2⟩ : ∃ x, x = k + 1 := ⟨_, rfl⟩
          have Ek2 := Lib.hid hk2; clear hk2
          have Wk2 := Lib.hid (show IntKind.i64.wrap ((k : Int) + 1) = (k2 : Int) by rw [wr64 (by have := Ek2.out; have := HIB.out; have := HM.out; have := HN.out; have hA1 : A.length = 1 := (by rw [EA.out]; rfl); have h8 := HLN.out; simp only [List.length_append] at h8; have := hk.out; have := hlt.out; omega)]; have := Ek2.out; have := HIB.out; have := HM.out; have := HN.out; have hA1 : A.length = 1 := (by rw [EA.out]; rfl); have h8 := HLN.out; simp only [List.length_append] at h8; have := hk.out; have := hlt.out; omega)
          have Ek := Lib.hid (show k = k from rfl)
          have Bk := Lib.hid (show (k : Int) < (n : Int) by have := Ek.out; have := HIB.out; have := HM.out; have := HN.out; have hA1 : A.length = 1 := (by rw [EA.out]; rfl); have h8 := HLN.out; simp only [List.length_append] at h8; have := hk.out; have := hlt.out; omega)
          have Bk2 := Lib.hid (show (k2 : Int) < (n : Int) by have := Ek2.out; have := HIB.out; have := HM.out; have := HN.out; have hA1 : A.length = 1 := (by rw [EA.out]; rfl); have h8 := HLN.out; simp only [List.length_append] at h8; have := hk.out; have := hlt.out; omega)
          have PE := Lib.hid (show k = (U ++ B.take t).length by rw [List.length_append, List.length_take]; have := HIB.out; have := HM.out; have := HN.out; have hA1 : A.length = 1 := (by rw [EA.out]; rfl); have h8 := HLN.out; simp only [List.length_append] at h8; have := hk.out; have := hlt.out; omega)
          have QE := Lib.hid (show k2 = (U ++ B.take t).length + 1 + (([] : List Int)).length by rw [List.length_append, List.length_take, List.length_nil]; have := Ek2.out; have := HIB.out; have := HM.out; have := HN.out; have hA1 : A.length = 1 := (by rw [EA.out]; rfl); have h8 := HLN.out; simp only [List.length_append] at h8; have := hk.out; have := hlt.out; omega)
          have OX' := Lib.hid (show OwnS w30 base 3 1 (.slice (some ⟨gx, 0, none⟩) n cx) (n) ((U ++ B.take t ++ x :: (([] : List Int) ++ y :: (B.drop (t + 1) ++ T))).map vi) from by have h := OX.out; rw [hd.out, show U ++ (B.take t ++ x :: ((y :: B.drop (t + 1)) ++ T)) = (U ++ B.take t) ++ x :: ([] ++ y :: (B.drop (t + 1) ++ T)) by simp] at h; exact h); clear OX; have OX := OX'; clear OX'
          refine s_ (fun K33 hK33 => ?_)
          refine pu_ (v := .int .i64 k) (y_move rfl (by rfl) (by rfl)) ?_
          (try simp only [zP, zN, zA, zB, zC])
          refine pu_ (v := .int .i64 i) (y_move rfl (by rfl) (by rfl)) ?_
          (try simp only [zP, zN, zA, zB, zC])
          refine pu_ (v := .int .i64 i1) (y_run (by rfl) (fun W => by have d := Wi1.out; go_simp)) ?_
          (try simp only [zP, zN, zA, zB, zC])
          refine pu_ (v := .bool true) (y_run (by rfl) (fun W => by have d := D58.out; go_simp)) ?_
          (try simp only [zP, zN, zA, zB, zC])
          refine nl_ (hK33 _ _ ?_); clear hK33 K33
          refine wp_cond_true rfl ?_
          refine wp_skip ?_
          refine th_norm (hK32 _ _ ?_); try clear hK32 K32
          refine sq_ (fun K34 hK34 => ?_)
          refine wp_block ?_
          refine startk_ (S := fun W => OwnS W base 3 1 (.slice (some ⟨gx, 0, none⟩) n cx) (n) ((U ++ B.take t ++ x :: (([] : List Int) ++ y :: (B.drop (t + 1) ++ T))).map vi) ∧ True) (ds := [15, 17]) #[false, false, false, false, false, false, false, false, false, false, false, false, false, false, false, false, false, false] (by kernel_rfl) rfl rfl (fun W c => ⟨OX.out.ch c rnin_nil, trivial⟩) (fun w35 C36 hS37 => ?_)
          have C0' := Lib.hid (show Ch (rl (.slice (some ⟨gx, 0, none⟩) n cx)) w w35 from C0.out.trans' C36 (fun x hx => absurd hx (by simp)))
          have FX' := Lib.hid (show Blk w35 bx (#[.slice (some a) L.length c]) 45 from C36.blk FX.out nin_nil)
          have SL' := Lib.hid (show SrcIs w35 (.slice (some a) L.length c) (L.length) ((L).flatMap opC) 28 from SL.out.chx C36 xnin_nil)
          have OX' := Lib.hid (show OwnS w35 base 3 1 (.slice (some ⟨gx, 0, none⟩) n cx) (n) ((U ++ B.take t ++ x :: (([] : List Int) ++ y :: (B.drop (t + 1) ++ T))).map vi) from OX.out.ch C36 rnin_nil)
          clear C0 FX SL OX
          have C0 := C0'; clear C0'
          have FX := FX'; clear FX'
          have SL := SL'; clear SL'
          have OX := OX'; clear OX'
          clear C36
          refine pure_ (i := 0) (N := some 61) (v := .slice (some ⟨gx, 0, none⟩) n cx) #[true, false, false, false, false, false, false, false, false, false, false, false, false, false, false, false, false, false] rfl rfl (by kernel_rfl) (fun c a w h => hP c a _ _ w h) (y_move rfl (by rfl) (by rfl)) rfl ?_
          (try simp only [zP, zN, zA, zB, zC])
          refine pure_ (i := 1) (N := some 62) (v := .int .i64 k) #[true, true, false, false, false, false, false, false, false, false, false, false, false, false, false, false, false, false] rfl rfl (by kernel_rfl) (fun c a w h => hP c a _ _ w h) (y_move rfl (by rfl) (by rfl)) rfl ?_
          (try simp only [zP, zN, zA, zB, zC])
          refine pure_ (i := 2) (N := some 63) (v := .slice (some ⟨gx, 0, none⟩) n cx) #[true, true, true, false, false, false, false, false, false, false, false, false, false, false, false, false, false, false] rfl rfl (by kernel_rfl) (fun c a w h => hP c a _ _ w h) (y_move rfl (by rfl) (by rfl)) rfl ?_
          (try simp only [zP, zN, zA, zB, zC])
          refine pure_ (i := 3) (N := some 64) (v := .int .i64 k) #[true, true, true, true, false, false, false, false, false, false, false, false, false, false, false, false, false, false] rfl rfl (by kernel_rfl) (fun c a w h => hP c a _ _ w h) (y_move rfl (by rfl) (by rfl)) rfl ?_
          (try simp only [zP, zN, zA, zB, zC])
          refine pure_ (i := 4) (N := some 65) (v := .int .i64 k2) #[true, true, true, true, true, false, false, false, false, false, false, false, false, false, false, false, false, false] rfl rfl (by kernel_rfl) (fun c a w h => hP c a _ _ w h) (y_run (by rfl) (fun W => by have d := Wk2.out; go_simp)) rfl ?_
          (try simp only [zP, zN, zA, zB, zC])
          refine pure_ (i := 5) (N := some 66) (v := .slice (some ⟨gx, 0, none⟩) n cx) #[true, true, true, true, true, true, false, false, false, false, false, false, false, false, false, false, false, false] rfl rfl (by kernel_rfl) (fun c a w h => hP c a _ _ w h) (y_move rfl (by rfl) (by rfl)) rfl ?_
          (try simp only [zP, zN, zA, zB, zC])
          refine pure_ (i := 6) (N := some 67) (v := .int .i64 k) #[true, true, true, true, true, true, true, false, false, false, false, false, false, false, false, false, false, false] rfl rfl (by kernel_rfl) (fun c a w h => hP c a _ _ w h) (y_move rfl (by rfl) (by rfl)) rfl ?_
          (try simp only [zP, zN, zA, zB, zC])
          refine pure_ (i := 7) (N := some 68) (v := .int .i64 k2) #[true, true, true, true, true, true, true, true, false, false, false, false, false, false, false, false, false, false] rfl rfl (by kernel_rfl) (fun c a w h => hP c a _ _ w h) (y_run (by rfl) (fun W => by have d := Wk2.out; go_simp)) rfl ?_
          (try simp only [zP, zN, zA, zB, zC])
          refine pure_ (i := 8) (N := some 69) (v := .pointer (some ⟨gx, k2, none⟩)) #[true, true, true, true, true, true, true, true, true, false, false, false, false, false, false, false, false, false] rfl rfl (by kernel_rfl) (fun c a w h => hP c a _ _ w h) (y_run (by rfl) (fun W => by have d := Bk2.out; go_simp)) rfl ?_
          (try simp only [zP, zN, zA, zB, zC])
          refine take_ (i := 9) (N := some 70) (v := .int .i64 y) #[true, true, true, true, true, true, true, true, true, true, false, false, false, false, false, false, false, false] rfl rfl (by kernel_rfl) (fun c a w h => hP c a _ _ w h) (y_load (p := ⟨gx, k2, none⟩) rfl (by rfl) (by rfl) (fun W hS => run_load_one (own_cell hS.1 (by rw [QE.out]; exact row_at2 _ _ _ _ _)) Try.underlying3 rfl)) hS37 rfl ?_
          (try simp only [zP, zN, zA, zB, zC])
          refine pure_ (i := 10) (N := some 71) (v := .slice (some ⟨gx, 0, none⟩) n cx) #[true, true, true, true, true, true, true, true, true, true, true, false, false, false, false, false, false, false] rfl rfl (by kernel_rfl) (fun c a w h => hP c a _ _ w h) (y_move rfl (by rfl) (by rfl)) rfl ?_
          (try simp only [zP, zN, zA, zB, zC])
          refine pure_ (i := 11) (N := some 72) (v := .int .i64 k) #[true, true, true, true, true, true, true, true, true, true, true, true, false, false, false, false, false, false] rfl rfl (by kernel_rfl) (fun c a w h => hP c a _ _ w h) (y_move rfl (by rfl) (by rfl)) rfl ?_
          (try simp only [zP, zN, zA, zB, zC])
          refine pure_ (i := 12) (N := some 73) (v := .pointer (some ⟨gx, k, none⟩)) #[true, true, true, true, true, true, true, true, true, true, true, true, true, false, false, false, false, false] rfl rfl (by kernel_rfl) (fun c a w h => hP c a _ _ w h) (y_run (by rfl) (fun W => by have d := Bk.out; go_simp)) rfl ?_
          (try simp only [zP, zN, zA, zB, zC])
          refine take_ (i := 13) (N := some 74) (v := .int .i64 x) #[true, true, true, true, true, true, true, true, true, true, true, true, true, true, false, false, false, false] rfl rfl (by kernel_rfl) (fun c a w h => hP c a _ _ w h) (y_load (p := ⟨gx, k, none⟩) rfl (by rfl) (by rfl) (fun W hS => run_load_one (own_cell hS.1 (by rw [PE.out]; exact row_at1 _ _ _)) Try.underlying3 rfl)) hS37 rfl ?_
          (try simp only [zP, zN, zA, zB, zC])
          refine pure_ (i := 14) (N := some 75) (v := .pointer (some ⟨gx, k, none⟩)) #[true, true, true, true, true, true, true, true, true, true, true, true, true, true, true, false, false, false] rfl rfl (by kernel_rfl) (fun c a w h => hP c a _ _ w h) (y_run (by rfl) (fun W => by have d := Bk.out; go_simp)) rfl ?_
          (try simp only [zP, zN, zA, zB, zC])
          refine last_ (i := 15) (N := none) #[true, true, true, true, true, true, true, true, true, true, true, true, true, true, true, true, false, false] rfl rfl (by kernel_rfl) (by simp) (fun K38 hK38 => ?_)
          refine e_storeS1 (by rfl) rfl rfl OX.out k (.int .i64 y) (by rfl) (by rfl) (by kernel_rfl) (by have := Bk.out; omega) rfl ?_
          rintro w39 O40 C41
          have RC41 := Lib.hid (show Ch (rl (.slice (some ⟨gx, 0, none⟩) n cx)) w35 w39 from by rw [rl_some gx n cx (by have := BC.out; have := Bk.out; omega)]; exact C41)
          have C0' := Lib.hid (show Ch (rl (.slice (some ⟨gx, 0, none⟩) n cx)) w w39 from C0.out.trans' RC41.out (fun x hx => .inl hx))
          have FX' := Lib.hid (show Blk w39 bx (#[.slice (some a) L.length c]) 45 from RC41.out.blk FX.out (OX.out.ne FX.out (by decide)))
          have SL' := Lib.hid (show SrcIs w39 (.slice (some a) L.length c) (L.length) ((L).flatMap opC) 28 from SL.out.chx RC41.out HXR.out)
          clear C0 FX SL
          have C0 := C0'; clear C0'
          have FX := FX'; clear FX'
          have SL := SL'; clear SL'
          clear OX
          have OX := Lib.hid (show OwnS w39 base 3 1 (.slice (some ⟨gx, 0, none⟩) n cx) (n) (((U ++ B.take t ++ x :: (([] : List Int) ++ y :: (B.drop (t + 1) ++ T))).map vi).set k (vi y)) from O40); clear O40 C41 RC41
          refine hK38.out _ _ ?_; clear hK38 K38
          (try simp only [zP, zN, zA, zB, zC])
          refine pure_ (i := 16) (N := some 76) (v := .pointer (some ⟨gx, k2, none⟩)) #[true, true, true, true, true, true, true, true, true, true, true, true, true, true, true, true, true, false] rfl rfl (by kernel_rfl) (fun c a w h => hP c a _ _ w h) (y_run (by rfl) (fun W => by have d := Bk2.out; go_simp)) rfl ?_
          (try simp only [zP, zN, zA, zB, zC])
          refine last_ (i := 17) (N := none) #[true, true, true, true, true, true, true, true, true, true, true, true, true, true, true, true, true, true] rfl rfl (by kernel_rfl) (by simp) (fun K42 hK42 => ?_)
          refine e_storeS1 (by rfl) rfl rfl OX.out k2 (.int .i64 x) (by rfl) (by rfl) (by kernel_rfl) (by have := Bk2.out; omega) rfl ?_
          rintro w43 O44 C45
          have RC45 := Lib.hid (show Ch (rl (.slice (some ⟨gx, 0, none⟩) n cx)) w39 w43 from by rw [rl_some gx n cx (by have := BC.out; have := Bk2.out; omega)]; exact C45)
          have C0' := Lib.hid (show Ch (rl (.slice (some ⟨gx, 0, none⟩) n cx)) w w43 from C0.out.trans' RC45.out (fun x hx => .inl hx))
          have FX' := Lib.hid (show Blk w43 bx (#[.slice (some a) L.length c]) 45 from RC45.out.blk FX.out (OX.out.ne FX.out (by decide)))
          have SL' := Lib.hid (show SrcIs w43 (.slice (some a) L.length c) (L.length) ((L).flatMap opC) 28 from SL.out.chx RC45.out HXR.out)
          clear C0 FX SL
          have C0 := C0'; clear C0'
          have FX := FX'; clear FX'
          have SL := SL'; clear SL'
          clear OX
          have OX := Lib.hid (show OwnS w43 base 3 1 (.slice (some ⟨gx, 0, none⟩) n cx) (n) ((U ++ B.take t ++ y :: (([] : List Int) ++ x :: (B.drop (t + 1) ++ T))).map vi) from by have h := O44; rw [PE.out, QE.out, sw_12] at h; exact h); clear O44 C45 RC45
          refine hK42.out _ _ ?_; clear hK42 K42
          (try simp only [zP, zN, zA, zB, zC])
          refine done_ (by kernel_rfl) ?_
          refine ib_norm ?_
          refine th_norm (hK34 _ _ ?_); try clear hK34 K34
          refine r_ ?_
          refine pu_ (v := .int .i64 k) (y_move rfl (by rfl) (by rfl)) ?_
          (try simp only [zP, zN, zA, zB, zC])
          refine pu_ (v := .int .i64 k2) (y_run (by rfl) (fun W => by have d := Wk2.out; go_simp)) ?_
          (try simp only [zP, zN, zA, zB, zC])
          refine pu_ (v := .int .i64 k2) (y_assign rfl (by rfl) (by rfl)) ?_
          (try simp only [zP, zN, zA, zB, zC])
          refine nl_ ?_
          exact th_norm (hK31 (kq - 1) _ _ (by have := hk.out; have := hlt.out; omega) ⟨k2, t + 1, fun us_ => (#[.slice (some ⟨gx, 0, none⟩) n cx, .int .i64 a0, us 2, us 3, us 4, us 5, us 6, us 7, us 8, us 9, .int .i64 i, us 11, us 12, .int .i64 k2, us 14, us 15, us 16, us 17, us 18, us 19, us 20, us 21, us 22, us 23, us 24, us 25, us 26, us 27, us 28, us 29, us 30, us 31, us 32, us 33, us 34, us 35, us 36, us 37, us 38, us 39, us 40, us 41, us 42, us 43, us 44, us 45, us 46, us 47, us 48, us 49, us 50, us 51, us 52, us 53, us 54, .int .i64 k, .int .i64 i, .int .i64 i1, .bool true, .int .i64 k, .int .i64 k2, .slice (some ⟨gx, 0, none⟩) n cx, .int .i64 k, .slice (some ⟨gx, 0, none⟩) n cx, .int .i64 k, .int .i64 k2, .slice (some ⟨gx, 0, none⟩) n cx, .int .i64 k, .int .i64 k2, .pointer (some ⟨gx, k2, none⟩), .int .i64 y, .slice (some ⟨gx, 0, none⟩) n cx, .int .i64 k, .pointer (some ⟨gx, k, none⟩), .int .i64 x, .pointer (some ⟨gx, k, none⟩), .pointer (some ⟨gx, k2, none⟩), us 77, us 78, us 79, us 80, us 81, us 82, us 83, us 84, us 85, us 86, us 87, us 88, us 89, us 90, us 91, us 92, us 93, us 94, us 95, us 96, us 97, us 98, us 99, us 100, us 101, us 102, us 103, us 104, us 105, us 106, us 107, us 108, us 109, us 110, us 111, us 112, us 113, us 114, us 115, us 116, us 117, us 118, us 119, us 120, us 121, us 122, us 123, us 124, us 125, us 126, us 127, us 128, us 129, us 130, us 131, us 132, us 133, us 134, us 135, us 136, us 137, us 138, us 139, us 140, us 141, us 142, us 143, us 144, us 145, us 146, us 147, us 148, us 149, us 150, us 151, us 152, us 153, us 154, us 155, us 156, us 157, us 158, us 159, us 160, us 161, us 162, us 163, us 164, us 165, us 166, us 167, us 168, us 169, us 170, us 171, us 172, us 173, us 174, us 175, us 176, us 177, us 178, us 179, us 180, us 181, us 182, us 183, us 184, us 185, us 186, us 187, us 188, us 189, us 190, us 191, us 192, us 193, us 194, us 195, us 196, us 197, us 198, us 199, us 200, us 201, us 202, us 203, us 204, us 205, us 206, us 207, us 208, us 209, us 210, us 211, us 212, us 213, us 214, us 215, us 216, us 217, us 218, us 219] : Array Value).getD us_ undef, rfl, C0, FX, SL, Lib.hid (by have h := OX.out; rw [HT1.out]; rw [show (U ++ B.take t) ++ y :: ([] ++ x :: (B.drop (t + 1) ++ T)) = U ++ ((B.take t ++ [y]) ++ x :: (B.drop (t + 1) ++ T)) by simp] at h; exact h), Lib.hid (by have := hk.out; have := Ek2.out; have := hlt.out; omega)⟩)
        · obtain ⟨i1, hi1⟩ : ∃ x, x = i - 1 := ⟨_, rfl⟩
          have Ei1 := Lib.hid hi1; clear hi1
          have Wi1 := Lib.hid (show IntKind.i64.wrap ((i : Int) - 1) = (i1 : Int) by rw [wr64 (by have := Ei1.out; have := HIB.out; have := HM.out; have := HN.out; have hA1 : A.length = 1 := (by rw [EA.out]; rfl); have h8 := HLN.out; simp only [List.length_append] at h8; have := hk.out; omega)]; have := Ei1.out; have := HIB.out; have := HM.out; have := HN.out; have hA1 : A.length = 1 := (by rw [EA.out]; rfl); have h8 := HLN.out; simp only [List.length_append] at h8; have := hk.out; omega)
          have D58 := Lib.hid (show i1 ≤ k by have := Ei1.out; have := hk.out; have := h; have := HIB.out; have := HM.out; have := HN.out; have hA1 : A.length = 1 := (by rw [EA.out]; rfl); omega)
          have HE2 := Lib.hid (show t = i - m0 by have := hk.out; have := h; omega)
          clear h
          refine s_ (fun K46 hK46 => ?_)
          refine pu_ (v := .int .i64 k) (y_move rfl (by rfl) (by rfl)) ?_
          (try simp only [zP, zN, zA, zB, zC])
          refine pu_ (v := .int .i64 i) (y_move rfl (by rfl) (by rfl)) ?_
          (try simp only [zP, zN, zA, zB, zC])
          refine pu_ (v := .int .i64 i1) (y_run (by rfl) (fun W => by have d := Wi1.out; go_simp)) ?_
          (try simp only [zP, zN, zA, zB, zC])
          refine pu_ (v := .bool false) (y_run (by rfl) (fun W => by have d := D58.out; go_simp)) ?_
          (try simp only [zP, zN, zA, zB, zC])
          refine nl_ (hK46 _ _ ?_); clear hK46 K46
          refine wp_cond_false rfl ?_
          refine wp_exit ?_
          refine th_exit ?_
          refine th_exit ?_
          refine ib_exit ?_
          refine th_norm (hK28 _ _ ?_); try clear hK28 K28
          refine wp_ret ?_
          refine th_ret ?_
          refine hQ _ _ _ ?_
          refine bodyPost_ret (res0 rfl) rfl ?_
          exact ⟨rfl, _, by rw [EA.out]; exact merge_left HSB.out (by have h := HAH.out; rw [EA.out] at h; exact h) (by have := HIB.out; have := HM.out; omega) HS.out.1 HS.out.2, by have h := OX.out; rw [HE2.out, show U ++ (B.take (i - m0) ++ x :: (B.drop (i - m0) ++ T)) = U ++ ((B.take (i - m0) ++ x :: B.drop (i - m0)) ++ T) by simp] at h; exact h, C0.out⟩
    · have hA1 := Lib.hid h.1
      have hB1 := Lib.hid h.2
      clear h
      obtain ⟨ml, hml⟩ : ∃ x, x = m0 - a0 := ⟨_, rfl⟩
      have Eml := Lib.hid hml; clear hml
      have Wml := Lib.hid (show IntKind.i64.wrap ((m0 : Int) - (a0 : Int)) = (ml : Int) by rw [wr64 (by have := Eml.out; have := HM.out; have := HN.out; have h8 := HLN.out; simp only [List.length_append] at h8; omega)]; have := Eml.out; have := HM.out; have := HN.out; have h8 := HLN.out; simp only [List.length_append] at h8; omega)
      have D28 := Lib.hid (show ¬ (ml : Int) = 1 by have := Eml.out; have := HM.out; have := hA1.out; omega)
      obtain ⟨bl, hbl⟩ : ∃ x, x = b0 - m0 := ⟨_, rfl⟩
      have Ebl := Lib.hid hbl; clear hbl
      have Wbl := Lib.hid (show IntKind.i64.wrap ((b0 : Int) - (m0 : Int)) = (bl : Int) by rw [wr64 (by have := Ebl.out; have := HM.out; have := HN.out; have h8 := HLN.out; simp only [List.length_append] at h8; omega)]; have := Ebl.out; have := HM.out; have := HN.out; have h8 := HLN.out; simp only [List.length_append] at h8; omega)
      have D80 := Lib.hid (show bl = 1 by have := Ebl.out; have := HM.out; have := hB1.out; omega)
      obtain ⟨y, hy1⟩ := len_one hB1.out
      have EB := Lib.hid hy1
      clear hy1
      refine s_ (fun K47 hK47 => ?_)
      refine pu_ (v := .int .i64 m0) (y_move rfl (by rfl) (by rfl)) ?_
      (try simp only [zP, zN, zA, zB, zC])
      refine pu_ (v := .int .i64 a0) (y_move rfl (by rfl) (by rfl)) ?_
      (try simp only [zP, zN, zA, zB, zC])
      refine pu_ (v := .int .i64 ml) (y_run (by rfl) (fun W => by have d := Wml.out; go_simp)) ?_
      (try simp only [zP, zN, zA, zB, zC])
      refine pu_ (v := .bool false) (y_run (by rfl) (fun W => by have d := D28.out; go_simp)) ?_
      (try simp only [zP, zN, zA, zB, zC])
      refine nl_ (hK47 _ _ ?_); clear hK47 K47
      refine wp_cond_false rfl ?_
      refine wp_skip ?_
      refine th_norm (hK1 _ _ ?_); try clear hK1 K1
      refine sq_ (fun K48 hK48 => ?_)
      refine s_ (fun K49 hK49 => ?_)
      refine pu_ (v := .int .i64 b0) (y_move rfl (by rfl) (by rfl)) ?_
      (try simp only [zP, zN, zA, zB, zC])
      refine pu_ (v := .int .i64 m0) (y_move rfl (by rfl) (by rfl)) ?_
      (try simp only [zP, zN, zA, zB, zC])
      refine pu_ (v := .int .i64 bl) (y_run (by rfl) (fun W => by have d := Wbl.out; go_simp)) ?_
      (try simp only [zP, zN, zA, zB, zC])
      refine pu_ (v := .bool true) (y_run (by rfl) (fun W => by have d := D80.out; go_simp)) ?_
      (try simp only [zP, zN, zA, zB, zC])
      refine nl_ (hK49 _ _ ?_); clear hK49 K49
      refine wp_cond_true rfl ?_
      refine s_ (fun K50 hK50 => ?_)
      refine pu_ (v := .int .i64 a0) (y_move rfl (by rfl) (by rfl)) ?_
      (try simp only [zP, zN, zA, zB, zC])
      refine pu_ (v := .int .i64 a0) (y_assign rfl (by rfl) (by rfl)) ?_
      (try simp only [zP, zN, zA, zB, zC])
      refine nl_ (hK50 _ _ ?_); clear hK50 K50
      refine s_ (fun K51 hK51 => ?_)
      refine pu_ (v := .int .i64 m0) (y_move rfl (by rfl) (by rfl)) ?_
      (try simp only [zP, zN, zA, zB, zC])
      refine pu_ (v := .int .i64 m0) (y_assign rfl (by rfl) (by rfl)) ?_
      (try simp only [zP, zN, zA, zB, zC])
      refine nl_ (hK51 _ _ ?_); clear hK51 K51
      refine sq_ (fun K52 hK52 => ?_)
      refine wp_block ?_
      refine loopk_ (fun (kq : Nat) (a' : Act) (w' : World) => ∃ (i : Nat), ∃ (j : Nat), ∃ (us : Nat → Value), a' = ⟨#[.slice (some ⟨gx, 0, none⟩) n cx, .int .i64 a0, .int .i64 m0, .int .i64 b0, .func (.func 54) #[] #[.pointer (some ⟨bx, 0, none⟩)], us 5, us 6, us 7, us 8, us 9, us 10, us 11, us 12, us 13, .int .i64 i, .int .i64 j, us 16, us 17, us 18, us 19, us 20, us 21, us 22, us 23, us 24, us 25, us 26, us 27, us 28, us 29, us 30, us 31, us 32, us 33, us 34, us 35, us 36, us 37, us 38, us 39, us 40, us 41, us 42, us 43, us 44, us 45, us 46, us 47, us 48, us 49, us 50, us 51, us 52, us 53, us 54, us 55, us 56, us 57, us 58, us 59, us 60, us 61, us 62, us 63, us 64, us 65, us 66, us 67, us 68, us 69, us 70, us 71, us 72, us 73, us 74, us 75, us 76, us 77, us 78, us 79, us 80, us 81, us 82, us 83, us 84, us 85, us 86, us 87, us 88, us 89, us 90, us 91, us 92, us 93, us 94, us 95, us 96, us 97, us 98, us 99, us 100, us 101, us 102, us 103, us 104, us 105, us 106, us 107, us 108, us 109, us 110, us 111, us 112, us 113, us 114, us 115, us 116, us 117, us 118, us 119, us 120, us 121, us 122, us 123, us 124, us 125, us 126, us 127, us 128, us 129, us 130, us 131, us 132, us 133, us 134, us 135, us 136, us 137, us 138, us 139, us 140, us 141, us 142, us 143, us 144, us 145, us 146, us 147, us 148, us 149, us 150, us 151, us 152, us 153, us 154, us 155, us 156, us 157, us 158, us 159, us 160, us 161, us 162, us 163, us 164, us 165, us 166, us 167, us 168, us 169, us 170, us 171, us 172, us 173, us 174, us 175, us 176, us 177, us 178, us 179, us 180, us 181, us 182, us 183, us 184, us 185, us 186, us 187, us 188, us 189, us 190, us 191, us 192, us 193, us 194, us 195, us 196, us 197, us 198, us 199, us 200, us 201, us 202, us 203, us 204, us 205, us 206, us 207, us 208, us 209, us 210, us 211, us 212, us 213, us 214, us 215, us 216, us 217, us 218, us 219], []⟩ ∧ Hid (Ch (rl (.slice (some ⟨gx, 0, none⟩) n cx)) w w') ∧ Hid (Blk w' bx (#[.slice (some a) L.length c]) 45) ∧ Hid (SrcIs w' (.slice (some a) L.length c) (L.length) ((L).flatMap opC) 28) ∧ Hid (OwnS w' base 3 1 (.slice (some ⟨gx, 0, none⟩) n cx) (n) ((U ++ (A ++ (B ++ T))).map vi)) ∧ Hid (bsR L A y (i - a0) (j - a0) ∧ a0 ≤ i ∧ i ≤ j ∧ j ≤ m0 ∧ kq = j - i)) (m0 - a0) (⟨a0, m0, fun us_ => (#[.slice (some ⟨gx, 0, none⟩) n cx, .int .i64 a0, .int .i64 m0, .int .i64 b0, .func (.func 54) #[] #[.pointer (some ⟨bx, 0, none⟩)], undef, undef, undef, undef, undef, undef, undef, undef, undef, .int .i64 a0, .int .i64 m0, undef, undef, undef, undef, undef, undef, undef, undef, undef, .int .i64 m0, .int .i64 a0, .int .i64 ml, .bool false, undef, undef, undef, undef, undef, undef, undef, undef, undef, undef, undef, undef, undef, undef, undef, undef, undef, undef, undef, undef, undef, undef, undef, undef, undef, undef, undef, undef, undef, undef, undef, undef, undef, undef, undef, undef, undef, undef, undef, undef, undef, undef, undef, undef, undef, undef, undef, undef, .int .i64 b0, .int .i64 m0, .int .i64 bl, .bool true, .int .i64 a0, .int .i64 m0, undef, undef, undef, undef, undef, undef, undef, undef, undef, undef, undef, undef, undef, undef, undef, undef, undef, undef, undef, undef, undef, undef, undef, undef, undef, undef, undef, undef, undef, undef, undef, undef, undef, undef, undef, undef, undef, undef, undef, undef, undef, undef, undef, undef, undef, undef, undef, undef, undef, undef, undef, undef, undef, undef, undef, undef, undef, undef, undef, undef, undef, undef, undef, undef, undef, undef, undef, undef, undef, undef, undef, undef, undef, undef, undef, undef, undef, undef, undef, undef, undef, undef, undef, undef, undef, undef, undef, undef, undef, undef, undef, undef, undef, undef, undef, undef, undef, undef, undef, undef, undef, undef, undef, undef, undef, undef, undef, undef, undef, undef, undef, undef, undef, undef, undef, undef, undef, undef, undef, undef, undef, undef, undef, undef, undef, undef, undef, undef, undef, undef, undef, undef, undef, undef, undef, undef, undef] : Array Value).getD us_ undef, rfl, C0, FX, SL, OX, Lib.hid ⟨by have := HM.out; rw [show a0 - a0 = 0 by omega, show m0 - a0 = A.length by omega]; exact bsR_start L A y, by omega, by have := HM.out; omega, by omega, rfl⟩⟩) ?_
      rintro kq _ w53 ⟨i, j, us, rfl, C0, FX, SL, OX, hb⟩ K54 hK54
      refine sq_ (fun K55 hK55 => ?_)
      rcases find_ways (fun h => ¬ kd L y < kd L (A.getD (h - a0) 0)) i j with ⟨h1, h2⟩ | ⟨h1, h2⟩ | h
      · have hij := Lib.hid h1
        have hcm := Lib.hid h2
        clear h1 h2
        have D85 := Lib.hid (show i < j from hij.out)
        obtain ⟨hs, hhs⟩ : ∃ x, x = i + j := ⟨_, rfl⟩
        have Ehs := Lib.hid hhs; clear hhs
        have Whs := Lib.hid (show IntKind.i64.wrap ((i : Int) + (j : Int)) = (hs : Int) by rw [wr64 (by have := Ehs.out; have := HM.out; have := HN.out; have h8 := HLN.out; simp only [List.length_append] at h8; have := hb.out; have := hij.out; omega)]; have := Ehs.out; have := HM.out; have := HN.out; have h8 := HLN.out; simp only [List.length_append] at h8; have := hb.out; have := hij.out; omega)
        have Uh := Lib.hid (show IntKind.u64.wrap (hs : Int) = (hs : Int) from wu64 (by have := Ehs.out; have := HM.out; have := HN.out; have h8 := HLN.out; simp only [List.length_append] at h8; have := hb.out; have := hij.out; omega))
        obtain ⟨h, hh⟩ : ∃ x, x = hs / 2 := ⟨_, rfl⟩
        have Eh := Lib.hid (show h = (i + j) / 2 by rw [hh, Ehs.out])
        have Vh := Lib.hid (show (hs : Int) / 2 = (h : Int) by omega)
        have Zh := Lib.hid (show IntKind.i64.wrap (h : Int) = (h : Int) from wr64 (by have := Eh.out; have := HM.out; have := HN.out; have h8 := HLN.out; simp only [List.length_append] at h8; have := hb.out; have := hij.out; omega)); clear hh
        have Em0 := Lib.hid (show m0 = m0 from rfl)
        have Bh := Lib.hid (show (h : Int) < (n : Int) by have := Eh.out; have := HM.out; have := HN.out; have h8 := HLN.out; simp only [List.length_append] at h8; have := hb.out; have := hij.out; omega)
        have Bm0 := Lib.hid (show (m0 : Int) < (n : Int) by have := Em0.out; have := HM.out; have := HN.out; have h8 := HLN.out; simp only [List.length_append] at h8; have := hb.out; have := hij.out; omega)
        obtain ⟨x, hx0, hxA0⟩ : ∃ x, A[h - a0]? = some x ∧ x ∈ A := ⟨_, List.getElem?_eq_getElem (by have := Eh.out; have := HM.out; have := HN.out; have h8 := HLN.out; simp only [List.length_append] at h8; have := hb.out; have := hij.out; omega), List.getElem_mem _⟩
        have hx := Lib.hid hx0; have hxA := Lib.hid hxA0; clear hx0 hxA0
        have hcy := Lib.hid (show ¬ kd L y < kd L x from (by have h9 := hcm.out; rw [show (i + j) / 2 = h by rw [Eh.out]] at h9; rw [List.getD_eq_getElem?_getD, hx.out] at h9; exact h9))
        have D102 := Lib.hid (show decide (cmpI (kd L y) (kd L x) < 0) = false from cmp_ge hcy.out)
        obtain ⟨i2, hi2⟩ : ∃ x, x = h + 1 := ⟨_, rfl⟩
        have Ei2 := Lib.hid hi2; clear hi2
        have Wi2 := Lib.hid (show IntKind.i64.wrap ((h : Int) + 1) = (i2 : Int) by rw [wr64 (by have := Ei2.out; have := HM.out; have := HN.out; have h8 := HLN.out; simp only [List.length_append] at h8; have := hb.out; have := hij.out; have := Eh.out; omega)]; have := Ei2.out; have := HM.out; have := HN.out; have h8 := HLN.out; simp only [List.length_append] at h8; have := hb.out; have := hij.out; have := Eh.out; omega)
        refine s_ (fun K56 hK56 => ?_)
        refine pu_ (v := .int .i64 i) (y_move rfl (by rfl) (by rfl)) ?_
        (try simp only [zP, zN, zA, zB, zC])
        refine pu_ (v := .int .i64 j) (y_move rfl (by rfl) (by rfl)) ?_
        (try simp only [zP, zN, zA, zB, zC])
        refine pu_ (v := .bool true) (y_run (by rfl) (fun W => by have d := D85.out; go_simp)) ?_
        (try simp only [zP, zN, zA, zB, zC])
        refine nl_ (hK56 _ _ ?_); clear hK56 K56
        refine wp_cond_true rfl ?_
        refine wp_skip ?_
        refine th_norm (hK55 _ _ ?_); try clear hK55 K55
        refine wp_block ?_
        refine s_ (fun K57 hK57 => ?_)
        refine pu_ (v := .int .i64 i) (y_move rfl (by rfl) (by rfl)) ?_
        (try simp only [zP, zN, zA, zB, zC])
        refine pu_ (v := .int .i64 j) (y_move rfl (by rfl) (by rfl)) ?_
        (try simp only [zP, zN, zA, zB, zC])
        refine pu_ (v := .int .i64 hs) (y_run (by rfl) (fun W => by have d := Whs.out; go_simp)) ?_
        (try simp only [zP, zN, zA, zB, zC])
        refine pu_ (v := .int .u64 hs) (y_run (by rfl) (fun W => by have d := Uh.out; go_simp)) ?_
        (try simp only [zP, zN, zA, zB, zC])
        refine pu_ (v := .int .u64 h) (y_run (by rfl) (fun W => by have d := Vh.out; go_simp)) ?_
        (try simp only [zP, zN, zA, zB, zC])
        refine pu_ (v := .int .i64 h) (y_run (by rfl) (fun W => by have d := Zh.out; go_simp)) ?_
        (try simp only [zP, zN, zA, zB, zC])
        refine pu_ (v := .int .i64 h) (y_assign rfl (by rfl) (by rfl)) ?_
        (try simp only [zP, zN, zA, zB, zC])
        refine nl_ (hK57 _ _ ?_); clear hK57 K57
        refine sq_ (fun K58 hK58 => ?_)
        refine startk_ (S := fun W => OwnS W base 3 1 (.slice (some ⟨gx, 0, none⟩) n cx) (n) ((U ++ (A ++ (B ++ T))).map vi) ∧ True) (ds := []) #[false, false, false, false, false, false, false, false, false, false, false, false] (by kernel_rfl) rfl rfl (fun W c => ⟨OX.out.ch c rnin_nil, trivial⟩) (fun w59 C60 hS61 => ?_)
        have C0' := Lib.hid (show Ch (rl (.slice (some ⟨gx, 0, none⟩) n cx)) w w59 from C0.out.trans' C60 (fun x hx => absurd hx (by simp)))
        have FX' := Lib.hid (show Blk w59 bx (#[.slice (some a) L.length c]) 45 from C60.blk FX.out nin_nil)
        have SL' := Lib.hid (show SrcIs w59 (.slice (some a) L.length c) (L.length) ((L).flatMap opC) 28 from SL.out.chx C60 xnin_nil)
        have OX' := Lib.hid (show OwnS w59 base 3 1 (.slice (some ⟨gx, 0, none⟩) n cx) (n) ((U ++ (A ++ (B ++ T))).map vi) from OX.out.ch C60 rnin_nil)
        clear C0 FX SL OX
        have C0 := C0'; clear C0'
        have FX := FX'; clear FX'
        have SL := SL'; clear SL'
        have OX := OX'; clear OX'
        clear C60
        refine pure_ (i := 0) (N := some 92) (v := .func (.func 54) #[] #[.pointer (some ⟨bx, 0, none⟩)]) #[true, false, false, false, false, false, false, false, false, false, false, false] rfl rfl (by kernel_rfl) (fun c a w h => hP c a _ _ w h) (y_move rfl (by rfl) (by rfl)) rfl ?_
        (try simp only [zP, zN, zA, zB, zC])
        refine pure_ (i := 1) (N := some 93) (v := .slice (some ⟨gx, 0, none⟩) n cx) #[true, true, false, false, false, false, false, false, false, false, false, false] rfl rfl (by kernel_rfl) (fun c a w h => hP c a _ _ w h) (y_move rfl (by rfl) (by rfl)) rfl ?_
        (try simp only [zP, zN, zA, zB, zC])
        refine pure_ (i := 2) (N := some 94) (v := .int .i64 m0) #[true, true, true, false, false, false, false, false, false, false, false, false] rfl rfl (by kernel_rfl) (fun c a w h => hP c a _ _ w h) (y_move rfl (by rfl) (by rfl)) rfl ?_
        (try simp only [zP, zN, zA, zB, zC])
        refine pure_ (i := 3) (N := some 95) (v := .pointer (some ⟨gx, m0, none⟩)) #[true, true, true, true, false, false, false, false, false, false, false, false] rfl rfl (by kernel_rfl) (fun c a w h => hP c a _ _ w h) (y_run (by rfl) (fun W => by have d := Bm0.out; go_simp)) rfl ?_
        (try simp only [zP, zN, zA, zB, zC])
        refine take_ (i := 4) (N := some 96) (v := .int .i64 y) #[true, true, true, true, true, false, false, false, false, false, false, false] rfl rfl (by kernel_rfl) (fun c a w h => hP c a _ _ w h) (y_load (p := ⟨gx, m0, none⟩) rfl (by rfl) (by rfl) (fun W hS => run_load_one (own_cell hS.1 (by rw [EB.out]; exact row_part2 (show [y][0]? = some y from rfl) (by have := HM.out; omega))) Try.underlying3 rfl)) hS61 rfl ?_
        (try simp only [zP, zN, zA, zB, zC])
        refine pure_ (i := 5) (N := some 97) (v := .slice (some ⟨gx, 0, none⟩) n cx) #[true, true, true, true, true, true, false, false, false, false, false, false] rfl rfl (by kernel_rfl) (fun c a w h => hP c a _ _ w h) (y_move rfl (by rfl) (by rfl)) rfl ?_
        (try simp only [zP, zN, zA, zB, zC])
        refine pure_ (i := 6) (N := some 98) (v := .int .i64 h) #[true, true, true, true, true, true, true, false, false, false, false, false] rfl rfl (by kernel_rfl) (fun c a w h => hP c a _ _ w h) (y_move rfl (by rfl) (by rfl)) rfl ?_
        (try simp only [zP, zN, zA, zB, zC])
        refine pure_ (i := 7) (N := some 99) (v := .pointer (some ⟨gx, h, none⟩)) #[true, true, true, true, true, true, true, true, false, false, false, false] rfl rfl (by kernel_rfl) (fun c a w h => hP c a _ _ w h) (y_run (by rfl) (fun W => by have d := Bh.out; go_simp)) rfl ?_
        (try simp only [zP, zN, zA, zB, zC])
        refine take_ (i := 8) (N := some 100) (v := .int .i64 x) #[true, true, true, true, true, true, true, true, true, false, false, false] rfl rfl (by kernel_rfl) (fun c a w h => hP c a _ _ w h) (y_load (p := ⟨gx, h, none⟩) rfl (by rfl) (by rfl) (fun W hS => run_load_one (own_cell hS.1 (row_part1 hx.out (by have := Eh.out; have := HM.out; have := HN.out; have h8 := HLN.out; simp only [List.length_append] at h8; have := hb.out; have := hij.out; omega))) Try.underlying3 rfl)) hS61 rfl ?_
        (try simp only [zP, zN, zA, zB, zC])
        refine one_ (i := 9) (N := some 101) #[true, true, true, true, true, true, true, true, true, true, false, false] rfl rfl (by kernel_rfl) (by simp) (fun K62 hK62 => ?_)
        refine e_callf Try.func54 (by kernel_rfl) rfl #[.int .i64 y, .int .i64 x, .pointer (some ⟨bx, 0, none⟩)] (by rfl) rfl rfl (by rfl) (by first | rfl | simp [Act.eval]) ((cmp2_ (HIN.out y (by rw [EB.out]; simp)) (HIN.out x (by simp [hxA.out])) FX SL)) ?_
        rintro en w63 ⟨rfl, cc⟩
        refine ⟨_, rfl, ?_⟩
        have C0' := Lib.hid (show Ch (rl (.slice (some ⟨gx, 0, none⟩) n cx)) w w63 from C0.out.trans' cc (fun x hx => absurd hx (by simp)))
        have FX' := Lib.hid (show Blk w63 bx (#[.slice (some a) L.length c]) 45 from cc.blk FX.out nin_nil)
        have SL' := Lib.hid (show SrcIs w63 (.slice (some a) L.length c) (L.length) ((L).flatMap opC) 28 from SL.out.chx cc xnin_nil)
        have OX' := Lib.hid (show OwnS w63 base 3 1 (.slice (some ⟨gx, 0, none⟩) n cx) (n) ((U ++ (A ++ (B ++ T))).map vi) from OX.out.ch cc rnin_nil)
        clear C0 FX SL OX
        have C0 := C0'; clear C0'
        have FX := FX'; clear FX'
        have SL := SL'; clear SL'
        have OX := OX'; clear OX'
        clear cc
        refine hK62.out _ _ ⟨OX.out, trivial⟩ (fun hS64 => ?_); clear hK62 K62
        (try simp only [zP, zN, zA, zB, zC])
        refine pure_ (i := 10) (N := some 102) (v := .bool false) #[true, true, true, true, true, true, true, true, true, true, true, false] rfl rfl (by kernel_rfl) (fun c a w h => hP c a _ _ w h) (y_run (by rfl) (fun W => by have d := D102.out; go_simp)) rfl ?_
        (try simp only [zP, zN, zA, zB, zC])
        refine pure_ (i := 11) (N := some 103) (v := .bool true) #[true, true, true, true, true, true, true, true, true, true, true, true] rfl rfl (by kernel_rfl) (fun c a w h => hP c a _ _ w h) (y_run (by rfl) (fun W => by go_simp)) rfl ?_
        (try simp only [zP, zN, zA, zB, zC])
        refine done_ (by kernel_rfl) (th_norm (hK58 _ _ ?_)); clear hK58 K58
        refine wp_cond_true rfl ?_
        refine r_ ?_
        refine pu_ (v := .int .i64 h) (y_move rfl (by rfl) (by rfl)) ?_
        (try simp only [zP, zN, zA, zB, zC])
        refine pu_ (v := .int .i64 i2) (y_run (by rfl) (fun W => by have d := Wi2.out; go_simp)) ?_
        (try simp only [zP, zN, zA, zB, zC])
        refine pu_ (v := .int .i64 i2) (y_assign rfl (by rfl) (by rfl)) ?_
        (try simp only [zP, zN, zA, zB, zC])
        refine nl_ ?_
        refine ib_norm ?_
        exact th_norm (hK54 (j - i2) _ _ (by have := Ei2.out; have := Eh.out; have := hij.out; have := hb.out; omega) ⟨i2, j, fun us_ => (#[.slice (some ⟨gx, 0, none⟩) n cx, .int .i64 a0, .int .i64 m0, .int .i64 b0, .func (.func 54) #[] #[.pointer (some ⟨bx, 0, none⟩)], us 5, us 6, us 7, us 8, us 9, us 10, us 11, us 12, us 13, .int .i64 i2, .int .i64 j, .int .i64 h, us 17, us 18, us 19, us 20, us 21, us 22, us 23, us 24, us 25, us 26, us 27, us 28, us 29, us 30, us 31, us 32, us 33, us 34, us 35, us 36, us 37, us 38, us 39, us 40, us 41, us 42, us 43, us 44, us 45, us 46, us 47, us 48, us 49, us 50, us 51, us 52, us 53, us 54, us 55, us 56, us 57, us 58, us 59, us 60, us 61, us 62, us 63, us 64, us 65, us 66, us 67, us 68, us 69, us 70, us 71, us 72, us 73, us 74, us 75, us 76, us 77, us 78, us 79, us 80, us 81, us 82, .int .i64 i, .int .i64 j, .bool true, .int .i64 i, .int .i64 j, .int .i64 hs, .int .u64 hs, .int .u64 h, .int .i64 h, .func (.func 54) #[] #[.pointer (some ⟨bx, 0, none⟩)], .slice (some ⟨gx, 0, none⟩) n cx, .int .i64 m0, .pointer (some ⟨gx, m0, none⟩), .int .i64 y, .slice (some ⟨gx, 0, none⟩) n cx, .int .i64 h, .pointer (some ⟨gx, h, none⟩), .int .i64 x, .int .i64 (cmpI (kd L y) (kd L x)), .bool false, .bool true, .int .i64 h, .int .i64 i2, us 106, us 107, us 108, us 109, us 110, us 111, us 112, us 113, us 114, us 115, us 116, us 117, us 118, us 119, us 120, us 121, us 122, us 123, us 124, us 125, us 126, us 127, us 128, us 129, us 130, us 131, us 132, us 133, us 134, us 135, us 136, us 137, us 138, us 139, us 140, us 141, us 142, us 143, us 144, us 145, us 146, us 147, us 148, us 149, us 150, us 151, us 152, us 153, us 154, us 155, us 156, us 157, us 158, us 159, us 160, us 161, us 162, us 163, us 164, us 165, us 166, us 167, us 168, us 169, us 170, us 171, us 172, us 173, us 174, us 175, us 176, us 177, us 178, us 179, us 180, us 181, us 182, us 183, us 184, us 185, us 186, us 187, us 188, us 189, us 190, us 191, us 192, us 193, us 194, us 195, us 196, us 197, us 198, us 199, us 200, us 201, us 202, us 203, us 204, us 205, us 206, us 207, us 208, us 209, us 210, us 211, us 212, us 213, us 214, us 215, us 216, us 217, us 218, us 219] : Array Value).getD us_ undef, rfl, C0, FX, SL, OX, Lib.hid ⟨by rw [show i2 - a0 = h - a0 + 1 by have := Ei2.out; have := Eh.out; have := hb.out; omega]; exact bsR_up HSA.out hb.out.1 hx.out hcy.out rfl, by have := Ei2.out; have := Eh.out; have := hb.out; omega, by have := Ei2.out; have := Eh.out; have := hij.out; omega, by have := hb.out; omega, rfl⟩⟩)
      · have hij := Lib.hid h1
        have hcm := Lib.hid h2
        clear h1 h2
        have D85 := Lib.hid (show i < j from hij.out)
        obtain ⟨hs, hhs⟩ : ∃ x, x = i + j := ⟨_, rfl⟩
        have Ehs := Lib.hid hhs; clear hhs
        have Whs := Lib.hid (show IntKind.i64.wrap ((i : Int) + (j : Int)) = (hs : Int) by rw [wr64 (by have := Ehs.out; have := HM.out; have := HN.out; have h8 := HLN.out; simp only [List.length_append] at h8; have := hb.out; have := hij.out; omega)]; have := Ehs.out; have := HM.out; have := HN.out; have h8 := HLN.out; simp only [List.length_append] at h8; have := hb.out; have := hij.out; omega)
        have Uh := Lib.hid (show IntKind.u64.wrap (hs : Int) = (hs : Int) from wu64 (by have := Ehs.out; have := HM.out; have := HN.out; have h8 := HLN.out; simp only [List.length_append] at h8; have := hb.out; have := hij.out; omega))
        obtain ⟨h, hh⟩ : ∃ x, x = hs / 2 := ⟨_, rfl⟩
        have Eh := Lib.hid (show h = (i + j) / 2 by rw [hh, Ehs.out])
        have Vh := Lib.hid (show (hs : Int) / 2 = (h : Int) by omega)
        have Zh := Lib.hid (show IntKind.i64.wrap (h : Int) = (h : Int) from wr64 (by have := Eh.out; have := HM.out; have := HN.out; have h8 := HLN.out; simp only [List.length_append] at h8; have := hb.out; have := hij.out; omega)); clear hh
        have Em0 := Lib.hid (show m0 = m0 from rfl)
        have Bh := Lib.hid (show (h : Int) < (n : Int) by have := Eh.out; have := HM.out; have := HN.out; have h8 := HLN.out; simp only [List.length_append] at h8; have := hb.out; have := hij.out; omega)
        have Bm0 := Lib.hid (show (m0 : Int) < (n : Int) by have := Em0.out; have := HM.out; have := HN.out; have h8 := HLN.out; simp only [List.length_append] at h8; have := hb.out; have := hij.out; omega)
        obtain ⟨x, hx0, hxA0⟩ : ∃ x, A[h - a0]? = some x ∧ x ∈ A := ⟨_, List.getElem?_eq_getElem (by have := Eh.out; have := HM.out; have := HN.out; have h8 := HLN.out; simp only [List.length_append] at h8; have := hb.out; have := hij.out; omega), List.getElem_mem _⟩
        have hx := Lib.hid hx0; have hxA := Lib.hid hxA0; clear hx0 hxA0
        have hcy := Lib.hid (show kd L y < kd L x from (by have h9 := hcm.out; rw [show (i + j) / 2 = h by rw [Eh.out]] at h9; rw [List.getD_eq_getElem?_getD, hx.out] at h9; exact Classical.not_not.1 h9))
        have D102 := Lib.hid (show decide (cmpI (kd L y) (kd L x) < 0) = true from cmp_lt hcy.out)
        refine s_ (fun K65 hK65 => ?_)
        refine pu_ (v := .int .i64 i) (y_move rfl (by rfl) (by rfl)) ?_
        (try simp only [zP, zN, zA, zB, zC])
        refine pu_ (v := .int .i64 j) (y_move rfl (by rfl) (by rfl)) ?_
        (try simp only [zP, zN, zA, zB, zC])
        refine pu_ (v := .bool true) (y_run (by rfl) (fun W => by have d := D85.out; go_simp)) ?_
        (try simp only [zP, zN, zA, zB, zC])
        refine nl_ (hK65 _ _ ?_); clear hK65 K65
        refine wp_cond_true rfl ?_
        refine wp_skip ?_
        refine th_norm (hK55 _ _ ?_); try clear hK55 K55
        refine wp_block ?_
        refine s_ (fun K66 hK66 => ?_)
        refine pu_ (v := .int .i64 i) (y_move rfl (by rfl) (by rfl)) ?_
        (try simp only [zP, zN, zA, zB, zC])
        refine pu_ (v := .int .i64 j) (y_move rfl (by rfl) (by rfl)) ?_
        (try simp only [zP, zN, zA, zB, zC])
        refine pu_ (v := .int .i64 hs) (y_run (by rfl) (fun W => by have d := Whs.out; go_simp)) ?_
        (try simp only [zP, zN, zA, zB, zC])
        refine pu_ (v := .int .u64 hs) (y_run (by rfl) (fun W => by have d := Uh.out; go_simp)) ?_
        (try simp only [zP, zN, zA, zB, zC])
        refine pu_ (v := .int .u64 h) (y_run (by rfl) (fun W => by have d := Vh.out; go_simp)) ?_
        (try simp only [zP, zN, zA, zB, zC])
        refine pu_ (v := .int .i64 h) (y_run (by rfl) (fun W => by have d := Zh.out; go_simp)) ?_
        (try simp only [zP, zN, zA, zB, zC])
        refine pu_ (v := .int .i64 h) (y_assign rfl (by rfl) (by rfl)) ?_
        (try simp only [zP, zN, zA, zB, zC])
        refine nl_ (hK66 _ _ ?_); clear hK66 K66
        refine sq_ (fun K67 hK67 => ?_)
        refine startk_ (S := fun W => OwnS W base 3 1 (.slice (some ⟨gx, 0, none⟩) n cx) (n) ((U ++ (A ++ (B ++ T))).map vi) ∧ True) (ds := []) #[false, false, false, false, false, false, false, false, false, false, false, false] (by kernel_rfl) rfl rfl (fun W c => ⟨OX.out.ch c rnin_nil, trivial⟩) (fun w68 C69 hS70 => ?_)
        have C0' := Lib.hid (show Ch (rl (.slice (some ⟨gx, 0, none⟩) n cx)) w w68 from C0.out.trans' C69 (fun x hx => absurd hx (by simp)))
        have FX' := Lib.hid (show Blk w68 bx (#[.slice (some a) L.length c]) 45 from C69.blk FX.out nin_nil)
        have SL' := Lib.hid (show SrcIs w68 (.slice (some a) L.length c) (L.length) ((L).flatMap opC) 28 from SL.out.chx C69 xnin_nil)
        have OX' := Lib.hid (show OwnS w68 base 3 1 (.slice (some ⟨gx, 0, none⟩) n cx) (n) ((U ++ (A ++ (B ++ T))).map vi) from OX.out.ch C69 rnin_nil)
        clear C0 FX SL OX
        have C0 := C0'; clear C0'
        have FX := FX'; clear FX'
        have SL := SL'; clear SL'
        have OX := OX'; clear OX'
        clear C69
        refine pure_ (i := 0) (N := some 92) (v := .func (.func 54) #[] #[.pointer (some ⟨bx, 0, none⟩)]) #[true, false, false, false, false, false, false, false, false, false, false, false] rfl rfl (by kernel_rfl) (fun c a w h => hP c a _ _ w h) (y_move rfl (by rfl) (by rfl)) rfl ?_
        (try simp only [zP, zN, zA, zB, zC])
        refine pure_ (i := 1) (N := some 93) (v := .slice (some ⟨gx, 0, none⟩) n cx) #[true, true, false, false, false, false, false, false, false, false, false, false] rfl rfl (by kernel_rfl) (fun c a w h => hP c a _ _ w h) (y_move rfl (by rfl) (by rfl)) rfl ?_
        (try simp only [zP, zN, zA, zB, zC])
        refine pure_ (i := 2) (N := some 94) (v := .int .i64 m0) #[true, true, true, false, false, false, false, false, false, false, false, false] rfl rfl (by kernel_rfl) (fun c a w h => hP c a _ _ w h) (y_move rfl (by rfl) (by rfl)) rfl ?_
        (try simp only [zP, zN, zA, zB, zC])
        refine pure_ (i := 3) (N := some 95) (v := .pointer (some ⟨gx, m0, none⟩)) #[true, true, true, true, false, false, false, false, false, false, false, false] rfl rfl (by kernel_rfl) (fun c a w h => hP c a _ _ w h) (y_run (by rfl) (fun W => by have d := Bm0.out; go_simp)) rfl ?_
        (try simp only [zP, zN, zA, zB, zC])
        refine take_ (i := 4) (N := some 96) (v := .int .i64 y) #[true, true, true, true, true, false, false, false, false, false, false, false] rfl rfl (by kernel_rfl) (fun c a w h => hP c a _ _ w h) (y_load (p := ⟨gx, m0, none⟩) rfl (by rfl) (by rfl) (fun W hS => run_load_one (own_cell hS.1 (by rw [EB.out]; exact row_part2 (show [y][0]? = some y from rfl) (by have := HM.out; omega))) Try.underlying3 rfl)) hS70 rfl ?_
        (try simp only [zP, zN, zA, zB, zC])
        refine pure_ (i := 5) (N := some 97) (v := .slice (some ⟨gx, 0, none⟩) n cx) #[true, true, true, true, true, true, false, false, false, false, false, false] rfl rfl (by kernel_rfl) (fun c a w h => hP c a _ _ w h) (y_move rfl (by rfl) (by rfl)) rfl ?_
        (try simp only [zP, zN, zA, zB, zC])
        refine pure_ (i := 6) (N := some 98) (v := .int .i64 h) #[true, true, true, true, true, true, true, false, false, false, false, false] rfl rfl (by kernel_rfl) (fun c a w h => hP c a _ _ w h) (y_move rfl (by rfl) (by rfl)) rfl ?_
        (try simp only [zP, zN, zA, zB, zC])
        refine pure_ (i := 7) (N := some 99) (v := .pointer (some ⟨gx, h, none⟩)) #[true, true, true, true, true, true, true, true, false, false, false, false] rfl rfl (by kernel_rfl) (fun c a w h => hP c a _ _ w h) (y_run (by rfl) (fun W => by have d := Bh.out; go_simp)) rfl ?_
        (try simp only [zP, zN, zA, zB, zC])
        refine take_ (i := 8) (N := some 100) (v := .int .i64 x) #[true, true, true, true, true, true, true, true, true, false, false, false] rfl rfl (by kernel_rfl) (fun c a w h => hP c a _ _ w h) (y_load (p := ⟨gx, h, none⟩) rfl (by rfl) (by rfl) (fun W hS => run_load_one (own_cell hS.1 (row_part1 hx.out (by have := Eh.out; have := HM.out; have := HN.out; have h8 := HLN.out; simp only [List.length_append] at h8; have := hb.out; have := hij.out; omega))) Try.underlying3 rfl)) hS70 rfl ?_
        (try simp only [zP, zN, zA, zB, zC])
        refine one_ (i := 9) (N := some 101) #[true, true, true, true, true, true, true, true, true, true, false, false] rfl rfl (by kernel_rfl) (by simp) (fun K71 hK71 => ?_)
        refine e_callf Try.func54 (by kernel_rfl) rfl #[.int .i64 y, .int .i64 x, .pointer (some ⟨bx, 0, none⟩)] (by rfl) rfl rfl (by rfl) (by first | rfl | simp [Act.eval]) ((cmp2_ (HIN.out y (by rw [EB.out]; simp)) (HIN.out x (by simp [hxA.out])) FX SL)) ?_
        rintro en w72 ⟨rfl, cc⟩
        refine ⟨_, rfl, ?_⟩
        have C0' := Lib.hid (show Ch (rl (.slice (some ⟨gx, 0, none⟩) n cx)) w w72 from C0.out.trans' cc (fun x hx => absurd hx (by simp)))
        have FX' := Lib.hid (show Blk w72 bx (#[.slice (some a) L.length c]) 45 from cc.blk FX.out nin_nil)
        have SL' := Lib.hid (show SrcIs w72 (.slice (some a) L.length c) (L.length) ((L).flatMap opC) 28 from SL.out.chx cc xnin_nil)
        have OX' := Lib.hid (show OwnS w72 base 3 1 (.slice (some ⟨gx, 0, none⟩) n cx) (n) ((U ++ (A ++ (B ++ T))).map vi) from OX.out.ch cc rnin_nil)
        clear C0 FX SL OX
        have C0 := C0'; clear C0'
        have FX := FX'; clear FX'
        have SL := SL'; clear SL'
        have OX := OX'; clear OX'
        clear cc
        refine hK71.out _ _ ⟨OX.out, trivial⟩ (fun hS73 => ?_); clear hK71 K71
        (try simp only [zP, zN, zA, zB, zC])
        refine pure_ (i := 10) (N := some 102) (v := .bool true) #[true, true, true, true, true, true, true, true, true, true, true, false] rfl rfl (by kernel_rfl) (fun c a w h => hP c a _ _ w h) (y_run (by rfl) (fun W => by have d := D102.out; go_simp)) rfl ?_
        (try simp only [zP, zN, zA, zB, zC])
        refine pure_ (i := 11) (N := some 103) (v := .bool false) #[true, true, true, true, true, true, true, true, true, true, true, true] rfl rfl (by kernel_rfl) (fun c a w h => hP c a _ _ w h) (y_run (by rfl) (fun W => by go_simp)) rfl ?_
        (try simp only [zP, zN, zA, zB, zC])
        refine done_ (by kernel_rfl) (th_norm (hK67 _ _ ?_)); clear hK67 K67
        refine wp_cond_false rfl ?_
        refine r_ ?_
        refine pu_ (v := .int .i64 h) (y_move rfl (by rfl) (by rfl)) ?_
        (try simp only [zP, zN, zA, zB, zC])
        refine pu_ (v := .int .i64 h) (y_assign rfl (by rfl) (by rfl)) ?_
        (try simp only [zP, zN, zA, zB, zC])
        refine nl_ ?_
        refine ib_norm ?_
        exact th_norm (hK54 (h - i) _ _ (by have := Eh.out; have := hij.out; have := hb.out; omega) ⟨i, h, fun us_ => (#[.slice (some ⟨gx, 0, none⟩) n cx, .int .i64 a0, .int .i64 m0, .int .i64 b0, .func (.func 54) #[] #[.pointer (some ⟨bx, 0, none⟩)], us 5, us 6, us 7, us 8, us 9, us 10, us 11, us 12, us 13, .int .i64 i, .int .i64 h, .int .i64 h, us 17, us 18, us 19, us 20, us 21, us 22, us 23, us 24, us 25, us 26, us 27, us 28, us 29, us 30, us 31, us 32, us 33, us 34, us 35, us 36, us 37, us 38, us 39, us 40, us 41, us 42, us 43, us 44, us 45, us 46, us 47, us 48, us 49, us 50, us 51, us 52, us 53, us 54, us 55, us 56, us 57, us 58, us 59, us 60, us 61, us 62, us 63, us 64, us 65, us 66, us 67, us 68, us 69, us 70, us 71, us 72, us 73, us 74, us 75, us 76, us 77, us 78, us 79, us 80, us 81, us 82, .int .i64 i, .int .i64 j, .bool true, .int .i64 i, .int .i64 j, .int .i64 hs, .int .u64 hs, .int .u64 h, .int .i64 h, .func (.func 54) #[] #[.pointer (some ⟨bx, 0, none⟩)], .slice (some ⟨gx, 0, none⟩) n cx, .int .i64 m0, .pointer (some ⟨gx, m0, none⟩), .int .i64 y, .slice (some ⟨gx, 0, none⟩) n cx, .int .i64 h, .pointer (some ⟨gx, h, none⟩), .int .i64 x, .int .i64 (cmpI (kd L y) (kd L x)), .bool true, .bool false, us 104, us 105, .int .i64 h, us 107, us 108, us 109, us 110, us 111, us 112, us 113, us 114, us 115, us 116, us 117, us 118, us 119, us 120, us 121, us 122, us 123, us 124, us 125, us 126, us 127, us 128, us 129, us 130, us 131, us 132, us 133, us 134, us 135, us 136, us 137, us 138, us 139, us 140, us 141, us 142, us 143, us 144, us 145, us 146, us 147, us 148, us 149, us 150, us 151, us 152, us 153, us 154, us 155, us 156, us 157, us 158, us 159, us 160, us 161, us 162, us 163, us 164, us 165, us 166, us 167, us 168, us 169, us 170, us 171, us 172, us 173, us 174, us 175, us 176, us 177, us 178, us 179, us 180, us 181, us 182, us 183, us 184, us 185, us 186, us 187, us 188, us 189, us 190, us 191, us 192, us 193, us 194, us 195, us 196, us 197, us 198, us 199, us 200, us 201, us 202, us 203, us 204, us 205, us 206, us 207, us 208, us 209, us 210, us 211, us 212, us 213, us 214, us 215, us 216, us 217, us 218, us 219] : Array Value).getD us_ undef, rfl, C0, FX, SL, OX, Lib.hid ⟨bsR_down HSA.out hb.out.1 hx.out hcy.out rfl, by have := hb.out; omega, by have := Eh.out; have := hij.out; omega, by have := Eh.out; have := hb.out; have := hij.out; omega, rfl⟩⟩)
      · have D85 := Lib.hid (show j ≤ i by omega)
        have HE := Lib.hid (show i = j by have := hb.out; omega)
        clear h
        refine s_ (fun K74 hK74 => ?_)
        refine pu_ (v := .int .i64 i) (y_move rfl (by rfl) (by rfl)) ?_
        (try simp only [zP, zN, zA, zB, zC])
        refine pu_ (v := .int .i64 j) (y_move rfl (by rfl) (by rfl)) ?_
        (try simp only [zP, zN, zA, zB, zC])
        refine pu_ (v := .bool false) (y_run (by rfl) (fun W => by have d := D85.out; go_simp)) ?_
        (try simp only [zP, zN, zA, zB, zC])
        refine nl_ (hK74 _ _ ?_); clear hK74 K74
        refine wp_cond_false rfl ?_
        refine wp_exit ?_
        refine th_exit ?_
        refine th_exit ?_
        refine ib_exit ?_
        refine th_norm (hK52 _ _ ?_); try clear hK52 K52
        refine sq_ (fun K75 hK75 => ?_)
        refine s_ (fun K76 hK76 => ?_)
        refine pu_ (v := .int .i64 m0) (y_move rfl (by rfl) (by rfl)) ?_
        (try simp only [zP, zN, zA, zB, zC])
        refine pu_ (v := .int .i64 m0) (y_assign rfl (by rfl) (by rfl)) ?_
        (try simp only [zP, zN, zA, zB, zC])
        refine nl_ (hK76 _ _ ?_); clear hK76 K76
        refine wp_block ?_
        have HS := Lib.hid (show bsR L A y (i - a0) (i - a0) from by have h := hb.out.1; rw [← HE.out] at h; exact h)
        have HIB := Lib.hid (show a0 ≤ i ∧ i ≤ m0 by have := hb.out; have := HE.out; omega)
        clear hb
        refine loopk_ (fun (kq : Nat) (a' : Act) (w' : World) => ∃ (k : Nat), ∃ (t : Nat), ∃ (us : Nat → Value), a' = ⟨#[.slice (some ⟨gx, 0, none⟩) n cx, us 1, us 2, us 3, us 4, us 5, us 6, us 7, us 8, us 9, us 10, us 11, us 12, us 13, .int .i64 i, us 15, us 16, .int .i64 k, us 18, us 19, us 20, us 21, us 22, us 23, us 24, us 25, us 26, us 27, us 28, us 29, us 30, us 31, us 32, us 33, us 34, us 35, us 36, us 37, us 38, us 39, us 40, us 41, us 42, us 43, us 44, us 45, us 46, us 47, us 48, us 49, us 50, us 51, us 52, us 53, us 54, us 55, us 56, us 57, us 58, us 59, us 60, us 61, us 62, us 63, us 64, us 65, us 66, us 67, us 68, us 69, us 70, us 71, us 72, us 73, us 74, us 75, us 76, us 77, us 78, us 79, us 80, us 81, us 82, us 83, us 84, us 85, us 86, us 87, us 88, us 89, us 90, us 91, us 92, us 93, us 94, us 95, us 96, us 97, us 98, us 99, us 100, us 101, us 102, us 103, us 104, us 105, us 106, us 107, us 108, us 109, us 110, us 111, us 112, us 113, us 114, us 115, us 116, us 117, us 118, us 119, us 120, us 121, us 122, us 123, us 124, us 125, us 126, us 127, us 128, us 129, us 130, us 131, us 132, us 133, us 134, us 135, us 136, us 137, us 138, us 139, us 140, us 141, us 142, us 143, us 144, us 145, us 146, us 147, us 148, us 149, us 150, us 151, us 152, us 153, us 154, us 155, us 156, us 157, us 158, us 159, us 160, us 161, us 162, us 163, us 164, us 165, us 166, us 167, us 168, us 169, us 170, us 171, us 172, us 173, us 174, us 175, us 176, us 177, us 178, us 179, us 180, us 181, us 182, us 183, us 184, us 185, us 186, us 187, us 188, us 189, us 190, us 191, us 192, us 193, us 194, us 195, us 196, us 197, us 198, us 199, us 200, us 201, us 202, us 203, us 204, us 205, us 206, us 207, us 208, us 209, us 210, us 211, us 212, us 213, us 214, us 215, us 216, us 217, us 218, us 219], []⟩ ∧ Hid (Ch (rl (.slice (some ⟨gx, 0, none⟩) n cx)) w w') ∧ Hid (Blk w' bx (#[.slice (some a) L.length c]) 45) ∧ Hid (SrcIs w' (.slice (some a) L.length c) (L.length) ((L).flatMap opC) 28) ∧ Hid (OwnS w' base 3 1 (.slice (some ⟨gx, 0, none⟩) n cx) (n) ((U ++ (A.take t ++ y :: (A.drop t ++ T))).map vi)) ∧ Hid (k = a0 + t ∧ i - a0 ≤ t ∧ t ≤ A.length ∧ kq + (i - a0) = t)) (m0 - i) (⟨m0, A.length, fun us_ => (#[.slice (some ⟨gx, 0, none⟩) n cx, .int .i64 a0, .int .i64 m0, .int .i64 b0, .func (.func 54) #[] #[.pointer (some ⟨bx, 0, none⟩)], us 5, us 6, us 7, us 8, us 9, us 10, us 11, us 12, us 13, .int .i64 i, .int .i64 j, us 16, .int .i64 m0, us 18, us 19, us 20, us 21, us 22, us 23, us 24, us 25, us 26, us 27, us 28, us 29, us 30, us 31, us 32, us 33, us 34, us 35, us 36, us 37, us 38, us 39, us 40, us 41, us 42, us 43, us 44, us 45, us 46, us 47, us 48, us 49, us 50, us 51, us 52, us 53, us 54, us 55, us 56, us 57, us 58, us 59, us 60, us 61, us 62, us 63, us 64, us 65, us 66, us 67, us 68, us 69, us 70, us 71, us 72, us 73, us 74, us 75, us 76, us 77, us 78, us 79, us 80, us 81, us 82, .int .i64 i, .int .i64 j, .bool false, us 86, us 87, us 88, us 89, us 90, us 91, us 92, us 93, us 94, us 95, us 96, us 97, us 98, us 99, us 100, us 101, us 102, us 103, us 104, us 105, us 106, .int .i64 m0, us 108, us 109, us 110, us 111, us 112, us 113, us 114, us 115, us 116, us 117, us 118, us 119, us 120, us 121, us 122, us 123, us 124, us 125, us 126, us 127, us 128, us 129, us 130, us 131, us 132, us 133, us 134, us 135, us 136, us 137, us 138, us 139, us 140, us 141, us 142, us 143, us 144, us 145, us 146, us 147, us 148, us 149, us 150, us 151, us 152, us 153, us 154, us 155, us 156, us 157, us 158, us 159, us 160, us 161, us 162, us 163, us 164, us 165, us 166, us 167, us 168, us 169, us 170, us 171, us 172, us 173, us 174, us 175, us 176, us 177, us 178, us 179, us 180, us 181, us 182, us 183, us 184, us 185, us 186, us 187, us 188, us 189, us 190, us 191, us 192, us 193, us 194, us 195, us 196, us 197, us 198, us 199, us 200, us 201, us 202, us 203, us 204, us 205, us 206, us 207, us 208, us 209, us 210, us 211, us 212, us 213, us 214, us 215, us 216, us 217, us 218, us 219] : Array Value).getD us_ undef, rfl, C0, FX, SL, Lib.hid (by have h := OX.out; rw [EB.out] at h; rw [List.take_length, List.drop_length]; exact h), Lib.hid (by have := HM.out; have := HIB.out; omega)⟩) ?_
        rintro kq _ w77 ⟨k, t, us, rfl, C0, FX, SL, OX, hk⟩ K78 hK78
        refine sq_ (fun K79 hK79 => ?_)
        rcases Nat.lt_or_ge (i - a0) t with h | h
        · have hlt := Lib.hid (show i - a0 < t from h)
          clear h
          obtain ⟨x, hx0, hd0, ht0⟩ := apart (A := A) (k := t - 1) (by have := hk.out; have := hlt.out; omega)
          rw [show t - 1 + 1 = t by have := hlt.out; omega] at hd0 ht0
          have hd := Lib.hid hd0; have HT1 := Lib.hid ht0; clear hx0 hd0 ht0
          have D110 := Lib.hid (show i < k by have := HIB.out; have := HM.out; have := HN.out; have hB1 : B.length = 1 := (by rw [EB.out]; rfl); have h8 := HLN.out; simp only [List.length_append] at h8; have := hk.out; have := hlt.out; omega)
          obtain ⟨k1, hk1⟩ : ∃ x, x = k - 1 := ⟨_, rfl⟩
          have Ek1 := Lib.hid hk1; clear hk1
          have Wk1 := Lib.hid (show IntKind.i64.wrap ((k : Int) - 1) = (k1 : Int) by rw [wr64 (by have := Ek1.out; have := HIB.out; have := HM.out; have := HN.out; have hB1 : B.length = 1 := (by rw [EB.out]; rfl); have h8 := HLN.out; simp only [List.length_append] at h8; have := hk.out; have := hlt.out; omega)]; have := Ek1.out; have := HIB.out; have := HM.out; have := HN.out; have hB1 : B.length = 1 := (by rw [EB.out]; rfl); have h8 := HLN.out; simp only [List.length_append] at h8; have := hk.out; have := hlt.out; omega)
          have Ek := Lib.hid (show k = k from rfl)
          have Bk := Lib.hid (show (k : Int) < (n : Int) by have := Ek.out; have := HIB.out; have := HM.out; have := HN.out; have hB1 : B.length = 1 := (by rw [EB.out]; rfl); have h8 := HLN.out; simp only [List.length_append] at h8; have := hk.out; have := hlt.out; omega)
          have Bk1 := Lib.hid (show (k1 : Int) < (n : Int) by have := Ek1.out; have := HIB.out; have := HM.out; have := HN.out; have hB1 : B.length = 1 := (by rw [EB.out]; rfl); have h8 := HLN.out; simp only [List.length_append] at h8; have := hk.out; have := hlt.out; omega)
          have PE := Lib.hid (show k1 = (U ++ A.take (t - 1)).length by rw [List.length_append, List.length_take]; have := Ek1.out; have := HIB.out; have := HM.out; have := HN.out; have hB1 : B.length = 1 := (by rw [EB.out]; rfl); have h8 := HLN.out; simp only [List.length_append] at h8; have := hk.out; have := hlt.out; omega)
          have QE := Lib.hid (show k = (U ++ A.take (t - 1)).length + 1 + (([] : List Int)).length by rw [List.length_append, List.length_take, List.length_nil]; have := HIB.out; have := HM.out; have := HN.out; have hB1 : B.length = 1 := (by rw [EB.out]; rfl); have h8 := HLN.out; simp only [List.length_append] at h8; have := hk.out; have := hlt.out; omega)
          have OX' := Lib.hid (show OwnS w77 base 3 1 (.slice (some ⟨gx, 0, none⟩) n cx) (n) ((U ++ A.take (t - 1) ++ x :: (([] : List Int) ++ y :: (A.drop t ++ T))).map vi) from by have h := OX.out; rw [HT1.out, show U ++ ((A.take (t - 1) ++ [x]) ++ y :: (A.drop t ++ T)) = (U ++ A.take (t - 1)) ++ x :: ([] ++ y :: (A.drop t ++ T)) by simp] at h; exact h); clear OX; have OX := OX'; clear OX'
          refine s_ (fun K80 hK80 => ?_)
          refine pu_ (v := .int .i64 k) (y_move rfl (by rfl) (by rfl)) ?_
          (try simp only [zP, zN, zA, zB, zC])
          refine pu_ (v := .int .i64 i) (y_move rfl (by rfl) (by rfl)) ?_
          (try simp only [zP, zN, zA, zB, zC])
          refine pu_ (v := .bool true) (y_run (by rfl) (fun W => by have d := D110.out; go_simp)) ?_
          (try simp only [zP, zN, zA, zB, zC])
          refine nl_ (hK80 _ _ ?_); clear hK80 K80
          refine wp_cond_true rfl ?_
          refine wp_skip ?_
          refine th_norm (hK79 _ _ ?_); try clear hK79 K79
          refine sq_ (fun K81 hK81 => ?_)
          refine wp_block ?_
          refine startk_ (S := fun W => OwnS W base 3 1 (.slice (some ⟨gx, 0, none⟩) n cx) (n) ((U ++ A.take (t - 1) ++ x :: (([] : List Int) ++ y :: (A.drop t ++ T))).map vi) ∧ True) (ds := [15, 17]) #[false, false, false, false, false, false, false, false, false, false, false, false, false, false, false, false, false, false] (by kernel_rfl) rfl rfl (fun W c => ⟨OX.out.ch c rnin_nil, trivial⟩) (fun w82 C83 hS84 => ?_)
          have C0' := Lib.hid (show Ch (rl (.slice (some ⟨gx, 0, none⟩) n cx)) w w82 from C0.out.trans' C83 (fun x hx => absurd hx (by simp)))
          have FX' := Lib.hid (show Blk w82 bx (#[.slice (some a) L.length c]) 45 from C83.blk FX.out nin_nil)
          have SL' := Lib.hid (show SrcIs w82 (.slice (some a) L.length c) (L.length) ((L).flatMap opC) 28 from SL.out.chx C83 xnin_nil)
          have OX' := Lib.hid (show OwnS w82 base 3 1 (.slice (some ⟨gx, 0, none⟩) n cx) (n) ((U ++ A.take (t - 1) ++ x :: (([] : List Int) ++ y :: (A.drop t ++ T))).map vi) from OX.out.ch C83 rnin_nil)
          clear C0 FX SL OX
          have C0 := C0'; clear C0'
          have FX := FX'; clear FX'
          have SL := SL'; clear SL'
          have OX := OX'; clear OX'
          clear C83
          refine pure_ (i := 0) (N := some 113) (v := .slice (some ⟨gx, 0, none⟩) n cx) #[true, false, false, false, false, false, false, false, false, false, false, false, false, false, false, false, false, false] rfl rfl (by kernel_rfl) (fun c a w h => hP c a _ _ w h) (y_move rfl (by rfl) (by rfl)) rfl ?_
          (try simp only [zP, zN, zA, zB, zC])
          refine pure_ (i := 1) (N := some 114) (v := .int .i64 k) #[true, true, false, false, false, false, false, false, false, false, false, false, false, false, false, false, false, false] rfl rfl (by kernel_rfl) (fun c a w h => hP c a _ _ w h) (y_move rfl (by rfl) (by rfl)) rfl ?_
          (try simp only [zP, zN, zA, zB, zC])
          refine pure_ (i := 2) (N := some 115) (v := .slice (some ⟨gx, 0, none⟩) n cx) #[true, true, true, false, false, false, false, false, false, false, false, false, false, false, false, false, false, false] rfl rfl (by kernel_rfl) (fun c a w h => hP c a _ _ w h) (y_move rfl (by rfl) (by rfl)) rfl ?_
          (try simp only [zP, zN, zA, zB, zC])
          refine pure_ (i := 3) (N := some 116) (v := .int .i64 k) #[true, true, true, true, false, false, false, false, false, false, false, false, false, false, false, false, false, false] rfl rfl (by kernel_rfl) (fun c a w h => hP c a _ _ w h) (y_move rfl (by rfl) (by rfl)) rfl ?_
          (try simp only [zP, zN, zA, zB, zC])
          refine pure_ (i := 4) (N := some 117) (v := .int .i64 k1) #[true, true, true, true, true, false, false, false, false, false, false, false, false, false, false, false, false, false] rfl rfl (by kernel_rfl) (fun c a w h => hP c a _ _ w h) (y_run (by rfl) (fun W => by have d := Wk1.out; go_simp)) rfl ?_
          (try simp only [zP, zN, zA, zB, zC])
          refine pure_ (i := 5) (N := some 118) (v := .slice (some ⟨gx, 0, none⟩) n cx) #[true, true, true, true, true, true, false, false, false, false, false, false, false, false, false, false, false, false] rfl rfl (by kernel_rfl) (fun c a w h => hP c a _ _ w h) (y_move rfl (by rfl) (by rfl)) rfl ?_
          (try simp only [zP, zN, zA, zB, zC])
          refine pure_ (i := 6) (N := some 119) (v := .int .i64 k) #[true, true, true, true, true, true, true, false, false, false, false, false, false, false, false, false, false, false] rfl rfl (by kernel_rfl) (fun c a w h => hP c a _ _ w h) (y_move rfl (by rfl) (by rfl)) rfl ?_
          (try simp only [zP, zN, zA, zB, zC])
          refine pure_ (i := 7) (N := some 120) (v := .int .i64 k1) #[true, true, true, true, true, true, true, true, false, false, false, false, false, false, false, false, false, false] rfl rfl (by kernel_rfl) (fun c a w h => hP c a _ _ w h) (y_run (by rfl) (fun W => by have d := Wk1.out; go_simp)) rfl ?_
          (try simp only [zP, zN, zA, zB, zC])
          refine pure_ (i := 8) (N := some 121) (v := .pointer (some ⟨gx, k1, none⟩)) #[true, true, true, true, true, true, true, true, true, false, false, false, false, false, false, false, false, false] rfl rfl (by kernel_rfl) (fun c a w h => hP c a _ _ w h) (y_run (by rfl) (fun W => by have d := Bk1.out; go_simp)) rfl ?_
          (try simp only [zP, zN, zA, zB, zC])
          refine take_ (i := 9) (N := some 122) (v := .int .i64 x) #[true, true, true, true, true, true, true, true, true, true, false, false, false, false, false, false, false, false] rfl rfl (by kernel_rfl) (fun c a w h => hP c a _ _ w h) (y_load (p := ⟨gx, k1, none⟩) rfl (by rfl) (by rfl) (fun W hS => run_load_one (own_cell hS.1 (by rw [PE.out]; exact row_at1 _ _ _)) Try.underlying3 rfl)) hS84 rfl ?_
          (try simp only [zP, zN, zA, zB, zC])
          refine pure_ (i := 10) (N := some 123) (v := .slice (some ⟨gx, 0, none⟩) n cx) #[true, true, true, true, true, true, true, true, true, true, true, false, false, false, false, false, false, false] rfl rfl (by kernel_rfl) (fun c a w h => hP c a _ _ w h) (y_move rfl (by rfl) (by rfl)) rfl ?_
          (try simp only [zP, zN, zA, zB, zC])
          refine pure_ (i := 11) (N := some 124) (v := .int .i64 k) #[true, true, true, true, true, true, true, true, true, true, true, true, false, false, false, false, false, false] rfl rfl (by kernel_rfl) (fun c a w h => hP c a _ _ w h) (y_move rfl (by rfl) (by rfl)) rfl ?_
          (try simp only [zP, zN, zA, zB, zC])
          refine pure_ (i := 12) (N := some 125) (v := .pointer (some ⟨gx, k, none⟩)) #[true, true, true, true, true, true, true, true, true, true, true, true, true, false, false, false, false, false] rfl rfl (by kernel_rfl) (fun c a w h => hP c a _ _ w h) (y_run (by rfl) (fun W => by have d := Bk.out; go_simp)) rfl ?_
          (try simp only [zP, zN, zA, zB, zC])
          refine take_ (i := 13) (N := some 126) (v := .int .i64 y) #[true, true, true, true, true, true, true, true, true, true, true, true, true, true, false, false, false, false] rfl rfl (by kernel_rfl) (fun c a w h => hP c a _ _ w h) (y_load (p := ⟨gx, k, none⟩) rfl (by rfl) (by rfl) (fun W hS => run_load_one (own_cell hS.1 (by rw [QE.out]; exact row_at2 _ _ _ _ _)) Try.underlying3 rfl)) hS84 rfl ?_
          (try simp only [zP, zN, zA, zB, zC])
          refine pure_ (i := 14) (N := some 127) (v := .pointer (some ⟨gx, k, none⟩)) #[true, true, true, true, true, true, true, true, true, true, true, true, true, true, true, false, false, false] rfl rfl (by kernel_rfl) (fun c a w h => hP c a _ _ w h) (y_run (by rfl) (fun W => by have d := Bk.out; go_simp)) rfl ?_
          (try simp only [zP, zN, zA, zB, zC])
          refine last_ (i := 15) (N := none) #[true, true, true, true, true, true, true, true, true, true, true, true, true, true, true, true, false, false] rfl rfl (by kernel_rfl) (by simp) (fun K85 hK85 => ?_)
          refine e_storeS1 (by rfl) rfl rfl OX.out k (.int .i64 x) (by rfl) (by rfl) (by kernel_rfl) (by have := Bk.out; omega) rfl ?_
          rintro w86 O87 C88
          have RC88 := Lib.hid (show Ch (rl (.slice (some ⟨gx, 0, none⟩) n cx)) w82 w86 from by rw [rl_some gx n cx (by have := BC.out; have := Bk.out; omega)]; exact C88)
          have C0' := Lib.hid (show Ch (rl (.slice (some ⟨gx, 0, none⟩) n cx)) w w86 from C0.out.trans' RC88.out (fun x hx => .inl hx))
          have FX' := Lib.hid (show Blk w86 bx (#[.slice (some a) L.length c]) 45 from RC88.out.blk FX.out (OX.out.ne FX.out (by decide)))
          have SL' := Lib.hid (show SrcIs w86 (.slice (some a) L.length c) (L.length) ((L).flatMap opC) 28 from SL.out.chx RC88.out HXR.out)
          clear C0 FX SL
          have C0 := C0'; clear C0'
          have FX := FX'; clear FX'
          have SL := SL'; clear SL'
          clear OX
          have OX := Lib.hid (show OwnS w86 base 3 1 (.slice (some ⟨gx, 0, none⟩) n cx) (n) (((U ++ A.take (t - 1) ++ x :: (([] : List Int) ++ y :: (A.drop t ++ T))).map vi).set k (vi x)) from O87); clear O87 C88 RC88
          refine hK85.out _ _ ?_; clear hK85 K85
          (try simp only [zP, zN, zA, zB, zC])
          refine pure_ (i := 16) (N := some 128) (v := .pointer (some ⟨gx, k1, none⟩)) #[true, true, true, true, true, true, true, true, true, true, true, true, true, true, true, true, true, false] rfl rfl (by kernel_rfl) (fun c a w h => hP c a _ _ w h) (y_run (by rfl) (fun W => by have d := Bk1.out; go_simp)) rfl ?_
          (try simp only [zP, zN, zA, zB, zC])
          refine last_ (i := 17) (N := none) #[true, true, true, true, true, true, true, true, true, true, true, true, true, true, true, true, true, true] rfl rfl (by kernel_rfl) (by simp) (fun K89 hK89 => ?_)
          refine e_storeS1 (by rfl) rfl rfl OX.out k1 (.int .i64 y) (by rfl) (by rfl) (by kernel_rfl) (by have := Bk1.out; omega) rfl ?_
          rintro w90 O91 C92
          have RC92 := Lib.hid (show Ch (rl (.slice (some ⟨gx, 0, none⟩) n cx)) w86 w90 from by rw [rl_some gx n cx (by have := BC.out; have := Bk1.out; omega)]; exact C92)
          have C0' := Lib.hid (show Ch (rl (.slice (some ⟨gx, 0, none⟩) n cx)) w w90 from C0.out.trans' RC92.out (fun x hx => .inl hx))
          have FX' := Lib.hid (show Blk w90 bx (#[.slice (some a) L.length c]) 45 from RC92.out.blk FX.out (OX.out.ne FX.out (by decide)))
          have SL' := Lib.hid (show SrcIs w90 (.slice (some a) L.length c) (L.length) ((L).flatMap opC) 28 from SL.out.chx RC92.out HXR.out)
          clear C0 FX SL
          have C0 := C0'; clear C0'
          have FX := FX'; clear FX'
          have SL := SL'; clear SL'
          clear OX
          have OX := Lib.hid (show OwnS w90 base 3 1 (.slice (some ⟨gx, 0, none⟩) n cx) (n) ((U ++ A.take (t - 1) ++ y :: (([] : List Int) ++ x :: (A.drop t ++ T))).map vi) from by have h := O91; rw [PE.out, QE.out, sw_21] at h; exact h); clear O91 C92 RC92
          refine hK89.out _ _ ?_; clear hK89 K89
          (try simp only [zP, zN, zA, zB, zC])
          refine done_ (by kernel_rfl) ?_
          refine ib_norm ?_
          refine th_norm (hK81 _ _ ?_); try clear hK81 K81
          refine r_ ?_
          refine pu_ (v := .int .i64 k) (y_move rfl (by rfl) (by rfl)) ?_
          (try simp only [zP, zN, zA, zB, zC])
          refine pu_ (v := .int .i64 k1) (y_run (by rfl) (fun W => by have d := Wk1.out; go_simp)) ?_
          (try simp only [zP, zN, zA, zB, zC])
          refine pu_ (v := .int .i64 k1) (y_assign rfl (by rfl) (by rfl)) ?_
          (try simp only [zP, zN, zA, zB, zC])
          refine nl_ ?_
          exact th_norm (hK78 (kq - 1) _ _ (by have := hk.out; have := hlt.out; omega) ⟨k1, t - 1, fun us_ => (#[.slice (some ⟨gx, 0, none⟩) n cx, us 1, us 2, us 3, us 4, us 5, us 6, us 7, us 8, us 9, us 10, us 11, us 12, us 13, .int .i64 i, us 15, us 16, .int .i64 k1, us 18, us 19, us 20, us 21, us 22, us 23, us 24, us 25, us 26, us 27, us 28, us 29, us 30, us 31, us 32, us 33, us 34, us 35, us 36, us 37, us 38, us 39, us 40, us 41, us 42, us 43, us 44, us 45, us 46, us 47, us 48, us 49, us 50, us 51, us 52, us 53, us 54, us 55, us 56, us 57, us 58, us 59, us 60, us 61, us 62, us 63, us 64, us 65, us 66, us 67, us 68, us 69, us 70, us 71, us 72, us 73, us 74, us 75, us 76, us 77, us 78, us 79, us 80, us 81, us 82, us 83, us 84, us 85, us 86, us 87, us 88, us 89, us 90, us 91, us 92, us 93, us 94, us 95, us 96, us 97, us 98, us 99, us 100, us 101, us 102, us 103, us 104, us 105, us 106, us 107, .int .i64 k, .int .i64 i, .bool true, .int .i64 k, .int .i64 k1, .slice (some ⟨gx, 0, none⟩) n cx, .int .i64 k, .slice (some ⟨gx, 0, none⟩) n cx, .int .i64 k, .int .i64 k1, .slice (some ⟨gx, 0, none⟩) n cx, .int .i64 k, .int .i64 k1, .pointer (some ⟨gx, k1, none⟩), .int .i64 x, .slice (some ⟨gx, 0, none⟩) n cx, .int .i64 k, .pointer (some ⟨gx, k, none⟩), .int .i64 y, .pointer (some ⟨gx, k, none⟩), .pointer (some ⟨gx, k1, none⟩), us 129, us 130, us 131, us 132, us 133, us 134, us 135, us 136, us 137, us 138, us 139, us 140, us 141, us 142, us 143, us 144, us 145, us 146, us 147, us 148, us 149, us 150, us 151, us 152, us 153, us 154, us 155, us 156, us 157, us 158, us 159, us 160, us 161, us 162, us 163, us 164, us 165, us 166, us 167, us 168, us 169, us 170, us 171, us 172, us 173, us 174, us 175, us 176, us 177, us 178, us 179, us 180, us 181, us 182, us 183, us 184, us 185, us 186, us 187, us 188, us 189, us 190, us 191, us 192, us 193, us 194, us 195, us 196, us 197, us 198, us 199, us 200, us 201, us 202, us 203, us 204, us 205, us 206, us 207, us 208, us 209, us 210, us 211, us 212, us 213, us 214, us 215, us 216, us 217, us 218, us 219] : Array Value).getD us_ undef, rfl, C0, FX, SL, Lib.hid (by have h := OX.out; rw [hd.out]; rw [show (U ++ A.take (t - 1)) ++ y :: ([] ++ x :: (A.drop t ++ T)) = U ++ (A.take (t - 1) ++ y :: ((x :: A.drop t) ++ T)) by simp] at h; exact h), Lib.hid (by have := hk.out; have := Ek1.out; have := hlt.out; omega)⟩)
        · have D110 := Lib.hid (show k ≤ i by have := hk.out; have := h; have := HIB.out; omega)
          have HE2 := Lib.hid (show t = i - a0 by have := hk.out; have := h; omega)
          clear h
          refine s_ (fun K93 hK93 => ?_)
          refine pu_ (v := .int .i64 k) (y_move rfl (by rfl) (by rfl)) ?_
          (try simp only [zP, zN, zA, zB, zC])
          refine pu_ (v := .int .i64 i) (y_move rfl (by rfl) (by rfl)) ?_
          (try simp only [zP, zN, zA, zB, zC])
          refine pu_ (v := .bool false) (y_run (by rfl) (fun W => by have d := D110.out; go_simp)) ?_
          (try simp only [zP, zN, zA, zB, zC])
          refine nl_ (hK93 _ _ ?_); clear hK93 K93
          refine wp_cond_false rfl ?_
          refine wp_exit ?_
          refine th_exit ?_
          refine th_exit ?_
          refine ib_exit ?_
          refine th_norm (hK75 _ _ ?_); try clear hK75 K75
          refine wp_ret ?_
          refine th_ret ?_
          refine hQ _ _ _ ?_
          refine bodyPost_ret (res0 rfl) rfl ?_
          exact ⟨rfl, _, by rw [EB.out]; exact merge_right HSA.out (by have h := HAH.out; rw [EB.out] at h; exact h) (by have := HIB.out; have := HM.out; omega) HS.out.1 HS.out.2, by have h := OX.out; rw [HE2.out, show U ++ (A.take (i - a0) ++ y :: (A.drop (i - a0) ++ T)) = U ++ ((A.take (i - a0) ++ y :: A.drop (i - a0)) ++ T) by simp] at h; exact h, C0.out⟩
    · have hA1 := Lib.hid h.1
      have hB1 := Lib.hid h.2
      clear h
      obtain ⟨ml, hml⟩ : ∃ x, x = m0 - a0 := ⟨_, rfl⟩
      have Eml := Lib.hid hml; clear hml
      have Wml := Lib.hid (show IntKind.i64.wrap ((m0 : Int) - (a0 : Int)) = (ml : Int) by rw [wr64 (by have := Eml.out; have := HM.out; have := HN.out; have h8 := HLN.out; simp only [List.length_append] at h8; omega)]; have := Eml.out; have := HM.out; have := HN.out; have h8 := HLN.out; simp only [List.length_append] at h8; omega)
      have D28 := Lib.hid (show ¬ (ml : Int) = 1 by have := Eml.out; have := HM.out; have := hA1.out; omega)
      obtain ⟨bl, hbl⟩ : ∃ x, x = b0 - m0 := ⟨_, rfl⟩
      have Ebl := Lib.hid hbl; clear hbl
      have Wbl := Lib.hid (show IntKind.i64.wrap ((b0 : Int) - (m0 : Int)) = (bl : Int) by rw [wr64 (by have := Ebl.out; have := HM.out; have := HN.out; have h8 := HLN.out; simp only [List.length_append] at h8; omega)]; have := Ebl.out; have := HM.out; have := HN.out; have h8 := HLN.out; simp only [List.length_append] at h8; omega)
      have D80 := Lib.hid (show ¬ (bl : Int) = 1 by have := Ebl.out; have := HM.out; have := hB1.out; omega)
      refine s_ (fun K94 hK94 => ?_)
      refine pu_ (v := .int .i64 m0) (y_move rfl (by rfl) (by rfl)) ?_
      (try simp only [zP, zN, zA, zB, zC])
      refine pu_ (v := .int .i64 a0) (y_move rfl (by rfl) (by rfl)) ?_
      (try simp only [zP, zN, zA, zB, zC])
      refine pu_ (v := .int .i64 ml) (y_run (by rfl) (fun W => by have d := Wml.out; go_simp)) ?_
      (try simp only [zP, zN, zA, zB, zC])
      refine pu_ (v := .bool false) (y_run (by rfl) (fun W => by have d := D28.out; go_simp)) ?_
      (try simp only [zP, zN, zA, zB, zC])
      refine nl_ (hK94 _ _ ?_); clear hK94 K94
      refine wp_cond_false rfl ?_
      refine wp_skip ?_
      refine th_norm (hK1 _ _ ?_); try clear hK1 K1
      refine sq_ (fun K95 hK95 => ?_)
      refine s_ (fun K96 hK96 => ?_)
      refine pu_ (v := .int .i64 b0) (y_move rfl (by rfl) (by rfl)) ?_
      (try simp only [zP, zN, zA, zB, zC])
      refine pu_ (v := .int .i64 m0) (y_move rfl (by rfl) (by rfl)) ?_
      (try simp only [zP, zN, zA, zB, zC])
      refine pu_ (v := .int .i64 bl) (y_run (by rfl) (fun W => by have d := Wbl.out; go_simp)) ?_
      (try simp only [zP, zN, zA, zB, zC])
      refine pu_ (v := .bool false) (y_run (by rfl) (fun W => by have d := D80.out; go_simp)) ?_
      (try simp only [zP, zN, zA, zB, zC])
      refine nl_ (hK96 _ _ ?_); clear hK96 K96
      refine wp_cond_false rfl ?_
      refine wp_skip ?_
      refine th_norm (hK95 _ _ ?_); try clear hK95 K95
      skip
      · obtain ⟨mds, hmds⟩ : ∃ x, x = a0 + b0 := ⟨_, rfl⟩
        have Emds := Lib.hid hmds; clear hmds
        have Wmds := Lib.hid (show IntKind.i64.wrap ((a0 : Int) + (b0 : Int)) = (mds : Int) by rw [wr64 (by have := Emds.out; have := HM.out; have := HN.out; have h8 := HLN.out; simp only [List.length_append] at h8; omega)]; have := Emds.out; have := HM.out; have := HN.out; have h8 := HLN.out; simp only [List.length_append] at h8; omega)
        have Umd := Lib.hid (show IntKind.u64.wrap (mds : Int) = (mds : Int) from wu64 (by have := Emds.out; have := HM.out; have := HN.out; have h8 := HLN.out; simp only [List.length_append] at h8; omega))
        obtain ⟨md, hmd⟩ : ∃ x, x = mds / 2 := ⟨_, rfl⟩
        have Emd := Lib.hid (show md = (a0 + b0) / 2 by rw [hmd, Emds.out])
        have Vmd := Lib.hid (show (mds : Int) / 2 = (md : Int) by omega)
        have Zmd := Lib.hid (show IntKind.i64.wrap (md : Int) = (md : Int) from wr64 (by have := Emd.out; have := HM.out; have := HN.out; have h8 := HLN.out; simp only [List.length_append] at h8; omega)); clear hmd
        obtain ⟨np, hnp⟩ : ∃ x, x = md + m0 := ⟨_, rfl⟩
        have Enp := Lib.hid hnp; clear hnp
        have Wnp := Lib.hid (show IntKind.i64.wrap ((md : Int) + (m0 : Int)) = (np : Int) by rw [wr64 (by have := Enp.out; have := HM.out; have := HN.out; have h8 := HLN.out; simp only [List.length_append] at h8; have := Emd.out; omega)]; have := Enp.out; have := HM.out; have := HN.out; have h8 := HLN.out; simp only [List.length_append] at h8; have := Emd.out; omega)
        have HMD := Lib.hid (show a0 ≤ md ∧ md < b0 ∧ np = md + m0 by have := Emd.out; have := Enp.out; have := HM.out; omega)
        refine s_ (fun K97 hK97 => ?_)
        refine pu_ (v := .int .i64 a0) (y_move rfl (by rfl) (by rfl)) ?_
        (try simp only [zP, zN, zA, zB, zC])
        refine pu_ (v := .int .i64 b0) (y_move rfl (by rfl) (by rfl)) ?_
        (try simp only [zP, zN, zA, zB, zC])
        refine pu_ (v := .int .i64 mds) (y_run (by rfl) (fun W => by have d := Wmds.out; go_simp)) ?_
        (try simp only [zP, zN, zA, zB, zC])
        refine pu_ (v := .int .u64 mds) (y_run (by rfl) (fun W => by have d := Umd.out; go_simp)) ?_
        (try simp only [zP, zN, zA, zB, zC])
        refine pu_ (v := .int .u64 md) (y_run (by rfl) (fun W => by have d := Vmd.out; go_simp)) ?_
        (try simp only [zP, zN, zA, zB, zC])
        refine pu_ (v := .int .i64 md) (y_run (by rfl) (fun W => by have d := Zmd.out; go_simp)) ?_
        (try simp only [zP, zN, zA, zB, zC])
        refine pu_ (v := .int .i64 md) (y_assign rfl (by rfl) (by rfl)) ?_
        (try simp only [zP, zN, zA, zB, zC])
        refine nl_ (hK97 _ _ ?_); clear hK97 K97
        refine s_ (fun K98 hK98 => ?_)
        refine pu_ (v := .int .i64 md) (y_move rfl (by rfl) (by rfl)) ?_
        (try simp only [zP, zN, zA, zB, zC])
        refine pu_ (v := .int .i64 m0) (y_move rfl (by rfl) (by rfl)) ?_
        (try simp only [zP, zN, zA, zB, zC])
        refine pu_ (v := .int .i64 np) (y_run (by rfl) (fun W => by have d := Wnp.out; go_simp)) ?_
        (try simp only [zP, zN, zA, zB, zC])
        refine pu_ (v := .int .i64 np) (y_assign rfl (by rfl) (by rfl)) ?_
        (try simp only [zP, zN, zA, zB, zC])
        refine nl_ (hK98 _ _ ?_); clear hK98 K98
        refine s_ (fun K99 hK99 => ?_)
        refine pu_ (v := .int .i64 0) (y_assign rfl (by rfl) (by rfl)) ?_
        (try simp only [zP, zN, zA, zB, zC])
        refine pu_ (v := .int .i64 0) (y_assign rfl (by rfl) (by rfl)) ?_
        (try simp only [zP, zN, zA, zB, zC])
        refine nl_ (hK99 _ _ ?_); clear hK99 K99
        refine cutk_ (fun (a' : Act) (w' : World) => ∃ (st0 : Nat), ∃ (r0 : Nat), ∃ (us : Nat → Value), a' = ⟨#[.slice (some ⟨gx, 0, none⟩) n cx, .int .i64 a0, .int .i64 m0, .int .i64 b0, .func (.func 54) #[] #[.pointer (some ⟨bx, 0, none⟩)], us 5, us 6, us 7, us 8, us 9, us 10, us 11, us 12, us 13, us 14, us 15, us 16, us 17, .int .i64 md, .int .i64 np, .int .i64 st0, .int .i64 r0, us 22, us 23, us 24, us 25, us 26, us 27, us 28, us 29, us 30, us 31, us 32, us 33, us 34, us 35, us 36, us 37, us 38, us 39, us 40, us 41, us 42, us 43, us 44, us 45, us 46, us 47, us 48, us 49, us 50, us 51, us 52, us 53, us 54, us 55, us 56, us 57, us 58, us 59, us 60, us 61, us 62, us 63, us 64, us 65, us 66, us 67, us 68, us 69, us 70, us 71, us 72, us 73, us 74, us 75, us 76, us 77, us 78, us 79, us 80, us 81, us 82, us 83, us 84, us 85, us 86, us 87, us 88, us 89, us 90, us 91, us 92, us 93, us 94, us 95, us 96, us 97, us 98, us 99, us 100, us 101, us 102, us 103, us 104, us 105, us 106, us 107, us 108, us 109, us 110, us 111, us 112, us 113, us 114, us 115, us 116, us 117, us 118, us 119, us 120, us 121, us 122, us 123, us 124, us 125, us 126, us 127, us 128, us 129, us 130, us 131, us 132, us 133, us 134, us 135, us 136, us 137, us 138, us 139, us 140, us 141, us 142, us 143, us 144, us 145, us 146, us 147, us 148, us 149, us 150, us 151, us 152, us 153, us 154, us 155, us 156, us 157, us 158, us 159, us 160, us 161, us 162, us 163, us 164, us 165, us 166, us 167, us 168, us 169, us 170, us 171, us 172, us 173, us 174, us 175, us 176, us 177, us 178, us 179, us 180, us 181, us 182, us 183, us 184, us 185, us 186, us 187, us 188, us 189, us 190, us 191, us 192, us 193, us 194, us 195, us 196, us 197, us 198, us 199, us 200, us 201, us 202, us 203, us 204, us 205, us 206, us 207, us 208, us 209, us 210, us 211, us 212, us 213, us 214, us 215, us 216, us 217, us 218, us 219], []⟩ ∧ Hid (Ch (rl (.slice (some ⟨gx, 0, none⟩) n cx)) w w') ∧ Hid (Blk w' bx (#[.slice (some a) L.length c]) 45) ∧ Hid (SrcIs w' (.slice (some a) L.length c) (L.length) ((L).flatMap opC) 28) ∧ Hid (OwnS w' base 3 1 (.slice (some ⟨gx, 0, none⟩) n cx) (n) ((U ++ (A ++ (B ++ T))).map vi)) ∧ Hid ((st0 = a0 ∧ r0 = m0 ∧ m0 ≤ md) ∨ (st0 + b0 = np ∧ r0 = md ∧ md < m0))) (fun K100 hK100 => ?_) ?_
        · rcases Nat.lt_or_ge md m0 with h | h
          · have hmm := Lib.hid h
            clear h
            have D140 := Lib.hid (show md < m0 from hmm.out)
            obtain ⟨st1, hst1⟩ : ∃ x, x = np - b0 := ⟨_, rfl⟩
            have Est1 := Lib.hid hst1; clear hst1
            have Wst1 := Lib.hid (show IntKind.i64.wrap ((np : Int) - (b0 : Int)) = (st1 : Int) by rw [wr64 (by have := Est1.out; have := HM.out; have := HN.out; have h8 := HLN.out; simp only [List.length_append] at h8; have := Emd.out; have := Enp.out; have := hmm.out; omega)]; have := Est1.out; have := HM.out; have := HN.out; have h8 := HLN.out; simp only [List.length_append] at h8; have := Emd.out; have := Enp.out; have := hmm.out; omega)
            refine s_ (fun K102 hK102 => ?_)
            refine pu_ (v := .int .i64 m0) (y_move rfl (by rfl) (by rfl)) ?_
            (try simp only [zP, zN, zA, zB, zC])
            refine pu_ (v := .int .i64 md) (y_move rfl (by rfl) (by rfl)) ?_
            (try simp only [zP, zN, zA, zB, zC])
            refine pu_ (v := .bool true) (y_run (by rfl) (fun W => by have d := D140.out; go_simp)) ?_
            (try simp only [zP, zN, zA, zB, zC])
            refine nl_ (hK102 _ _ ?_); clear hK102 K102
            refine wp_cond_true rfl ?_
            refine s_ (fun K103 hK103 => ?_)
            refine pu_ (v := .int .i64 np) (y_move rfl (by rfl) (by rfl)) ?_
            (try simp only [zP, zN, zA, zB, zC])
            refine pu_ (v := .int .i64 b0) (y_move rfl (by rfl) (by rfl)) ?_
            (try simp only [zP, zN, zA, zB, zC])
            refine pu_ (v := .int .i64 st1) (y_run (by rfl) (fun W => by have d := Wst1.out; go_simp)) ?_
            (try simp only [zP, zN, zA, zB, zC])
            refine pu_ (v := .int .i64 st1) (y_assign rfl (by rfl) (by rfl)) ?_
            (try simp only [zP, zN, zA, zB, zC])
            refine nl_ (hK103 _ _ ?_); clear hK103 K103
            refine r_ ?_
            refine pu_ (v := .int .i64 md) (y_move rfl (by rfl) (by rfl)) ?_
            (try simp only [zP, zN, zA, zB, zC])
            refine pu_ (v := .int .i64 md) (y_assign rfl (by rfl) (by rfl)) ?_
            (try simp only [zP, zN, zA, zB, zC])
            refine nl_ ?_
            exact th_norm (hK100 _ _ ⟨st1, md, fun us_ => (#[.slice (some ⟨gx, 0, none⟩) n cx, .int .i64 a0, .int .i64 m0, .int .i64 b0, .func (.func 54) #[] #[.pointer (some ⟨bx, 0, none⟩)], undef, undef, undef, undef, undef, undef, undef, undef, undef, undef, undef, undef, undef, .int .i64 md, .int .i64 np, .int .i64 st1, .int .i64 md, undef, undef, undef, .int .i64 m0, .int .i64 a0, .int .i64 ml, .bool false, undef, undef, undef, undef, undef, undef, undef, undef, undef, undef, undef, undef, undef, undef, undef, undef, undef, undef, undef, undef, undef, undef, undef, undef, undef, undef, undef, undef, undef, undef, undef, undef, undef, undef, undef, undef, undef, undef, undef, undef, undef, undef, undef, undef, undef, undef, undef, undef, .int .i64 b0, .int .i64 m0, .int .i64 bl, .bool false, undef, undef, undef, undef, undef, undef, undef, undef, undef, undef, undef, undef, undef, undef, undef, undef, undef, undef, undef, undef, undef, undef, undef, undef, undef, undef, undef, undef, undef, undef, undef, undef, undef, undef, undef, undef, undef, undef, undef, undef, undef, undef, undef, undef, undef, undef, undef, undef, .int .i64 a0, .int .i64 b0, .int .i64 mds, .int .u64 mds, .int .u64 md, .int .i64 md, .int .i64 md, .int .i64 m0, .int .i64 np, .int .i64 m0, .int .i64 md, .bool true, .int .i64 np, .int .i64 b0, .int .i64 st1, .int .i64 md, undef, undef, undef, undef, undef, undef, undef, undef, undef, undef, undef, undef, undef, undef, undef, undef, undef, undef, undef, undef, undef, undef, undef, undef, undef, undef, undef, undef, undef, undef, undef, undef, undef, undef, undef, undef, undef, undef, undef, undef, undef, undef, undef, undef, undef, undef, undef, undef, undef, undef, undef, undef, undef, undef, undef, undef, undef, undef, undef, undef, undef, undef, undef, undef, undef, undef, undef, undef, undef, undef, undef, undef, undef, undef, undef] : Array Value).getD us_ undef, rfl, C0, FX, SL, OX, Lib.hid (by have := Est1.out; have := hmm.out; have := HM.out; have := HN.out; have h8 := HLN.out; simp only [List.length_append] at h8; have := Emd.out; have := Enp.out; omega)⟩)
          · have hmm := Lib.hid h
            clear h
            have D140 := Lib.hid (show m0 ≤ md from hmm.out)
            refine s_ (fun K104 hK104 => ?_)
            refine pu_ (v := .int .i64 m0) (y_move rfl (by rfl) (by rfl)) ?_
            (try simp only [zP, zN, zA, zB, zC])
            refine pu_ (v := .int .i64 md) (y_move rfl (by rfl) (by rfl)) ?_
            (try simp only [zP, zN, zA, zB, zC])
            refine pu_ (v := .bool false) (y_run (by rfl) (fun W => by have d := D140.out; go_simp)) ?_
            (try simp only [zP, zN, zA, zB, zC])
            refine nl_ (hK104 _ _ ?_); clear hK104 K104
            refine wp_cond_false rfl ?_
            refine s_ (fun K105 hK105 => ?_)
            refine pu_ (v := .int .i64 a0) (y_move rfl (by rfl) (by rfl)) ?_
            (try simp only [zP, zN, zA, zB, zC])
            refine pu_ (v := .int .i64 a0) (y_assign rfl (by rfl) (by rfl)) ?_
            (try simp only [zP, zN, zA, zB, zC])
            refine nl_ (hK105 _ _ ?_); clear hK105 K105
            refine r_ ?_
            refine pu_ (v := .int .i64 m0) (y_move rfl (by rfl) (by rfl)) ?_
            (try simp only [zP, zN, zA, zB, zC])
            refine pu_ (v := .int .i64 m0) (y_assign rfl (by rfl) (by rfl)) ?_
            (try simp only [zP, zN, zA, zB, zC])
            refine nl_ ?_
            exact th_norm (hK100 _ _ ⟨a0, m0, fun us_ => (#[.slice (some ⟨gx, 0, none⟩) n cx, .int .i64 a0, .int .i64 m0, .int .i64 b0, .func (.func 54) #[] #[.pointer (some ⟨bx, 0, none⟩)], undef, undef, undef, undef, undef, undef, undef, undef, undef, undef, undef, undef, undef, .int .i64 md, .int .i64 np, .int .i64 a0, .int .i64 m0, undef, undef, undef, .int .i64 m0, .int .i64 a0, .int .i64 ml, .bool false, undef, undef, undef, undef, undef, undef, undef, undef, undef, undef, undef, undef, undef, undef, undef, undef, undef, undef, undef, undef, undef, undef, undef, undef, undef, undef, undef, undef, undef, undef, undef, undef, undef, undef, undef, undef, undef, undef, undef, undef, undef, undef, undef, undef, undef, undef, undef, undef, .int .i64 b0, .int .i64 m0, .int .i64 bl, .bool false, undef, undef, undef, undef, undef, undef, undef, undef, undef, undef, undef, undef, undef, undef, undef, undef, undef, undef, undef, undef, undef, undef, undef, undef, undef, undef, undef, undef, undef, undef, undef, undef, undef, undef, undef, undef, undef, undef, undef, undef, undef, undef, undef, undef, undef, undef, undef, undef, .int .i64 a0, .int .i64 b0, .int .i64 mds, .int .u64 mds, .int .u64 md, .int .i64 md, .int .i64 md, .int .i64 m0, .int .i64 np, .int .i64 m0, .int .i64 md, .bool false, undef, undef, undef, undef, .int .i64 a0, .int .i64 m0, undef, undef, undef, undef, undef, undef, undef, undef, undef, undef, undef, undef, undef, undef, undef, undef, undef, undef, undef, undef, undef, undef, undef, undef, undef, undef, undef, undef, undef, undef, undef, undef, undef, undef, undef, undef, undef, undef, undef, undef, undef, undef, undef, undef, undef, undef, undef, undef, undef, undef, undef, undef, undef, undef, undef, undef, undef, undef, undef, undef, undef, undef, undef, undef, undef, undef, undef, undef, undef, undef, undef, undef, undef] : Array Value).getD us_ undef, rfl, C0, FX, SL, OX, Lib.hid (by have := hmm.out; omega)⟩)
        rintro _ w101 ⟨st0, r0, us, rfl, C0, FX, SL, OX, HSR⟩
        skip
        · obtain ⟨pp, hpp⟩ : ∃ x, x = np - 1 := ⟨_, rfl⟩
          have Epp := Lib.hid hpp; clear hpp
          have Wpp := Lib.hid (show IntKind.i64.wrap ((np : Int) - 1) = (pp : Int) by rw [wr64 (by have := Epp.out; have := HM.out; have := HN.out; have h8 := HLN.out; simp only [List.length_append] at h8; have := Emd.out; have := Enp.out; omega)]; have := Epp.out; have := HM.out; have := HN.out; have h8 := HLN.out; simp only [List.length_append] at h8; have := Emd.out; have := Enp.out; omega)
          refine s_ (fun K106 hK106 => ?_)
          refine pu_ (v := .int .i64 np) (y_move rfl (by rfl) (by rfl)) ?_
          (try simp only [zP, zN, zA, zB, zC])
          refine pu_ (v := .int .i64 pp) (y_run (by rfl) (fun W => by have d := Wpp.out; go_simp)) ?_
          (try simp only [zP, zN, zA, zB, zC])
          refine pu_ (v := .int .i64 pp) (y_assign rfl (by rfl) (by rfl)) ?_
          (try simp only [zP, zN, zA, zB, zC])
          refine nl_ (hK106 _ _ ?_); clear hK106 K106
          refine sq_ (fun K107 hK107 => ?_)
          refine wp_block ?_
          obtain ⟨lo, hi, hlo, hhi, hl1, hl2, hlh⟩ : ∃ lo hi, (lo = 0 ∨ lo + B.length = md - a0) ∧ (hi = A.length ∨ hi = md - a0) ∧ lo = st0 - a0 ∧ hi = r0 - a0 ∧ lo ≤ hi ∧ hi ≤ A.length ∧ hi ≤ md - a0 ∧ md - a0 ≤ lo + B.length := ⟨st0 - a0, r0 - a0, by have := HM.out; have := HN.out; have h8 := HLN.out; simp only [List.length_append] at h8; have := Emd.out; have := Enp.out; have := HSR.out; have := HMD.out; omega, by have := HM.out; have := HN.out; have h8 := HLN.out; simp only [List.length_append] at h8; have := Emd.out; have := Enp.out; have := HSR.out; have := HMD.out; omega, rfl, rfl, by have := HM.out; have := HN.out; have h8 := HLN.out; simp only [List.length_append] at h8; have := Emd.out; have := Enp.out; have := HSR.out; have := HMD.out; omega⟩
          have HLO1 := Lib.hid hlo; have HHI := Lib.hid hhi; have HLH := Lib.hid hlh; have HL2 := Lib.hid (And.intro hl1 hl2); clear hlo hhi hlh hl1 hl2
          refine loopk_ (fun (kq : Nat) (a' : Act) (w' : World) => ∃ (i : Nat), ∃ (j : Nat), ∃ (us : Nat → Value), a' = ⟨#[.slice (some ⟨gx, 0, none⟩) n cx, .int .i64 a0, .int .i64 m0, .int .i64 b0, .func (.func 54) #[] #[.pointer (some ⟨bx, 0, none⟩)], us 5, us 6, us 7, us 8, us 9, us 10, us 11, us 12, us 13, us 14, us 15, us 16, us 17, .int .i64 md, .int .i64 np, .int .i64 i, .int .i64 j, .int .i64 pp, us 23, us 24, us 25, us 26, us 27, us 28, us 29, us 30, us 31, us 32, us 33, us 34, us 35, us 36, us 37, us 38, us 39, us 40, us 41, us 42, us 43, us 44, us 45, us 46, us 47, us 48, us 49, us 50, us 51, us 52, us 53, us 54, us 55, us 56, us 57, us 58, us 59, us 60, us 61, us 62, us 63, us 64, us 65, us 66, us 67, us 68, us 69, us 70, us 71, us 72, us 73, us 74, us 75, us 76, us 77, us 78, us 79, us 80, us 81, us 82, us 83, us 84, us 85, us 86, us 87, us 88, us 89, us 90, us 91, us 92, us 93, us 94, us 95, us 96, us 97, us 98, us 99, us 100, us 101, us 102, us 103, us 104, us 105, us 106, us 107, us 108, us 109, us 110, us 111, us 112, us 113, us 114, us 115, us 116, us 117, us 118, us 119, us 120, us 121, us 122, us 123, us 124, us 125, us 126, us 127, us 128, us 129, us 130, us 131, us 132, us 133, us 134, us 135, us 136, us 137, us 138, us 139, us 140, us 141, us 142, us 143, us 144, us 145, us 146, us 147, us 148, us 149, us 150, us 151, us 152, us 153, us 154, us 155, us 156, us 157, us 158, us 159, us 160, us 161, us 162, us 163, us 164, us 165, us 166, us 167, us 168, us 169, us 170, us 171, us 172, us 173, us 174, us 175, us 176, us 177, us 178, us 179, us 180, us 181, us 182, us 183, us 184, us 185, us 186, us 187, us 188, us 189, us 190, us 191, us 192, us 193, us 194, us 195, us 196, us 197, us 198, us 199, us 200, us 201, us 202, us 203, us 204, us 205, us 206, us 207, us 208, us 209, us 210, us 211, us 212, us 213, us 214, us 215, us 216, us 217, us 218, us 219], []⟩ ∧ Hid (Ch (rl (.slice (some ⟨gx, 0, none⟩) n cx)) w w') ∧ Hid (Blk w' bx (#[.slice (some a) L.length c]) 45) ∧ Hid (SrcIs w' (.slice (some a) L.length c) (L.length) ((L).flatMap opC) 28) ∧ Hid (OwnS w' base 3 1 (.slice (some ⟨gx, 0, none⟩) n cx) (n) ((U ++ (A ++ (B ++ T))).map vi)) ∧ Hid (bsM L A B (md - a0) lo (i - a0) (j - a0) hi ∧ a0 ≤ i ∧ i ≤ j ∧ kq = j - i)) (r0 - st0) (⟨st0, r0, fun us_ => (#[.slice (some ⟨gx, 0, none⟩) n cx, .int .i64 a0, .int .i64 m0, .int .i64 b0, .func (.func 54) #[] #[.pointer (some ⟨bx, 0, none⟩)], us 5, us 6, us 7, us 8, us 9, us 10, us 11, us 12, us 13, us 14, us 15, us 16, us 17, .int .i64 md, .int .i64 np, .int .i64 st0, .int .i64 r0, .int .i64 pp, us 23, us 24, us 25, us 26, us 27, us 28, us 29, us 30, us 31, us 32, us 33, us 34, us 35, us 36, us 37, us 38, us 39, us 40, us 41, us 42, us 43, us 44, us 45, us 46, us 47, us 48, us 49, us 50, us 51, us 52, us 53, us 54, us 55, us 56, us 57, us 58, us 59, us 60, us 61, us 62, us 63, us 64, us 65, us 66, us 67, us 68, us 69, us 70, us 71, us 72, us 73, us 74, us 75, us 76, us 77, us 78, us 79, us 80, us 81, us 82, us 83, us 84, us 85, us 86, us 87, us 88, us 89, us 90, us 91, us 92, us 93, us 94, us 95, us 96, us 97, us 98, us 99, us 100, us 101, us 102, us 103, us 104, us 105, us 106, us 107, us 108, us 109, us 110, us 111, us 112, us 113, us 114, us 115, us 116, us 117, us 118, us 119, us 120, us 121, us 122, us 123, us 124, us 125, us 126, us 127, us 128, us 129, us 130, us 131, us 132, us 133, us 134, us 135, us 136, us 137, us 138, us 139, us 140, us 141, us 142, us 143, us 144, us 145, us 146, .int .i64 np, .int .i64 pp, us 149, us 150, us 151, us 152, us 153, us 154, us 155, us 156, us 157, us 158, us 159, us 160, us 161, us 162, us 163, us 164, us 165, us 166, us 167, us 168, us 169, us 170, us 171, us 172, us 173, us 174, us 175, us 176, us 177, us 178, us 179, us 180, us 181, us 182, us 183, us 184, us 185, us 186, us 187, us 188, us 189, us 190, us 191, us 192, us 193, us 194, us 195, us 196, us 197, us 198, us 199, us 200, us 201, us 202, us 203, us 204, us 205, us 206, us 207, us 208, us 209, us 210, us 211, us 212, us 213, us 214, us 215, us 216, us 217, us 218, us 219] : Array Value).getD us_ undef, rfl, C0, FX, SL, OX, Lib.hid ⟨by rw [← HL2.out.1, ← HL2.out.2]; exact bsM_start L A B HLH.out.1, by have := HM.out; have := HN.out; have h8 := HLN.out; simp only [List.length_append] at h8; have := Emd.out; have := Enp.out; have := HSR.out; have := HMD.out; omega, by have := HM.out; have := HN.out; have h8 := HLN.out; simp only [List.length_append] at h8; have := Emd.out; have := Enp.out; have := HSR.out; have := HMD.out; omega, rfl⟩⟩) ?_
          rintro kq _ w108 ⟨i, j, us, rfl, C0, FX, SL, OX, hb⟩ K109 hK109
          refine sq_ (fun K110 hK110 => ?_)
          rcases find_ways (fun h => ¬ kd L (B.getD (md - a0 - 1 - (h - a0)) 0) < kd L (A.getD (h - a0) 0)) i j with ⟨h1, h2⟩ | ⟨h1, h2⟩ | h
          · have hij := Lib.hid h1
            have hcm := Lib.hid h2
            clear h1 h2
            have D151 := Lib.hid (show i < j from hij.out)
            have hbo := Lib.hid hb.out.1.ord
            obtain ⟨hs, hhs⟩ : ∃ x, x = i + j := ⟨_, rfl⟩
            have Ehs := Lib.hid hhs; clear hhs
            have Whs := Lib.hid (show IntKind.i64.wrap ((i : Int) + (j : Int)) = (hs : Int) by rw [wr64 (by have := Ehs.out; have := HM.out; have := HN.out; have h8 := HLN.out; simp only [List.length_append] at h8; have := Emd.out; have := Enp.out; have := hb.out.2; have := hij.out; have := hbo.out; have := HLH.out; omega)]; have := Ehs.out; have := HM.out; have := HN.out; have h8 := HLN.out; simp only [List.length_append] at h8; have := Emd.out; have := Enp.out; have := hb.out.2; have := hij.out; have := hbo.out; have := HLH.out; omega)
            have Uh := Lib.hid (show IntKind.u64.wrap (hs : Int) = (hs : Int) from wu64 (by have := Ehs.out; have := HM.out; have := HN.out; have h8 := HLN.out; simp only [List.length_append] at h8; have := Emd.out; have := Enp.out; have := hb.out.2; have := hij.out; have := hbo.out; have := HLH.out; omega))
            obtain ⟨h, hh⟩ : ∃ x, x = hs / 2 := ⟨_, rfl⟩
            have Eh := Lib.hid (show h = (i + j) / 2 by rw [hh, Ehs.out])
            have Vh := Lib.hid (show (hs : Int) / 2 = (h : Int) by omega)
            have Zh := Lib.hid (show IntKind.i64.wrap (h : Int) = (h : Int) from wr64 (by have := Eh.out; have := HM.out; have := HN.out; have h8 := HLN.out; simp only [List.length_append] at h8; have := Emd.out; have := Enp.out; have := hb.out.2; have := hij.out; have := hbo.out; have := HLH.out; omega)); clear hh
            obtain ⟨pc, hpc⟩ : ∃ x, x = pp - h := ⟨_, rfl⟩
            have Epc := Lib.hid hpc; clear hpc
            have Wpc := Lib.hid (show IntKind.i64.wrap ((pp : Int) - (h : Int)) = (pc : Int) by rw [wr64 (by have := Epc.out; have := HM.out; have := HN.out; have h8 := HLN.out; simp only [List.length_append] at h8; have := Emd.out; have := Enp.out; have := hb.out.2; have := hij.out; have := hbo.out; have := HLH.out; have := Eh.out; have := Epp.out; omega)]; have := Epc.out; have := HM.out; have := HN.out; have h8 := HLN.out; simp only [List.length_append] at h8; have := Emd.out; have := Enp.out; have := hb.out.2; have := hij.out; have := hbo.out; have := HLH.out; have := Eh.out; have := Epp.out; omega)
            have Bpc := Lib.hid (show (pc : Int) < (n : Int) by have := Epc.out; have := HM.out; have := HN.out; have h8 := HLN.out; simp only [List.length_append] at h8; have := Emd.out; have := Enp.out; have := hb.out.2; have := hij.out; have := hbo.out; have := HLH.out; have := Eh.out; have := Epp.out; omega)
            have Bh := Lib.hid (show (h : Int) < (n : Int) by have := Eh.out; have := HM.out; have := HN.out; have h8 := HLN.out; simp only [List.length_append] at h8; have := Emd.out; have := Enp.out; have := hb.out.2; have := hij.out; have := hbo.out; have := HLH.out; omega)
            obtain ⟨x, hx0, hxA0⟩ : ∃ x, A[h - a0]? = some x ∧ x ∈ A := ⟨_, List.getElem?_eq_getElem (by have := HM.out; have := HN.out; have h8 := HLN.out; simp only [List.length_append] at h8; have := Emd.out; have := Enp.out; have := hb.out.2; have := hij.out; have := hbo.out; have := HLH.out; have := Eh.out; have := Epp.out; omega), List.getElem_mem _⟩
            obtain ⟨y, hy0, hyB0⟩ : ∃ y, B[md - a0 - 1 - (h - a0)]? = some y ∧ y ∈ B := ⟨_, List.getElem?_eq_getElem (by have := HM.out; have := HN.out; have h8 := HLN.out; simp only [List.length_append] at h8; have := Emd.out; have := Enp.out; have := hb.out.2; have := hij.out; have := hbo.out; have := HLH.out; have := Eh.out; have := Epp.out; omega), List.getElem_mem _⟩
            have hx := Lib.hid hx0; have hxA := Lib.hid hxA0; have hy := Lib.hid hy0; have hyB := Lib.hid hyB0; clear hx0 hxA0 hy0 hyB0
            have hcy := Lib.hid (show ¬ kd L y < kd L x from (by have h9 := hcm.out; rw [show (i + j) / 2 = h by rw [Eh.out]] at h9; rw [List.getD_eq_getElem?_getD, List.getD_eq_getElem?_getD, hx.out, hy.out] at h9; exact h9))
            have D170 := Lib.hid (show decide (cmpI (kd L y) (kd L x) < 0) = false from cmp_ge hcy.out)
            obtain ⟨i2, hi2⟩ : ∃ x, x = h + 1 := ⟨_, rfl⟩
            have Ei2 := Lib.hid hi2; clear hi2
            have Wi2 := Lib.hid (show IntKind.i64.wrap ((h : Int) + 1) = (i2 : Int) by rw [wr64 (by have := Ei2.out; have := HM.out; have := HN.out; have h8 := HLN.out; simp only [List.length_append] at h8; have := Emd.out; have := Enp.out; have := hb.out.2; have := hij.out; have := hbo.out; have := HLH.out; have := Eh.out; have := Epp.out; omega)]; have := Ei2.out; have := HM.out; have := HN.out; have h8 := HLN.out; simp only [List.length_append] at h8; have := Emd.out; have := Enp.out; have := hb.out.2; have := hij.out; have := hbo.out; have := HLH.out; have := Eh.out; have := Epp.out; omega)
            refine s_ (fun K111 hK111 => ?_)
            refine pu_ (v := .int .i64 i) (y_move rfl (by rfl) (by rfl)) ?_
            (try simp only [zP, zN, zA, zB, zC])
            refine pu_ (v := .int .i64 j) (y_move rfl (by rfl) (by rfl)) ?_
            (try simp only [zP, zN, zA, zB, zC])
            refine pu_ (v := .bool true) (y_run (by rfl) (fun W => by have d := D151.out; go_simp)) ?_
            (try simp only [zP, zN, zA, zB, zC])
            refine nl_ (hK111 _ _ ?_); clear hK111 K111
            refine wp_cond_true rfl ?_
            refine wp_skip ?_
            refine th_norm (hK110 _ _ ?_); try clear hK110 K110
            refine wp_block ?_
            refine s_ (fun K112 hK112 => ?_)
            refine pu_ (v := .int .i64 i) (y_move rfl (by rfl) (by rfl)) ?_
            (try simp only [zP, zN, zA, zB, zC])
            refine pu_ (v := .int .i64 j) (y_move rfl (by rfl) (by rfl)) ?_
            (try simp only [zP, zN, zA, zB, zC])
            refine pu_ (v := .int .i64 hs) (y_run (by rfl) (fun W => by have d := Whs.out; go_simp)) ?_
            (try simp only [zP, zN, zA, zB, zC])
            refine pu_ (v := .int .u64 hs) (y_run (by rfl) (fun W => by have d := Uh.out; go_simp)) ?_
            (try simp only [zP, zN, zA, zB, zC])
            refine pu_ (v := .int .u64 h) (y_run (by rfl) (fun W => by have d := Vh.out; go_simp)) ?_
            (try simp only [zP, zN, zA, zB, zC])
            refine pu_ (v := .int .i64 h) (y_run (by rfl) (fun W => by have d := Zh.out; go_simp)) ?_
            (try simp only [zP, zN, zA, zB, zC])
            refine pu_ (v := .int .i64 h) (y_assign rfl (by rfl) (by rfl)) ?_
            (try simp only [zP, zN, zA, zB, zC])
            refine nl_ (hK112 _ _ ?_); clear hK112 K112
            refine sq_ (fun K113 hK113 => ?_)
            refine startk_ (S := fun W => OwnS W base 3 1 (.slice (some ⟨gx, 0, none⟩) n cx) (n) ((U ++ (A ++ (B ++ T))).map vi) ∧ True) (ds := []) #[false, false, false, false, false, false, false, false, false, false, false, false, false, false] (by kernel_rfl) rfl rfl (fun W c => ⟨OX.out.ch c rnin_nil, trivial⟩) (fun w114 C115 hS116 => ?_)
            have C0' := Lib.hid (show Ch (rl (.slice (some ⟨gx, 0, none⟩) n cx)) w w114 from C0.out.trans' C115 (fun x hx => absurd hx (by simp)))
            have FX' := Lib.hid (show Blk w114 bx (#[.slice (some a) L.length c]) 45 from C115.blk FX.out nin_nil)
            have SL' := Lib.hid (show SrcIs w114 (.slice (some a) L.length c) (L.length) ((L).flatMap opC) 28 from SL.out.chx C115 xnin_nil)
            have OX' := Lib.hid (show OwnS w114 base 3 1 (.slice (some ⟨gx, 0, none⟩) n cx) (n) ((U ++ (A ++ (B ++ T))).map vi) from OX.out.ch C115 rnin_nil)
            clear C0 FX SL OX
            have C0 := C0'; clear C0'
            have FX := FX'; clear FX'
            have SL := SL'; clear SL'
            have OX := OX'; clear OX'
            clear C115
            refine pure_ (i := 0) (N := some 158) (v := .func (.func 54) #[] #[.pointer (some ⟨bx, 0, none⟩)]) #[true, false, false, false, false, false, false, false, false, false, false, false, false, false] rfl rfl (by kernel_rfl) (fun c a w h => hP c a _ _ w h) (y_move rfl (by rfl) (by rfl)) rfl ?_
            (try simp only [zP, zN, zA, zB, zC])
            refine pure_ (i := 1) (N := some 159) (v := .slice (some ⟨gx, 0, none⟩) n cx) #[true, true, false, false, false, false, false, false, false, false, false, false, false, false] rfl rfl (by kernel_rfl) (fun c a w h => hP c a _ _ w h) (y_move rfl (by rfl) (by rfl)) rfl ?_
            (try simp only [zP, zN, zA, zB, zC])
            refine pure_ (i := 2) (N := some 160) (v := .int .i64 pp) #[true, true, true, false, false, false, false, false, false, false, false, false, false, false] rfl rfl (by kernel_rfl) (fun c a w h => hP c a _ _ w h) (y_move rfl (by rfl) (by rfl)) rfl ?_
            (try simp only [zP, zN, zA, zB, zC])
            refine pure_ (i := 3) (N := some 161) (v := .int .i64 h) #[true, true, true, true, false, false, false, false, false, false, false, false, false, false] rfl rfl (by kernel_rfl) (fun c a w h => hP c a _ _ w h) (y_move rfl (by rfl) (by rfl)) rfl ?_
            (try simp only [zP, zN, zA, zB, zC])
            refine pure_ (i := 4) (N := some 162) (v := .int .i64 pc) #[true, true, true, true, true, false, false, false, false, false, false, false, false, false] rfl rfl (by kernel_rfl) (fun c a w h => hP c a _ _ w h) (y_run (by rfl) (fun W => by have d := Wpc.out; go_simp)) rfl ?_
            (try simp only [zP, zN, zA, zB, zC])
            refine pure_ (i := 5) (N := some 163) (v := .pointer (some ⟨gx, pc, none⟩)) #[true, true, true, true, true, true, false, false, false, false, false, false, false, false] rfl rfl (by kernel_rfl) (fun c a w h => hP c a _ _ w h) (y_run (by rfl) (fun W => by have d := Bpc.out; go_simp)) rfl ?_
            (try simp only [zP, zN, zA, zB, zC])
            refine take_ (i := 6) (N := some 164) (v := .int .i64 y) #[true, true, true, true, true, true, true, false, false, false, false, false, false, false] rfl rfl (by kernel_rfl) (fun c a w h => hP c a _ _ w h) (y_load (p := ⟨gx, pc, none⟩) rfl (by rfl) (by rfl) (fun W hS => run_load_one (own_cell hS.1 (row_part2 hy.out (by have := Epc.out; have := HM.out; have := HN.out; have h8 := HLN.out; simp only [List.length_append] at h8; have := Emd.out; have := Enp.out; have := hb.out.2; have := hij.out; have := hbo.out; have := HLH.out; have := Eh.out; have := Epp.out; omega))) Try.underlying3 rfl)) hS116 rfl ?_
            (try simp only [zP, zN, zA, zB, zC])
            refine pure_ (i := 7) (N := some 165) (v := .slice (some ⟨gx, 0, none⟩) n cx) #[true, true, true, true, true, true, true, true, false, false, false, false, false, false] rfl rfl (by kernel_rfl) (fun c a w h => hP c a _ _ w h) (y_move rfl (by rfl) (by rfl)) rfl ?_
            (try simp only [zP, zN, zA, zB, zC])
            refine pure_ (i := 8) (N := some 166) (v := .int .i64 h) #[true, true, true, true, true, true, true, true, true, false, false, false, false, false] rfl rfl (by kernel_rfl) (fun c a w h => hP c a _ _ w h) (y_move rfl (by rfl) (by rfl)) rfl ?_
            (try simp only [zP, zN, zA, zB, zC])
            refine pure_ (i := 9) (N := some 167) (v := .pointer (some ⟨gx, h, none⟩)) #[true, true, true, true, true, true, true, true, true, true, false, false, false, false] rfl rfl (by kernel_rfl) (fun c a w h => hP c a _ _ w h) (y_run (by rfl) (fun W => by have d := Bh.out; go_simp)) rfl ?_
            (try simp only [zP, zN, zA, zB, zC])
            refine take_ (i := 10) (N := some 168) (v := .int .i64 x) #[true, true, true, true, true, true, true, true, true, true, true, false, false, false] rfl rfl (by kernel_rfl) (fun c a w h => hP c a _ _ w h) (y_load (p := ⟨gx, h, none⟩) rfl (by rfl) (by rfl) (fun W hS => run_load_one (own_cell hS.1 (row_part1 hx.out (by have := HM.out; have := HN.out; have h8 := HLN.out; simp only [List.length_append] at h8; have := Emd.out; have := Enp.out; have := hb.out.2; have := hij.out; have := hbo.out; have := HLH.out; have := Eh.out; have := Epp.out; omega))) Try.underlying3 rfl)) hS116 rfl ?_
            (try simp only [zP, zN, zA, zB, zC])
            refine one_ (i := 11) (N := some 169) #[true, true, true, true, true, true, true, true, true, true, true, true, false, false] rfl rfl (by kernel_rfl) (by simp) (fun K117 hK117 => ?_)
            refine e_callf Try.func54 (by kernel_rfl) rfl #[.int .i64 y, .int .i64 x, .pointer (some ⟨bx, 0, none⟩)] (by rfl) rfl rfl (by rfl) (by first | rfl | simp [Act.eval]) ((cmp2_ (HIN.out y (by simp [hyB.out])) (HIN.out x (by simp [hxA.out])) FX SL)) ?_
            rintro en w118 ⟨rfl, cc⟩
            refine ⟨_, rfl, ?_⟩
            have C0' := Lib.hid (show Ch (rl (.slice (some ⟨gx, 0, none⟩) n cx)) w w118 from C0.out.trans' cc (fun x hx => absurd hx (by simp)))
            have FX' := Lib.hid (show Blk w118 bx (#[.slice (some a) L.length c]) 45 from cc.blk FX.out nin_nil)
            have SL' := Lib.hid (show SrcIs w118 (.slice (some a) L.length c) (L.length) ((L).flatMap opC) 28 from SL.out.chx cc xnin_nil)
            have OX' := Lib.hid (show OwnS w118 base 3 1 (.slice (some ⟨gx, 0, none⟩) n cx) (n) ((U ++ (A ++ (B ++ T))).map vi) from OX.out.ch cc rnin_nil)
            clear C0 FX SL OX
            have C0 := C0'; clear C0'
            have FX := FX'; clear FX'
            have SL := SL'; clear SL'
            have OX := OX'; clear OX'
            clear cc
            refine hK117.out _ _ ⟨OX.out, trivial⟩ (fun hS119 => ?_); clear hK117 K117
            (try simp only [zP, zN, zA, zB, zC])
            refine pure_ (i := 12) (N := some 170) (v := .bool false) #[true, true, true, true, true, true, true, true, true, true, true, true, true, false] rfl rfl (by kernel_rfl) (fun c a w h => hP c a _ _ w h) (y_run (by rfl) (fun W => by have d := D170.out; go_simp)) rfl ?_
            (try simp only [zP, zN, zA, zB, zC])
            refine pure_ (i := 13) (N := some 171) (v := .bool true) #[true, true, true, true, true, true, true, true, true, true, true, true, true, true] rfl rfl (by kernel_rfl) (fun c a w h => hP c a _ _ w h) (y_run (by rfl) (fun W => by go_simp)) rfl ?_
            (try simp only [zP, zN, zA, zB, zC])
            refine done_ (by kernel_rfl) (th_norm (hK113 _ _ ?_)); clear hK113 K113
            refine wp_cond_true rfl ?_
            refine r_ ?_
            refine pu_ (v := .int .i64 h) (y_move rfl (by rfl) (by rfl)) ?_
            (try simp only [zP, zN, zA, zB, zC])
            refine pu_ (v := .int .i64 i2) (y_run (by rfl) (fun W => by have d := Wi2.out; go_simp)) ?_
            (try simp only [zP, zN, zA, zB, zC])
            refine pu_ (v := .int .i64 i2) (y_assign rfl (by rfl) (by rfl)) ?_
            (try simp only [zP, zN, zA, zB, zC])
            refine nl_ ?_
            refine ib_norm ?_
            exact th_norm (hK109 (j - i2) _ _ (by have := Ei2.out; have := Eh.out; have := hij.out; have := hb.out.2; omega) ⟨i2, j, fun us_ => (#[.slice (some ⟨gx, 0, none⟩) n cx, .int .i64 a0, .int .i64 m0, .int .i64 b0, .func (.func 54) #[] #[.pointer (some ⟨bx, 0, none⟩)], us 5, us 6, us 7, us 8, us 9, us 10, us 11, us 12, us 13, us 14, us 15, us 16, us 17, .int .i64 md, .int .i64 np, .int .i64 i2, .int .i64 j, .int .i64 pp, .int .i64 h, us 24, us 25, us 26, us 27, us 28, us 29, us 30, us 31, us 32, us 33, us 34, us 35, us 36, us 37, us 38, us 39, us 40, us 41, us 42, us 43, us 44, us 45, us 46, us 47, us 48, us 49, us 50, us 51, us 52, us 53, us 54, us 55, us 56, us 57, us 58, us 59, us 60, us 61, us 62, us 63, us 64, us 65, us 66, us 67, us 68, us 69, us 70, us 71, us 72, us 73, us 74, us 75, us 76, us 77, us 78, us 79, us 80, us 81, us 82, us 83, us 84, us 85, us 86, us 87, us 88, us 89, us 90, us 91, us 92, us 93, us 94, us 95, us 96, us 97, us 98, us 99, us 100, us 101, us 102, us 103, us 104, us 105, us 106, us 107, us 108, us 109, us 110, us 111, us 112, us 113, us 114, us 115, us 116, us 117, us 118, us 119, us 120, us 121, us 122, us 123, us 124, us 125, us 126, us 127, us 128, us 129, us 130, us 131, us 132, us 133, us 134, us 135, us 136, us 137, us 138, us 139, us 140, us 141, us 142, us 143, us 144, us 145, us 146, us 147, us 148, .int .i64 i, .int .i64 j, .bool true, .int .i64 i, .int .i64 j, .int .i64 hs, .int .u64 hs, .int .u64 h, .int .i64 h, .func (.func 54) #[] #[.pointer (some ⟨bx, 0, none⟩)], .slice (some ⟨gx, 0, none⟩) n cx, .int .i64 pp, .int .i64 h, .int .i64 pc, .pointer (some ⟨gx, pc, none⟩), .int .i64 y, .slice (some ⟨gx, 0, none⟩) n cx, .int .i64 h, .pointer (some ⟨gx, h, none⟩), .int .i64 x, .int .i64 (cmpI (kd L y) (kd L x)), .bool false, .bool true, .int .i64 h, .int .i64 i2, us 174, us 175, us 176, us 177, us 178, us 179, us 180, us 181, us 182, us 183, us 184, us 185, us 186, us 187, us 188, us 189, us 190, us 191, us 192, us 193, us 194, us 195, us 196, us 197, us 198, us 199, us 200, us 201, us 202, us 203, us 204, us 205, us 206, us 207, us 208, us 209, us 210, us 211, us 212, us 213, us 214, us 215, us 216, us 217, us 218, us 219] : Array Value).getD us_ undef, rfl, C0, FX, SL, OX, Lib.hid ⟨by rw [show i2 - a0 = h - a0 + 1 by have := Ei2.out; have := Eh.out; have := hb.out.2; omega]; exact bsM_up HSA.out HSB.out hb.out.1 (by have := HM.out; have := HN.out; have h8 := HLN.out; simp only [List.length_append] at h8; have := Emd.out; have := Enp.out; have := hb.out.2; have := hij.out; have := hbo.out; have := HLH.out; have := Eh.out; have := Epp.out; omega) hx.out hy.out hcy.out (fun c1 g1 g2 => by have := HM.out; have := HN.out; have h8 := HLN.out; simp only [List.length_append] at h8; have := Emd.out; have := Enp.out; have := HLH.out; omega), by have := Ei2.out; have := Eh.out; have := hb.out.2; omega, by have := Ei2.out; have := Eh.out; have := hij.out; omega, rfl⟩⟩)
          · have hij := Lib.hid h1
            have hcm := Lib.hid h2
            clear h1 h2
            have D151 := Lib.hid (show i < j from hij.out)
            have hbo := Lib.hid hb.out.1.ord
            obtain ⟨hs, hhs⟩ : ∃ x, x = i + j := ⟨_, rfl⟩
            have Ehs := Lib.hid hhs; clear hhs
            have Whs := Lib.hid (show IntKind.i64.wrap ((i : Int) + (j : Int)) = (hs : Int) by rw [wr64 (by have := Ehs.out; have := HM.out; have := HN.out; have h8 := HLN.out; simp only [List.length_append] at h8; have := Emd.out; have := Enp.out; have := hb.out.2; have := hij.out; have := hbo.out; have := HLH.out; omega)]; have := Ehs.out; have := HM.out; have := HN.out; have h8 := HLN.out; simp only [List.length_append] at h8; have := Emd.out; have := Enp.out; have := hb.out.2; have := hij.out; have := hbo.out; have := HLH.out; omega)
            have Uh := Lib.hid (show IntKind.u64.wrap (hs : Int) = (hs : Int) from wu64 (by have := Ehs.out; have := HM.out; have := HN.out; have h8 := HLN.out; simp only [List.length_append] at h8; have := Emd.out; have := Enp.out; have := hb.out.2; have := hij.out; have := hbo.out; have := HLH.out; omega))
            obtain ⟨h, hh⟩ : ∃ x, x = hs / 2 := ⟨_, rfl⟩
            have Eh := Lib.hid (show h = (i + j) / 2 by rw [hh, Ehs.out])
            have Vh := Lib.hid (show (hs : Int) / 2 = (h : Int) by omega)
            have Zh := Lib.hid (show IntKind.i64.wrap (h : Int) = (h : Int) from wr64 (by have := Eh.out; have := HM.out; have := HN.out; have h8 := HLN.out; simp only [List.length_append] at h8; have := Emd.out; have := Enp.out; have := hb.out.2; have := hij.out; have := hbo.out; have := HLH.out; omega)); clear hh
            obtain ⟨pc, hpc⟩ : ∃ x, x = pp - h := ⟨_, rfl⟩
            have Epc := Lib.hid hpc; clear hpc
            have Wpc := Lib.hid (show IntKind.i64.wrap ((pp : Int) - (h : Int)) = (pc : Int) by rw [wr64 (by have := Epc.out; have := HM.out; have := HN.out; have h8 := HLN.out; simp only [List.length_append] at h8; have := Emd.out; have := Enp.out; have := hb.out.2; have := hij.out; have := hbo.out; have := HLH.out; have := Eh.out; have := Epp.out; omega)]; have := Epc.out; have := HM.out; have := HN.out; have h8 := HLN.out; simp only [List.length_append] at h8; have := Emd.out; have := Enp.out; have := hb.out.2; have := hij.out; have := hbo.out; have := HLH.out; have := Eh.out; have := Epp.out; omega)
            have Bpc := Lib.hid (show (pc : Int) < (n : Int) by have := Epc.out; have := HM.out; have := HN.out; have h8 := HLN.out; simp only [List.length_append] at h8; have := Emd.out; have := Enp.out; have := hb.out.2; have := hij.out; have := hbo.out; have := HLH.out; have := Eh.out; have := Epp.out; omega)
            have Bh := Lib.hid (show (h : Int) < (n : Int) by have := Eh.out; have := HM.out; have := HN.out; have h8 := HLN.out; simp only [List.length_append] at h8; have := Emd.out; have := Enp.out; have := hb.out.2; have := hij.out; have := hbo.out; have := HLH.out; omega)
            obtain ⟨x, hx0, hxA0⟩ : ∃ x, A[h - a0]? = some x ∧ x ∈ A := ⟨_, List.getElem?_eq_getElem (by have := HM.out; have := HN.out; have h8 := HLN.out; simp only [List.length_append] at h8; have := Emd.out; have := Enp.out; have := hb.out.2; have := hij.out; have := hbo.out; have := HLH.out; have := Eh.out; have := Epp.out; omega), List.getElem_mem _⟩
            obtain ⟨y, hy0, hyB0⟩ : ∃ y, B[md - a0 - 1 - (h - a0)]? = some y ∧ y ∈ B := ⟨_, List.getElem?_eq_getElem (by have := HM.out; have := HN.out; have h8 := HLN.out; simp only [List.length_append] at h8; have := Emd.out; have := Enp.out; have := hb.out.2; have := hij.out; have := hbo.out; have := HLH.out; have := Eh.out; have := Epp.out; omega), List.getElem_mem _⟩
            have hx := Lib.hid hx0; have hxA := Lib.hid hxA0; have hy := Lib.hid hy0; have hyB := Lib.hid hyB0; clear hx0 hxA0 hy0 hyB0
            have hcy := Lib.hid (show kd L y < kd L x from (by have h9 := hcm.out; rw [show (i + j) / 2 = h by rw [Eh.out]] at h9; rw [List.getD_eq_getElem?_getD, List.getD_eq_getElem?_getD, hx.out, hy.out] at h9; exact Classical.not_not.1 h9))
            have D170 := Lib.hid (show decide (cmpI (kd L y) (kd L x) < 0) = true from cmp_lt hcy.out)
            refine s_ (fun K120 hK120 => ?_)
            refine pu_ (v := .int .i64 i) (y_move rfl (by rfl) (by rfl)) ?_
            (try simp only [zP, zN, zA, zB, zC])
            refine pu_ (v := .int .i64 j) (y_move rfl (by rfl) (by rfl)) ?_
            (try simp only [zP, zN, zA, zB, zC])
            refine pu_ (v := .bool true) (y_run (by rfl) (fun W => by have d := D151.out; go_simp)) ?_
            (try simp only [zP, zN, zA, zB, zC])
            refine nl_ (hK120 _ _ ?_); clear hK120 K120
            refine wp_cond_true rfl ?_
            refine wp_skip ?_
            refine th_norm (hK110 _ _ ?_); try clear hK110 K110
            refine wp_block ?_
            refine s_ (fun K121 hK121 => ?_)
            refine pu_ (v := .int .i64 i) (y_move rfl (by rfl) (by rfl)) ?_
            (try simp only [zP, zN, zA, zB, zC])
            refine pu_ (v := .int .i64 j) (y_move rfl (by rfl) (by rfl)) ?_
            (try simp only [zP, zN, zA, zB, zC])
            refine pu_ (v := .int .i64 hs) (y_run (by rfl) (fun W => by have d := Whs.out; go_simp)) ?_
            (try simp only [zP, zN, zA, zB, zC])
            refine pu_ (v := .int .u64 hs) (y_run (by rfl) (fun W => by have d := Uh.out; go_simp)) ?_
            (try simp only [zP, zN, zA, zB, zC])
            refine pu_ (v := .int .u64 h) (y_run (by rfl) (fun W => by have d := Vh.out; go_simp)) ?_
            (try simp only [zP, zN, zA, zB, zC])
            refine pu_ (v := .int .i64 h) (y_run (by rfl) (fun W => by have d := Zh.out; go_simp)) ?_
            (try simp only [zP, zN, zA, zB, zC])
            refine pu_ (v := .int .i64 h) (y_assign rfl (by rfl) (by rfl)) ?_
            (try simp only [zP, zN, zA, zB, zC])
            refine nl_ (hK121 _ _ ?_); clear hK121 K121
            refine sq_ (fun K122 hK122 => ?_)
            refine startk_ (S := fun W => OwnS W base 3 1 (.slice (some ⟨gx, 0, none⟩) n cx) (n) ((U ++ (A ++ (B ++ T))).map vi) ∧ True) (ds := []) #[false, false, false, false, false, false, false, false, false, false, false, false, false, false] (by kernel_rfl) rfl rfl (fun W c => ⟨OX.out.ch c rnin_nil, trivial⟩) (fun w123 C124 hS125 => ?_)
            have C0' := Lib.hid (show Ch (rl (.slice (some ⟨gx, 0, none⟩) n cx)) w w123 from C0.out.trans' C124 (fun x hx => absurd hx (by simp)))
            have FX' := Lib.hid (show Blk w123 bx (#[.slice (some a) L.length c]) 45 from C124.blk FX.out nin_nil)
            have SL' := Lib.hid (show SrcIs w123 (.slice (some a) L.length c) (L.length) ((L).flatMap opC) 28 from SL.out.chx C124 xnin_nil)
            have OX' := Lib.hid (show OwnS w123 base 3 1 (.slice (some ⟨gx, 0, none⟩) n cx) (n) ((U ++ (A ++ (B ++ T))).map vi) from OX.out.ch C124 rnin_nil)
            clear C0 FX SL OX
            have C0 := C0'; clear C0'
            have FX := FX'; clear FX'
            have SL := SL'; clear SL'
            have OX := OX'; clear OX'
            clear C124
            refine pure_ (i := 0) (N := some 158) (v := .func (.func 54) #[] #[.pointer (some ⟨bx, 0, none⟩)]) #[true, false, false, false, false, false, false, false, false, false, false, false, false, false] rfl rfl (by kernel_rfl) (fun c a w h => hP c a _ _ w h) (y_move rfl (by rfl) (by rfl)) rfl ?_
            (try simp only [zP, zN, zA, zB, zC])
            refine pure_ (i := 1) (N := some 159) (v := .slice (some ⟨gx, 0, none⟩) n cx) #[true, true, false, false, false, false, false, false, false, false, false, false, false, false] rfl rfl (by kernel_rfl) (fun c a w h => hP c a _ _ w h) (y_move rfl (by rfl) (by rfl)) rfl ?_
            (try simp only [zP, zN, zA, zB, zC])
            refine pure_ (i := 2) (N := some 160) (v := .int .i64 pp) #[true, true, true, false, false, false, false, false, false, false, false, false, false, false] rfl rfl (by kernel_rfl) (fun c a w h => hP c a _ _ w h) (y_move rfl (by rfl) (by rfl)) rfl ?_
            (try simp only [zP, zN, zA, zB, zC])
            refine pure_ (i := 3) (N := some 161) (v := .int .i64 h) #[true, true, true, true, false, false, false, false, false, false, false, false, false, false] rfl rfl (by kernel_rfl) (fun c a w h => hP c a _ _ w h) (y_move rfl (by rfl) (by rfl)) rfl ?_
            (try simp only [zP, zN, zA, zB, zC])
            refine pure_ (i := 4) (N := some 162) (v := .int .i64 pc) #[true, true, true, true, true, false, false, false, false, false, false, false, false, false] rfl rfl (by kernel_rfl) (fun c a w h => hP c a _ _ w h) (y_run (by rfl) (fun W => by have d := Wpc.out; go_simp)) rfl ?_
            (try simp only [zP, zN, zA, zB, zC])
            refine pure_ (i := 5) (N := some 163) (v := .pointer (some ⟨gx, pc, none⟩)) #[true, true, true, true, true, true, false, false, false, false, false, false, false, false] rfl rfl (by kernel_rfl) (fun c a w h => hP c a _ _ w h) (y_run (by rfl) (fun W => by have d := Bpc.out; go_simp)) rfl ?_
            (try simp only [zP, zN, zA, zB, zC])
            refine take_ (i := 6) (N := some 164) (v := .int .i64 y) #[true, true, true, true, true, true, true, false, false, false, false, false, false, false] rfl rfl (by kernel_rfl) (fun c a w h => hP c a _ _ w h) (y_load (p := ⟨gx, pc, none⟩) rfl (by rfl) (by rfl) (fun W hS => run_load_one (own_cell hS.1 (row_part2 hy.out (by have := Epc.out; have := HM.out; have := HN.out; have h8 := HLN.out; simp only [List.length_append] at h8; have := Emd.out; have := Enp.out; have := hb.out.2; have := hij.out; have := hbo.out; have := HLH.out; have := Eh.out; have := Epp.out; omega))) Try.underlying3 rfl)) hS125 rfl ?_
            (try simp only [zP, zN, zA, zB, zC])
            refine pure_ (i := 7) (N := some 165) (v := .slice (some ⟨gx, 0, none⟩) n cx) #[true, true, true, true, true, true, true, true, false, false, false, false, false, false] rfl rfl (by kernel_rfl) (fun c a w h => hP c a _ _ w h) (y_move rfl (by rfl) (by rfl)) rfl ?_
            (try simp only [zP, zN, zA, zB, zC])
            refine pure_ (i := 8) (N := some 166) (v := .int .i64 h) #[true, true, true, true, true, true, true, true, true, false, false, false, false, false] rfl rfl (by kernel_rfl) (fun c a w h => hP c a _ _ w h) (y_move rfl (by rfl) (by rfl)) rfl ?_
            (try simp only [zP, zN, zA, zB, zC])
            refine pure_ (i := 9) (N := some 167) (v := .pointer (some ⟨gx, h, none⟩)) #[true, true, true, true, true, true, true, true, true, true, false, false, false, false] rfl rfl (by kernel_rfl) (fun c a w h => hP c a _ _ w h) (y_run (by rfl) (fun W => by have d := Bh.out; go_simp)) rfl ?_
            (try simp only [zP, zN, zA, zB, zC])
            refine take_ (i := 10) (N := some 168) (v := .int .i64 x) #[true, true, true, true, true, true, true, true, true, true, true, false, false, false] rfl rfl (by kernel_rfl) (fun c a w h => hP c a _ _ w h) (y_load (p := ⟨gx, h, none⟩) rfl (by rfl) (by rfl) (fun W hS => run_load_one (own_cell hS.1 (row_part1 hx.out (by have := HM.out; have := HN.out; have h8 := HLN.out; simp only [List.length_append] at h8; have := Emd.out; have := Enp.out; have := hb.out.2; have := hij.out; have := hbo.out; have := HLH.out; have := Eh.out; have := Epp.out; omega))) Try.underlying3 rfl)) hS125 rfl ?_
            (try simp only [zP, zN, zA, zB, zC])
            refine one_ (i := 11) (N := some 169) #[true, true, true, true, true, true, true, true, true, true, true, true, false, false] rfl rfl (by kernel_rfl) (by simp) (fun K126 hK126 => ?_)
            refine e_callf Try.func54 (by kernel_rfl) rfl #[.int .i64 y, .int .i64 x, .pointer (some ⟨bx, 0, none⟩)] (by rfl) rfl rfl (by rfl) (by first | rfl | simp [Act.eval]) ((cmp2_ (HIN.out y (by simp [hyB.out])) (HIN.out x (by simp [hxA.out])) FX SL)) ?_
            rintro en w127 ⟨rfl, cc⟩
            refine ⟨_, rfl, ?_⟩
            have C0' := Lib.hid (show Ch (rl (.slice (some ⟨gx, 0, none⟩) n cx)) w w127 from C0.out.trans' cc (fun x hx => absurd hx (by simp)))
            have FX' := Lib.hid (show Blk w127 bx (#[.slice (some a) L.length c]) 45 from cc.blk FX.out nin_nil)
            have SL' := Lib.hid (show SrcIs w127 (.slice (some a) L.length c) (L.length) ((L).flatMap opC) 28 from SL.out.chx cc xnin_nil)
            have OX' := Lib.hid (show OwnS w127 base 3 1 (.slice (some ⟨gx, 0, none⟩) n cx) (n) ((U ++ (A ++ (B ++ T))).map vi) from OX.out.ch cc rnin_nil)
            clear C0 FX SL OX
            have C0 := C0'; clear C0'
            have FX := FX'; clear FX'
            have SL := SL'; clear SL'
            have OX := OX'; clear OX'
            clear cc
            refine hK126.out _ _ ⟨OX.out, trivial⟩ (fun hS128 => ?_); clear hK126 K126
            (try simp only [zP, zN, zA, zB, zC])
            refine pure_ (i := 12) (N := some 170) (v := .bool true) #[true, true, true, true, true, true, true, true, true, true, true, true, true, false] rfl rfl (by kernel_rfl) (fun c a w h => hP c a _ _ w h) (y_run (by rfl) (fun W => by have d := D170.out; go_simp)) rfl ?_
            (try simp only [zP, zN, zA, zB, zC])
            refine pure_ (i := 13) (N := some 171) (v := .bool false) #[true, true, true, true, true, true, true, true, true, true, true, true, true, true] rfl rfl (by kernel_rfl) (fun c a w h => hP c a _ _ w h) (y_run (by rfl) (fun W => by go_simp)) rfl ?_
            (try simp only [zP, zN, zA, zB, zC])
            refine done_ (by kernel_rfl) (th_norm (hK122 _ _ ?_)); clear hK122 K122
            refine wp_cond_false rfl ?_
            refine r_ ?_
            refine pu_ (v := .int .i64 h) (y_move rfl (by rfl) (by rfl)) ?_
            (try simp only [zP, zN, zA, zB, zC])
            refine pu_ (v := .int .i64 h) (y_assign rfl (by rfl) (by rfl)) ?_
            (try simp only [zP, zN, zA, zB, zC])
            refine nl_ ?_
            refine ib_norm ?_
            exact th_norm (hK109 (h - i) _ _ (by have := Eh.out; have := hij.out; have := hb.out.2; omega) ⟨i, h, fun us_ => (#[.slice (some ⟨gx, 0, none⟩) n cx, .int .i64 a0, .int .i64 m0, .int .i64 b0, .func (.func 54) #[] #[.pointer (some ⟨bx, 0, none⟩)], us 5, us 6, us 7, us 8, us 9, us 10, us 11, us 12, us 13, us 14, us 15, us 16, us 17, .int .i64 md, .int .i64 np, .int .i64 i, .int .i64 h, .int .i64 pp, .int .i64 h, us 24, us 25, us 26, us 27, us 28, us 29, us 30, us 31, us 32, us 33, us 34, us 35, us 36, us 37, us 38, us 39, us 40, us 41, us 42, us 43, us 44, us 45, us 46, us 47, us 48, us 49, us 50, us 51, us 52, us 53, us 54, us 55, us 56, us 57, us 58, us 59, us 60, us 61, us 62, us 63, us 64, us 65, us 66, us 67, us 68, us 69, us 70, us 71, us 72, us 73, us 74, us 75, us 76, us 77, us 78, us 79, us 80, us 81, us 82, us 83, us 84, us 85, us 86, us 87, us 88, us 89, us 90, us 91, us 92, us 93, us 94, us 95, us 96, us 97, us 98, us 99, us 100, us 101, us 102, us 103, us 104, us 105, us 106, us 107, us 108, us 109, us 110, us 111, us 112, us 113, us 114, us 115, us 116, us 117, us 118, us 119, us 120, us 121, us 122, us 123, us 124, us 125, us 126, us 127, us 128, us 129, us 130, us 131, us 132, us 133, us 134, us 135, us 136, us 137, us 138, us 139, us 140, us 141, us 142, us 143, us 144, us 145, us 146, us 147, us 148, .int .i64 i, .int .i64 j, .bool true, .int .i64 i, .int .i64 j, .int .i64 hs, .int .u64 hs, .int .u64 h, .int .i64 h, .func (.func 54) #[] #[.pointer (some ⟨bx, 0, none⟩)], .slice (some ⟨gx, 0, none⟩) n cx, .int .i64 pp, .int .i64 h, .int .i64 pc, .pointer (some ⟨gx, pc, none⟩), .int .i64 y, .slice (some ⟨gx, 0, none⟩) n cx, .int .i64 h, .pointer (some ⟨gx, h, none⟩), .int .i64 x, .int .i64 (cmpI (kd L y) (kd L x)), .bool true, .bool false, us 172, us 173, .int .i64 h, us 175, us 176, us 177, us 178, us 179, us 180, us 181, us 182, us 183, us 184, us 185, us 186, us 187, us 188, us 189, us 190, us 191, us 192, us 193, us 194, us 195, us 196, us 197, us 198, us 199, us 200, us 201, us 202, us 203, us 204, us 205, us 206, us 207, us 208, us 209, us 210, us 211, us 212, us 213, us 214, us 215, us 216, us 217, us 218, us 219] : Array Value).getD us_ undef, rfl, C0, FX, SL, OX, Lib.hid ⟨bsM_down HSA.out HSB.out hb.out.1 (by have := HM.out; have := HN.out; have h8 := HLN.out; simp only [List.length_append] at h8; have := Emd.out; have := Enp.out; have := hb.out.2; have := hij.out; have := hbo.out; have := HLH.out; have := Eh.out; have := Epp.out; omega) hx.out hy.out hcy.out (fun c1 g1 g2 => by have := HM.out; have := HN.out; have h8 := HLN.out; simp only [List.length_append] at h8; have := Emd.out; have := Enp.out; have := HLH.out; omega), by have := hb.out.2; omega, by have := Eh.out; have := hij.out; omega, rfl⟩⟩)
          · have D151 := Lib.hid (show j ≤ i by omega)
            have HE := Lib.hid (show i = j by have := hb.out; omega)
            clear h
            refine s_ (fun K129 hK129 => ?_)
            refine pu_ (v := .int .i64 i) (y_move rfl (by rfl) (by rfl)) ?_
            (try simp only [zP, zN, zA, zB, zC])
            refine pu_ (v := .int .i64 j) (y_move rfl (by rfl) (by rfl)) ?_
            (try simp only [zP, zN, zA, zB, zC])
            refine pu_ (v := .bool false) (y_run (by rfl) (fun W => by have d := D151.out; go_simp)) ?_
            (try simp only [zP, zN, zA, zB, zC])
            refine nl_ (hK129 _ _ ?_); clear hK129 K129
            refine wp_cond_false rfl ?_
            refine wp_exit ?_
            refine th_exit ?_
            refine th_exit ?_
            refine ib_exit ?_
            refine th_norm (hK107 _ _ ?_); try clear hK107 K107
            skip
            · have hbo := Lib.hid hb.out.1.ord
              have hE2 := bsM_end HSA.out HSB.out (s := i - a0) (by have h := hb.out.1; rw [← HE.out] at h; exact h) (by have := hbo.out; have := HLH.out; have := HE.out; omega) HLO1.out HHI.out
              obtain ⟨A1, A2, B1, B2, hA, hB, hl1, hl2, hc1, hc2⟩ : ∃ A1 A2 B1 B2, A = A1 ++ A2 ∧ B = B1 ++ B2 ∧ A1.length = i - a0 ∧ B1.length = md - a0 - (i - a0) ∧ (∀ x ∈ A1, ∀ y ∈ B2, ¬ kd L y < kd L x) ∧ (∀ x ∈ A2, ∀ y ∈ B1, kd L y < kd L x) := ⟨A.take (i - a0), A.drop (i - a0), B.take (md - a0 - (i - a0)), B.drop (md - a0 - (i - a0)), (List.take_append_drop _ _).symm, (List.take_append_drop _ _).symm, by rw [List.length_take]; have := hbo.out; have := HLH.out; have := HE.out; omega, by rw [List.length_take]; have := hbo.out; have := HLH.out; have := HE.out; omega, hE2.1, hE2.2⟩
              have EA := Lib.hid hA; have EB := Lib.hid hB; have HC1 := Lib.hid hc1; have HC2 := Lib.hid hc2; have LA := Lib.hid (show A.length = A1.length + A2.length by rw [hA, List.length_append]); have LB := Lib.hid (show B.length = B1.length + B2.length by rw [hB, List.length_append])
              have LL := Lib.hid (show i = a0 + A1.length ∧ md = a0 + A1.length + B1.length by have := hl1; have := hl2; have := hb.out.2; have := hbo.out; have := HLH.out; have := HE.out; have := HMD.out; omega)
              clear hA hB hc1 hc2 hl1 hl2 hE2
              obtain ⟨en_, hen_⟩ : ∃ x, x = np - i := ⟨_, rfl⟩
              have Een_ := Lib.hid hen_; clear hen_
              have Wen_ := Lib.hid (show IntKind.i64.wrap ((np : Int) - (i : Int)) = (en_ : Int) by rw [wr64 (by have := Een_.out; have := HM.out; have := HN.out; have h8 := HLN.out; simp only [List.length_append] at h8; have := Emd.out; have := Enp.out; have := LL.out; have := LA.out; have := LB.out; omega)]; have := Een_.out; have := HM.out; have := HN.out; have h8 := HLN.out; simp only [List.length_append] at h8; have := Emd.out; have := Enp.out; have := LL.out; have := LA.out; have := LB.out; omega)
              have LE := Lib.hid (show en_ = m0 + B1.length by have := Een_.out; have := LL.out; have := HM.out; have := HN.out; have h8 := HLN.out; simp only [List.length_append] at h8; have := Emd.out; have := Enp.out; omega)
              refine s_ (fun K130 hK130 => ?_)
              refine pu_ (v := .int .i64 np) (y_move rfl (by rfl) (by rfl)) ?_
              (try simp only [zP, zN, zA, zB, zC])
              refine pu_ (v := .int .i64 i) (y_move rfl (by rfl) (by rfl)) ?_
              (try simp only [zP, zN, zA, zB, zC])
              refine pu_ (v := .int .i64 en_) (y_run (by rfl) (fun W => by have d := Wen_.out; go_simp)) ?_
              (try simp only [zP, zN, zA, zB, zC])
              refine pu_ (v := .int .i64 en_) (y_assign rfl (by rfl) (by rfl)) ?_
              (try simp only [zP, zN, zA, zB, zC])
              refine nl_ (hK130 _ _ ?_); clear hK130 K130
              refine cutk_ (fun (a' : Act) (w' : World) => ∃ (us : Nat → Value), a' = ⟨#[.slice (some ⟨gx, 0, none⟩) n cx, .int .i64 a0, .int .i64 m0, .int .i64 b0, .func (.func 54) #[] #[.pointer (some ⟨bx, 0, none⟩)], us 5, us 6, us 7, us 8, us 9, us 10, us 11, us 12, us 13, us 14, us 15, us 16, us 17, .int .i64 md, us 19, .int .i64 i, us 21, us 22, us 23, .int .i64 en_, us 25, us 26, us 27, us 28, us 29, us 30, us 31, us 32, us 33, us 34, us 35, us 36, us 37, us 38, us 39, us 40, us 41, us 42, us 43, us 44, us 45, us 46, us 47, us 48, us 49, us 50, us 51, us 52, us 53, us 54, us 55, us 56, us 57, us 58, us 59, us 60, us 61, us 62, us 63, us 64, us 65, us 66, us 67, us 68, us 69, us 70, us 71, us 72, us 73, us 74, us 75, us 76, us 77, us 78, us 79, us 80, us 81, us 82, us 83, us 84, us 85, us 86, us 87, us 88, us 89, us 90, us 91, us 92, us 93, us 94, us 95, us 96, us 97, us 98, us 99, us 100, us 101, us 102, us 103, us 104, us 105, us 106, us 107, us 108, us 109, us 110, us 111, us 112, us 113, us 114, us 115, us 116, us 117, us 118, us 119, us 120, us 121, us 122, us 123, us 124, us 125, us 126, us 127, us 128, us 129, us 130, us 131, us 132, us 133, us 134, us 135, us 136, us 137, us 138, us 139, us 140, us 141, us 142, us 143, us 144, us 145, us 146, us 147, us 148, us 149, us 150, us 151, us 152, us 153, us 154, us 155, us 156, us 157, us 158, us 159, us 160, us 161, us 162, us 163, us 164, us 165, us 166, us 167, us 168, us 169, us 170, us 171, us 172, us 173, us 174, us 175, us 176, us 177, us 178, us 179, us 180, us 181, us 182, us 183, us 184, us 185, us 186, us 187, us 188, us 189, us 190, us 191, us 192, us 193, us 194, us 195, us 196, us 197, us 198, us 199, us 200, us 201, us 202, us 203, us 204, us 205, us 206, us 207, us 208, us 209, us 210, us 211, us 212, us 213, us 214, us 215, us 216, us 217, us 218, us 219], []⟩ ∧ Hid (Ch (rl (.slice (some ⟨gx, 0, none⟩) n cx)) w w') ∧ Hid (Blk w' bx (#[.slice (some a) L.length c]) 45) ∧ Hid (SrcIs w' (.slice (some a) L.length c) (L.length) ((L).flatMap opC) 28) ∧ Hid (OwnS w' base 3 1 (.slice (some ⟨gx, 0, none⟩) n cx) (n) ((U ++ (A1 ++ (B1 ++ (A2 ++ (B2 ++ T))))).map vi))) (fun K131 hK131 => ?_) ?_
              · rcases two_ways A2 B1 with h | h | h
                · have hw := Lib.hid h
                  clear h
                  have D180 := Lib.hid (show i < m0 by have := HM.out; have := HN.out; have h8 := HLN.out; simp only [List.length_append] at h8; have := LL.out; have := LA.out; have := LB.out; have := LE.out; have := hw.out; omega)
                  have D184 := Lib.hid (show m0 < en_ by have := HM.out; have := HN.out; have h8 := HLN.out; simp only [List.length_append] at h8; have := LL.out; have := LA.out; have := LB.out; have := LE.out; have := hw.out; omega)
                  refine s_ (fun K133 hK133 => ?_)
                  refine pu_ (v := .int .i64 i) (y_move rfl (by rfl) (by rfl)) ?_
                  (try simp only [zP, zN, zA, zB, zC])
                  refine pu_ (v := .int .i64 m0) (y_move rfl (by rfl) (by rfl)) ?_
                  (try simp only [zP, zN, zA, zB, zC])
                  refine pu_ (v := .bool true) (y_run (by rfl) (fun W => by have d := D180.out; go_simp)) ?_
                  (try simp only [zP, zN, zA, zB, zC])
                  refine pu_ (v := .bool true) (y_move rfl (by rfl) (by rfl)) ?_
                  (try simp only [zP, zN, zA, zB, zC])
                  refine pu_ (v := .int .i64 m0) (y_move rfl (by rfl) (by rfl)) ?_
                  (try simp only [zP, zN, zA, zB, zC])
                  refine pu_ (v := .int .i64 en_) (y_move rfl (by rfl) (by rfl)) ?_
                  (try simp only [zP, zN, zA, zB, zC])
                  refine pu_ (v := .bool true) (y_run (by rfl) (fun W => by have d := D184.out; go_simp)) ?_
                  (try simp only [zP, zN, zA, zB, zC])
                  refine pu_ (v := .bool true) (y_pick (t := true) (by rfl) rfl (by rfl) (by rfl)) ?_
                  (try simp only [zP, zN, zA, zB, zC])
                  refine nl_ (hK133 _ _ ?_); clear hK133 K133
                  refine wp_cond_true rfl ?_
                  refine r_ ?_
                  refine pu_ (v := .slice (some ⟨gx, 0, none⟩) n cx) (y_move rfl (by rfl) (by rfl)) ?_
                  (try simp only [zP, zN, zA, zB, zC])
                  refine pu_ (v := .int .i64 i) (y_move rfl (by rfl) (by rfl)) ?_
                  (try simp only [zP, zN, zA, zB, zC])
                  refine pu_ (v := .int .i64 m0) (y_move rfl (by rfl) (by rfl)) ?_
                  (try simp only [zP, zN, zA, zB, zC])
                  refine pu_ (v := .int .i64 en_) (y_move rfl (by rfl) (by rfl)) ?_
                  (try simp only [zP, zN, zA, zB, zC])
                  refine pu_ (v := .func (.func 54) #[] #[.pointer (some ⟨bx, 0, none⟩)]) (y_move rfl (by rfl) (by rfl)) ?_
                  (try simp only [zP, zN, zA, zB, zC])
                  refine ef_ (fun K134 hK134 => ?_)
                  refine e_call Try.func69 (by kernel_rfl) rfl #[.slice (some ⟨gx, 0, none⟩) n cx, .int .i64 i, .int .i64 m0, .int .i64 en_, .func (.func 54) #[] #[.pointer (some ⟨bx, 0, none⟩)]] (by rfl) rfl rfl (by first | rfl | (simp only [List.map_toArray, List.map_cons, List.map_nil]; first | done | rfl)) ((rotate_ (bx := bx) (U := U ++ A1) (A := A2) (B := B1) (T := B2 ++ T) (a0 := i) (m0 := m0) (b0 := en_) HN (Lib.hid (by rw [List.length_append]; have := HM.out; have := HN.out; have h8 := HLN.out; simp only [List.length_append] at h8; have := LL.out; have := LA.out; have := LB.out; have := LE.out; have := hw.out; omega)) (Lib.hid (by have h := OX.out; rw [EA.out, EB.out, show U ++ ((A1 ++ A2) ++ ((B1 ++ B2) ++ T)) = (U ++ A1) ++ (A2 ++ (B1 ++ (B2 ++ T))) by simp] at h; exact h)))) ?_
                  rintro en w137 ⟨rfl, O136, cc135⟩
                  refine ⟨_, rfl, ?_⟩
                  have C0' := Lib.hid (show Ch (rl (.slice (some ⟨gx, 0, none⟩) n cx)) w w137 from C0.out.trans' cc135 (fun x hx => .inl hx))
                  have FX' := Lib.hid (show Blk w137 bx (#[.slice (some a) L.length c]) 45 from cc135.blk FX.out (OX.out.ne FX.out (by decide)))
                  have SL' := Lib.hid (show SrcIs w137 (.slice (some a) L.length c) (L.length) ((L).flatMap opC) 28 from SL.out.chx cc135 HXR.out)
                  clear C0 FX SL
                  have C0 := C0'; clear C0'
                  have FX := FX'; clear FX'
                  have SL := SL'; clear SL'
                  clear OX
                  clear cc135
                  have OX := Lib.hid (show OwnS w137 base 3 1 (.slice (some ⟨gx, 0, none⟩) n cx) (n) (((U ++ A1) ++ (B1 ++ (A2 ++ (B2 ++ T)))).map vi) from O136)
                  refine hK134 _ _ ?_; clear hK134 K134
                  (try simp only [zP, zN, zA, zB, zC])
                  refine nl_ ?_
                  exact th_norm (hK131 _ _ ⟨fun us_ => (#[.slice (some ⟨gx, 0, none⟩) n cx, .int .i64 a0, .int .i64 m0, .int .i64 b0, .func (.func 54) #[] #[.pointer (some ⟨bx, 0, none⟩)], us 5, us 6, us 7, us 8, us 9, us 10, us 11, us 12, us 13, us 14, us 15, us 16, us 17, .int .i64 md, .int .i64 np, .int .i64 i, .int .i64 j, .int .i64 pp, us 23, .int .i64 en_, us 25, us 26, us 27, us 28, us 29, us 30, us 31, us 32, us 33, us 34, us 35, us 36, us 37, us 38, us 39, us 40, us 41, us 42, us 43, us 44, us 45, us 46, us 47, us 48, us 49, us 50, us 51, us 52, us 53, us 54, us 55, us 56, us 57, us 58, us 59, us 60, us 61, us 62, us 63, us 64, us 65, us 66, us 67, us 68, us 69, us 70, us 71, us 72, us 73, us 74, us 75, us 76, us 77, us 78, us 79, us 80, us 81, us 82, us 83, us 84, us 85, us 86, us 87, us 88, us 89, us 90, us 91, us 92, us 93, us 94, us 95, us 96, us 97, us 98, us 99, us 100, us 101, us 102, us 103, us 104, us 105, us 106, us 107, us 108, us 109, us 110, us 111, us 112, us 113, us 114, us 115, us 116, us 117, us 118, us 119, us 120, us 121, us 122, us 123, us 124, us 125, us 126, us 127, us 128, us 129, us 130, us 131, us 132, us 133, us 134, us 135, us 136, us 137, us 138, us 139, us 140, us 141, us 142, us 143, us 144, us 145, us 146, us 147, us 148, .int .i64 i, .int .i64 j, .bool false, us 152, us 153, us 154, us 155, us 156, us 157, us 158, us 159, us 160, us 161, us 162, us 163, us 164, us 165, us 166, us 167, us 168, us 169, us 170, us 171, us 172, us 173, us 174, .int .i64 np, .int .i64 i, .int .i64 en_, .int .i64 i, .int .i64 m0, .bool true, .bool true, .int .i64 m0, .int .i64 en_, .bool true, .bool true, .slice (some ⟨gx, 0, none⟩) n cx, .int .i64 i, .int .i64 m0, .int .i64 en_, .func (.func 54) #[] #[.pointer (some ⟨bx, 0, none⟩)], .tuple #[], us 192, us 193, us 194, us 195, us 196, us 197, us 198, us 199, us 200, us 201, us 202, us 203, us 204, us 205, us 206, us 207, us 208, us 209, us 210, us 211, us 212, us 213, us 214, us 215, us 216, us 217, us 218, us 219] : Array Value).getD us_ undef, rfl, C0, FX, SL, Lib.hid (by have h := OX.out; rw [List.append_assoc] at h; exact h)⟩)
                · have hw := Lib.hid h
                  clear h
                  have D180 := Lib.hid (show m0 ≤ i by have := HM.out; have := HN.out; have h8 := HLN.out; simp only [List.length_append] at h8; have := LL.out; have := LA.out; have := LB.out; have := LE.out; have := hw.out; omega)
                  have hz : A2 = [] := List.eq_nil_of_length_eq_zero hw.out
                  refine s_ (fun K138 hK138 => ?_)
                  refine pu_ (v := .int .i64 i) (y_move rfl (by rfl) (by rfl)) ?_
                  (try simp only [zP, zN, zA, zB, zC])
                  refine pu_ (v := .int .i64 m0) (y_move rfl (by rfl) (by rfl)) ?_
                  (try simp only [zP, zN, zA, zB, zC])
                  refine pu_ (v := .bool false) (y_run (by rfl) (fun W => by have d := D180.out; go_simp)) ?_
                  (try simp only [zP, zN, zA, zB, zC])
                  refine pu_ (v := .bool false) (y_move rfl (by rfl) (by rfl)) ?_
                  (try simp only [zP, zN, zA, zB, zC])
                  refine pu_ (y_off (by rfl)) ?_
                  (try simp only [zP, zN, zA, zB, zC])
                  refine pu_ (y_off (by rfl)) ?_
                  (try simp only [zP, zN, zA, zB, zC])
                  refine pu_ (y_off (by rfl)) ?_
                  (try simp only [zP, zN, zA, zB, zC])
                  refine pu_ (v := .bool false) (y_pick (t := false) (by rfl) rfl (by rfl) (by rfl)) ?_
                  (try simp only [zP, zN, zA, zB, zC])
                  refine nl_ (hK138 _ _ ?_); clear hK138 K138
                  refine wp_cond_false rfl ?_
                  refine wp_skip ?_
                  exact th_norm (hK131 _ _ ⟨fun us_ => (#[.slice (some ⟨gx, 0, none⟩) n cx, .int .i64 a0, .int .i64 m0, .int .i64 b0, .func (.func 54) #[] #[.pointer (some ⟨bx, 0, none⟩)], us 5, us 6, us 7, us 8, us 9, us 10, us 11, us 12, us 13, us 14, us 15, us 16, us 17, .int .i64 md, .int .i64 np, .int .i64 i, .int .i64 j, .int .i64 pp, us 23, .int .i64 en_, us 25, us 26, us 27, us 28, us 29, us 30, us 31, us 32, us 33, us 34, us 35, us 36, us 37, us 38, us 39, us 40, us 41, us 42, us 43, us 44, us 45, us 46, us 47, us 48, us 49, us 50, us 51, us 52, us 53, us 54, us 55, us 56, us 57, us 58, us 59, us 60, us 61, us 62, us 63, us 64, us 65, us 66, us 67, us 68, us 69, us 70, us 71, us 72, us 73, us 74, us 75, us 76, us 77, us 78, us 79, us 80, us 81, us 82, us 83, us 84, us 85, us 86, us 87, us 88, us 89, us 90, us 91, us 92, us 93, us 94, us 95, us 96, us 97, us 98, us 99, us 100, us 101, us 102, us 103, us 104, us 105, us 106, us 107, us 108, us 109, us 110, us 111, us 112, us 113, us 114, us 115, us 116, us 117, us 118, us 119, us 120, us 121, us 122, us 123, us 124, us 125, us 126, us 127, us 128, us 129, us 130, us 131, us 132, us 133, us 134, us 135, us 136, us 137, us 138, us 139, us 140, us 141, us 142, us 143, us 144, us 145, us 146, us 147, us 148, .int .i64 i, .int .i64 j, .bool false, us 152, us 153, us 154, us 155, us 156, us 157, us 158, us 159, us 160, us 161, us 162, us 163, us 164, us 165, us 166, us 167, us 168, us 169, us 170, us 171, us 172, us 173, us 174, .int .i64 np, .int .i64 i, .int .i64 en_, .int .i64 i, .int .i64 m0, .bool false, .bool false, undef, undef, undef, .bool false, us 186, us 187, us 188, us 189, us 190, us 191, us 192, us 193, us 194, us 195, us 196, us 197, us 198, us 199, us 200, us 201, us 202, us 203, us 204, us 205, us 206, us 207, us 208, us 209, us 210, us 211, us 212, us 213, us 214, us 215, us 216, us 217, us 218, us 219] : Array Value).getD us_ undef, rfl, C0, FX, SL, Lib.hid (by have h := OX.out; rw [EA.out, EB.out] at h; rw [hz] at h ⊢; simpa using h)⟩)
                · have hw := Lib.hid h
                  clear h
                  have D180 := Lib.hid (show i < m0 by have := HM.out; have := HN.out; have h8 := HLN.out; simp only [List.length_append] at h8; have := LL.out; have := LA.out; have := LB.out; have := LE.out; have := hw.out; omega)
                  have D184 := Lib.hid (show en_ ≤ m0 by have := HM.out; have := HN.out; have h8 := HLN.out; simp only [List.length_append] at h8; have := LL.out; have := LA.out; have := LB.out; have := LE.out; have := hw.out; omega)
                  have hz : B1 = [] := List.eq_nil_of_length_eq_zero hw.out.2
                  refine s_ (fun K139 hK139 => ?_)
                  refine pu_ (v := .int .i64 i) (y_move rfl (by rfl) (by rfl)) ?_
                  (try simp only [zP, zN, zA, zB, zC])
                  refine pu_ (v := .int .i64 m0) (y_move rfl (by rfl) (by rfl)) ?_
                  (try simp only [zP, zN, zA, zB, zC])
                  refine pu_ (v := .bool true) (y_run (by rfl) (fun W => by have d := D180.out; go_simp)) ?_
                  (try simp only [zP, zN, zA, zB, zC])
                  refine pu_ (v := .bool true) (y_move rfl (by rfl) (by rfl)) ?_
                  (try simp only [zP, zN, zA, zB, zC])
                  refine pu_ (v := .int .i64 m0) (y_move rfl (by rfl) (by rfl)) ?_
                  (try simp only [zP, zN, zA, zB, zC])
                  refine pu_ (v := .int .i64 en_) (y_move rfl (by rfl) (by rfl)) ?_
                  (try simp only [zP, zN, zA, zB, zC])
                  refine pu_ (v := .bool false) (y_run (by rfl) (fun W => by have d := D184.out; go_simp)) ?_
                  (try simp only [zP, zN, zA, zB, zC])
                  refine pu_ (v := .bool false) (y_pick (t := true) (by rfl) rfl (by rfl) (by rfl)) ?_
                  (try simp only [zP, zN, zA, zB, zC])
                  refine nl_ (hK139 _ _ ?_); clear hK139 K139
                  refine wp_cond_false rfl ?_
                  refine wp_skip ?_
                  exact th_norm (hK131 _ _ ⟨fun us_ => (#[.slice (some ⟨gx, 0, none⟩) n cx, .int .i64 a0, .int .i64 m0, .int .i64 b0, .func (.func 54) #[] #[.pointer (some ⟨bx, 0, none⟩)], us 5, us 6, us 7, us 8, us 9, us 10, us 11, us 12, us 13, us 14, us 15, us 16, us 17, .int .i64 md, .int .i64 np, .int .i64 i, .int .i64 j, .int .i64 pp, us 23, .int .i64 en_, us 25, us 26, us 27, us 28, us 29, us 30, us 31, us 32, us 33, us 34, us 35, us 36, us 37, us 38, us 39, us 40, us 41, us 42, us 43, us 44, us 45, us 46, us 47, us 48, us 49, us 50, us 51, us 52, us 53, us 54, us 55, us 56, us 57, us 58, us 59, us 60, us 61, us 62, us 63, us 64, us 65, us 66, us 67, us 68, us 69, us 70, us 71, us 72, us 73, us 74, us 75, us 76, us 77, us 78, us 79, us 80, us 81, us 82, us 83, us 84, us 85, us 86, us 87, us 88, us 89, us 90, us 91, us 92, us 93, us 94, us 95, us 96, us 97, us 98, us 99, us 100, us 101, us 102, us 103, us 104, us 105, us 106, us 107, us 108, us 109, us 110, us 111, us 112, us 113, us 114, us 115, us 116, us 117, us 118, us 119, us 120, us 121, us 122, us 123, us 124, us 125, us 126, us 127, us 128, us 129, us 130, us 131, us 132, us 133, us 134, us 135, us 136, us 137, us 138, us 139, us 140, us 141, us 142, us 143, us 144, us 145, us 146, us 147, us 148, .int .i64 i, .int .i64 j, .bool false, us 152, us 153, us 154, us 155, us 156, us 157, us 158, us 159, us 160, us 161, us 162, us 163, us 164, us 165, us 166, us 167, us 168, us 169, us 170, us 171, us 172, us 173, us 174, .int .i64 np, .int .i64 i, .int .i64 en_, .int .i64 i, .int .i64 m0, .bool true, .bool true, .int .i64 m0, .int .i64 en_, .bool false, .bool false, us 186, us 187, us 188, us 189, us 190, us 191, us 192, us 193, us 194, us 195, us 196, us 197, us 198, us 199, us 200, us 201, us 202, us 203, us 204, us 205, us 206, us 207, us 208, us 209, us 210, us 211, us 212, us 213, us 214, us 215, us 216, us 217, us 218, us 219] : Array Value).getD us_ undef, rfl, C0, FX, SL, Lib.hid (by have h := OX.out; rw [EA.out, EB.out] at h; rw [hz] at h ⊢; simpa using h)⟩)
              rintro _ w132 ⟨us, rfl, C0, FX, SL, OX⟩
              refine cutk_ (fun (a' : Act) (w' : World) => ∃ (M1 : List Int), ∃ (us : Nat → Value), a' = ⟨#[.slice (some ⟨gx, 0, none⟩) n cx, us 1, .int .i64 m0, .int .i64 b0, .func (.func 54) #[] #[.pointer (some ⟨bx, 0, none⟩)], us 5, us 6, us 7, us 8, us 9, us 10, us 11, us 12, us 13, us 14, us 15, us 16, us 17, .int .i64 md, us 19, us 20, us 21, us 22, us 23, .int .i64 en_, us 25, us 26, us 27, us 28, us 29, us 30, us 31, us 32, us 33, us 34, us 35, us 36, us 37, us 38, us 39, us 40, us 41, us 42, us 43, us 44, us 45, us 46, us 47, us 48, us 49, us 50, us 51, us 52, us 53, us 54, us 55, us 56, us 57, us 58, us 59, us 60, us 61, us 62, us 63, us 64, us 65, us 66, us 67, us 68, us 69, us 70, us 71, us 72, us 73, us 74, us 75, us 76, us 77, us 78, us 79, us 80, us 81, us 82, us 83, us 84, us 85, us 86, us 87, us 88, us 89, us 90, us 91, us 92, us 93, us 94, us 95, us 96, us 97, us 98, us 99, us 100, us 101, us 102, us 103, us 104, us 105, us 106, us 107, us 108, us 109, us 110, us 111, us 112, us 113, us 114, us 115, us 116, us 117, us 118, us 119, us 120, us 121, us 122, us 123, us 124, us 125, us 126, us 127, us 128, us 129, us 130, us 131, us 132, us 133, us 134, us 135, us 136, us 137, us 138, us 139, us 140, us 141, us 142, us 143, us 144, us 145, us 146, us 147, us 148, us 149, us 150, us 151, us 152, us 153, us 154, us 155, us 156, us 157, us 158, us 159, us 160, us 161, us 162, us 163, us 164, us 165, us 166, us 167, us 168, us 169, us 170, us 171, us 172, us 173, us 174, us 175, us 176, us 177, us 178, us 179, us 180, us 181, us 182, us 183, us 184, us 185, us 186, us 187, us 188, us 189, us 190, us 191, us 192, us 193, us 194, us 195, us 196, us 197, us 198, us 199, us 200, us 201, us 202, us 203, us 204, us 205, us 206, us 207, us 208, us 209, us 210, us 211, us 212, us 213, us 214, us 215, us 216, us 217, us 218, us 219], []⟩ ∧ Hid (Ch (rl (.slice (some ⟨gx, 0, none⟩) n cx)) w w') ∧ Hid (Blk w' bx (#[.slice (some a) L.length c]) 45) ∧ Hid (SrcIs w' (.slice (some a) L.length c) (L.length) ((L).flatMap opC) 28) ∧ Hid (OwnS w' base 3 1 (.slice (some ⟨gx, 0, none⟩) n cx) (n) ((U ++ (M1 ++ (A2 ++ (B2 ++ T)))).map vi)) ∧ Hid (sorts L (A1 ++ B1) M1) ∧ Hid (M1.length = A1.length + B1.length)) (fun K140 hK140 => ?_) ?_
              · rcases two_ways A1 B1 with h | h | h
                · have hw := Lib.hid h
                  clear h
                  have D194 := Lib.hid (show a0 < i by have := HM.out; have := HN.out; have h8 := HLN.out; simp only [List.length_append] at h8; have := LL.out; have := LA.out; have := LB.out; have := LE.out; have := hw.out; omega)
                  have D198 := Lib.hid (show i < md by have := HM.out; have := HN.out; have h8 := HLN.out; simp only [List.length_append] at h8; have := LL.out; have := LA.out; have := LB.out; have := LE.out; have := hw.out; omega)
                  refine s_ (fun K142 hK142 => ?_)
                  refine pu_ (v := .int .i64 a0) (y_move rfl (by rfl) (by rfl)) ?_
                  (try simp only [zP, zN, zA, zB, zC])
                  refine pu_ (v := .int .i64 i) (y_move rfl (by rfl) (by rfl)) ?_
                  (try simp only [zP, zN, zA, zB, zC])
                  refine pu_ (v := .bool true) (y_run (by rfl) (fun W => by have d := D194.out; go_simp)) ?_
                  (try simp only [zP, zN, zA, zB, zC])
                  refine pu_ (v := .bool true) (y_move rfl (by rfl) (by rfl)) ?_
                  (try simp only [zP, zN, zA, zB, zC])
                  refine pu_ (v := .int .i64 i) (y_move rfl (by rfl) (by rfl)) ?_
                  (try simp only [zP, zN, zA, zB, zC])
                  refine pu_ (v := .int .i64 md) (y_move rfl (by rfl) (by rfl)) ?_
                  (try simp only [zP, zN, zA, zB, zC])
                  refine pu_ (v := .bool true) (y_run (by rfl) (fun W => by have d := D198.out; go_simp)) ?_
                  (try simp only [zP, zN, zA, zB, zC])
                  refine pu_ (v := .bool true) (y_pick (t := true) (by rfl) rfl (by rfl) (by rfl)) ?_
                  (try simp only [zP, zN, zA, zB, zC])
                  refine nl_ (hK142 _ _ ?_); clear hK142 K142
                  refine wp_cond_true rfl ?_
                  refine r_ ?_
                  refine pu_ (v := .slice (some ⟨gx, 0, none⟩) n cx) (y_move rfl (by rfl) (by rfl)) ?_
                  (try simp only [zP, zN, zA, zB, zC])
                  refine pu_ (v := .int .i64 a0) (y_move rfl (by rfl) (by rfl)) ?_
                  (try simp only [zP, zN, zA, zB, zC])
                  refine pu_ (v := .int .i64 i) (y_move rfl (by rfl) (by rfl)) ?_
                  (try simp only [zP, zN, zA, zB, zC])
                  refine pu_ (v := .int .i64 md) (y_move rfl (by rfl) (by rfl)) ?_
                  (try simp only [zP, zN, zA, zB, zC])
                  refine pu_ (v := .func (.func 54) #[] #[.pointer (some ⟨bx, 0, none⟩)]) (y_move rfl (by rfl) (by rfl)) ?_
                  (try simp only [zP, zN, zA, zB, zC])
                  refine ef_ (fun K143 hK143 => ?_)
                  refine e_call Try.func68 (by kernel_rfl) rfl #[.slice (some ⟨gx, 0, none⟩) n cx, .int .i64 a0, .int .i64 i, .int .i64 md, .func (.func 54) #[] #[.pointer (some ⟨bx, 0, none⟩)]] (by rfl) rfl rfl (by first | rfl | (simp only [List.map_toArray, List.map_cons, List.map_nil]; first | done | rfl)) ((ih (U := U) (A := A1) (B := B1) (T := A2 ++ (B2 ++ T)) (a0 := a0) (m0 := i) (b0 := md) (Lib.hid (by have := HM.out; have := HN.out; have h8 := HLN.out; simp only [List.length_append] at h8; have := LL.out; have := LA.out; have := LB.out; have := LE.out; have := hw.out; (try rw [List.length_append]); (try have := HL1.out); omega)) HN (Lib.hid (fun z hz => HIN.out z (by rw [EA.out, EB.out]; simp only [List.mem_append] at hz ⊢; rcases hz with hz | hz <;> simp [hz]))) (Lib.hid (by have h := HSA.out; rw [EA.out] at h; exact (List.pairwise_append.1 h).1)) (Lib.hid (by have h := HSB.out; rw [EB.out] at h; exact (List.pairwise_append.1 h).1)) (Lib.hid (ahead_sub HAH.out (fun x hx => by rw [EA.out]; simp [hx]) (fun x hx => by rw [EB.out]; simp [hx]))) HXR FX SL (Lib.hid (by have h := OX.out; exact h)) (Lib.hid (by have := HNN.out; have := LA.out; have := LB.out; have := hA1.out; have := hB1.out; have := HM.out; have := LL.out; have := HMD.out; have := Emd.out; omega)))) ?_
                  rintro en w146 ⟨rfl, M1, M10, O145, cc144⟩
                  refine ⟨_, rfl, ?_⟩
                  have C0' := Lib.hid (show Ch (rl (.slice (some ⟨gx, 0, none⟩) n cx)) w w146 from C0.out.trans' cc144 (fun x hx => .inl hx))
                  have FX' := Lib.hid (show Blk w146 bx (#[.slice (some a) L.length c]) 45 from cc144.blk FX.out (OX.out.ne FX.out (by decide)))
                  have SL' := Lib.hid (show SrcIs w146 (.slice (some a) L.length c) (L.length) ((L).flatMap opC) 28 from SL.out.chx cc144 HXR.out)
                  clear C0 FX SL
                  have C0 := C0'; clear C0'
                  have FX := FX'; clear FX'
                  have SL := SL'; clear SL'
                  clear OX
                  clear cc144
                  have OX := Lib.hid (show OwnS w146 base 3 1 (.slice (some ⟨gx, 0, none⟩) n cx) (n) ((U ++ (M1 ++ (A2 ++ (B2 ++ T)))).map vi) from O145)
                  have HM1 := Lib.hid M10; clear M10
                  refine hK143 _ _ ?_; clear hK143 K143
                  (try simp only [zP, zN, zA, zB, zC])
                  refine nl_ ?_
                  exact th_norm (hK140 _ _ ⟨M1, fun us_ => (#[.slice (some ⟨gx, 0, none⟩) n cx, .int .i64 a0, .int .i64 m0, .int .i64 b0, .func (.func 54) #[] #[.pointer (some ⟨bx, 0, none⟩)], us 5, us 6, us 7, us 8, us 9, us 10, us 11, us 12, us 13, us 14, us 15, us 16, us 17, .int .i64 md, us 19, .int .i64 i, us 21, us 22, us 23, .int .i64 en_, us 25, us 26, us 27, us 28, us 29, us 30, us 31, us 32, us 33, us 34, us 35, us 36, us 37, us 38, us 39, us 40, us 41, us 42, us 43, us 44, us 45, us 46, us 47, us 48, us 49, us 50, us 51, us 52, us 53, us 54, us 55, us 56, us 57, us 58, us 59, us 60, us 61, us 62, us 63, us 64, us 65, us 66, us 67, us 68, us 69, us 70, us 71, us 72, us 73, us 74, us 75, us 76, us 77, us 78, us 79, us 80, us 81, us 82, us 83, us 84, us 85, us 86, us 87, us 88, us 89, us 90, us 91, us 92, us 93, us 94, us 95, us 96, us 97, us 98, us 99, us 100, us 101, us 102, us 103, us 104, us 105, us 106, us 107, us 108, us 109, us 110, us 111, us 112, us 113, us 114, us 115, us 116, us 117, us 118, us 119, us 120, us 121, us 122, us 123, us 124, us 125, us 126, us 127, us 128, us 129, us 130, us 131, us 132, us 133, us 134, us 135, us 136, us 137, us 138, us 139, us 140, us 141, us 142, us 143, us 144, us 145, us 146, us 147, us 148, us 149, us 150, us 151, us 152, us 153, us 154, us 155, us 156, us 157, us 158, us 159, us 160, us 161, us 162, us 163, us 164, us 165, us 166, us 167, us 168, us 169, us 170, us 171, us 172, us 173, us 174, us 175, us 176, us 177, us 178, us 179, us 180, us 181, us 182, us 183, us 184, us 185, us 186, us 187, us 188, us 189, us 190, us 191, .int .i64 a0, .int .i64 i, .bool true, .bool true, .int .i64 i, .int .i64 md, .bool true, .bool true, .slice (some ⟨gx, 0, none⟩) n cx, .int .i64 a0, .int .i64 i, .int .i64 md, .func (.func 54) #[] #[.pointer (some ⟨bx, 0, none⟩)], .tuple #[], us 206, us 207, us 208, us 209, us 210, us 211, us 212, us 213, us 214, us 215, us 216, us 217, us 218, us 219] : Array Value).getD us_ undef, rfl, C0, FX, SL, Lib.hid (by have h := OX.out; exact h), Lib.hid (HM1.out), Lib.hid (by rw [HM1.out.1.length_eq, List.length_append])⟩)
                · have hw := Lib.hid h
                  clear h
                  have D194 := Lib.hid (show i ≤ a0 by have := HM.out; have := HN.out; have h8 := HLN.out; simp only [List.length_append] at h8; have := LL.out; have := LA.out; have := LB.out; have := LE.out; have := hw.out; omega)
                  have hz : A1 = [] := List.eq_nil_of_length_eq_zero hw.out
                  refine s_ (fun K147 hK147 => ?_)
                  refine pu_ (v := .int .i64 a0) (y_move rfl (by rfl) (by rfl)) ?_
                  (try simp only [zP, zN, zA, zB, zC])
                  refine pu_ (v := .int .i64 i) (y_move rfl (by rfl) (by rfl)) ?_
                  (try simp only [zP, zN, zA, zB, zC])
                  refine pu_ (v := .bool false) (y_run (by rfl) (fun W => by have d := D194.out; go_simp)) ?_
                  (try simp only [zP, zN, zA, zB, zC])
                  refine pu_ (v := .bool false) (y_move rfl (by rfl) (by rfl)) ?_
                  (try simp only [zP, zN, zA, zB, zC])
                  refine pu_ (y_off (by rfl)) ?_
                  (try simp only [zP, zN, zA, zB, zC])
                  refine pu_ (y_off (by rfl)) ?_
                  (try simp only [zP, zN, zA, zB, zC])
                  refine pu_ (y_off (by rfl)) ?_
                  (try simp only [zP, zN, zA, zB, zC])
                  refine pu_ (v := .bool false) (y_pick (t := false) (by rfl) rfl (by rfl) (by rfl)) ?_
                  (try simp only [zP, zN, zA, zB, zC])
                  refine nl_ (hK147 _ _ ?_); clear hK147 K147
                  refine wp_cond_false rfl ?_
                  refine wp_skip ?_
                  exact th_norm (hK140 _ _ ⟨A1 ++ B1, fun us_ => (#[.slice (some ⟨gx, 0, none⟩) n cx, .int .i64 a0, .int .i64 m0, .int .i64 b0, .func (.func 54) #[] #[.pointer (some ⟨bx, 0, none⟩)], us 5, us 6, us 7, us 8, us 9, us 10, us 11, us 12, us 13, us 14, us 15, us 16, us 17, .int .i64 md, us 19, .int .i64 i, us 21, us 22, us 23, .int .i64 en_, us 25, us 26, us 27, us 28, us 29, us 30, us 31, us 32, us 33, us 34, us 35, us 36, us 37, us 38, us 39, us 40, us 41, us 42, us 43, us 44, us 45, us 46, us 47, us 48, us 49, us 50, us 51, us 52, us 53, us 54, us 55, us 56, us 57, us 58, us 59, us 60, us 61, us 62, us 63, us 64, us 65, us 66, us 67, us 68, us 69, us 70, us 71, us 72, us 73, us 74, us 75, us 76, us 77, us 78, us 79, us 80, us 81, us 82, us 83, us 84, us 85, us 86, us 87, us 88, us 89, us 90, us 91, us 92, us 93, us 94, us 95, us 96, us 97, us 98, us 99, us 100, us 101, us 102, us 103, us 104, us 105, us 106, us 107, us 108, us 109, us 110, us 111, us 112, us 113, us 114, us 115, us 116, us 117, us 118, us 119, us 120, us 121, us 122, us 123, us 124, us 125, us 126, us 127, us 128, us 129, us 130, us 131, us 132, us 133, us 134, us 135, us 136, us 137, us 138, us 139, us 140, us 141, us 142, us 143, us 144, us 145, us 146, us 147, us 148, us 149, us 150, us 151, us 152, us 153, us 154, us 155, us 156, us 157, us 158, us 159, us 160, us 161, us 162, us 163, us 164, us 165, us 166, us 167, us 168, us 169, us 170, us 171, us 172, us 173, us 174, us 175, us 176, us 177, us 178, us 179, us 180, us 181, us 182, us 183, us 184, us 185, us 186, us 187, us 188, us 189, us 190, us 191, .int .i64 a0, .int .i64 i, .bool false, .bool false, undef, undef, undef, .bool false, us 200, us 201, us 202, us 203, us 204, us 205, us 206, us 207, us 208, us 209, us 210, us 211, us 212, us 213, us 214, us 215, us 216, us 217, us 218, us 219] : Array Value).getD us_ undef, rfl, C0, FX, SL, Lib.hid (by have h := OX.out; rw [hz] at h ⊢; simpa using h), Lib.hid (⟨List.Perm.refl _, by rw [hz, List.nil_append]; exact (by have h := HSB.out; rw [EB.out] at h; exact (List.pairwise_append.1 h).1)⟩), Lib.hid (by rw [List.length_append])⟩)
                · have hw := Lib.hid h
                  clear h
                  have D194 := Lib.hid (show a0 < i by have := HM.out; have := HN.out; have h8 := HLN.out; simp only [List.length_append] at h8; have := LL.out; have := LA.out; have := LB.out; have := LE.out; have := hw.out; omega)
                  have hz : B1 = [] := List.eq_nil_of_length_eq_zero hw.out.2
                  have D198 := Lib.hid (show md ≤ i by have := HM.out; have := HN.out; have h8 := HLN.out; simp only [List.length_append] at h8; have := LL.out; have := LA.out; have := LB.out; have := LE.out; have := hw.out; omega)
                  refine s_ (fun K148 hK148 => ?_)
                  refine pu_ (v := .int .i64 a0) (y_move rfl (by rfl) (by rfl)) ?_
                  (try simp only [zP, zN, zA, zB, zC])
                  refine pu_ (v := .int .i64 i) (y_move rfl (by rfl) (by rfl)) ?_
                  (try simp only [zP, zN, zA, zB, zC])
                  refine pu_ (v := .bool true) (y_run (by rfl) (fun W => by have d := D194.out; go_simp)) ?_
                  (try simp only [zP, zN, zA, zB, zC])
                  refine pu_ (v := .bool true) (y_move rfl (by rfl) (by rfl)) ?_
                  (try simp only [zP, zN, zA, zB, zC])
                  refine pu_ (v := .int .i64 i) (y_move rfl (by rfl) (by rfl)) ?_
                  (try simp only [zP, zN, zA, zB, zC])
                  refine pu_ (v := .int .i64 md) (y_move rfl (by rfl) (by rfl)) ?_
                  (try simp only [zP, zN, zA, zB, zC])
                  refine pu_ (v := .bool false) (y_run (by rfl) (fun W => by have d := D198.out; go_simp)) ?_
                  (try simp only [zP, zN, zA, zB, zC])
                  refine pu_ (v := .bool false) (y_pick (t := true) (by rfl) rfl (by rfl) (by rfl)) ?_
                  (try simp only [zP, zN, zA, zB, zC])
                  refine nl_ (hK148 _ _ ?_); clear hK148 K148
                  refine wp_cond_false rfl ?_
                  refine wp_skip ?_
                  exact th_norm (hK140 _ _ ⟨A1 ++ B1, fun us_ => (#[.slice (some ⟨gx, 0, none⟩) n cx, .int .i64 a0, .int .i64 m0, .int .i64 b0, .func (.func 54) #[] #[.pointer (some ⟨bx, 0, none⟩)], us 5, us 6, us 7, us 8, us 9, us 10, us 11, us 12, us 13, us 14, us 15, us 16, us 17, .int .i64 md, us 19, .int .i64 i, us 21, us 22, us 23, .int .i64 en_, us 25, us 26, us 27, us 28, us 29, us 30, us 31, us 32, us 33, us 34, us 35, us 36, us 37, us 38, us 39, us 40, us 41, us 42, us 43, us 44, us 45, us 46, us 47, us 48, us 49, us 50, us 51, us 52, us 53, us 54, us 55, us 56, us 57, us 58, us 59, us 60, us 61, us 62, us 63, us 64, us 65, us 66, us 67, us 68, us 69, us 70, us 71, us 72, us 73, us 74, us 75, us 76, us 77, us 78, us 79, us 80, us 81, us 82, us 83, us 84, us 85, us 86, us 87, us 88, us 89, us 90, us 91, us 92, us 93, us 94, us 95, us 96, us 97, us 98, us 99, us 100, us 101, us 102, us 103, us 104, us 105, us 106, us 107, us 108, us 109, us 110, us 111, us 112, us 113, us 114, us 115, us 116, us 117, us 118, us 119, us 120, us 121, us 122, us 123, us 124, us 125, us 126, us 127, us 128, us 129, us 130, us 131, us 132, us 133, us 134, us 135, us 136, us 137, us 138, us 139, us 140, us 141, us 142, us 143, us 144, us 145, us 146, us 147, us 148, us 149, us 150, us 151, us 152, us 153, us 154, us 155, us 156, us 157, us 158, us 159, us 160, us 161, us 162, us 163, us 164, us 165, us 166, us 167, us 168, us 169, us 170, us 171, us 172, us 173, us 174, us 175, us 176, us 177, us 178, us 179, us 180, us 181, us 182, us 183, us 184, us 185, us 186, us 187, us 188, us 189, us 190, us 191, .int .i64 a0, .int .i64 i, .bool true, .bool true, .int .i64 i, .int .i64 md, .bool false, .bool false, us 200, us 201, us 202, us 203, us 204, us 205, us 206, us 207, us 208, us 209, us 210, us 211, us 212, us 213, us 214, us 215, us 216, us 217, us 218, us 219] : Array Value).getD us_ undef, rfl, C0, FX, SL, Lib.hid (by have h := OX.out; rw [hz] at h ⊢; simpa using h), Lib.hid (⟨List.Perm.refl _, by rw [hz, List.append_nil]; exact (by have h := HSA.out; rw [EA.out] at h; exact (List.pairwise_append.1 h).1)⟩), Lib.hid (by rw [List.length_append])⟩)
              rintro _ w141 ⟨M1, us, rfl, C0, FX, SL, OX, HM1, HL1⟩
              rcases two_ways A2 B2 with h | h | h
              · have hw := Lib.hid h
                clear h
                have D208 := Lib.hid (show md < en_ by have := HM.out; have := HN.out; have h8 := HLN.out; simp only [List.length_append] at h8; have := LL.out; have := LA.out; have := LB.out; have := LE.out; have := hw.out; omega)
                have D212 := Lib.hid (show en_ < b0 by have := HM.out; have := HN.out; have h8 := HLN.out; simp only [List.length_append] at h8; have := LL.out; have := LA.out; have := LB.out; have := LE.out; have := hw.out; omega)
                refine s_ (fun K149 hK149 => ?_)
                refine pu_ (v := .int .i64 md) (y_move rfl (by rfl) (by rfl)) ?_
                (try simp only [zP, zN, zA, zB, zC])
                refine pu_ (v := .int .i64 en_) (y_move rfl (by rfl) (by rfl)) ?_
                (try simp only [zP, zN, zA, zB, zC])
                refine pu_ (v := .bool true) (y_run (by rfl) (fun W => by have d := D208.out; go_simp)) ?_
                (try simp only [zP, zN, zA, zB, zC])
                refine pu_ (v := .bool true) (y_move rfl (by rfl) (by rfl)) ?_
                (try simp only [zP, zN, zA, zB, zC])
                refine pu_ (v := .int .i64 en_) (y_move rfl (by rfl) (by rfl)) ?_
                (try simp only [zP, zN, zA, zB, zC])
                refine pu_ (v := .int .i64 b0) (y_move rfl (by rfl) (by rfl)) ?_
                (try simp only [zP, zN, zA, zB, zC])
                refine pu_ (v := .bool true) (y_run (by rfl) (fun W => by have d := D212.out; go_simp)) ?_
                (try simp only [zP, zN, zA, zB, zC])
                refine pu_ (v := .bool true) (y_pick (t := true) (by rfl) rfl (by rfl) (by rfl)) ?_
                (try simp only [zP, zN, zA, zB, zC])
                refine nl_ (hK149 _ _ ?_); clear hK149 K149
                refine wp_cond_true rfl ?_
                refine r_ ?_
                refine pu_ (v := .slice (some ⟨gx, 0, none⟩) n cx) (y_move rfl (by rfl) (by rfl)) ?_
                (try simp only [zP, zN, zA, zB, zC])
                refine pu_ (v := .int .i64 md) (y_move rfl (by rfl) (by rfl)) ?_
                (try simp only [zP, zN, zA, zB, zC])
                refine pu_ (v := .int .i64 en_) (y_move rfl (by rfl) (by rfl)) ?_
                (try simp only [zP, zN, zA, zB, zC])
                refine pu_ (v := .int .i64 b0) (y_move rfl (by rfl) (by rfl)) ?_
                (try simp only [zP, zN, zA, zB, zC])
                refine pu_ (v := .func (.func 54) #[] #[.pointer (some ⟨bx, 0, none⟩)]) (y_move rfl (by rfl) (by rfl)) ?_
                (try simp only [zP, zN, zA, zB, zC])
                refine ef_ (fun K150 hK150 => ?_)
                refine e_call Try.func68 (by kernel_rfl) rfl #[.slice (some ⟨gx, 0, none⟩) n cx, .int .i64 md, .int .i64 en_, .int .i64 b0, .func (.func 54) #[] #[.pointer (some ⟨bx, 0, none⟩)]] (by rfl) rfl rfl (by first | rfl | (simp only [List.map_toArray, List.map_cons, List.map_nil]; first | done | rfl)) ((ih (U := U ++ M1) (A := A2) (B := B2) (T := T) (a0 := md) (m0 := en_) (b0 := b0) (Lib.hid (by have := HM.out; have := HN.out; have h8 := HLN.out; simp only [List.length_append] at h8; have := LL.out; have := LA.out; have := LB.out; have := LE.out; have := hw.out; (try rw [List.length_append]); (try have := HL1.out); omega)) HN (Lib.hid (fun z hz => HIN.out z (by rw [EA.out, EB.out]; simp only [List.mem_append] at hz ⊢; rcases hz with hz | hz <;> simp [hz]))) (Lib.hid (by have h := HSA.out; rw [EA.out] at h; exact (List.pairwise_append.1 h).2.1)) (Lib.hid (by have h := HSB.out; rw [EB.out] at h; exact (List.pairwise_append.1 h).2.1)) (Lib.hid (ahead_sub HAH.out (fun x hx => by rw [EA.out]; simp [hx]) (fun x hx => by rw [EB.out]; simp [hx]))) HXR FX SL (Lib.hid (by have h := OX.out; rw [show U ++ (M1 ++ (A2 ++ (B2 ++ T))) = (U ++ M1) ++ (A2 ++ (B2 ++ T)) by simp] at h; exact h)) (Lib.hid (by have := HNN.out; have := LA.out; have := LB.out; have := hA1.out; have := hB1.out; have := HM.out; have := LL.out; have := HMD.out; have := Emd.out; omega)))) ?_
                rintro en w153 ⟨rfl, M2, M20, O152, cc151⟩
                refine ⟨_, rfl, ?_⟩
                have C0' := Lib.hid (show Ch (rl (.slice (some ⟨gx, 0, none⟩) n cx)) w w153 from C0.out.trans' cc151 (fun x hx => .inl hx))
                have FX' := Lib.hid (show Blk w153 bx (#[.slice (some a) L.length c]) 45 from cc151.blk FX.out (OX.out.ne FX.out (by decide)))
                have SL' := Lib.hid (show SrcIs w153 (.slice (some a) L.length c) (L.length) ((L).flatMap opC) 28 from SL.out.chx cc151 HXR.out)
                clear C0 FX SL
                have C0 := C0'; clear C0'
                have FX := FX'; clear FX'
                have SL := SL'; clear SL'
                clear OX
                clear cc151
                have OX := Lib.hid (show OwnS w153 base 3 1 (.slice (some ⟨gx, 0, none⟩) n cx) (n) (((U ++ M1) ++ (M2 ++ T)).map vi) from O152)
                have HM2 := Lib.hid M20; clear M20
                refine hK150 _ _ ?_; clear hK150 K150
                (try simp only [zP, zN, zA, zB, zC])
                refine nl_ ?_
                refine hQ _ _ _ ?_
                refine bodyPost_end (res0 rfl) rfl ?_
                exact ⟨rfl, M1 ++ (M2), by rw [EA.out, EB.out]; exact merge_parts (by rw [← EA.out]; exact HSA.out) (by rw [← EB.out]; exact HSB.out) (by rw [← EA.out, ← EB.out]; exact HAH.out) HC1.out HC2.out HM1.out (HM2.out), by have h := OX.out; rw [show (U ++ M1) ++ (M2 ++ T) = U ++ ((M1 ++ M2) ++ T) by simp] at h; exact h, C0.out⟩
              · have hw := Lib.hid h
                clear h
                have D208 := Lib.hid (show en_ ≤ md by have := HM.out; have := HN.out; have h8 := HLN.out; simp only [List.length_append] at h8; have := LL.out; have := LA.out; have := LB.out; have := LE.out; have := hw.out; omega)
                have hz : A2 = [] := List.eq_nil_of_length_eq_zero hw.out
                refine s_ (fun K154 hK154 => ?_)
                refine pu_ (v := .int .i64 md) (y_move rfl (by rfl) (by rfl)) ?_
                (try simp only [zP, zN, zA, zB, zC])
                refine pu_ (v := .int .i64 en_) (y_move rfl (by rfl) (by rfl)) ?_
                (try simp only [zP, zN, zA, zB, zC])
                refine pu_ (v := .bool false) (y_run (by rfl) (fun W => by have d := D208.out; go_simp)) ?_
                (try simp only [zP, zN, zA, zB, zC])
                refine pu_ (v := .bool false) (y_move rfl (by rfl) (by rfl)) ?_
                (try simp only [zP, zN, zA, zB, zC])
                refine pu_ (y_off (by rfl)) ?_
                (try simp only [zP, zN, zA, zB, zC])
                refine pu_ (y_off (by rfl)) ?_
                (try simp only [zP, zN, zA, zB, zC])
                refine pu_ (y_off (by rfl)) ?_
                (try simp only [zP, zN, zA, zB, zC])
                refine pu_ (v := .bool false) (y_pick (t := false) (by rfl) rfl (by rfl) (by rfl)) ?_
                (try simp only [zP, zN, zA, zB, zC])
                refine nl_ (hK154 _ _ ?_); clear hK154 K154
                refine wp_cond_false rfl ?_
                refine wp_skip ?_
                refine hQ _ _ _ ?_
                refine bodyPost_end (res0 rfl) rfl ?_
                exact ⟨rfl, M1 ++ (A2 ++ B2), by rw [EA.out, EB.out]; exact merge_parts (by rw [← EA.out]; exact HSA.out) (by rw [← EB.out]; exact HSB.out) (by rw [← EA.out, ← EB.out]; exact HAH.out) HC1.out HC2.out HM1.out (⟨List.Perm.refl _, by rw [hz, List.nil_append]; exact (by have h := HSB.out; rw [EB.out] at h; exact (List.pairwise_append.1 h).2.1)⟩), by have h := OX.out; rw [show U ++ (M1 ++ (A2 ++ (B2 ++ T))) = U ++ ((M1 ++ (A2 ++ B2)) ++ T) by simp] at h; exact h, C0.out⟩
              · have hw := Lib.hid h
                clear h
                have D208 := Lib.hid (show md < en_ by have := HM.out; have := HN.out; have h8 := HLN.out; simp only [List.length_append] at h8; have := LL.out; have := LA.out; have := LB.out; have := LE.out; have := hw.out; omega)
                have hz : B2 = [] := List.eq_nil_of_length_eq_zero hw.out.2
                have D212 := Lib.hid (show b0 ≤ en_ by have := HM.out; have := HN.out; have h8 := HLN.out; simp only [List.length_append] at h8; have := LL.out; have := LA.out; have := LB.out; have := LE.out; have := hw.out; omega)
                refine s_ (fun K155 hK155 => ?_)
                refine pu_ (v := .int .i64 md) (y_move rfl (by rfl) (by rfl)) ?_
                (try simp only [zP, zN, zA, zB, zC])
                refine pu_ (v := .int .i64 en_) (y_move rfl (by rfl) (by rfl)) ?_
                (try simp only [zP, zN, zA, zB, zC])
                refine pu_ (v := .bool true) (y_run (by rfl) (fun W => by have d := D208.out; go_simp)) ?_
                (try simp only [zP, zN, zA, zB, zC])
                refine pu_ (v := .bool true) (y_move rfl (by rfl) (by rfl)) ?_
                (try simp only [zP, zN, zA, zB, zC])
                refine pu_ (v := .int .i64 en_) (y_move rfl (by rfl) (by rfl)) ?_
                (try simp only [zP, zN, zA, zB, zC])
                refine pu_ (v := .int .i64 b0) (y_move rfl (by rfl) (by rfl)) ?_
                (try simp only [zP, zN, zA, zB, zC])
                refine pu_ (v := .bool false) (y_run (by rfl) (fun W => by have d := D212.out; go_simp)) ?_
                (try simp only [zP, zN, zA, zB, zC])
                refine pu_ (v := .bool false) (y_pick (t := true) (by rfl) rfl (by rfl) (by rfl)) ?_
                (try simp only [zP, zN, zA, zB, zC])
                refine nl_ (hK155 _ _ ?_); clear hK155 K155
                refine wp_cond_false rfl ?_
                refine wp_skip ?_
                refine hQ _ _ _ ?_
                refine bodyPost_end (res0 rfl) rfl ?_
                exact ⟨rfl, M1 ++ (A2 ++ B2), by rw [EA.out, EB.out]; exact merge_parts (by rw [← EA.out]; exact HSA.out) (by rw [← EB.out]; exact HSB.out) (by rw [← EA.out, ← EB.out]; exact HAH.out) HC1.out HC2.out HM1.out (⟨List.Perm.refl _, by rw [hz, List.append_nil]; exact (by have h := HSA.out; rw [EA.out] at h; exact (List.pairwise_append.1 h).2.1)⟩), by have h := OX.out; rw [show U ++ (M1 ++ (A2 ++ (B2 ++ T))) = U ++ ((M1 ++ (A2 ++ B2)) ++ T) by simp] at h; exact h, C0.out⟩
end
end Go.Proofs.Ytggcpbnlblbpjaa.L
