/- The walks of the sort that is stable. -/
import Derived.Test.YtggcpbnlblbpjaaLineS
namespace Go.Proofs.Ytggcpbnlblbpjaa.L
open Go Go.RowKit Go.Proofs.Ytggcpbnlblbpjaa.K Go.Proofs.Ytggcpbnlblbpjaa.H Go.Proofs.YtggcpbnlblbpjaaW.PrintLast
set_option linter.unusedVariables false
set_option linter.unusedSimpArgs false
set_option maxRecDepth 100000
set_option maxHeartbeats 1600000
section
variable {w : World}
theorem swapr_ {bx : Nat} {gx cx n base : Nat} {U A V B T : List Int} {p1 q1 m1 : Nat} (HN : Hid (n ≤ 1000)) (HAB : Hid (A.length = B.length ∧ 0 < B.length)) (HP : Hid (p1 = U.length ∧ q1 = U.length + B.length + V.length ∧ m1 = B.length)) (OX : Hid (OwnS w base 3 1 (.slice (some ⟨gx, 0, none⟩) n cx) (n) ((U ++ (A ++ (V ++ (B ++ T)))).map vi))) :
    Calls Try.prog 70 #[.slice (some ⟨gx, 0, none⟩) n cx, .int .i64 p1, .int .i64 q1, .int .i64 m1, .func (.func 54) #[] #[.pointer (some ⟨bx, 0, none⟩)]] w fun en w' => en = .returned (.tuple #[]) ∧ OwnS w' base 3 1 (.slice (some ⟨gx, 0, none⟩) n cx) n ((U ++ (B ++ (V ++ (A ++ T)))).map vi) ∧ Ch (rl (.slice (some ⟨gx, 0, none⟩) n cx)) w w' := by
  have C0 := Lib.hid (Ch.refl (rl (.slice (some ⟨gx, 0, none⟩) n cx)) w)
  have BC := Lib.hid (show n ≤ cx by obtain ⟨_, _, he, hc, _⟩ := OX.out.slice; injection he with _ _ e3; rw [e3]; exact hc)
  have HLN := Lib.hid (show (U ++ (A ++ (V ++ (B ++ T)))).length = n by have h := OX.out.1; rw [List.length_map, Nat.mul_one] at h; exact h)
  go_enter Try.func70, Try.ntmps70
  refine q_ (fun Q hQ hP => ?_)
  refine s_ (fun K1 hK1 => ?_)
  refine pu_ (v := .int .i64 0) (y_assign rfl (by rfl) (by rfl)) ?_
  (try simp only [zP, zN, zA, zB, zC])
  refine nl_ (hK1 _ _ ?_); clear hK1 K1
  refine wp_block ?_
  refine loopk_ (fun (kq : Nat) (a' : Act) (w' : World) => ∃ (k : Nat), ∃ (us : Nat → Value), a' = ⟨#[.slice (some ⟨gx, 0, none⟩) n cx, .int .i64 p1, .int .i64 q1, .int .i64 m1, us 4, us 5, us 6, us 7, us 8, us 9, .int .i64 k, us 11, us 12, us 13, us 14, us 15, us 16, us 17, us 18, us 19, us 20, us 21, us 22, us 23, us 24, us 25, us 26, us 27, us 28, us 29, us 30, us 31, us 32, us 33, us 34, us 35, us 36, us 37], []⟩ ∧ Hid (Ch (rl (.slice (some ⟨gx, 0, none⟩) n cx)) w w') ∧ Hid (OwnS w' base 3 1 (.slice (some ⟨gx, 0, none⟩) n cx) (n) ((rowK U A V B T k).map vi)) ∧ Hid (k ≤ B.length ∧ kq + k = B.length)) (B.length) (⟨0, fun us_ => (#[.slice (some ⟨gx, 0, none⟩) n cx, .int .i64 p1, .int .i64 q1, .int .i64 m1, .func (.func 54) #[] #[.pointer (some ⟨bx, 0, none⟩)], undef, undef, undef, undef, undef, .int .i64 0, undef, undef, undef, undef, undef, undef, undef, undef, undef, undef, undef, undef, undef, undef, undef, undef, undef, undef, undef, undef, undef, undef, undef, undef, undef, undef, undef] : Array Value).getD us_ undef, rfl, C0, Lib.hid (by have h := OX.out; rw [← rowK_zero U A V B T] at h; exact h), Lib.hid ⟨by omega, by omega⟩⟩) ?_
  rintro kq _ w2 ⟨k, us, rfl, C0, OX, hk⟩ K3 hK3
  refine sq_ (fun K4 hK4 => ?_)
  rcases Nat.lt_or_ge k B.length with h | h
  · have hlt := Lib.hid h
    obtain ⟨x, y, U1, V1, T1, e10, e20, hu0, hv0, -, -⟩ := rowK_step U A V B T HAB.out.1 h
    have e1 := Lib.hid e10; have e2 := Lib.hid e20; have hu := Lib.hid hu0; have hv := Lib.hid hv0; clear h e10 e20 hu0 hv0
    have D13 := Lib.hid (show (k : Int) < (m1 : Int) by have := hlt.out; have := HP.out; omega)
    have Wk := Lib.hid (show IntKind.i64.wrap ((k : Int) + 1) = ((k + 1 : Nat) : Int) by rw [wr64 (by have := hlt.out; have := HN.out; have := HLN.out; simp only [List.length_append] at this; omega)]; omega)
    obtain ⟨p, hp⟩ : ∃ x, x = p1 + k := ⟨_, rfl⟩
    have Ep := Lib.hid hp; clear hp
    have Wp := Lib.hid (show IntKind.i64.wrap ((p1 : Int) + (k : Int)) = (p : Int) by rw [wr64 (by have := Ep.out; have := HP.out; have := HN.out; have := hlt.out; have h8 := HLN.out; simp only [List.length_append] at h8; have := HAB.out; omega)]; have := Ep.out; have := HP.out; have := HN.out; have := hlt.out; have h8 := HLN.out; simp only [List.length_append] at h8; have := HAB.out; omega)
    obtain ⟨q, hq⟩ : ∃ x, x = q1 + k := ⟨_, rfl⟩
    have Eq := Lib.hid hq; clear hq
    have Wq := Lib.hid (show IntKind.i64.wrap ((q1 : Int) + (k : Int)) = (q : Int) by rw [wr64 (by have := Eq.out; have := HP.out; have := HN.out; have := hlt.out; have h8 := HLN.out; simp only [List.length_append] at h8; have := HAB.out; omega)]; have := Eq.out; have := HP.out; have := HN.out; have := hlt.out; have h8 := HLN.out; simp only [List.length_append] at h8; have := HAB.out; omega)
    have Bp := Lib.hid (show (p : Int) < (n : Int) by have := Ep.out; have := HP.out; have := HN.out; have := hlt.out; have h8 := HLN.out; simp only [List.length_append] at h8; have := HAB.out; omega)
    have Bq := Lib.hid (show (q : Int) < (n : Int) by have := Eq.out; have := HP.out; have := HN.out; have := hlt.out; have h8 := HLN.out; simp only [List.length_append] at h8; have := HAB.out; omega)
    have PE := Lib.hid (show p = (U1).length by have := Ep.out; have := hu.out; have := HP.out; omega)
    have QE := Lib.hid (show q = (U1).length + 1 + (V1).length by have := Eq.out; have := hv.out; have := HP.out; omega)
    have OX' := Lib.hid (show OwnS w2 base 3 1 (.slice (some ⟨gx, 0, none⟩) n cx) (n) ((U1 ++ x :: (V1 ++ y :: T1)).map vi) from by have h := OX.out; rw [e1.out] at h; exact h); clear OX; have OX := OX'; clear OX'
    refine s_ (fun K5 hK5 => ?_)
    refine pu_ (v := .int .i64 k) (y_move rfl (by rfl) (by rfl)) ?_
    (try simp only [zP, zN, zA, zB, zC])
    refine pu_ (v := .int .i64 m1) (y_move rfl (by rfl) (by rfl)) ?_
    (try simp only [zP, zN, zA, zB, zC])
    refine pu_ (v := .bool true) (y_run (by rfl) (fun W => by have d := D13.out; go_simp)) ?_
    (try simp only [zP, zN, zA, zB, zC])
    refine nl_ (hK5 _ _ ?_); clear hK5 K5
    refine wp_cond_true rfl ?_
    refine wp_skip ?_
    refine th_norm (hK4 _ _ ?_); try clear hK4 K4
    refine sq_ (fun K6 hK6 => ?_)
    refine wp_block ?_
    refine startk_ (S := fun W => OwnS W base 3 1 (.slice (some ⟨gx, 0, none⟩) n cx) (n) ((U1 ++ x :: (V1 ++ y :: T1)).map vi) ∧ True) (ds := [21, 23]) #[false, false, false, false, false, false, false, false, false, false, false, false, false, false, false, false, false, false, false, false, false, false, false, false] (by kernel_rfl) rfl rfl (fun W c => ⟨OX.out.ch c rnin_nil, trivial⟩) (fun w7 C8 hS9 => ?_)
    have C0' := Lib.hid (show Ch (rl (.slice (some ⟨gx, 0, none⟩) n cx)) w w7 from C0.out.trans' C8 (fun x hx => absurd hx (by simp)))
    have OX' := Lib.hid (show OwnS w7 base 3 1 (.slice (some ⟨gx, 0, none⟩) n cx) (n) ((U1 ++ x :: (V1 ++ y :: T1)).map vi) from OX.out.ch C8 rnin_nil)
    clear C0 OX
    have C0 := C0'; clear C0'
    have OX := OX'; clear OX'
    clear C8
    refine pure_ (i := 0) (N := some 16) (v := .slice (some ⟨gx, 0, none⟩) n cx) #[true, false, false, false, false, false, false, false, false, false, false, false, false, false, false, false, false, false, false, false, false, false, false, false] rfl rfl (by kernel_rfl) (fun c a w h => hP c a _ _ w h) (y_move rfl (by rfl) (by rfl)) rfl ?_
    (try simp only [zP, zN, zA, zB, zC])
    refine pure_ (i := 1) (N := some 17) (v := .int .i64 p1) #[true, true, false, false, false, false, false, false, false, false, false, false, false, false, false, false, false, false, false, false, false, false, false, false] rfl rfl (by kernel_rfl) (fun c a w h => hP c a _ _ w h) (y_move rfl (by rfl) (by rfl)) rfl ?_
    (try simp only [zP, zN, zA, zB, zC])
    refine pure_ (i := 2) (N := some 18) (v := .int .i64 k) #[true, true, true, false, false, false, false, false, false, false, false, false, false, false, false, false, false, false, false, false, false, false, false, false] rfl rfl (by kernel_rfl) (fun c a w h => hP c a _ _ w h) (y_move rfl (by rfl) (by rfl)) rfl ?_
    (try simp only [zP, zN, zA, zB, zC])
    refine pure_ (i := 3) (N := some 19) (v := .int .i64 p) #[true, true, true, true, false, false, false, false, false, false, false, false, false, false, false, false, false, false, false, false, false, false, false, false] rfl rfl (by kernel_rfl) (fun c a w h => hP c a _ _ w h) (y_run (by rfl) (fun W => by have d := Wp.out; go_simp)) rfl ?_
    (try simp only [zP, zN, zA, zB, zC])
    refine pure_ (i := 4) (N := some 20) (v := .slice (some ⟨gx, 0, none⟩) n cx) #[true, true, true, true, true, false, false, false, false, false, false, false, false, false, false, false, false, false, false, false, false, false, false, false] rfl rfl (by kernel_rfl) (fun c a w h => hP c a _ _ w h) (y_move rfl (by rfl) (by rfl)) rfl ?_
    (try simp only [zP, zN, zA, zB, zC])
    refine pure_ (i := 5) (N := some 21) (v := .int .i64 q1) #[true, true, true, true, true, true, false, false, false, false, false, false, false, false, false, false, false, false, false, false, false, false, false, false] rfl rfl (by kernel_rfl) (fun c a w h => hP c a _ _ w h) (y_move rfl (by rfl) (by rfl)) rfl ?_
    (try simp only [zP, zN, zA, zB, zC])
    refine pure_ (i := 6) (N := some 22) (v := .int .i64 k) #[true, true, true, true, true, true, true, false, false, false, false, false, false, false, false, false, false, false, false, false, false, false, false, false] rfl rfl (by kernel_rfl) (fun c a w h => hP c a _ _ w h) (y_move rfl (by rfl) (by rfl)) rfl ?_
    (try simp only [zP, zN, zA, zB, zC])
    refine pure_ (i := 7) (N := some 23) (v := .int .i64 q) #[true, true, true, true, true, true, true, true, false, false, false, false, false, false, false, false, false, false, false, false, false, false, false, false] rfl rfl (by kernel_rfl) (fun c a w h => hP c a _ _ w h) (y_run (by rfl) (fun W => by have d := Wq.out; go_simp)) rfl ?_
    (try simp only [zP, zN, zA, zB, zC])
    refine pure_ (i := 8) (N := some 24) (v := .slice (some ⟨gx, 0, none⟩) n cx) #[true, true, true, true, true, true, true, true, true, false, false, false, false, false, false, false, false, false, false, false, false, false, false, false] rfl rfl (by kernel_rfl) (fun c a w h => hP c a _ _ w h) (y_move rfl (by rfl) (by rfl)) rfl ?_
    (try simp only [zP, zN, zA, zB, zC])
    refine pure_ (i := 9) (N := some 25) (v := .int .i64 q1) #[true, true, true, true, true, true, true, true, true, true, false, false, false, false, false, false, false, false, false, false, false, false, false, false] rfl rfl (by kernel_rfl) (fun c a w h => hP c a _ _ w h) (y_move rfl (by rfl) (by rfl)) rfl ?_
    (try simp only [zP, zN, zA, zB, zC])
    refine pure_ (i := 10) (N := some 26) (v := .int .i64 k) #[true, true, true, true, true, true, true, true, true, true, true, false, false, false, false, false, false, false, false, false, false, false, false, false] rfl rfl (by kernel_rfl) (fun c a w h => hP c a _ _ w h) (y_move rfl (by rfl) (by rfl)) rfl ?_
    (try simp only [zP, zN, zA, zB, zC])
    refine pure_ (i := 11) (N := some 27) (v := .int .i64 q) #[true, true, true, true, true, true, true, true, true, true, true, true, false, false, false, false, false, false, false, false, false, false, false, false] rfl rfl (by kernel_rfl) (fun c a w h => hP c a _ _ w h) (y_run (by rfl) (fun W => by have d := Wq.out; go_simp)) rfl ?_
    (try simp only [zP, zN, zA, zB, zC])
    refine pure_ (i := 12) (N := some 28) (v := .pointer (some ⟨gx, q, none⟩)) #[true, true, true, true, true, true, true, true, true, true, true, true, true, false, false, false, false, false, false, false, false, false, false, false] rfl rfl (by kernel_rfl) (fun c a w h => hP c a _ _ w h) (y_run (by rfl) (fun W => by have d := Bq.out; go_simp)) rfl ?_
    (try simp only [zP, zN, zA, zB, zC])
    refine take_ (i := 13) (N := some 29) (v := .int .i64 y) #[true, true, true, true, true, true, true, true, true, true, true, true, true, true, false, false, false, false, false, false, false, false, false, false] rfl rfl (by kernel_rfl) (fun c a w h => hP c a _ _ w h) (y_load (p := ⟨gx, q, none⟩) rfl (by rfl) (by rfl) (fun W hS => run_load_one (own_cell hS.1 (by rw [QE.out]; exact row_at2 _ _ _ _ _)) Try.underlying3 rfl)) hS9 rfl ?_
    (try simp only [zP, zN, zA, zB, zC])
    refine pure_ (i := 14) (N := some 30) (v := .slice (some ⟨gx, 0, none⟩) n cx) #[true, true, true, true, true, true, true, true, true, true, true, true, true, true, true, false, false, false, false, false, false, false, false, false] rfl rfl (by kernel_rfl) (fun c a w h => hP c a _ _ w h) (y_move rfl (by rfl) (by rfl)) rfl ?_
    (try simp only [zP, zN, zA, zB, zC])
    refine pure_ (i := 15) (N := some 31) (v := .int .i64 p1) #[true, true, true, true, true, true, true, true, true, true, true, true, true, true, true, true, false, false, false, false, false, false, false, false] rfl rfl (by kernel_rfl) (fun c a w h => hP c a _ _ w h) (y_move rfl (by rfl) (by rfl)) rfl ?_
    (try simp only [zP, zN, zA, zB, zC])
    refine pure_ (i := 16) (N := some 32) (v := .int .i64 k) #[true, true, true, true, true, true, true, true, true, true, true, true, true, true, true, true, true, false, false, false, false, false, false, false] rfl rfl (by kernel_rfl) (fun c a w h => hP c a _ _ w h) (y_move rfl (by rfl) (by rfl)) rfl ?_
    (try simp only [zP, zN, zA, zB, zC])
    refine pure_ (i := 17) (N := some 33) (v := .int .i64 p) #[true, true, true, true, true, true, true, true, true, true, true, true, true, true, true, true, true, true, false, false, false, false, false, false] rfl rfl (by kernel_rfl) (fun c a w h => hP c a _ _ w h) (y_run (by rfl) (fun W => by have d := Wp.out; go_simp)) rfl ?_
    (try simp only [zP, zN, zA, zB, zC])
    refine pure_ (i := 18) (N := some 34) (v := .pointer (some ⟨gx, p, none⟩)) #[true, true, true, true, true, true, true, true, true, true, true, true, true, true, true, true, true, true, true, false, false, false, false, false] rfl rfl (by kernel_rfl) (fun c a w h => hP c a _ _ w h) (y_run (by rfl) (fun W => by have d := Bp.out; go_simp)) rfl ?_
    (try simp only [zP, zN, zA, zB, zC])
    refine take_ (i := 19) (N := some 35) (v := .int .i64 x) #[true, true, true, true, true, true, true, true, true, true, true, true, true, true, true, true, true, true, true, true, false, false, false, false] rfl rfl (by kernel_rfl) (fun c a w h => hP c a _ _ w h) (y_load (p := ⟨gx, p, none⟩) rfl (by rfl) (by rfl) (fun W hS => run_load_one (own_cell hS.1 (by rw [PE.out]; exact row_at1 _ _ _)) Try.underlying3 rfl)) hS9 rfl ?_
    (try simp only [zP, zN, zA, zB, zC])
    refine pure_ (i := 20) (N := some 36) (v := .pointer (some ⟨gx, p, none⟩)) #[true, true, true, true, true, true, true, true, true, true, true, true, true, true, true, true, true, true, true, true, true, false, false, false] rfl rfl (by kernel_rfl) (fun c a w h => hP c a _ _ w h) (y_run (by rfl) (fun W => by have d := Bp.out; go_simp)) rfl ?_
    (try simp only [zP, zN, zA, zB, zC])
    refine last_ (i := 21) (N := none) #[true, true, true, true, true, true, true, true, true, true, true, true, true, true, true, true, true, true, true, true, true, true, false, false] rfl rfl (by kernel_rfl) (by simp) (fun K10 hK10 => ?_)
    refine e_storeS1 (by rfl) rfl rfl OX.out p (.int .i64 y) (by rfl) (by rfl) (by kernel_rfl) (by have := Bp.out; omega) rfl ?_
    rintro w11 O12 C13
    have RC13 := Lib.hid (show Ch (rl (.slice (some ⟨gx, 0, none⟩) n cx)) w7 w11 from by rw [rl_some gx n cx (by have := BC.out; have := Bp.out; omega)]; exact C13)
    have C0' := Lib.hid (show Ch (rl (.slice (some ⟨gx, 0, none⟩) n cx)) w w11 from C0.out.trans' RC13.out (fun x hx => .inl hx))
    clear C0
    have C0 := C0'; clear C0'
    clear OX
    have OX := Lib.hid (show OwnS w11 base 3 1 (.slice (some ⟨gx, 0, none⟩) n cx) (n) (((U1 ++ x :: (V1 ++ y :: T1)).map vi).set p (vi y)) from O12); clear O12 C13 RC13
    refine hK10.out _ _ ?_; clear hK10 K10
    (try simp only [zP, zN, zA, zB, zC])
    refine pure_ (i := 22) (N := some 37) (v := .pointer (some ⟨gx, q, none⟩)) #[true, true, true, true, true, true, true, true, true, true, true, true, true, true, true, true, true, true, true, true, true, true, true, false] rfl rfl (by kernel_rfl) (fun c a w h => hP c a _ _ w h) (y_run (by rfl) (fun W => by have d := Bq.out; go_simp)) rfl ?_
    (try simp only [zP, zN, zA, zB, zC])
    refine last_ (i := 23) (N := none) #[true, true, true, true, true, true, true, true, true, true, true, true, true, true, true, true, true, true, true, true, true, true, true, true] rfl rfl (by kernel_rfl) (by simp) (fun K14 hK14 => ?_)
    refine e_storeS1 (by rfl) rfl rfl OX.out q (.int .i64 x) (by rfl) (by rfl) (by kernel_rfl) (by have := Bq.out; omega) rfl ?_
    rintro w15 O16 C17
    have RC17 := Lib.hid (show Ch (rl (.slice (some ⟨gx, 0, none⟩) n cx)) w11 w15 from by rw [rl_some gx n cx (by have := BC.out; have := Bq.out; omega)]; exact C17)
    have C0' := Lib.hid (show Ch (rl (.slice (some ⟨gx, 0, none⟩) n cx)) w w15 from C0.out.trans' RC17.out (fun x hx => .inl hx))
    clear C0
    have C0 := C0'; clear C0'
    clear OX
    have OX := Lib.hid (show OwnS w15 base 3 1 (.slice (some ⟨gx, 0, none⟩) n cx) (n) ((U1 ++ y :: (V1 ++ x :: T1)).map vi) from by have h := O16; rw [PE.out, QE.out, sw_12] at h; exact h); clear O16 C17 RC17
    refine hK14.out _ _ ?_; clear hK14 K14
    (try simp only [zP, zN, zA, zB, zC])
    refine done_ (by kernel_rfl) ?_
    refine ib_norm ?_
    refine th_norm (hK6 _ _ ?_); try clear hK6 K6
    refine r_ ?_
    refine pu_ (v := .int .i64 k) (y_move rfl (by rfl) (by rfl)) ?_
    (try simp only [zP, zN, zA, zB, zC])
    refine pu_ (v := .int .i64 (k + 1 : Nat)) (y_run (by rfl) (fun W => by have d := Wk.out; go_simp)) ?_
    (try simp only [zP, zN, zA, zB, zC])
    refine pu_ (v := .int .i64 (k + 1 : Nat)) (y_assign rfl (by rfl) (by rfl)) ?_
    (try simp only [zP, zN, zA, zB, zC])
    refine nl_ ?_
    exact th_norm (hK3 (kq - 1) _ _ (by have := hlt.out; have := hk.out; omega) ⟨k + 1, fun us_ => (#[.slice (some ⟨gx, 0, none⟩) n cx, .int .i64 p1, .int .i64 q1, .int .i64 m1, us 4, us 5, us 6, us 7, us 8, us 9, .int .i64 (k + 1 : Nat), .int .i64 k, .int .i64 m1, .bool true, .int .i64 k, .int .i64 (k + 1 : Nat), .slice (some ⟨gx, 0, none⟩) n cx, .int .i64 p1, .int .i64 k, .int .i64 p, .slice (some ⟨gx, 0, none⟩) n cx, .int .i64 q1, .int .i64 k, .int .i64 q, .slice (some ⟨gx, 0, none⟩) n cx, .int .i64 q1, .int .i64 k, .int .i64 q, .pointer (some ⟨gx, q, none⟩), .int .i64 y, .slice (some ⟨gx, 0, none⟩) n cx, .int .i64 p1, .int .i64 k, .int .i64 p, .pointer (some ⟨gx, p, none⟩), .int .i64 x, .pointer (some ⟨gx, p, none⟩), .pointer (some ⟨gx, q, none⟩)] : Array Value).getD us_ undef, rfl, C0, Lib.hid (by have h := OX.out; rw [← e2.out] at h; exact h), Lib.hid ⟨by have := hlt.out; omega, by have := hlt.out; have := hk.out; omega⟩⟩)
  · have D13 := Lib.hid (show ¬ k < m1 by have := HP.out; omega)
    have HE := Lib.hid (show k = B.length by have := hk.out; omega)
    clear h
    refine s_ (fun K18 hK18 => ?_)
    refine pu_ (v := .int .i64 k) (y_move rfl (by rfl) (by rfl)) ?_
    (try simp only [zP, zN, zA, zB, zC])
    refine pu_ (v := .int .i64 m1) (y_move rfl (by rfl) (by rfl)) ?_
    (try simp only [zP, zN, zA, zB, zC])
    refine pu_ (v := .bool false) (y_run (by rfl) (fun W => by have d := D13.out; go_simp)) ?_
    (try simp only [zP, zN, zA, zB, zC])
    refine nl_ (hK18 _ _ ?_); clear hK18 K18
    refine wp_cond_false rfl ?_
    refine wp_exit ?_
    refine th_exit ?_
    refine th_exit ?_
    refine ib_exit ?_
    refine hQ _ _ _ ?_
    refine bodyPost_end (res0 rfl) rfl ?_
    exact ⟨rfl, by have h := OX.out; rw [HE.out, rowK_end U A V B T HAB.out.1] at h; exact h, C0.out⟩
theorem rotate_ {bx : Nat} {gx cx n base : Nat} {U A B T : List Int} {a0 m0 b0 : Nat} (HN : Hid (n ≤ 1000)) (HM : Hid (a0 = U.length ∧ m0 = U.length + A.length ∧ b0 = U.length + A.length + B.length ∧ 0 < A.length ∧ 0 < B.length)) (OX : Hid (OwnS w base 3 1 (.slice (some ⟨gx, 0, none⟩) n cx) (n) ((U ++ (A ++ (B ++ T))).map vi))) :
    Calls Try.prog 69 #[.slice (some ⟨gx, 0, none⟩) n cx, .int .i64 a0, .int .i64 m0, .int .i64 b0, .func (.func 54) #[] #[.pointer (some ⟨bx, 0, none⟩)]] w fun en w' => en = .returned (.tuple #[]) ∧ OwnS w' base 3 1 (.slice (some ⟨gx, 0, none⟩) n cx) n ((U ++ (B ++ (A ++ T))).map vi) ∧ Ch (rl (.slice (some ⟨gx, 0, none⟩) n cx)) w w' := by
  have C0 := Lib.hid (Ch.refl (rl (.slice (some ⟨gx, 0, none⟩) n cx)) w)
  have HLN0 := Lib.hid (show (U ++ (A ++ (B ++ T))).length = n by have h := OX.out.1; rw [List.length_map, Nat.mul_one] at h; exact h)
  go_enter Try.func69, Try.ntmps69
  refine q_ (fun Q hQ hP => ?_)
  skip
  · obtain ⟨i0, hi0⟩ : ∃ x, x = m0 - a0 := ⟨_, rfl⟩
    have Ei0 := Lib.hid hi0; clear hi0
    have Wi0 := Lib.hid (show IntKind.i64.wrap ((m0 : Int) - (a0 : Int)) = (i0 : Int) by rw [wr64 (by have := Ei0.out; have := HM.out; have := HN.out; have h8 := HLN0.out; simp only [List.length_append] at h8; omega)]; have := Ei0.out; have := HM.out; have := HN.out; have h8 := HLN0.out; simp only [List.length_append] at h8; omega)
    obtain ⟨j0, hj0⟩ : ∃ x, x = b0 - m0 := ⟨_, rfl⟩
    have Ej0 := Lib.hid hj0; clear hj0
    have Wj0 := Lib.hid (show IntKind.i64.wrap ((b0 : Int) - (m0 : Int)) = (j0 : Int) by rw [wr64 (by have := Ej0.out; have := HM.out; have := HN.out; have h8 := HLN0.out; simp only [List.length_append] at h8; omega)]; have := Ej0.out; have := HM.out; have := HN.out; have h8 := HLN0.out; simp only [List.length_append] at h8; omega)
    refine s_ (fun K1 hK1 => ?_)
    refine pu_ (v := .int .i64 m0) (y_move rfl (by rfl) (by rfl)) ?_
    (try simp only [zP, zN, zA, zB, zC])
    refine pu_ (v := .int .i64 a0) (y_move rfl (by rfl) (by rfl)) ?_
    (try simp only [zP, zN, zA, zB, zC])
    refine pu_ (v := .int .i64 i0) (y_run (by rfl) (fun W => by have d := Wi0.out; go_simp)) ?_
    (try simp only [zP, zN, zA, zB, zC])
    refine pu_ (v := .int .i64 i0) (y_assign rfl (by rfl) (by rfl)) ?_
    (try simp only [zP, zN, zA, zB, zC])
    refine nl_ (hK1 _ _ ?_); clear hK1 K1
    refine s_ (fun K2 hK2 => ?_)
    refine pu_ (v := .int .i64 b0) (y_move rfl (by rfl) (by rfl)) ?_
    (try simp only [zP, zN, zA, zB, zC])
    refine pu_ (v := .int .i64 m0) (y_move rfl (by rfl) (by rfl)) ?_
    (try simp only [zP, zN, zA, zB, zC])
    refine pu_ (v := .int .i64 j0) (y_run (by rfl) (fun W => by have d := Wj0.out; go_simp)) ?_
    (try simp only [zP, zN, zA, zB, zC])
    refine pu_ (v := .int .i64 j0) (y_assign rfl (by rfl) (by rfl)) ?_
    (try simp only [zP, zN, zA, zB, zC])
    refine nl_ (hK2 _ _ ?_); clear hK2 K2
    refine sq_ (fun K3 hK3 => ?_)
    refine wp_block ?_
    refine loopk_ (fun (kq : Nat) (a' : Act) (w' : World) => ∃ (i : Nat), ∃ (j : Nat), ∃ (U1 : List Int), ∃ (A1 : List Int), ∃ (B1 : List Int), ∃ (T1 : List Int), ∃ (us : Nat → Value), a' = ⟨#[.slice (some ⟨gx, 0, none⟩) n cx, us 1, .int .i64 m0, us 3, .func (.func 54) #[] #[.pointer (some ⟨bx, 0, none⟩)], us 5, us 6, us 7, us 8, us 9, .int .i64 i, .int .i64 j, us 12, us 13, us 14, us 15, us 16, us 17, us 18, us 19, us 20, us 21, us 22, us 23, us 24, us 25, us 26, us 27, us 28, us 29, us 30, us 31, us 32, us 33, us 34, us 35, us 36, us 37, us 38, us 39, us 40, us 41, us 42, us 43, us 44, us 45, us 46, us 47, us 48, us 49, us 50, us 51, us 52, us 53, us 54, us 55, us 56, us 57], []⟩ ∧ Hid (Ch (rl (.slice (some ⟨gx, 0, none⟩) n cx)) w w') ∧ Hid (OwnS w' base 3 1 (.slice (some ⟨gx, 0, none⟩) n cx) (n) ((U1 ++ (A1 ++ (B1 ++ T1))).map vi)) ∧ Hid (U1 ++ (B1 ++ (A1 ++ T1)) = U ++ (B ++ (A ++ T))) ∧ Hid (0 < i ∧ 0 < j ∧ i = A1.length ∧ j = B1.length ∧ U1.length + i = m0 ∧ kq = i + j)) (i0 + j0) (⟨i0, j0, U, A, B, T, fun us_ => (#[.slice (some ⟨gx, 0, none⟩) n cx, .int .i64 a0, .int .i64 m0, .int .i64 b0, .func (.func 54) #[] #[.pointer (some ⟨bx, 0, none⟩)], undef, undef, undef, undef, undef, .int .i64 i0, .int .i64 j0, .int .i64 m0, .int .i64 a0, .int .i64 i0, .int .i64 b0, .int .i64 m0, .int .i64 j0, undef, undef, undef, undef, undef, undef, undef, undef, undef, undef, undef, undef, undef, undef, undef, undef, undef, undef, undef, undef, undef, undef, undef, undef, undef, undef, undef, undef, undef, undef, undef, undef, undef, undef, undef, undef, undef, undef, undef, undef] : Array Value).getD us_ undef, rfl, C0, OX, Lib.hid rfl, Lib.hid ⟨by have := HM.out; have := Ei0.out; omega, by have := HM.out; have := Ej0.out; omega, by have := HM.out; have := Ei0.out; omega, by have := HM.out; have := Ej0.out; omega, by have := HM.out; have := Ei0.out; omega, rfl⟩⟩) ?_
    rintro kq _ w4 ⟨i, j, U1, A1, B1, T1, us, rfl, C0, OX, hr, hl⟩ K5 hK5
    refine sq_ (fun K6 hK6 => ?_)
    rcases (show i = j ∨ i > j ∨ i < j by omega) with h | h | h
    · have HLN := Lib.hid (show (U1 ++ (A1 ++ (B1 ++ T1))).length = n by have h := OX.out.1; rw [List.length_map, Nat.mul_one] at h; exact h)
      have hc := Lib.hid h
      clear h
      have D20 := Lib.hid (show i = j from hc.out)
      obtain ⟨pm, hpm⟩ : ∃ x, x = m0 - i := ⟨_, rfl⟩
      have Epm := Lib.hid hpm; clear hpm
      have Wpm := Lib.hid (show IntKind.i64.wrap ((m0 : Int) - (i : Int)) = (pm : Int) by rw [wr64 (by have := Epm.out; have := hl.out; have := HN.out; have h8 := HLN.out; simp only [List.length_append] at h8; omega)]; have := Epm.out; have := hl.out; have := HN.out; have h8 := HLN.out; simp only [List.length_append] at h8; omega)
      refine s_ (fun K7 hK7 => ?_)
      refine pu_ (v := .int .i64 i) (y_move rfl (by rfl) (by rfl)) ?_
      (try simp only [zP, zN, zA, zB, zC])
      refine pu_ (v := .int .i64 j) (y_move rfl (by rfl) (by rfl)) ?_
      (try simp only [zP, zN, zA, zB, zC])
      refine pu_ (v := .bool false) (y_run (by rfl) (fun W => by have d := D20.out; go_simp)) ?_
      (try simp only [zP, zN, zA, zB, zC])
      refine nl_ (hK7 _ _ ?_); clear hK7 K7
      refine wp_cond_false rfl ?_
      refine wp_exit ?_
      refine th_exit ?_
      refine th_exit ?_
      refine ib_exit ?_
      refine th_norm (hK3 _ _ ?_); try clear hK3 K3
      refine r_ ?_
      refine pu_ (v := .slice (some ⟨gx, 0, none⟩) n cx) (y_move rfl (by rfl) (by rfl)) ?_
      (try simp only [zP, zN, zA, zB, zC])
      refine pu_ (v := .int .i64 m0) (y_move rfl (by rfl) (by rfl)) ?_
      (try simp only [zP, zN, zA, zB, zC])
      refine pu_ (v := .int .i64 i) (y_move rfl (by rfl) (by rfl)) ?_
      (try simp only [zP, zN, zA, zB, zC])
      refine pu_ (v := .int .i64 pm) (y_run (by rfl) (fun W => by have d := Wpm.out; go_simp)) ?_
      (try simp only [zP, zN, zA, zB, zC])
      refine pu_ (v := .int .i64 m0) (y_move rfl (by rfl) (by rfl)) ?_
      (try simp only [zP, zN, zA, zB, zC])
      refine pu_ (v := .int .i64 i) (y_move rfl (by rfl) (by rfl)) ?_
      (try simp only [zP, zN, zA, zB, zC])
      refine pu_ (v := .func (.func 54) #[] #[.pointer (some ⟨bx, 0, none⟩)]) (y_move rfl (by rfl) (by rfl)) ?_
      (try simp only [zP, zN, zA, zB, zC])
      refine ef_ (fun K8 hK8 => ?_)
      refine e_call Try.func70 (by kernel_rfl) rfl #[.slice (some ⟨gx, 0, none⟩) n cx, .int .i64 pm, .int .i64 m0, .int .i64 i, .func (.func 54) #[] #[.pointer (some ⟨bx, 0, none⟩)]] (by rfl) rfl rfl (by first | rfl | (simp only [List.map_toArray, List.map_cons, List.map_nil]; first | done | rfl)) ((swapr_ (bx := bx) (U := U1) (A := A1) (V := []) (B := B1) (T := T1) (p1 := pm) (q1 := m0) (m1 := i) HN (Lib.hid (by have := hc.out; have := hl.out; omega)) (Lib.hid (by have := Epm.out; have := hl.out; have := hc.out; simp only [List.length_nil]; omega)) (Lib.hid (by have h := OX.out; rw [show U1 ++ (A1 ++ (B1 ++ T1)) = U1 ++ (A1 ++ ([] ++ (B1 ++ T1))) by simp] at h; exact h)))) ?_
      rintro en w11 ⟨rfl, O10, cc9⟩
      refine ⟨_, rfl, ?_⟩
      have C0' := Lib.hid (show Ch (rl (.slice (some ⟨gx, 0, none⟩) n cx)) w w11 from C0.out.trans' cc9 (fun x hx => .inl hx))
      clear C0
      have C0 := C0'; clear C0'
      clear OX
      clear cc9
      have OX := Lib.hid (show OwnS w11 base 3 1 (.slice (some ⟨gx, 0, none⟩) n cx) (n) ((U1 ++ (B1 ++ ([] ++ (A1 ++ T1)))).map vi) from O10)
      refine hK8 _ _ ?_; clear hK8 K8
      (try simp only [zP, zN, zA, zB, zC])
      refine nl_ ?_
      refine hQ _ _ _ ?_
      refine bodyPost_end (res0 rfl) rfl ?_
      exact ⟨rfl, by have h := OX.out; rw [List.nil_append, hr.out] at h; exact h, C0.out⟩
    · have HLN := Lib.hid (show (U1 ++ (A1 ++ (B1 ++ T1))).length = n by have h := OX.out.1; rw [List.length_map, Nat.mul_one] at h; exact h)
      have hc := Lib.hid h
      clear h
      have D20 := Lib.hid (show ¬ (i : Int) = (j : Int) by have := hc.out; omega)
      have D23 := Lib.hid (show j < i by have := hc.out; omega)
      obtain ⟨A2, A3, hA, hA2⟩ : ∃ A2 A3, A1 = A2 ++ A3 ∧ A2.length = j := ⟨A1.take j, A1.drop j, (List.take_append_drop _ _).symm, by rw [List.length_take]; have := hc.out; have := hl.out; omega⟩
      have EA := Lib.hid hA; have EA2 := Lib.hid hA2; have EA3 := Lib.hid (show A1.length = j + A3.length by rw [hA, List.length_append, hA2]); clear hA hA2
      obtain ⟨pm, hpm⟩ : ∃ x, x = m0 - i := ⟨_, rfl⟩
      have Epm := Lib.hid hpm; clear hpm
      have Wpm := Lib.hid (show IntKind.i64.wrap ((m0 : Int) - (i : Int)) = (pm : Int) by rw [wr64 (by have := Epm.out; have := hl.out; have := HN.out; have h8 := HLN.out; simp only [List.length_append] at h8; omega)]; have := Epm.out; have := hl.out; have := HN.out; have h8 := HLN.out; simp only [List.length_append] at h8; omega)
      obtain ⟨i2, hi2⟩ : ∃ x, x = i - j := ⟨_, rfl⟩
      have Ei2 := Lib.hid hi2; clear hi2
      have Wi2 := Lib.hid (show IntKind.i64.wrap ((i : Int) - (j : Int)) = (i2 : Int) by rw [wr64 (by have := Ei2.out; have := hl.out; have := HN.out; have h8 := HLN.out; simp only [List.length_append] at h8; have := hc.out; omega)]; have := Ei2.out; have := hl.out; have := HN.out; have h8 := HLN.out; simp only [List.length_append] at h8; have := hc.out; omega)
      refine s_ (fun K12 hK12 => ?_)
      refine pu_ (v := .int .i64 i) (y_move rfl (by rfl) (by rfl)) ?_
      (try simp only [zP, zN, zA, zB, zC])
      refine pu_ (v := .int .i64 j) (y_move rfl (by rfl) (by rfl)) ?_
      (try simp only [zP, zN, zA, zB, zC])
      refine pu_ (v := .bool true) (y_run (by rfl) (fun W => by have d := D20.out; go_simp)) ?_
      (try simp only [zP, zN, zA, zB, zC])
      refine nl_ (hK12 _ _ ?_); clear hK12 K12
      refine wp_cond_true rfl ?_
      refine wp_skip ?_
      refine th_norm (hK6 _ _ ?_); try clear hK6 K6
      refine wp_block ?_
      refine s_ (fun K13 hK13 => ?_)
      refine pu_ (v := .int .i64 i) (y_move rfl (by rfl) (by rfl)) ?_
      (try simp only [zP, zN, zA, zB, zC])
      refine pu_ (v := .int .i64 j) (y_move rfl (by rfl) (by rfl)) ?_
      (try simp only [zP, zN, zA, zB, zC])
      refine pu_ (v := .bool true) (y_run (by rfl) (fun W => by have d := D23.out; go_simp)) ?_
      (try simp only [zP, zN, zA, zB, zC])
      refine nl_ (hK13 _ _ ?_); clear hK13 K13
      refine wp_cond_true rfl ?_
      refine s_ (fun K14 hK14 => ?_)
      refine pu_ (v := .slice (some ⟨gx, 0, none⟩) n cx) (y_move rfl (by rfl) (by rfl)) ?_
      (try simp only [zP, zN, zA, zB, zC])
      refine pu_ (v := .int .i64 m0) (y_move rfl (by rfl) (by rfl)) ?_
      (try simp only [zP, zN, zA, zB, zC])
      refine pu_ (v := .int .i64 i) (y_move rfl (by rfl) (by rfl)) ?_
      (try simp only [zP, zN, zA, zB, zC])
      refine pu_ (v := .int .i64 pm) (y_run (by rfl) (fun W => by have d := Wpm.out; go_simp)) ?_
      (try simp only [zP, zN, zA, zB, zC])
      refine pu_ (v := .int .i64 m0) (y_move rfl (by rfl) (by rfl)) ?_
      (try simp only [zP, zN, zA, zB, zC])
      refine pu_ (v := .int .i64 j) (y_move rfl (by rfl) (by rfl)) ?_
      (try simp only [zP, zN, zA, zB, zC])
      refine pu_ (v := .func (.func 54) #[] #[.pointer (some ⟨bx, 0, none⟩)]) (y_move rfl (by rfl) (by rfl)) ?_
      (try simp only [zP, zN, zA, zB, zC])
      refine ef_ (fun K15 hK15 => ?_)
      refine e_call Try.func70 (by kernel_rfl) rfl #[.slice (some ⟨gx, 0, none⟩) n cx, .int .i64 pm, .int .i64 m0, .int .i64 j, .func (.func 54) #[] #[.pointer (some ⟨bx, 0, none⟩)]] (by rfl) rfl rfl (by first | rfl | (simp only [List.map_toArray, List.map_cons, List.map_nil]; first | done | rfl)) ((swapr_ (bx := bx) (U := U1) (A := A2) (V := A3) (B := B1) (T := T1) (p1 := pm) (q1 := m0) (m1 := j) HN (Lib.hid (by have := EA2.out; have := hl.out; omega)) (Lib.hid (by have := Epm.out; have := hl.out; have := EA3.out; omega)) (Lib.hid (by have h := OX.out; rw [show U1 ++ (A1 ++ (B1 ++ T1)) = U1 ++ (A2 ++ (A3 ++ (B1 ++ T1))) by rw [EA.out]; simp] at h; exact h)))) ?_
      rintro en w18 ⟨rfl, O17, cc16⟩
      refine ⟨_, rfl, ?_⟩
      have C0' := Lib.hid (show Ch (rl (.slice (some ⟨gx, 0, none⟩) n cx)) w w18 from C0.out.trans' cc16 (fun x hx => .inl hx))
      clear C0
      have C0 := C0'; clear C0'
      clear OX
      clear cc16
      have OX := Lib.hid (show OwnS w18 base 3 1 (.slice (some ⟨gx, 0, none⟩) n cx) (n) ((U1 ++ (B1 ++ (A3 ++ (A2 ++ T1)))).map vi) from O17)
      refine hK15 _ _ ?_; clear hK15 K15
      (try simp only [zP, zN, zA, zB, zC])
      refine nl_ (hK14 _ _ ?_); clear hK14 K14
      refine r_ ?_
      refine pu_ (v := .int .i64 i) (y_move rfl (by rfl) (by rfl)) ?_
      (try simp only [zP, zN, zA, zB, zC])
      refine pu_ (v := .int .i64 j) (y_move rfl (by rfl) (by rfl)) ?_
      (try simp only [zP, zN, zA, zB, zC])
      refine pu_ (v := .int .i64 i2) (y_run (by rfl) (fun W => by have d := Wi2.out; go_simp)) ?_
      (try simp only [zP, zN, zA, zB, zC])
      refine pu_ (v := .int .i64 i2) (y_assign rfl (by rfl) (by rfl)) ?_
      (try simp only [zP, zN, zA, zB, zC])
      refine nl_ ?_
      refine ib_norm ?_
      exact th_norm (hK5 (i2 + j) _ _ (by have := hl.out; have := Ei2.out; have := hc.out; omega) ⟨i2, j, U1 ++ B1, A3, A2, T1, fun us_ => (#[.slice (some ⟨gx, 0, none⟩) n cx, us 1, .int .i64 m0, us 3, .func (.func 54) #[] #[.pointer (some ⟨bx, 0, none⟩)], us 5, us 6, us 7, us 8, us 9, .int .i64 i2, .int .i64 j, us 12, us 13, us 14, us 15, us 16, us 17, .int .i64 i, .int .i64 j, .bool true, .int .i64 i, .int .i64 j, .bool true, .slice (some ⟨gx, 0, none⟩) n cx, .int .i64 m0, .int .i64 i, .int .i64 pm, .int .i64 m0, .int .i64 j, .func (.func 54) #[] #[.pointer (some ⟨bx, 0, none⟩)], .tuple #[], .int .i64 i, .int .i64 j, .int .i64 i2, us 35, us 36, us 37, us 38, us 39, us 40, us 41, us 42, us 43, us 44, us 45, us 46, us 47, us 48, us 49, us 50, us 51, us 52, us 53, us 54, us 55, us 56, us 57] : Array Value).getD us_ undef, rfl, C0, Lib.hid (by have h := OX.out; rw [show U1 ++ (B1 ++ (A3 ++ (A2 ++ T1))) = (U1 ++ B1) ++ (A3 ++ (A2 ++ T1)) by simp] at h; exact h), Lib.hid (by rw [← hr.out, EA.out]; simp), Lib.hid (by rw [List.length_append]; have := EA3.out; have := EA2.out; have := hl.out; have := Ei2.out; have := hc.out; omega)⟩)
    · have HLN := Lib.hid (show (U1 ++ (A1 ++ (B1 ++ T1))).length = n by have h := OX.out.1; rw [List.length_map, Nat.mul_one] at h; exact h)
      have hc := Lib.hid h
      clear h
      have D20 := Lib.hid (show ¬ (i : Int) = (j : Int) by have := hc.out; omega)
      have D23 := Lib.hid (show i ≤ j by have := hc.out; omega)
      obtain ⟨B2, B3, hB, hB3⟩ : ∃ B2 B3, B1 = B2 ++ B3 ∧ B3.length = i := ⟨B1.take (B1.length - i), B1.drop (B1.length - i), (List.take_append_drop _ _).symm, by rw [List.length_drop]; have := hc.out; have := hl.out; omega⟩
      have EB := Lib.hid hB; have EB3 := Lib.hid hB3; have EB2 := Lib.hid (show B1.length = B2.length + i by rw [hB, List.length_append, hB3]); clear hB hB3
      obtain ⟨pm, hpm⟩ : ∃ x, x = m0 - i := ⟨_, rfl⟩
      have Epm := Lib.hid hpm; clear hpm
      have Wpm := Lib.hid (show IntKind.i64.wrap ((m0 : Int) - (i : Int)) = (pm : Int) by rw [wr64 (by have := Epm.out; have := hl.out; have := HN.out; have h8 := HLN.out; simp only [List.length_append] at h8; omega)]; have := Epm.out; have := hl.out; have := HN.out; have h8 := HLN.out; simp only [List.length_append] at h8; omega)
      obtain ⟨mj, hmj⟩ : ∃ x, x = m0 + j := ⟨_, rfl⟩
      have Emj := Lib.hid hmj; clear hmj
      have Wmj := Lib.hid (show IntKind.i64.wrap ((m0 : Int) + (j : Int)) = (mj : Int) by rw [wr64 (by have := Emj.out; have := hl.out; have := HN.out; have h8 := HLN.out; simp only [List.length_append] at h8; omega)]; have := Emj.out; have := hl.out; have := HN.out; have h8 := HLN.out; simp only [List.length_append] at h8; omega)
      obtain ⟨qm, hqm⟩ : ∃ x, x = mj - i := ⟨_, rfl⟩
      have Eqm := Lib.hid hqm; clear hqm
      have Wqm := Lib.hid (show IntKind.i64.wrap ((mj : Int) - (i : Int)) = (qm : Int) by rw [wr64 (by have := Eqm.out; have := hl.out; have := HN.out; have h8 := HLN.out; simp only [List.length_append] at h8; have := Emj.out; omega)]; have := Eqm.out; have := hl.out; have := HN.out; have h8 := HLN.out; simp only [List.length_append] at h8; have := Emj.out; omega)
      obtain ⟨j2, hj2⟩ : ∃ x, x = j - i := ⟨_, rfl⟩
      have Ej2 := Lib.hid hj2; clear hj2
      have Wj2 := Lib.hid (show IntKind.i64.wrap ((j : Int) - (i : Int)) = (j2 : Int) by rw [wr64 (by have := Ej2.out; have := hl.out; have := HN.out; have h8 := HLN.out; simp only [List.length_append] at h8; have := hc.out; omega)]; have := Ej2.out; have := hl.out; have := HN.out; have h8 := HLN.out; simp only [List.length_append] at h8; have := hc.out; omega)
      refine s_ (fun K19 hK19 => ?_)
      refine pu_ (v := .int .i64 i) (y_move rfl (by rfl) (by rfl)) ?_
      (try simp only [zP, zN, zA, zB, zC])
      refine pu_ (v := .int .i64 j) (y_move rfl (by rfl) (by rfl)) ?_
      (try simp only [zP, zN, zA, zB, zC])
      refine pu_ (v := .bool true) (y_run (by rfl) (fun W => by have d := D20.out; go_simp)) ?_
      (try simp only [zP, zN, zA, zB, zC])
      refine nl_ (hK19 _ _ ?_); clear hK19 K19
      refine wp_cond_true rfl ?_
      refine wp_skip ?_
      refine th_norm (hK6 _ _ ?_); try clear hK6 K6
      refine wp_block ?_
      refine s_ (fun K20 hK20 => ?_)
      refine pu_ (v := .int .i64 i) (y_move rfl (by rfl) (by rfl)) ?_
      (try simp only [zP, zN, zA, zB, zC])
      refine pu_ (v := .int .i64 j) (y_move rfl (by rfl) (by rfl)) ?_
      (try simp only [zP, zN, zA, zB, zC])
      refine pu_ (v := .bool false) (y_run (by rfl) (fun W => by have d := D23.out; go_simp)) ?_
      (try simp only [zP, zN, zA, zB, zC])
      refine nl_ (hK20 _ _ ?_); clear hK20 K20
      refine wp_cond_false rfl ?_
      refine s_ (fun K21 hK21 => ?_)
      refine pu_ (v := .slice (some ⟨gx, 0, none⟩) n cx) (y_move rfl (by rfl) (by rfl)) ?_
      (try simp only [zP, zN, zA, zB, zC])
      refine pu_ (v := .int .i64 m0) (y_move rfl (by rfl) (by rfl)) ?_
      (try simp only [zP, zN, zA, zB, zC])
      refine pu_ (v := .int .i64 i) (y_move rfl (by rfl) (by rfl)) ?_
      (try simp only [zP, zN, zA, zB, zC])
      refine pu_ (v := .int .i64 pm) (y_run (by rfl) (fun W => by have d := Wpm.out; go_simp)) ?_
      (try simp only [zP, zN, zA, zB, zC])
      refine pu_ (v := .int .i64 m0) (y_move rfl (by rfl) (by rfl)) ?_
      (try simp only [zP, zN, zA, zB, zC])
      refine pu_ (v := .int .i64 j) (y_move rfl (by rfl) (by rfl)) ?_
      (try simp only [zP, zN, zA, zB, zC])
      refine pu_ (v := .int .i64 mj) (y_run (by rfl) (fun W => by have d := Wmj.out; go_simp)) ?_
      (try simp only [zP, zN, zA, zB, zC])
      refine pu_ (v := .int .i64 i) (y_move rfl (by rfl) (by rfl)) ?_
      (try simp only [zP, zN, zA, zB, zC])
      refine pu_ (v := .int .i64 qm) (y_run (by rfl) (fun W => by have d := Wqm.out; go_simp)) ?_
      (try simp only [zP, zN, zA, zB, zC])
      refine pu_ (v := .int .i64 i) (y_move rfl (by rfl) (by rfl)) ?_
      (try simp only [zP, zN, zA, zB, zC])
      refine pu_ (v := .func (.func 54) #[] #[.pointer (some ⟨bx, 0, none⟩)]) (y_move rfl (by rfl) (by rfl)) ?_
      (try simp only [zP, zN, zA, zB, zC])
      refine ef_ (fun K22 hK22 => ?_)
      refine e_call Try.func70 (by kernel_rfl) rfl #[.slice (some ⟨gx, 0, none⟩) n cx, .int .i64 pm, .int .i64 qm, .int .i64 i, .func (.func 54) #[] #[.pointer (some ⟨bx, 0, none⟩)]] (by rfl) rfl rfl (by first | rfl | (simp only [List.map_toArray, List.map_cons, List.map_nil]; first | done | rfl)) ((swapr_ (bx := bx) (U := U1) (A := A1) (V := B2) (B := B3) (T := T1) (p1 := pm) (q1 := qm) (m1 := i) HN (Lib.hid (by have := EB3.out; have := hl.out; omega)) (Lib.hid (by have := Epm.out; have := hl.out; have := EB2.out; have := EB3.out; have := Eqm.out; have := Emj.out; omega)) (Lib.hid (by have h := OX.out; rw [show U1 ++ (A1 ++ (B1 ++ T1)) = U1 ++ (A1 ++ (B2 ++ (B3 ++ T1))) by rw [EB.out]; simp] at h; exact h)))) ?_
      rintro en w25 ⟨rfl, O24, cc23⟩
      refine ⟨_, rfl, ?_⟩
      have C0' := Lib.hid (show Ch (rl (.slice (some ⟨gx, 0, none⟩) n cx)) w w25 from C0.out.trans' cc23 (fun x hx => .inl hx))
      clear C0
      have C0 := C0'; clear C0'
      clear OX
      clear cc23
      have OX := Lib.hid (show OwnS w25 base 3 1 (.slice (some ⟨gx, 0, none⟩) n cx) (n) ((U1 ++ (B3 ++ (B2 ++ (A1 ++ T1)))).map vi) from O24)
      refine hK22 _ _ ?_; clear hK22 K22
      (try simp only [zP, zN, zA, zB, zC])
      refine nl_ (hK21 _ _ ?_); clear hK21 K21
      refine r_ ?_
      refine pu_ (v := .int .i64 j) (y_move rfl (by rfl) (by rfl)) ?_
      (try simp only [zP, zN, zA, zB, zC])
      refine pu_ (v := .int .i64 i) (y_move rfl (by rfl) (by rfl)) ?_
      (try simp only [zP, zN, zA, zB, zC])
      refine pu_ (v := .int .i64 j2) (y_run (by rfl) (fun W => by have d := Wj2.out; go_simp)) ?_
      (try simp only [zP, zN, zA, zB, zC])
      refine pu_ (v := .int .i64 j2) (y_assign rfl (by rfl) (by rfl)) ?_
      (try simp only [zP, zN, zA, zB, zC])
      refine nl_ ?_
      refine ib_norm ?_
      exact th_norm (hK5 (i + j2) _ _ (by have := hl.out; have := Ej2.out; have := hc.out; omega) ⟨i, j2, U1, B3, B2, A1 ++ T1, fun us_ => (#[.slice (some ⟨gx, 0, none⟩) n cx, us 1, .int .i64 m0, us 3, .func (.func 54) #[] #[.pointer (some ⟨bx, 0, none⟩)], us 5, us 6, us 7, us 8, us 9, .int .i64 i, .int .i64 j2, us 12, us 13, us 14, us 15, us 16, us 17, .int .i64 i, .int .i64 j, .bool true, .int .i64 i, .int .i64 j, .bool false, us 24, us 25, us 26, us 27, us 28, us 29, us 30, us 31, us 32, us 33, us 34, .slice (some ⟨gx, 0, none⟩) n cx, .int .i64 m0, .int .i64 i, .int .i64 pm, .int .i64 m0, .int .i64 j, .int .i64 mj, .int .i64 i, .int .i64 qm, .int .i64 i, .func (.func 54) #[] #[.pointer (some ⟨bx, 0, none⟩)], .tuple #[], .int .i64 j, .int .i64 i, .int .i64 j2, us 50, us 51, us 52, us 53, us 54, us 55, us 56, us 57] : Array Value).getD us_ undef, rfl, C0, OX, Lib.hid (by rw [← hr.out, EB.out]; simp), Lib.hid (by have := EB3.out; have := EB2.out; have := hl.out; have := Ej2.out; have := hc.out; omega)⟩)
theorem cmp2_ {a : Addr} {c bx : Nat} {L : List HOp} {y z : Int} (HY : inL L y) (HZ : inL L z) (FX : Hid (Blk w bx (#[.slice (some a) L.length c]) 45)) (SL : Hid (SrcIs w (.slice (some a) L.length c) (L.length) ((L).flatMap opC) 28)) : Calls Try.prog 54 #[.int .i64 y, .int .i64 z, .pointer (some ⟨bx, 0, none⟩)] w fun en w' => en = .returned (.int .i64 (cmpI (kd L y) (kd L z))) ∧ Ch [] w w' := by
  obtain ⟨i, o, rfl, hi, ei⟩ := HY
  obtain ⟨j, p, rfl, hj, ej⟩ := HZ
  rw [ei, ej]
  exact cmp_ (Lib.hid hi) (Lib.hid hj) FX SL
theorem cmp_lt {x y : Int} (h : x < y) : decide (cmpI x y < 0) = true := by unfold cmpI; rw [if_pos h]; decide
theorem cmp_ge {x y : Int} (h : ¬ x < y) : decide (cmpI x y < 0) = false := by unfold cmpI; rw [if_neg h]; split <;> decide

theorem isort_ {a : Addr} {c bx gx cx n base : Nat} {L : List HOp} {U A T : List Int} {p0 q0 : Nat} (HP : Hid (p0 = U.length ∧ q0 = U.length + A.length)) (HN : Hid (n ≤ 1000)) (HIN : Hid (∀ z ∈ A, inL L z)) (HRI : Hid (A.Pairwise (· < ·))) (HXR : Hid (∀ k, k ∈ xb (.slice (some a) L.length c) → k ∉ rl (.slice (some ⟨gx, 0, none⟩) n cx))) (FX : Hid (Blk w bx (#[.slice (some a) L.length c]) 45)) (SL : Hid (SrcIs w (.slice (some a) L.length c) (L.length) ((L).flatMap opC) 28)) (OX : Hid (OwnS w base 3 1 (.slice (some ⟨gx, 0, none⟩) n cx) (n) ((U ++ (A ++ T)).map vi))) :
    Calls Try.prog 67 #[.slice (some ⟨gx, 0, none⟩) n cx, .int .i64 p0, .int .i64 q0, .func (.func 54) #[] #[.pointer (some ⟨bx, 0, none⟩)]] w fun en w' => en = .returned (.tuple #[]) ∧ ∃ A', sorts L (A) A' ∧ OwnS w' base 3 1 (.slice (some ⟨gx, 0, none⟩) n cx) n ((U ++ (A' ++ T)).map vi) ∧ Ch (rl (.slice (some ⟨gx, 0, none⟩) n cx)) w w' := by
  have C0 := Lib.hid (Ch.refl (rl (.slice (some ⟨gx, 0, none⟩) n cx)) w)
  have BC := Lib.hid (show n ≤ cx by obtain ⟨_, _, he, hc, _⟩ := OX.out.slice; injection he with _ _ e3; rw [e3]; exact hc)
  have HLN := Lib.hid (show (U ++ (A ++ T)).length = n by have h := OX.out.1; rw [List.length_map, Nat.mul_one] at h; exact h)
  have WP := Lib.hid (show IntKind.i64.wrap ((p0 : Int) + 1) = ((p0 + 1 : Nat) : Int) by rw [wr64 (by have := HP.out; have := HN.out; have h8 := HLN.out; simp only [List.length_append] at h8; omega)]; omega)
  go_enter Try.func67, Try.ntmps67
  refine q_ (fun Q hQ hP => ?_)
  refine s_ (fun K1 hK1 => ?_)
  refine pu_ (v := .int .i64 p0) (y_move rfl (by rfl) (by rfl)) ?_
  (try simp only [zP, zN, zA, zB, zC])
  refine pu_ (v := .int .i64 (p0 + 1 : Nat)) (y_run (by rfl) (fun W => by have d := WP.out; go_simp)) ?_
  (try simp only [zP, zN, zA, zB, zC])
  refine pu_ (v := .int .i64 (p0 + 1 : Nat)) (y_assign rfl (by rfl) (by rfl)) ?_
  (try simp only [zP, zN, zA, zB, zC])
  refine nl_ (hK1 _ _ ?_); clear hK1 K1
  refine wp_block ?_
  refine loopk_ (fun (kq : Nat) (a' : Act) (w' : World) => ∃ (k : Nat), ∃ (B : List Int), ∃ (us : Nat → Value), a' = ⟨#[.slice (some ⟨gx, 0, none⟩) n cx, .int .i64 p0, .int .i64 q0, .func (.func 54) #[] #[.pointer (some ⟨bx, 0, none⟩)], us 4, us 5, us 6, us 7, .int .i64 k, us 9, us 10, us 11, us 12, us 13, us 14, us 15, us 16, us 17, us 18, us 19, us 20, us 21, us 22, us 23, us 24, us 25, us 26, us 27, us 28, us 29, us 30, us 31, us 32, us 33, us 34, us 35, us 36, us 37, us 38, us 39, us 40, us 41, us 42, us 43, us 44, us 45, us 46, us 47, us 48, us 49, us 50, us 51, us 52], []⟩ ∧ Hid (Ch (rl (.slice (some ⟨gx, 0, none⟩) n cx)) w w') ∧ Hid (Blk w' bx (#[.slice (some a) L.length c]) 45) ∧ Hid (SrcIs w' (.slice (some a) L.length c) (L.length) ((L).flatMap opC) 28) ∧ Hid (OwnS w' base 3 1 (.slice (some ⟨gx, 0, none⟩) n cx) (n) ((U ++ (B ++ (A.drop (k - p0) ++ T))).map vi)) ∧ Hid (p0 + 1 ≤ k ∧ (k ≤ q0 ∨ k = p0 + 1) ∧ kq + k = q0 + 1) ∧ Hid (sorts L (A.take (k - p0)) B)) (q0 - p0) (⟨p0 + 1, A.take (p0 + 1 - p0), fun us_ => (#[.slice (some ⟨gx, 0, none⟩) n cx, .int .i64 p0, .int .i64 q0, .func (.func 54) #[] #[.pointer (some ⟨bx, 0, none⟩)], undef, undef, undef, undef, .int .i64 (p0 + 1 : Nat), undef, .int .i64 p0, .int .i64 (p0 + 1 : Nat), undef, undef, undef, undef, undef, undef, undef, undef, undef, undef, undef, undef, undef, undef, undef, undef, undef, undef, undef, undef, undef, undef, undef, undef, undef, undef, undef, undef, undef, undef, undef, undef, undef, undef, undef, undef, undef, undef, undef, undef, undef] : Array Value).getD us_ undef, rfl, C0, FX, SL, Lib.hid (by have h := OX.out; rw [← List.append_assoc (A.take (p0 + 1 - p0)), List.take_append_drop]; exact h), Lib.hid ⟨by omega, by omega, by have := HP.out; omega⟩, Lib.hid (by rw [show p0 + 1 - p0 = 1 by omega]; exact sorts_take1 L A)⟩) ?_
  rintro kq _ w2 ⟨k, B, us, rfl, C0, FX, SL, OX, hk, hs⟩ K3 hK3
  refine sq_ (fun K4 hK4 => ?_)
  rcases Nat.lt_or_ge k q0 with h | h
  · have hlt := Lib.hid h
    clear h
    obtain ⟨e, he0, hd0, ht0⟩ := apart (A := A) (k := k - p0) (by have := HP.out; have := hlt.out; have := hk.out; omega)
    have he := Lib.hid he0; have hd := Lib.hid hd0; have HDK := Lib.hid (show A.drop (k + 1 - p0) = A.drop (k - p0 + 1) by rw [show k + 1 - p0 = k - p0 + 1 by have := hk.out; omega]); have HTK := Lib.hid (show A.take (k + 1 - p0) = A.take (k - p0) ++ [e] by rw [show k + 1 - p0 = k - p0 + 1 by have := hk.out; omega]; exact ht0); clear he0 hd0 ht0
    have D14 := Lib.hid (show k < q0 from hlt.out)
    have WA := Lib.hid (show IntKind.i64.wrap ((k : Int) + 1) = ((k + 1 : Nat) : Int) by rw [wr64 (by have := HP.out; have := HN.out; have := hlt.out; have h8 := HLN.out; simp only [List.length_append] at h8; omega)]; omega)
    have HIE := Lib.hid (show inL L e from HIN.out e (List.mem_of_getElem? he.out))
    have HBE := Lib.hid (show ∀ y ∈ B, y < e ∧ inL L y from fun y hy => take_before HRI.out HIN.out he.out (hs.out.1.mem_iff.1 hy))
    have HBL := Lib.hid (show B.length = k - p0 by rw [hs.out.1.length_eq, List.length_take]; have := HP.out; have := hlt.out; omega)
    refine s_ (fun K5 hK5 => ?_)
    refine pu_ (v := .int .i64 k) (y_move rfl (by rfl) (by rfl)) ?_
    (try simp only [zP, zN, zA, zB, zC])
    refine pu_ (v := .int .i64 q0) (y_move rfl (by rfl) (by rfl)) ?_
    (try simp only [zP, zN, zA, zB, zC])
    refine pu_ (v := .bool true) (y_run (by rfl) (fun W => by have d := D14.out; go_simp)) ?_
    (try simp only [zP, zN, zA, zB, zC])
    refine nl_ (hK5 _ _ ?_); clear hK5 K5
    refine wp_cond_true rfl ?_
    refine wp_skip ?_
    refine th_norm (hK4 _ _ ?_); try clear hK4 K4
    refine sq_ (fun K6 hK6 => ?_)
    refine wp_block ?_
    refine s_ (fun K7 hK7 => ?_)
    refine pu_ (v := .int .i64 k) (y_move rfl (by rfl) (by rfl)) ?_
    (try simp only [zP, zN, zA, zB, zC])
    refine pu_ (v := .int .i64 k) (y_assign rfl (by rfl) (by rfl)) ?_
    (try simp only [zP, zN, zA, zB, zC])
    refine nl_ (hK7 _ _ ?_); clear hK7 K7
    refine wp_block ?_
    refine loopk_ (fun (jq : Nat) (a' : Act) (w' : World) => ∃ (j : Nat), ∃ (B1 : List Int), ∃ (B2 : List Int), ∃ (us : Nat → Value), a' = ⟨#[.slice (some ⟨gx, 0, none⟩) n cx, .int .i64 p0, .int .i64 q0, .func (.func 54) #[] #[.pointer (some ⟨bx, 0, none⟩)], us 4, us 5, us 6, us 7, .int .i64 k, .int .i64 j, us 10, us 11, us 12, us 13, us 14, us 15, us 16, us 17, us 18, us 19, us 20, us 21, us 22, us 23, us 24, us 25, us 26, us 27, us 28, us 29, us 30, us 31, us 32, us 33, us 34, us 35, us 36, us 37, us 38, us 39, us 40, us 41, us 42, us 43, us 44, us 45, us 46, us 47, us 48, us 49, us 50, us 51, us 52], []⟩ ∧ Hid (Ch (rl (.slice (some ⟨gx, 0, none⟩) n cx)) w w') ∧ Hid (Blk w' bx (#[.slice (some a) L.length c]) 45) ∧ Hid (SrcIs w' (.slice (some a) L.length c) (L.length) ((L).flatMap opC) 28) ∧ Hid (OwnS w' base 3 1 (.slice (some ⟨gx, 0, none⟩) n cx) (n) ((U ++ (B1 ++ e :: (B2 ++ (A.drop (k - p0 + 1) ++ T)))).map vi)) ∧ Hid (B = B1 ++ B2) ∧ Hid (∀ y ∈ B2, lx L e y) ∧ Hid (j = p0 + B1.length ∧ jq = B1.length)) (B.length) (⟨k, B, [], fun us_ => (#[.slice (some ⟨gx, 0, none⟩) n cx, .int .i64 p0, .int .i64 q0, .func (.func 54) #[] #[.pointer (some ⟨bx, 0, none⟩)], us 4, us 5, us 6, us 7, .int .i64 k, .int .i64 k, us 10, us 11, .int .i64 k, .int .i64 q0, .bool true, us 15, us 16, .int .i64 k, us 18, us 19, us 20, us 21, us 22, us 23, us 24, us 25, us 26, us 27, us 28, us 29, us 30, us 31, us 32, us 33, us 34, us 35, us 36, us 37, us 38, us 39, us 40, us 41, us 42, us 43, us 44, us 45, us 46, us 47, us 48, us 49, us 50, us 51, us 52] : Array Value).getD us_ undef, rfl, C0, FX, SL, Lib.hid (by have h := OX.out; rw [hd.out] at h; exact h), Lib.hid (List.append_nil B).symm, Lib.hid (fun y hy => absurd hy (by simp)), Lib.hid ⟨by have := HBL.out; have := hk.out; omega, rfl⟩⟩) ?_
    rintro jq _ w8 ⟨j, B1, B2, us, rfl, C0, FX, SL, OX, HB12, HB2, hj⟩ K9 hK9
    refine sq_ (fun K10 hK10 => ?_)
    rcases ins_ways L B1 e with h | ⟨C1, y, hC0, h⟩ | ⟨C1, y, hC0, h⟩
    · have HB1 := Lib.hid (show ∀ y ∈ B1, lx L y e by rw [h]; exact fun y hy => absurd hy (by simp))
      have D20 := Lib.hid (show j ≤ p0 by have := hj.out; rw [h] at this; simp at this; omega)
      clear h
      refine sq_ (fun K11 hK11 => ?_)
      refine startk_ (S := fun W => True) (ds := []) #[false, false, false, false, false, false, false, false, false, false, false, false, false, false, false, false, false] (by kernel_rfl) rfl rfl (fun W c => trivial) (fun w12 C13 hS14 => ?_)
      have C0' := Lib.hid (show Ch (rl (.slice (some ⟨gx, 0, none⟩) n cx)) w w12 from C0.out.trans' C13 (fun x hx => absurd hx (by simp)))
      have FX' := Lib.hid (show Blk w12 bx (#[.slice (some a) L.length c]) 45 from C13.blk FX.out nin_nil)
      have SL' := Lib.hid (show SrcIs w12 (.slice (some a) L.length c) (L.length) ((L).flatMap opC) 28 from SL.out.chx C13 xnin_nil)
      have OX' := Lib.hid (show OwnS w12 base 3 1 (.slice (some ⟨gx, 0, none⟩) n cx) (n) ((U ++ (B1 ++ e :: (B2 ++ (A.drop (k - p0 + 1) ++ T)))).map vi) from OX.out.ch C13 rnin_nil)
      clear C0 FX SL OX
      have C0 := C0'; clear C0'
      have FX := FX'; clear FX'
      have SL := SL'; clear SL'
      have OX := OX'; clear OX'
      clear C13
      refine pure_ (i := 0) (N := some 18) (v := .int .i64 j) #[true, false, false, false, false, false, false, false, false, false, false, false, false, false, false, false, false] rfl rfl (by kernel_rfl) (fun c a w h => hP c a _ _ w h) (y_move rfl (by rfl) (by rfl)) rfl ?_
      (try simp only [zP, zN, zA, zB, zC])
      refine pure_ (i := 1) (N := some 19) (v := .int .i64 p0) #[true, true, false, false, false, false, false, false, false, false, false, false, false, false, false, false, false] rfl rfl (by kernel_rfl) (fun c a w h => hP c a _ _ w h) (y_move rfl (by rfl) (by rfl)) rfl ?_
      (try simp only [zP, zN, zA, zB, zC])
      refine pure_ (i := 2) (N := some 20) (v := .bool false) #[true, true, true, false, false, false, false, false, false, false, false, false, false, false, false, false, false] rfl rfl (by kernel_rfl) (fun c a w h => hP c a _ _ w h) (y_run (by rfl) (fun W => by have d := D20.out; go_simp)) rfl ?_
      (try simp only [zP, zN, zA, zB, zC])
      refine pure_ (i := 3) (N := some 21) (v := .bool false) #[true, true, true, true, false, false, false, false, false, false, false, false, false, false, false, false, false] rfl rfl (by kernel_rfl) (fun c a w h => hP c a _ _ w h) (y_move rfl (by rfl) (by rfl)) rfl ?_
      (try simp only [zP, zN, zA, zB, zC])
      refine pure_ (i := 4) (N := some 22) (v := undef) #[true, true, true, true, true, false, false, false, false, false, false, false, false, false, false, false, false] rfl rfl (by kernel_rfl) (fun c a w h => hP c a _ _ w h) (y_off (by rfl)) rfl ?_
      (try simp only [zP, zN, zA, zB, zC])
      refine pure_ (i := 5) (N := some 23) (v := undef) #[true, true, true, true, true, true, false, false, false, false, false, false, false, false, false, false, false] rfl rfl (by kernel_rfl) (fun c a w h => hP c a _ _ w h) (y_off (by rfl)) rfl ?_
      (try simp only [zP, zN, zA, zB, zC])
      refine pure_ (i := 6) (N := some 24) (v := undef) #[true, true, true, true, true, true, true, false, false, false, false, false, false, false, false, false, false] rfl rfl (by kernel_rfl) (fun c a w h => hP c a _ _ w h) (y_off (by rfl)) rfl ?_
      (try simp only [zP, zN, zA, zB, zC])
      refine pure_ (i := 7) (N := some 25) (v := undef) #[true, true, true, true, true, true, true, true, false, false, false, false, false, false, false, false, false] rfl rfl (by kernel_rfl) (fun c a w h => hP c a _ _ w h) (y_off (by rfl)) rfl ?_
      (try simp only [zP, zN, zA, zB, zC])
      refine pure_ (i := 8) (N := some 26) (v := undef) #[true, true, true, true, true, true, true, true, true, false, false, false, false, false, false, false, false] rfl rfl (by kernel_rfl) (fun c a w h => hP c a _ _ w h) (y_off (by rfl)) rfl ?_
      (try simp only [zP, zN, zA, zB, zC])
      refine pure_ (i := 9) (N := some 27) (v := undef) #[true, true, true, true, true, true, true, true, true, true, false, false, false, false, false, false, false] rfl rfl (by kernel_rfl) (fun c a w h => hP c a _ _ w h) (y_off (by rfl)) rfl ?_
      (try simp only [zP, zN, zA, zB, zC])
      refine pure_ (i := 10) (N := some 28) (v := undef) #[true, true, true, true, true, true, true, true, true, true, true, false, false, false, false, false, false] rfl rfl (by kernel_rfl) (fun c a w h => hP c a _ _ w h) (y_off (by rfl)) rfl ?_
      (try simp only [zP, zN, zA, zB, zC])
      refine pure_ (i := 11) (N := some 29) (v := undef) #[true, true, true, true, true, true, true, true, true, true, true, true, false, false, false, false, false] rfl rfl (by kernel_rfl) (fun c a w h => hP c a _ _ w h) (y_off (by rfl)) rfl ?_
      (try simp only [zP, zN, zA, zB, zC])
      refine pure_ (i := 12) (N := some 30) (v := undef) #[true, true, true, true, true, true, true, true, true, true, true, true, true, false, false, false, false] rfl rfl (by kernel_rfl) (fun c a w h => hP c a _ _ w h) (y_off (by rfl)) rfl ?_
      (try simp only [zP, zN, zA, zB, zC])
      refine pure_ (i := 13) (N := some 31) (v := undef) #[true, true, true, true, true, true, true, true, true, true, true, true, true, true, false, false, false] rfl rfl (by kernel_rfl) (fun c a w h => hP c a _ _ w h) (y_off (by rfl)) rfl ?_
      (try simp only [zP, zN, zA, zB, zC])
      refine pure_ (i := 14) (N := some 32) (v := undef) #[true, true, true, true, true, true, true, true, true, true, true, true, true, true, true, false, false] rfl rfl (by kernel_rfl) (fun c a w h => hP c a _ _ w h) (y_off (by rfl)) rfl ?_
      (try simp only [zP, zN, zA, zB, zC])
      refine pure_ (i := 15) (N := some 33) (v := undef) #[true, true, true, true, true, true, true, true, true, true, true, true, true, true, true, true, false] rfl rfl (by kernel_rfl) (fun c a w h => hP c a _ _ w h) (y_off (by rfl)) rfl ?_
      (try simp only [zP, zN, zA, zB, zC])
      refine pure_ (i := 16) (N := some 34) (v := .bool false) #[true, true, true, true, true, true, true, true, true, true, true, true, true, true, true, true, true] rfl rfl (by kernel_rfl) (fun c a w h => hP c a _ _ w h) (y_pick (t := false) (by rfl) rfl (by rfl) (by rfl)) rfl ?_
      (try simp only [zP, zN, zA, zB, zC])
      refine done_ (by kernel_rfl) (th_norm (hK11 _ _ ?_)); clear hK11 K11
      refine wp_cond_false rfl ?_
      refine wp_exit ?_
      refine th_exit ?_
      refine th_exit ?_
      refine ib_exit ?_
      refine ib_norm ?_
      refine th_norm (hK6 _ _ ?_); try clear hK6 K6
      refine r_ ?_
      refine pu_ (v := .int .i64 k) (y_move rfl (by rfl) (by rfl)) ?_
      (try simp only [zP, zN, zA, zB, zC])
      refine pu_ (v := .int .i64 (k + 1 : Nat)) (y_run (by rfl) (fun W => by have d := WA.out; go_simp)) ?_
      (try simp only [zP, zN, zA, zB, zC])
      refine pu_ (v := .int .i64 (k + 1 : Nat)) (y_assign rfl (by rfl) (by rfl)) ?_
      (try simp only [zP, zN, zA, zB, zC])
      refine nl_ ?_
      exact th_norm (hK3 (kq - 1) _ _ (by have := hlt.out; have := hk.out; omega) ⟨k + 1, B1 ++ e :: B2, fun us_ => (#[.slice (some ⟨gx, 0, none⟩) n cx, .int .i64 p0, .int .i64 q0, .func (.func 54) #[] #[.pointer (some ⟨bx, 0, none⟩)], us 4, us 5, us 6, us 7, .int .i64 (k + 1 : Nat), .int .i64 j, us 10, us 11, us 12, us 13, us 14, .int .i64 k, .int .i64 (k + 1 : Nat), us 17, .int .i64 j, .int .i64 p0, .bool false, .bool false, undef, undef, undef, undef, undef, undef, undef, undef, undef, undef, undef, undef, .bool false, us 35, us 36, us 37, us 38, us 39, us 40, us 41, us 42, us 43, us 44, us 45, us 46, us 47, us 48, us 49, us 50, us 51, us 52] : Array Value).getD us_ undef, rfl, C0, FX, SL, Lib.hid (by have h := OX.out; rw [HDK.out]; rw [show U ++ (B1 ++ e :: (B2 ++ (A.drop (k - p0 + 1) ++ T))) = U ++ ((B1 ++ e :: B2) ++ (A.drop (k - p0 + 1) ++ T)) by first | (simp; done) | (rw [EC.out]; simp; done)] at h; exact h), Lib.hid ⟨by have := hk.out; omega, by have := hlt.out; omega, by have := hlt.out; have := hk.out; omega⟩, Lib.hid (by rw [HTK.out]; exact sorts_snoc (by rw [← HB12.out]; exact hs.out) HB2.out HB1.out)⟩)
    · have EC := Lib.hid hC0
      have ECL := Lib.hid (show B1.length = C1.length + 1 by rw [hC0]; simp)
      have HYB := Lib.hid (show y < e ∧ inL L y from HBE.out y (by rw [HB12.out, hC0]; simp))
      have hcm := Lib.hid h
      clear h hC0
      have D20 := Lib.hid (show p0 < j by have := hj.out; have := ECL.out; omega)
      have OX' := Lib.hid (show OwnS w8 base 3 1 (.slice (some ⟨gx, 0, none⟩) n cx) (n) (((U ++ C1) ++ y :: ([] ++ e :: (B2 ++ (A.drop (k - p0 + 1) ++ T)))).map vi) from by have h := OX.out; rw [EC.out, show U ++ ((C1 ++ [y]) ++ e :: (B2 ++ (A.drop (k - p0 + 1) ++ T))) = (U ++ C1) ++ y :: ([] ++ e :: (B2 ++ (A.drop (k - p0 + 1) ++ T))) by simp] at h; exact h); clear OX; have OX := OX'; clear OX'
      have HLN1 := Lib.hid (show ((U ++ C1) ++ y :: ([] ++ e :: (B2 ++ (A.drop (k - p0 + 1) ++ T)))).length = n by have h := OX.out.1; rw [List.length_map, Nat.mul_one] at h; exact h)
      obtain ⟨i, hi⟩ : ∃ x, x = j - 1 := ⟨_, rfl⟩
      have Ei := Lib.hid hi; clear hi
      have Wi := Lib.hid (show IntKind.i64.wrap ((j : Int) - 1) = (i : Int) by rw [wr64 (by have := Ei.out; have := hj.out; have := ECL.out; have := HN.out; have h8 := HLN1.out; simp only [List.length_append, List.length_cons, List.length_nil] at h8; have := HP.out; omega)]; have := Ei.out; have := hj.out; have := ECL.out; have := HN.out; have h8 := HLN1.out; simp only [List.length_append, List.length_cons, List.length_nil] at h8; have := HP.out; omega)
      have Ej := Lib.hid (show j = j from rfl)
      have Bi := Lib.hid (show (i : Int) < (n : Int) by have := Ei.out; have := hj.out; have := ECL.out; have := HN.out; have h8 := HLN1.out; simp only [List.length_append, List.length_cons, List.length_nil] at h8; have := HP.out; omega)
      have Bj := Lib.hid (show (j : Int) < (n : Int) by have := Ej.out; have := hj.out; have := ECL.out; have := HN.out; have h8 := HLN1.out; simp only [List.length_append, List.length_cons, List.length_nil] at h8; have := HP.out; omega)
      have PE := Lib.hid (show i = (U ++ C1).length by rw [List.length_append]; have := Ei.out; have := hj.out; have := ECL.out; have := HN.out; have h8 := HLN1.out; simp only [List.length_append, List.length_cons, List.length_nil] at h8; have := HP.out; omega)
      have QE := Lib.hid (show j = (U ++ C1).length + 1 + ([] : List Int).length by rw [List.length_append, List.length_nil]; have := hj.out; have := ECL.out; have := HN.out; have h8 := HLN1.out; simp only [List.length_append, List.length_cons, List.length_nil] at h8; have := HP.out; omega)
      have D33 := Lib.hid (show decide (cmpI (kd L e) (kd L y) < 0) = true from cmp_lt hcm.out)
      have HLX := Lib.hid (show lx L e y from .inl hcm.out)
      refine sq_ (fun K15 hK15 => ?_)
      refine startk_ (S := fun W => OwnS W base 3 1 (.slice (some ⟨gx, 0, none⟩) n cx) (n) (((U ++ C1) ++ y :: ([] ++ e :: (B2 ++ (A.drop (k - p0 + 1) ++ T)))).map vi) ∧ True) (ds := []) #[false, false, false, false, false, false, false, false, false, false, false, false, false, false, false, false, false] (by kernel_rfl) rfl rfl (fun W c => ⟨OX.out.ch c rnin_nil, trivial⟩) (fun w16 C17 hS18 => ?_)
      have C0' := Lib.hid (show Ch (rl (.slice (some ⟨gx, 0, none⟩) n cx)) w w16 from C0.out.trans' C17 (fun x hx => absurd hx (by simp)))
      have FX' := Lib.hid (show Blk w16 bx (#[.slice (some a) L.length c]) 45 from C17.blk FX.out nin_nil)
      have SL' := Lib.hid (show SrcIs w16 (.slice (some a) L.length c) (L.length) ((L).flatMap opC) 28 from SL.out.chx C17 xnin_nil)
      have OX' := Lib.hid (show OwnS w16 base 3 1 (.slice (some ⟨gx, 0, none⟩) n cx) (n) (((U ++ C1) ++ y :: ([] ++ e :: (B2 ++ (A.drop (k - p0 + 1) ++ T)))).map vi) from OX.out.ch C17 rnin_nil)
      clear C0 FX SL OX
      have C0 := C0'; clear C0'
      have FX := FX'; clear FX'
      have SL := SL'; clear SL'
      have OX := OX'; clear OX'
      clear C17
      refine pure_ (i := 0) (N := some 18) (v := .int .i64 j) #[true, false, false, false, false, false, false, false, false, false, false, false, false, false, false, false, false] rfl rfl (by kernel_rfl) (fun c a w h => hP c a _ _ w h) (y_move rfl (by rfl) (by rfl)) rfl ?_
      (try simp only [zP, zN, zA, zB, zC])
      refine pure_ (i := 1) (N := some 19) (v := .int .i64 p0) #[true, true, false, false, false, false, false, false, false, false, false, false, false, false, false, false, false] rfl rfl (by kernel_rfl) (fun c a w h => hP c a _ _ w h) (y_move rfl (by rfl) (by rfl)) rfl ?_
      (try simp only [zP, zN, zA, zB, zC])
      refine pure_ (i := 2) (N := some 20) (v := .bool true) #[true, true, true, false, false, false, false, false, false, false, false, false, false, false, false, false, false] rfl rfl (by kernel_rfl) (fun c a w h => hP c a _ _ w h) (y_run (by rfl) (fun W => by have d := D20.out; go_simp)) rfl ?_
      (try simp only [zP, zN, zA, zB, zC])
      refine pure_ (i := 3) (N := some 21) (v := .bool true) #[true, true, true, true, false, false, false, false, false, false, false, false, false, false, false, false, false] rfl rfl (by kernel_rfl) (fun c a w h => hP c a _ _ w h) (y_move rfl (by rfl) (by rfl)) rfl ?_
      (try simp only [zP, zN, zA, zB, zC])
      refine pure_ (i := 4) (N := some 22) (v := .func (.func 54) #[] #[.pointer (some ⟨bx, 0, none⟩)]) #[true, true, true, true, true, false, false, false, false, false, false, false, false, false, false, false, false] rfl rfl (by kernel_rfl) (fun c a w h => hP c a _ _ w h) (y_move rfl (by rfl) (by rfl)) rfl ?_
      (try simp only [zP, zN, zA, zB, zC])
      refine pure_ (i := 5) (N := some 23) (v := .slice (some ⟨gx, 0, none⟩) n cx) #[true, true, true, true, true, true, false, false, false, false, false, false, false, false, false, false, false] rfl rfl (by kernel_rfl) (fun c a w h => hP c a _ _ w h) (y_move rfl (by rfl) (by rfl)) rfl ?_
      (try simp only [zP, zN, zA, zB, zC])
      refine pure_ (i := 6) (N := some 24) (v := .int .i64 j) #[true, true, true, true, true, true, true, false, false, false, false, false, false, false, false, false, false] rfl rfl (by kernel_rfl) (fun c a w h => hP c a _ _ w h) (y_move rfl (by rfl) (by rfl)) rfl ?_
      (try simp only [zP, zN, zA, zB, zC])
      refine pure_ (i := 7) (N := some 25) (v := .pointer (some ⟨gx, j, none⟩)) #[true, true, true, true, true, true, true, true, false, false, false, false, false, false, false, false, false] rfl rfl (by kernel_rfl) (fun c a w h => hP c a _ _ w h) (y_run (by rfl) (fun W => by have d := Bj.out; go_simp)) rfl ?_
      (try simp only [zP, zN, zA, zB, zC])
      refine take_ (i := 8) (N := some 26) (v := .int .i64 e) #[true, true, true, true, true, true, true, true, true, false, false, false, false, false, false, false, false] rfl rfl (by kernel_rfl) (fun c a w h => hP c a _ _ w h) (y_load (p := ⟨gx, j, none⟩) rfl (by rfl) (by rfl) (fun W hS => run_load_one (own_cell hS.1 (by rw [QE.out]; exact row_at2 _ _ _ _ _)) Try.underlying3 rfl)) hS18 rfl ?_
      (try simp only [zP, zN, zA, zB, zC])
      refine pure_ (i := 9) (N := some 27) (v := .slice (some ⟨gx, 0, none⟩) n cx) #[true, true, true, true, true, true, true, true, true, true, false, false, false, false, false, false, false] rfl rfl (by kernel_rfl) (fun c a w h => hP c a _ _ w h) (y_move rfl (by rfl) (by rfl)) rfl ?_
      (try simp only [zP, zN, zA, zB, zC])
      refine pure_ (i := 10) (N := some 28) (v := .int .i64 j) #[true, true, true, true, true, true, true, true, true, true, true, false, false, false, false, false, false] rfl rfl (by kernel_rfl) (fun c a w h => hP c a _ _ w h) (y_move rfl (by rfl) (by rfl)) rfl ?_
      (try simp only [zP, zN, zA, zB, zC])
      refine pure_ (i := 11) (N := some 29) (v := .int .i64 i) #[true, true, true, true, true, true, true, true, true, true, true, true, false, false, false, false, false] rfl rfl (by kernel_rfl) (fun c a w h => hP c a _ _ w h) (y_run (by rfl) (fun W => by have d := Wi.out; go_simp)) rfl ?_
      (try simp only [zP, zN, zA, zB, zC])
      refine pure_ (i := 12) (N := some 30) (v := .pointer (some ⟨gx, i, none⟩)) #[true, true, true, true, true, true, true, true, true, true, true, true, true, false, false, false, false] rfl rfl (by kernel_rfl) (fun c a w h => hP c a _ _ w h) (y_run (by rfl) (fun W => by have d := Bi.out; go_simp)) rfl ?_
      (try simp only [zP, zN, zA, zB, zC])
      refine take_ (i := 13) (N := some 31) (v := .int .i64 y) #[true, true, true, true, true, true, true, true, true, true, true, true, true, true, false, false, false] rfl rfl (by kernel_rfl) (fun c a w h => hP c a _ _ w h) (y_load (p := ⟨gx, i, none⟩) rfl (by rfl) (by rfl) (fun W hS => run_load_one (own_cell hS.1 (by rw [PE.out]; exact row_at1 _ _ _)) Try.underlying3 rfl)) hS18 rfl ?_
      (try simp only [zP, zN, zA, zB, zC])
      refine one_ (i := 14) (N := some 32) #[true, true, true, true, true, true, true, true, true, true, true, true, true, true, true, false, false] rfl rfl (by kernel_rfl) (by simp) (fun K19 hK19 => ?_)
      refine e_callf Try.func54 (by kernel_rfl) rfl #[.int .i64 e, .int .i64 y, .pointer (some ⟨bx, 0, none⟩)] (by rfl) rfl rfl (by rfl) (by first | rfl | simp [Act.eval]) ((cmp2_ HIE.out HYB.out.2 FX SL)) ?_
      rintro en w20 ⟨rfl, cc⟩
      refine ⟨_, rfl, ?_⟩
      have C0' := Lib.hid (show Ch (rl (.slice (some ⟨gx, 0, none⟩) n cx)) w w20 from C0.out.trans' cc (fun x hx => absurd hx (by simp)))
      have FX' := Lib.hid (show Blk w20 bx (#[.slice (some a) L.length c]) 45 from cc.blk FX.out nin_nil)
      have SL' := Lib.hid (show SrcIs w20 (.slice (some a) L.length c) (L.length) ((L).flatMap opC) 28 from SL.out.chx cc xnin_nil)
      have OX' := Lib.hid (show OwnS w20 base 3 1 (.slice (some ⟨gx, 0, none⟩) n cx) (n) (((U ++ C1) ++ y :: ([] ++ e :: (B2 ++ (A.drop (k - p0 + 1) ++ T)))).map vi) from OX.out.ch cc rnin_nil)
      clear C0 FX SL OX
      have C0 := C0'; clear C0'
      have FX := FX'; clear FX'
      have SL := SL'; clear SL'
      have OX := OX'; clear OX'
      clear cc
      refine hK19.out _ _ ⟨OX.out, trivial⟩ (fun hS21 => ?_); clear hK19 K19
      (try simp only [zP, zN, zA, zB, zC])
      refine pure_ (i := 15) (N := some 33) (v := .bool true) #[true, true, true, true, true, true, true, true, true, true, true, true, true, true, true, true, false] rfl rfl (by kernel_rfl) (fun c a w h => hP c a _ _ w h) (y_run (by rfl) (fun W => by have d := D33.out; go_simp)) rfl ?_
      (try simp only [zP, zN, zA, zB, zC])
      refine pure_ (i := 16) (N := some 34) (v := .bool true) #[true, true, true, true, true, true, true, true, true, true, true, true, true, true, true, true, true] rfl rfl (by kernel_rfl) (fun c a w h => hP c a _ _ w h) (y_pick (t := true) (by rfl) rfl (by rfl) (by rfl)) rfl ?_
      (try simp only [zP, zN, zA, zB, zC])
      refine done_ (by kernel_rfl) (th_norm (hK15 _ _ ?_)); clear hK15 K15
      refine wp_cond_true rfl ?_
      refine wp_skip ?_
      refine th_norm (hK10 _ _ ?_); try clear hK10 K10
      refine sq_ (fun K22 hK22 => ?_)
      refine wp_block ?_
      refine startk_ (S := fun W => OwnS W base 3 1 (.slice (some ⟨gx, 0, none⟩) n cx) (n) (((U ++ C1) ++ y :: ([] ++ e :: (B2 ++ (A.drop (k - p0 + 1) ++ T)))).map vi) ∧ True) (ds := [15, 17]) #[false, false, false, false, false, false, false, false, false, false, false, false, false, false, false, false, false, false] (by kernel_rfl) rfl rfl (fun W c => ⟨OX.out.ch c rnin_nil, trivial⟩) (fun w23 C24 hS25 => ?_)
      have C0' := Lib.hid (show Ch (rl (.slice (some ⟨gx, 0, none⟩) n cx)) w w23 from C0.out.trans' C24 (fun x hx => absurd hx (by simp)))
      have FX' := Lib.hid (show Blk w23 bx (#[.slice (some a) L.length c]) 45 from C24.blk FX.out nin_nil)
      have SL' := Lib.hid (show SrcIs w23 (.slice (some a) L.length c) (L.length) ((L).flatMap opC) 28 from SL.out.chx C24 xnin_nil)
      have OX' := Lib.hid (show OwnS w23 base 3 1 (.slice (some ⟨gx, 0, none⟩) n cx) (n) (((U ++ C1) ++ y :: ([] ++ e :: (B2 ++ (A.drop (k - p0 + 1) ++ T)))).map vi) from OX.out.ch C24 rnin_nil)
      clear C0 FX SL OX
      have C0 := C0'; clear C0'
      have FX := FX'; clear FX'
      have SL := SL'; clear SL'
      have OX := OX'; clear OX'
      clear C24
      refine pure_ (i := 0) (N := some 37) (v := .slice (some ⟨gx, 0, none⟩) n cx) #[true, false, false, false, false, false, false, false, false, false, false, false, false, false, false, false, false, false] rfl rfl (by kernel_rfl) (fun c a w h => hP c a _ _ w h) (y_move rfl (by rfl) (by rfl)) rfl ?_
      (try simp only [zP, zN, zA, zB, zC])
      refine pure_ (i := 1) (N := some 38) (v := .int .i64 j) #[true, true, false, false, false, false, false, false, false, false, false, false, false, false, false, false, false, false] rfl rfl (by kernel_rfl) (fun c a w h => hP c a _ _ w h) (y_move rfl (by rfl) (by rfl)) rfl ?_
      (try simp only [zP, zN, zA, zB, zC])
      refine pure_ (i := 2) (N := some 39) (v := .slice (some ⟨gx, 0, none⟩) n cx) #[true, true, true, false, false, false, false, false, false, false, false, false, false, false, false, false, false, false] rfl rfl (by kernel_rfl) (fun c a w h => hP c a _ _ w h) (y_move rfl (by rfl) (by rfl)) rfl ?_
      (try simp only [zP, zN, zA, zB, zC])
      refine pure_ (i := 3) (N := some 40) (v := .int .i64 j) #[true, true, true, true, false, false, false, false, false, false, false, false, false, false, false, false, false, false] rfl rfl (by kernel_rfl) (fun c a w h => hP c a _ _ w h) (y_move rfl (by rfl) (by rfl)) rfl ?_
      (try simp only [zP, zN, zA, zB, zC])
      refine pure_ (i := 4) (N := some 41) (v := .int .i64 i) #[true, true, true, true, true, false, false, false, false, false, false, false, false, false, false, false, false, false] rfl rfl (by kernel_rfl) (fun c a w h => hP c a _ _ w h) (y_run (by rfl) (fun W => by have d := Wi.out; go_simp)) rfl ?_
      (try simp only [zP, zN, zA, zB, zC])
      refine pure_ (i := 5) (N := some 42) (v := .slice (some ⟨gx, 0, none⟩) n cx) #[true, true, true, true, true, true, false, false, false, false, false, false, false, false, false, false, false, false] rfl rfl (by kernel_rfl) (fun c a w h => hP c a _ _ w h) (y_move rfl (by rfl) (by rfl)) rfl ?_
      (try simp only [zP, zN, zA, zB, zC])
      refine pure_ (i := 6) (N := some 43) (v := .int .i64 j) #[true, true, true, true, true, true, true, false, false, false, false, false, false, false, false, false, false, false] rfl rfl (by kernel_rfl) (fun c a w h => hP c a _ _ w h) (y_move rfl (by rfl) (by rfl)) rfl ?_
      (try simp only [zP, zN, zA, zB, zC])
      refine pure_ (i := 7) (N := some 44) (v := .int .i64 i) #[true, true, true, true, true, true, true, true, false, false, false, false, false, false, false, false, false, false] rfl rfl (by kernel_rfl) (fun c a w h => hP c a _ _ w h) (y_run (by rfl) (fun W => by have d := Wi.out; go_simp)) rfl ?_
      (try simp only [zP, zN, zA, zB, zC])
      refine pure_ (i := 8) (N := some 45) (v := .pointer (some ⟨gx, i, none⟩)) #[true, true, true, true, true, true, true, true, true, false, false, false, false, false, false, false, false, false] rfl rfl (by kernel_rfl) (fun c a w h => hP c a _ _ w h) (y_run (by rfl) (fun W => by have d := Bi.out; go_simp)) rfl ?_
      (try simp only [zP, zN, zA, zB, zC])
      refine take_ (i := 9) (N := some 46) (v := .int .i64 y) #[true, true, true, true, true, true, true, true, true, true, false, false, false, false, false, false, false, false] rfl rfl (by kernel_rfl) (fun c a w h => hP c a _ _ w h) (y_load (p := ⟨gx, i, none⟩) rfl (by rfl) (by rfl) (fun W hS => run_load_one (own_cell hS.1 (by rw [PE.out]; exact row_at1 _ _ _)) Try.underlying3 rfl)) hS25 rfl ?_
      (try simp only [zP, zN, zA, zB, zC])
      refine pure_ (i := 10) (N := some 47) (v := .slice (some ⟨gx, 0, none⟩) n cx) #[true, true, true, true, true, true, true, true, true, true, true, false, false, false, false, false, false, false] rfl rfl (by kernel_rfl) (fun c a w h => hP c a _ _ w h) (y_move rfl (by rfl) (by rfl)) rfl ?_
      (try simp only [zP, zN, zA, zB, zC])
      refine pure_ (i := 11) (N := some 48) (v := .int .i64 j) #[true, true, true, true, true, true, true, true, true, true, true, true, false, false, false, false, false, false] rfl rfl (by kernel_rfl) (fun c a w h => hP c a _ _ w h) (y_move rfl (by rfl) (by rfl)) rfl ?_
      (try simp only [zP, zN, zA, zB, zC])
      refine pure_ (i := 12) (N := some 49) (v := .pointer (some ⟨gx, j, none⟩)) #[true, true, true, true, true, true, true, true, true, true, true, true, true, false, false, false, false, false] rfl rfl (by kernel_rfl) (fun c a w h => hP c a _ _ w h) (y_run (by rfl) (fun W => by have d := Bj.out; go_simp)) rfl ?_
      (try simp only [zP, zN, zA, zB, zC])
      refine take_ (i := 13) (N := some 50) (v := .int .i64 e) #[true, true, true, true, true, true, true, true, true, true, true, true, true, true, false, false, false, false] rfl rfl (by kernel_rfl) (fun c a w h => hP c a _ _ w h) (y_load (p := ⟨gx, j, none⟩) rfl (by rfl) (by rfl) (fun W hS => run_load_one (own_cell hS.1 (by rw [QE.out]; exact row_at2 _ _ _ _ _)) Try.underlying3 rfl)) hS25 rfl ?_
      (try simp only [zP, zN, zA, zB, zC])
      refine pure_ (i := 14) (N := some 51) (v := .pointer (some ⟨gx, j, none⟩)) #[true, true, true, true, true, true, true, true, true, true, true, true, true, true, true, false, false, false] rfl rfl (by kernel_rfl) (fun c a w h => hP c a _ _ w h) (y_run (by rfl) (fun W => by have d := Bj.out; go_simp)) rfl ?_
      (try simp only [zP, zN, zA, zB, zC])
      refine last_ (i := 15) (N := none) #[true, true, true, true, true, true, true, true, true, true, true, true, true, true, true, true, false, false] rfl rfl (by kernel_rfl) (by simp) (fun K26 hK26 => ?_)
      refine e_storeS1 (by rfl) rfl rfl OX.out j (.int .i64 y) (by rfl) (by rfl) (by kernel_rfl) (by have := Bj.out; omega) rfl ?_
      rintro w27 O28 C29
      have RC29 := Lib.hid (show Ch (rl (.slice (some ⟨gx, 0, none⟩) n cx)) w23 w27 from by rw [rl_some gx n cx (by have := BC.out; have := Bj.out; omega)]; exact C29)
      have C0' := Lib.hid (show Ch (rl (.slice (some ⟨gx, 0, none⟩) n cx)) w w27 from C0.out.trans' RC29.out (fun x hx => .inl hx))
      have FX' := Lib.hid (show Blk w27 bx (#[.slice (some a) L.length c]) 45 from RC29.out.blk FX.out (OX.out.ne FX.out (by decide)))
      have SL' := Lib.hid (show SrcIs w27 (.slice (some a) L.length c) (L.length) ((L).flatMap opC) 28 from SL.out.chx RC29.out HXR.out)
      clear C0 FX SL
      have C0 := C0'; clear C0'
      have FX := FX'; clear FX'
      have SL := SL'; clear SL'
      clear OX
      have OX := Lib.hid (show OwnS w27 base 3 1 (.slice (some ⟨gx, 0, none⟩) n cx) (n) ((((U ++ C1) ++ y :: ([] ++ e :: (B2 ++ (A.drop (k - p0 + 1) ++ T)))).map vi).set j (vi y)) from O28); clear O28 C29 RC29
      refine hK26.out _ _ ?_; clear hK26 K26
      (try simp only [zP, zN, zA, zB, zC])
      refine pure_ (i := 16) (N := some 52) (v := .pointer (some ⟨gx, i, none⟩)) #[true, true, true, true, true, true, true, true, true, true, true, true, true, true, true, true, true, false] rfl rfl (by kernel_rfl) (fun c a w h => hP c a _ _ w h) (y_run (by rfl) (fun W => by have d := Bi.out; go_simp)) rfl ?_
      (try simp only [zP, zN, zA, zB, zC])
      refine last_ (i := 17) (N := none) #[true, true, true, true, true, true, true, true, true, true, true, true, true, true, true, true, true, true] rfl rfl (by kernel_rfl) (by simp) (fun K30 hK30 => ?_)
      refine e_storeS1 (by rfl) rfl rfl OX.out i (.int .i64 e) (by rfl) (by rfl) (by kernel_rfl) (by have := Bi.out; omega) rfl ?_
      rintro w31 O32 C33
      have RC33 := Lib.hid (show Ch (rl (.slice (some ⟨gx, 0, none⟩) n cx)) w27 w31 from by rw [rl_some gx n cx (by have := BC.out; have := Bi.out; omega)]; exact C33)
      have C0' := Lib.hid (show Ch (rl (.slice (some ⟨gx, 0, none⟩) n cx)) w w31 from C0.out.trans' RC33.out (fun x hx => .inl hx))
      have FX' := Lib.hid (show Blk w31 bx (#[.slice (some a) L.length c]) 45 from RC33.out.blk FX.out (OX.out.ne FX.out (by decide)))
      have SL' := Lib.hid (show SrcIs w31 (.slice (some a) L.length c) (L.length) ((L).flatMap opC) 28 from SL.out.chx RC33.out HXR.out)
      clear C0 FX SL
      have C0 := C0'; clear C0'
      have FX := FX'; clear FX'
      have SL := SL'; clear SL'
      clear OX
      have OX := Lib.hid (show OwnS w31 base 3 1 (.slice (some ⟨gx, 0, none⟩) n cx) (n) ((U ++ C1 ++ e :: ([] ++ y :: (B2 ++ (A.drop (k - p0 + 1) ++ T)))).map vi) from by have h := O32; rw [PE.out, QE.out, sw_21] at h; exact h); clear O32 C33 RC33
      refine hK30.out _ _ ?_; clear hK30 K30
      (try simp only [zP, zN, zA, zB, zC])
      refine done_ (by kernel_rfl) ?_
      refine ib_norm ?_
      refine th_norm (hK22 _ _ ?_); try clear hK22 K22
      refine r_ ?_
      refine pu_ (v := .int .i64 j) (y_move rfl (by rfl) (by rfl)) ?_
      (try simp only [zP, zN, zA, zB, zC])
      refine pu_ (v := .int .i64 i) (y_run (by rfl) (fun W => by have d := Wi.out; go_simp)) ?_
      (try simp only [zP, zN, zA, zB, zC])
      refine pu_ (v := .int .i64 i) (y_assign rfl (by rfl) (by rfl)) ?_
      (try simp only [zP, zN, zA, zB, zC])
      refine nl_ ?_
      exact th_norm (hK9 (jq - 1) _ _ (by have := hj.out; have := ECL.out; omega) ⟨i, C1, y :: B2, fun us_ => (#[.slice (some ⟨gx, 0, none⟩) n cx, .int .i64 p0, .int .i64 q0, .func (.func 54) #[] #[.pointer (some ⟨bx, 0, none⟩)], us 4, us 5, us 6, us 7, .int .i64 k, .int .i64 i, us 10, us 11, us 12, us 13, us 14, us 15, us 16, us 17, .int .i64 j, .int .i64 p0, .bool true, .bool true, .func (.func 54) #[] #[.pointer (some ⟨bx, 0, none⟩)], .slice (some ⟨gx, 0, none⟩) n cx, .int .i64 j, .pointer (some ⟨gx, j, none⟩), .int .i64 e, .slice (some ⟨gx, 0, none⟩) n cx, .int .i64 j, .int .i64 i, .pointer (some ⟨gx, i, none⟩), .int .i64 y, .int .i64 (cmpI (kd L e) (kd L y)), .bool true, .bool true, .int .i64 j, .int .i64 i, .slice (some ⟨gx, 0, none⟩) n cx, .int .i64 j, .slice (some ⟨gx, 0, none⟩) n cx, .int .i64 j, .int .i64 i, .slice (some ⟨gx, 0, none⟩) n cx, .int .i64 j, .int .i64 i, .pointer (some ⟨gx, i, none⟩), .int .i64 y, .slice (some ⟨gx, 0, none⟩) n cx, .int .i64 j, .pointer (some ⟨gx, j, none⟩), .int .i64 e, .pointer (some ⟨gx, j, none⟩), .pointer (some ⟨gx, i, none⟩)] : Array Value).getD us_ undef, rfl, C0, FX, SL, Lib.hid (by have h := OX.out; rw [show (U ++ C1) ++ e :: ([] ++ y :: (B2 ++ (A.drop (k - p0 + 1) ++ T))) = U ++ (C1 ++ e :: ((y :: B2) ++ (A.drop (k - p0 + 1) ++ T))) by simp] at h; exact h), Lib.hid (by rw [HB12.out, EC.out]; simp), Lib.hid (fun z hz => (List.mem_cons.1 hz).elim (fun h9 => by rw [h9]; exact HLX.out) (fun h9 => HB2.out z h9)), Lib.hid (by have := hj.out; have := ECL.out; have := Ei.out; omega)⟩)
    · have EC := Lib.hid hC0
      have ECL := Lib.hid (show B1.length = C1.length + 1 by rw [hC0]; simp)
      have HYB := Lib.hid (show y < e ∧ inL L y from HBE.out y (by rw [HB12.out, hC0]; simp))
      have hcm := Lib.hid h
      clear h hC0
      have D20 := Lib.hid (show p0 < j by have := hj.out; have := ECL.out; omega)
      have OX' := Lib.hid (show OwnS w8 base 3 1 (.slice (some ⟨gx, 0, none⟩) n cx) (n) (((U ++ C1) ++ y :: ([] ++ e :: (B2 ++ (A.drop (k - p0 + 1) ++ T)))).map vi) from by have h := OX.out; rw [EC.out, show U ++ ((C1 ++ [y]) ++ e :: (B2 ++ (A.drop (k - p0 + 1) ++ T))) = (U ++ C1) ++ y :: ([] ++ e :: (B2 ++ (A.drop (k - p0 + 1) ++ T))) by simp] at h; exact h); clear OX; have OX := OX'; clear OX'
      have HLN1 := Lib.hid (show ((U ++ C1) ++ y :: ([] ++ e :: (B2 ++ (A.drop (k - p0 + 1) ++ T)))).length = n by have h := OX.out.1; rw [List.length_map, Nat.mul_one] at h; exact h)
      obtain ⟨i, hi⟩ : ∃ x, x = j - 1 := ⟨_, rfl⟩
      have Ei := Lib.hid hi; clear hi
      have Wi := Lib.hid (show IntKind.i64.wrap ((j : Int) - 1) = (i : Int) by rw [wr64 (by have := Ei.out; have := hj.out; have := ECL.out; have := HN.out; have h8 := HLN1.out; simp only [List.length_append, List.length_cons, List.length_nil] at h8; have := HP.out; omega)]; have := Ei.out; have := hj.out; have := ECL.out; have := HN.out; have h8 := HLN1.out; simp only [List.length_append, List.length_cons, List.length_nil] at h8; have := HP.out; omega)
      have Ej := Lib.hid (show j = j from rfl)
      have Bi := Lib.hid (show (i : Int) < (n : Int) by have := Ei.out; have := hj.out; have := ECL.out; have := HN.out; have h8 := HLN1.out; simp only [List.length_append, List.length_cons, List.length_nil] at h8; have := HP.out; omega)
      have Bj := Lib.hid (show (j : Int) < (n : Int) by have := Ej.out; have := hj.out; have := ECL.out; have := HN.out; have h8 := HLN1.out; simp only [List.length_append, List.length_cons, List.length_nil] at h8; have := HP.out; omega)
      have PE := Lib.hid (show i = (U ++ C1).length by rw [List.length_append]; have := Ei.out; have := hj.out; have := ECL.out; have := HN.out; have h8 := HLN1.out; simp only [List.length_append, List.length_cons, List.length_nil] at h8; have := HP.out; omega)
      have QE := Lib.hid (show j = (U ++ C1).length + 1 + ([] : List Int).length by rw [List.length_append, List.length_nil]; have := hj.out; have := ECL.out; have := HN.out; have h8 := HLN1.out; simp only [List.length_append, List.length_cons, List.length_nil] at h8; have := HP.out; omega)
      have D33 := Lib.hid (show decide (cmpI (kd L e) (kd L y) < 0) = false from cmp_ge hcm.out)
      have HB1 := Lib.hid (show ∀ z ∈ B1, lx L z e by rw [EC.out]; exact below_last (B2 := B2) (by rw [← EC.out, ← HB12.out]; exact hs.out.2) (lx_not hcm.out HYB.out.1))
      refine sq_ (fun K34 hK34 => ?_)
      refine startk_ (S := fun W => OwnS W base 3 1 (.slice (some ⟨gx, 0, none⟩) n cx) (n) (((U ++ C1) ++ y :: ([] ++ e :: (B2 ++ (A.drop (k - p0 + 1) ++ T)))).map vi) ∧ True) (ds := []) #[false, false, false, false, false, false, false, false, false, false, false, false, false, false, false, false, false] (by kernel_rfl) rfl rfl (fun W c => ⟨OX.out.ch c rnin_nil, trivial⟩) (fun w35 C36 hS37 => ?_)
      have C0' := Lib.hid (show Ch (rl (.slice (some ⟨gx, 0, none⟩) n cx)) w w35 from C0.out.trans' C36 (fun x hx => absurd hx (by simp)))
      have FX' := Lib.hid (show Blk w35 bx (#[.slice (some a) L.length c]) 45 from C36.blk FX.out nin_nil)
      have SL' := Lib.hid (show SrcIs w35 (.slice (some a) L.length c) (L.length) ((L).flatMap opC) 28 from SL.out.chx C36 xnin_nil)
      have OX' := Lib.hid (show OwnS w35 base 3 1 (.slice (some ⟨gx, 0, none⟩) n cx) (n) (((U ++ C1) ++ y :: ([] ++ e :: (B2 ++ (A.drop (k - p0 + 1) ++ T)))).map vi) from OX.out.ch C36 rnin_nil)
      clear C0 FX SL OX
      have C0 := C0'; clear C0'
      have FX := FX'; clear FX'
      have SL := SL'; clear SL'
      have OX := OX'; clear OX'
      clear C36
      refine pure_ (i := 0) (N := some 18) (v := .int .i64 j) #[true, false, false, false, false, false, false, false, false, false, false, false, false, false, false, false, false] rfl rfl (by kernel_rfl) (fun c a w h => hP c a _ _ w h) (y_move rfl (by rfl) (by rfl)) rfl ?_
      (try simp only [zP, zN, zA, zB, zC])
      refine pure_ (i := 1) (N := some 19) (v := .int .i64 p0) #[true, true, false, false, false, false, false, false, false, false, false, false, false, false, false, false, false] rfl rfl (by kernel_rfl) (fun c a w h => hP c a _ _ w h) (y_move rfl (by rfl) (by rfl)) rfl ?_
      (try simp only [zP, zN, zA, zB, zC])
      refine pure_ (i := 2) (N := some 20) (v := .bool true) #[true, true, true, false, false, false, false, false, false, false, false, false, false, false, false, false, false] rfl rfl (by kernel_rfl) (fun c a w h => hP c a _ _ w h) (y_run (by rfl) (fun W => by have d := D20.out; go_simp)) rfl ?_
      (try simp only [zP, zN, zA, zB, zC])
      refine pure_ (i := 3) (N := some 21) (v := .bool true) #[true, true, true, true, false, false, false, false, false, false, false, false, false, false, false, false, false] rfl rfl (by kernel_rfl) (fun c a w h => hP c a _ _ w h) (y_move rfl (by rfl) (by rfl)) rfl ?_
      (try simp only [zP, zN, zA, zB, zC])
      refine pure_ (i := 4) (N := some 22) (v := .func (.func 54) #[] #[.pointer (some ⟨bx, 0, none⟩)]) #[true, true, true, true, true, false, false, false, false, false, false, false, false, false, false, false, false] rfl rfl (by kernel_rfl) (fun c a w h => hP c a _ _ w h) (y_move rfl (by rfl) (by rfl)) rfl ?_
      (try simp only [zP, zN, zA, zB, zC])
      refine pure_ (i := 5) (N := some 23) (v := .slice (some ⟨gx, 0, none⟩) n cx) #[true, true, true, true, true, true, false, false, false, false, false, false, false, false, false, false, false] rfl rfl (by kernel_rfl) (fun c a w h => hP c a _ _ w h) (y_move rfl (by rfl) (by rfl)) rfl ?_
      (try simp only [zP, zN, zA, zB, zC])
      refine pure_ (i := 6) (N := some 24) (v := .int .i64 j) #[true, true, true, true, true, true, true, false, false, false, false, false, false, false, false, false, false] rfl rfl (by kernel_rfl) (fun c a w h => hP c a _ _ w h) (y_move rfl (by rfl) (by rfl)) rfl ?_
      (try simp only [zP, zN, zA, zB, zC])
      refine pure_ (i := 7) (N := some 25) (v := .pointer (some ⟨gx, j, none⟩)) #[true, true, true, true, true, true, true, true, false, false, false, false, false, false, false, false, false] rfl rfl (by kernel_rfl) (fun c a w h => hP c a _ _ w h) (y_run (by rfl) (fun W => by have d := Bj.out; go_simp)) rfl ?_
      (try simp only [zP, zN, zA, zB, zC])
      refine take_ (i := 8) (N := some 26) (v := .int .i64 e) #[true, true, true, true, true, true, true, true, true, false, false, false, false, false, false, false, false] rfl rfl (by kernel_rfl) (fun c a w h => hP c a _ _ w h) (y_load (p := ⟨gx, j, none⟩) rfl (by rfl) (by rfl) (fun W hS => run_load_one (own_cell hS.1 (by rw [QE.out]; exact row_at2 _ _ _ _ _)) Try.underlying3 rfl)) hS37 rfl ?_
      (try simp only [zP, zN, zA, zB, zC])
      refine pure_ (i := 9) (N := some 27) (v := .slice (some ⟨gx, 0, none⟩) n cx) #[true, true, true, true, true, true, true, true, true, true, false, false, false, false, false, false, false] rfl rfl (by kernel_rfl) (fun c a w h => hP c a _ _ w h) (y_move rfl (by rfl) (by rfl)) rfl ?_
      (try simp only [zP, zN, zA, zB, zC])
      refine pure_ (i := 10) (N := some 28) (v := .int .i64 j) #[true, true, true, true, true, true, true, true, true, true, true, false, false, false, false, false, false] rfl rfl (by kernel_rfl) (fun c a w h => hP c a _ _ w h) (y_move rfl (by rfl) (by rfl)) rfl ?_
      (try simp only [zP, zN, zA, zB, zC])
      refine pure_ (i := 11) (N := some 29) (v := .int .i64 i) #[true, true, true, true, true, true, true, true, true, true, true, true, false, false, false, false, false] rfl rfl (by kernel_rfl) (fun c a w h => hP c a _ _ w h) (y_run (by rfl) (fun W => by have d := Wi.out; go_simp)) rfl ?_
      (try simp only [zP, zN, zA, zB, zC])
      refine pure_ (i := 12) (N := some 30) (v := .pointer (some ⟨gx, i, none⟩)) #[true, true, true, true, true, true, true, true, true, true, true, true, true, false, false, false, false] rfl rfl (by kernel_rfl) (fun c a w h => hP c a _ _ w h) (y_run (by rfl) (fun W => by have d := Bi.out; go_simp)) rfl ?_
      (try simp only [zP, zN, zA, zB, zC])
      refine take_ (i := 13) (N := some 31) (v := .int .i64 y) #[true, true, true, true, true, true, true, true, true, true, true, true, true, true, false, false, false] rfl rfl (by kernel_rfl) (fun c a w h => hP c a _ _ w h) (y_load (p := ⟨gx, i, none⟩) rfl (by rfl) (by rfl) (fun W hS => run_load_one (own_cell hS.1 (by rw [PE.out]; exact row_at1 _ _ _)) Try.underlying3 rfl)) hS37 rfl ?_
      (try simp only [zP, zN, zA, zB, zC])
      refine one_ (i := 14) (N := some 32) #[true, true, true, true, true, true, true, true, true, true, true, true, true, true, true, false, false] rfl rfl (by kernel_rfl) (by simp) (fun K38 hK38 => ?_)
      refine e_callf Try.func54 (by kernel_rfl) rfl #[.int .i64 e, .int .i64 y, .pointer (some ⟨bx, 0, none⟩)] (by rfl) rfl rfl (by rfl) (by first | rfl | simp [Act.eval]) ((cmp2_ HIE.out HYB.out.2 FX SL)) ?_
      rintro en w39 ⟨rfl, cc⟩
      refine ⟨_, rfl, ?_⟩
      have C0' := Lib.hid (show Ch (rl (.slice (some ⟨gx, 0, none⟩) n cx)) w w39 from C0.out.trans' cc (fun x hx => absurd hx (by simp)))
      have FX' := Lib.hid (show Blk w39 bx (#[.slice (some a) L.length c]) 45 from cc.blk FX.out nin_nil)
      have SL' := Lib.hid (show SrcIs w39 (.slice (some a) L.length c) (L.length) ((L).flatMap opC) 28 from SL.out.chx cc xnin_nil)
      have OX' := Lib.hid (show OwnS w39 base 3 1 (.slice (some ⟨gx, 0, none⟩) n cx) (n) (((U ++ C1) ++ y :: ([] ++ e :: (B2 ++ (A.drop (k - p0 + 1) ++ T)))).map vi) from OX.out.ch cc rnin_nil)
      clear C0 FX SL OX
      have C0 := C0'; clear C0'
      have FX := FX'; clear FX'
      have SL := SL'; clear SL'
      have OX := OX'; clear OX'
      clear cc
      refine hK38.out _ _ ⟨OX.out, trivial⟩ (fun hS40 => ?_); clear hK38 K38
      (try simp only [zP, zN, zA, zB, zC])
      refine pure_ (i := 15) (N := some 33) (v := .bool false) #[true, true, true, true, true, true, true, true, true, true, true, true, true, true, true, true, false] rfl rfl (by kernel_rfl) (fun c a w h => hP c a _ _ w h) (y_run (by rfl) (fun W => by have d := D33.out; go_simp)) rfl ?_
      (try simp only [zP, zN, zA, zB, zC])
      refine pure_ (i := 16) (N := some 34) (v := .bool false) #[true, true, true, true, true, true, true, true, true, true, true, true, true, true, true, true, true] rfl rfl (by kernel_rfl) (fun c a w h => hP c a _ _ w h) (y_pick (t := true) (by rfl) rfl (by rfl) (by rfl)) rfl ?_
      (try simp only [zP, zN, zA, zB, zC])
      refine done_ (by kernel_rfl) (th_norm (hK34 _ _ ?_)); clear hK34 K34
      refine wp_cond_false rfl ?_
      refine wp_exit ?_
      refine th_exit ?_
      refine th_exit ?_
      refine ib_exit ?_
      refine ib_norm ?_
      refine th_norm (hK6 _ _ ?_); try clear hK6 K6
      refine r_ ?_
      refine pu_ (v := .int .i64 k) (y_move rfl (by rfl) (by rfl)) ?_
      (try simp only [zP, zN, zA, zB, zC])
      refine pu_ (v := .int .i64 (k + 1 : Nat)) (y_run (by rfl) (fun W => by have d := WA.out; go_simp)) ?_
      (try simp only [zP, zN, zA, zB, zC])
      refine pu_ (v := .int .i64 (k + 1 : Nat)) (y_assign rfl (by rfl) (by rfl)) ?_
      (try simp only [zP, zN, zA, zB, zC])
      refine nl_ ?_
      exact th_norm (hK3 (kq - 1) _ _ (by have := hlt.out; have := hk.out; omega) ⟨k + 1, B1 ++ e :: B2, fun us_ => (#[.slice (some ⟨gx, 0, none⟩) n cx, .int .i64 p0, .int .i64 q0, .func (.func 54) #[] #[.pointer (some ⟨bx, 0, none⟩)], us 4, us 5, us 6, us 7, .int .i64 (k + 1 : Nat), .int .i64 j, us 10, us 11, us 12, us 13, us 14, .int .i64 k, .int .i64 (k + 1 : Nat), us 17, .int .i64 j, .int .i64 p0, .bool true, .bool true, .func (.func 54) #[] #[.pointer (some ⟨bx, 0, none⟩)], .slice (some ⟨gx, 0, none⟩) n cx, .int .i64 j, .pointer (some ⟨gx, j, none⟩), .int .i64 e, .slice (some ⟨gx, 0, none⟩) n cx, .int .i64 j, .int .i64 i, .pointer (some ⟨gx, i, none⟩), .int .i64 y, .int .i64 (cmpI (kd L e) (kd L y)), .bool false, .bool false, us 35, us 36, us 37, us 38, us 39, us 40, us 41, us 42, us 43, us 44, us 45, us 46, us 47, us 48, us 49, us 50, us 51, us 52] : Array Value).getD us_ undef, rfl, C0, FX, SL, Lib.hid (by have h := OX.out; rw [HDK.out]; rw [show (U ++ C1) ++ y :: ([] ++ e :: (B2 ++ (A.drop (k - p0 + 1) ++ T))) = U ++ ((B1 ++ e :: B2) ++ (A.drop (k - p0 + 1) ++ T)) by first | (simp; done) | (rw [EC.out]; simp; done)] at h; exact h), Lib.hid ⟨by have := hk.out; omega, by have := hlt.out; omega, by have := hlt.out; have := hk.out; omega⟩, Lib.hid (by rw [HTK.out]; exact sorts_snoc (by rw [← HB12.out]; exact hs.out) HB2.out HB1.out)⟩)
  · have D14 := Lib.hid (show q0 ≤ k by omega)
    have HE := Lib.hid h
    clear h
    refine s_ (fun K41 hK41 => ?_)
    refine pu_ (v := .int .i64 k) (y_move rfl (by rfl) (by rfl)) ?_
    (try simp only [zP, zN, zA, zB, zC])
    refine pu_ (v := .int .i64 q0) (y_move rfl (by rfl) (by rfl)) ?_
    (try simp only [zP, zN, zA, zB, zC])
    refine pu_ (v := .bool false) (y_run (by rfl) (fun W => by have d := D14.out; go_simp)) ?_
    (try simp only [zP, zN, zA, zB, zC])
    refine nl_ (hK41 _ _ ?_); clear hK41 K41
    refine wp_cond_false rfl ?_
    refine wp_exit ?_
    refine th_exit ?_
    refine th_exit ?_
    refine ib_exit ?_
    refine hQ _ _ _ ?_
    refine bodyPost_end (res0 rfl) rfl ?_
    have HTA : A.take (k - p0) = A := List.take_of_length_le (by have := HP.out; have := HE.out; omega)
    have HDA : A.drop (k - p0) = [] := List.drop_of_length_le (by have := HP.out; have := HE.out; omega)
    exact ⟨rfl, B, by have h := hs.out; rw [HTA] at h; exact h, by have h := OX.out; rw [HDA, List.nil_append] at h; exact h, C0.out⟩
end
end Go.Proofs.Ytggcpbnlblbpjaa.L
