/- The walks of package exec: where a session stands, what is written to it and read of it. -/
import Derived.Test.YtcfkdglaedpnjaaDoorExA
namespace Go.Proofs.YtcfkdglaedpnjaaDoor.V
open Go Go.RowKit Go.Proofs.YtcfkdglaedpnjaaDoor.K Go.Proofs.YtcfkdglaedpnjaaDoor.R Go.Proofs.YtcfkdglaedpnjaaDoorW.PrintLast
set_option linter.unusedVariables false
set_option linter.unusedSimpArgs false
set_option maxRecDepth 100000
set_option maxHeartbeats 1600000
section
variable {w : World}
theorem same_ {k : SB} {s : HS} {B : Nat} {id : Int} (FS : Hid (Blk w k.b (#[.int .i64 s.id, .int .i64 s.box, .int .i64 s.ctr, .bool s.op, .pointer (some ⟨k.bi, 0, none⟩), .pointer (some ⟨k.bo, 0, none⟩)]) 65)) (FB : Hid (Blk w B (#[.int .i64 id]) 3)) :
    Calls Tryd.prog 44 #[.pointer (some ⟨k.b, 0, none⟩), .pointer (some ⟨B, 0, none⟩)] w fun en w' => en = .returned (.bool (s.id == id)) ∧ Ch [] w w' := by
  have C0 := Lib.hid (Ch.refl [] w)
  go_enter Tryd.func44, Tryd.ntmps44
  refine q_ (fun Q hQ hP => ?_)
  refine s_ (fun K1 hK1 => ?_)
  refine pu_ (v := .bool false) (y_assign rfl (by rfl) (by rfl)) ?_
  (try simp only [zP, zN, zA, zB, zC])
  refine nl_ (hK1 _ _ ?_); clear hK1 K1
  refine sq_ (fun K2 hK2 => ?_)
  refine startk_ (S := fun W => Blk W k.b (#[.int .i64 s.id, .int .i64 s.box, .int .i64 s.ctr, .bool s.op, .pointer (some ⟨k.bi, 0, none⟩), .pointer (some ⟨k.bo, 0, none⟩)]) 65 ∧ Blk W B (#[.int .i64 id]) 3 ∧ True) (ds := []) #[false, false, false, false, false, false, false] (by kernel_rfl) rfl rfl (fun W c => ⟨c.blk FS.out nin_nil, c.blk FB.out nin_nil, trivial⟩) (fun w3 C4 hS5 => ?_)
  have C0' := Lib.hid (show Ch [] w w3 from C0.out.trans' C4 (fun x hx => absurd hx (by simp)))
  have FS' := Lib.hid (show Blk w3 k.b (#[.int .i64 s.id, .int .i64 s.box, .int .i64 s.ctr, .bool s.op, .pointer (some ⟨k.bi, 0, none⟩), .pointer (some ⟨k.bo, 0, none⟩)]) 65 from C4.blk FS.out nin_nil)
  have FB' := Lib.hid (show Blk w3 B (#[.int .i64 id]) 3 from C4.blk FB.out nin_nil)
  clear C0 FS FB
  have C0 := C0'; clear C0'
  have FS := FS'; clear FS'
  have FB := FB'; clear FB'
  clear C4
  refine pure_ (i := 0) (N := some 4) (v := .pointer (some ⟨k.b, 0, none⟩)) #[true, false, false, false, false, false, false] rfl rfl (by kernel_rfl) (fun c a w h => hP c a _ _ w h) (y_move rfl (by rfl) (by rfl)) rfl ?_
  (try simp only [zP, zN, zA, zB, zC])
  refine pure_ (i := 1) (N := some 5) (v := .pointer (some ⟨k.b, 0, none⟩)) #[true, true, false, false, false, false, false] rfl rfl (by kernel_rfl) (fun c a w h => hP c a _ _ w h) (y_nil rfl (by rfl) (by rfl)) rfl ?_
  (try simp only [zP, zN, zA, zB, zC])
  refine pure_ (i := 2) (N := some 6) (v := .pointer (some ⟨k.b, 0, none⟩)) #[true, true, true, false, false, false, false] rfl rfl (by kernel_rfl) (fun c a w h => hP c a _ _ w h) (y_run (by rfl) (fun W => by go_simp)) rfl ?_
  (try simp only [zP, zN, zA, zB, zC])
  refine take_ (i := 3) (N := some 7) (v := .int .i64 s.id) #[true, true, true, true, false, false, false] rfl rfl (by kernel_rfl) (fun c a w h => hP c a _ _ w h) (y_load (p := ⟨k.b, 0, none⟩) rfl (by rfl) (by rfl) (fun W hS => run_load_one ((hS.1.cell 0).trans rfl) Tryd.underlying3 rfl)) hS5 rfl ?_
  (try simp only [zP, zN, zA, zB, zC])
  refine take_ (i := 4) (N := some 8) (v := .int .i64 id) #[true, true, true, true, true, false, false] rfl rfl (by kernel_rfl) (fun c a w h => hP c a _ _ w h) (y_load (p := ⟨B, 0, none⟩) rfl (by rfl) (by rfl) (fun W hS => run_load_one ((hS.2.1.cell 0).trans rfl) Tryd.underlying3 rfl)) hS5 rfl ?_
  (try simp only [zP, zN, zA, zB, zC])
  refine pure_ (i := 5) (N := some 9) (v := .bool (s.id == id)) #[true, true, true, true, true, true, false] rfl rfl (by kernel_rfl) (fun c a w h => hP c a _ _ w h) (y_run (by rfl) (fun W => by go_simp)) rfl ?_
  (try simp only [zP, zN, zA, zB, zC])
  refine pure_ (i := 6) (N := some 3) (v := .bool (s.id == id)) #[true, true, true, true, true, true, true] rfl rfl (by kernel_rfl) (fun c a w h => hP c a _ _ w h) (y_assign rfl (by rfl) (by rfl)) rfl ?_
  (try simp only [zP, zN, zA, zB, zC])
  refine done_ (by kernel_rfl) (th_norm (hK2 _ _ ?_)); clear hK2 K2
  refine wp_ret ?_
  refine hQ _ _ _ ?_
  refine bodyPost_ret (res1 rfl (rdv_tmp (v := .bool (s.id == id)) (by rfl))) rfl ?_
  exact ⟨rfl, C0.out⟩
theorem index_ {A : Option Addr} {z c B : Nat} {K : List SB} {L : List HS} {id : Int} (HN : Hid (K.length ≤ 100)) (HA : Hid (AllIs w c K L)) (SL : Hid (SrcIs w (.slice A K.length z) (K.length) (K.flatMap ptrC) 1)) (FB : Hid (Blk w B (#[.int .i64 id]) 3)) :
    Calls Tryd.prog 43 #[.slice A K.length z, .func (.func 44) #[] #[.pointer (some ⟨B, 0, none⟩)]] w fun en w' => en = .returned (.int .i64 (fxI id L)) ∧ Ch [] w w' := by
  have C0 := Lib.hid (Ch.refl [] w)
  go_enter Tryd.func43, Tryd.ntmps43
  refine q_ (fun Q hQ hP => ?_)
  refine s_ (fun K1 hK1 => ?_)
  refine pu_ (v := .int .i64 0) (y_assign rfl (by rfl) (by rfl)) ?_
  (try simp only [zP, zN, zA, zB, zC])
  refine nl_ (hK1 _ _ ?_); clear hK1 K1
  refine sq_ (fun K2 hK2 => ?_)
  refine s_ (fun K3 hK3 => ?_)
  refine pu_ (v := .slice A K.length z) (y_move rfl (by rfl) (by rfl)) ?_
  (try simp only [zP, zN, zA, zB, zC])
  refine pu_ (v := .int .i64 K.length) (y_run (by rfl) (fun W => by go_simp)) ?_
  (try simp only [zP, zN, zA, zB, zC])
  refine pu_ (v := .int .i64 0) (y_move rfl (by rfl) (by rfl)) ?_
  (try simp only [zP, zN, zA, zB, zC])
  refine nl_ (hK3 _ _ ?_); clear hK3 K3
  refine wp_block ?_
  refine loopk_ (fun (jq : Nat) (a' : Act) (w' : World) => ∃ (j : Nat), ∃ (us : Nat → Value), a' = ⟨#[.slice A K.length z, .func (.func 44) #[] #[.pointer (some ⟨B, 0, none⟩)], us 2, us 3, us 4, us 5, us 6, .int .i64 K.length, .int .i64 j, us 9, us 10, us 11, us 12, us 13, us 14, us 15, us 16, us 17, us 18], []⟩ ∧ Hid (Ch [] w w') ∧ Hid (SrcIs w' (.slice A K.length z) (K.length) (K.flatMap ptrC) 1) ∧ Hid (Blk w' B (#[.int .i64 id]) 3) ∧ Hid (j ≤ K.length ∧ jq + j = K.length) ∧ Hid (∀ (i : Nat) (s' : HS), i < j → L[i]? = some s' → s'.id ≠ id)) (K.length) (⟨0, fun us_ => (#[.slice A K.length z, .func (.func 44) #[] #[.pointer (some ⟨B, 0, none⟩)], undef, undef, .int .i64 0, undef, .slice A K.length z, .int .i64 K.length, .int .i64 0, undef, undef, undef, undef, undef, undef, undef, undef, undef, undef] : Array Value).getD us_ undef, rfl, C0, SL, FB, Lib.hid ⟨by omega, by omega⟩, Lib.hid (fun i _ hi => absurd hi (Nat.not_lt_zero i))⟩) ?_
  rintro jq _ w4 ⟨j, us, rfl, C0, SL, FB, hj, hb⟩ K5 hK5
  rcases at_ways' hj.out.1 with ⟨k, ho0, hlt0⟩ | h; obtain ⟨s, hs, hsi⟩ := HA.out.get ho0; rcases (show s.id = id ∨ s.id ≠ id from Classical.em _) with he | he
  · have HS_ := Lib.hid hs
    have HSI := Lib.hid hsi
    have HEQ := Lib.hid he
    have hlt := Lib.hid hlt0
    have ho := Lib.hid ho0
    clear hs hsi he hlt0 ho0
    obtain ⟨a, hsm_a⟩ := src_some SL.out (by have := hlt.out; omega)
    subst hsm_a
    have D9 := Lib.hid (show (j : Int) < (K.length : Int) by have := hlt.out; omega)
    have Wj := Lib.hid (show IntKind.i64.wrap ((j : Int) + 1) = ((j + 1 : Nat) : Int) by rw [wr64 (by have := hlt.out; have h7 := HN.out; omega)]; omega)
    refine s_ (fun K6 hK6 => ?_)
    refine pu_ (v := .bool true) (y_run (by rfl) (fun W => by have d := D9.out; go_simp)) ?_
    (try simp only [zP, zN, zA, zB, zC])
    refine nl_ (hK6 _ _ ?_); clear hK6 K6
    refine sq_ (fun K7 hK7 => ?_)
    refine wp_cond_true rfl ?_
    refine wp_skip ?_
    refine th_norm (hK7 _ _ ?_); try clear hK7 K7
    refine sq_ (fun K8 hK8 => ?_)
    refine wp_block ?_
    refine s_ (fun K9 hK9 => ?_)
    refine pu_ (v := .int .i64 j) (y_move rfl (by rfl) (by rfl)) ?_
    (try simp only [zP, zN, zA, zB, zC])
    refine pu_ (v := .int .i64 j) (y_assign rfl (by rfl) (by rfl)) ?_
    (try simp only [zP, zN, zA, zB, zC])
    refine nl_ (hK9 _ _ ?_); clear hK9 K9
    refine s_ (fun K10 hK10 => ?_)
    refine pu_ (v := .func (.func 44) #[] #[.pointer (some ⟨B, 0, none⟩)]) (y_move rfl (by rfl) (by rfl)) ?_
    (try simp only [zP, zN, zA, zB, zC])
    refine pu_ (v := .slice (some a) K.length z) (y_move rfl (by rfl) (by rfl)) ?_
    (try simp only [zP, zN, zA, zB, zC])
    refine pu_ (v := .int .i64 j) (y_move rfl (by rfl) (by rfl)) ?_
    (try simp only [zP, zN, zA, zB, zC])
    refine pu_ (v := .pointer (some (a.add j))) (y_run (by rfl) (fun W => by have d := D9.out; go_simp)) ?_
    (try simp only [zP, zN, zA, zB, zC])
    refine ld_ (v := .pointer (some ⟨k.b, 0, none⟩)) rfl (by rfl) (by rfl) (run_load_one (one_at (by have h9 := src_at ptrC_len SL.out ho.out; rw [Nat.mul_one] at h9; exact h9)) Tryd.underlying61 rfl) ?_
    (try simp only [zP, zN, zA, zB, zC])
    refine ef_ (fun K11 hK11 => ?_)
    refine e_callf Tryd.func44 (by kernel_rfl) rfl #[.pointer (some ⟨k.b, 0, none⟩), .pointer (some ⟨B, 0, none⟩)] (by rfl) rfl rfl (by rfl) (by first | rfl | simp [Act.eval]) (same_ (s := s) (k := k) (id := id) (Lib.hid (HSI.out.ch C0.out (by simp)).blk) FB) ?_
    rintro en w12 ⟨rfl, cc⟩
    refine ⟨_, rfl, ?_⟩
    have C0' := Lib.hid (show Ch [] w w12 from C0.out.trans' cc (fun x hx => absurd hx (by simp)))
    have SL' := Lib.hid (show SrcIs w12 (.slice (some a) K.length z) (K.length) (K.flatMap ptrC) 1 from SL.out.chx cc xnin_nil)
    have FB' := Lib.hid (show Blk w12 B (#[.int .i64 id]) 3 from cc.blk FB.out nin_nil)
    clear C0 SL FB
    have C0 := C0'; clear C0'
    have SL := SL'; clear SL'
    have FB := FB'; clear FB'
    clear cc
    rw [show (s.id == id) = true from beq_iff_eq.2 HEQ.out]
    refine hK11 _ _ ?_; clear hK11 K11
    (try simp only [zP, zN, zA, zB, zC])
    refine nl_ (hK10 _ _ ?_); clear hK10 K10
    refine wp_cond_true rfl ?_
    refine s_ (fun K13 hK13 => ?_)
    refine pu_ (v := .int .i64 j) (y_move rfl (by rfl) (by rfl)) ?_
    (try simp only [zP, zN, zA, zB, zC])
    refine pu_ (v := .int .i64 j) (y_assign rfl (by rfl) (by rfl)) ?_
    (try simp only [zP, zN, zA, zB, zC])
    refine nl_ (hK13 _ _ ?_); clear hK13 K13
    refine wp_ret ?_
    refine ib_ret ?_
    refine th_ret ?_
    refine th_ret ?_
    refine ib_ret ?_
    refine th_ret ?_
    refine hQ _ _ _ ?_
    refine bodyPost_ret (res1 rfl (rdv_tmp (v := .int .i64 j) (by rfl))) rfl ?_
    exact ⟨by rw [show fxI id L = (j : Int) from by unfold fxI; rw [fx_some HS_.out HEQ.out hb.out]], C0.out⟩
  · have HS_ := Lib.hid hs
    have HSI := Lib.hid hsi
    have HEQ := Lib.hid he
    have hlt := Lib.hid hlt0
    have ho := Lib.hid ho0
    clear hs hsi he hlt0 ho0
    obtain ⟨a, hsm_a⟩ := src_some SL.out (by have := hlt.out; omega)
    subst hsm_a
    have D9 := Lib.hid (show (j : Int) < (K.length : Int) by have := hlt.out; omega)
    have Wj := Lib.hid (show IntKind.i64.wrap ((j : Int) + 1) = ((j + 1 : Nat) : Int) by rw [wr64 (by have := hlt.out; have h7 := HN.out; omega)]; omega)
    refine s_ (fun K14 hK14 => ?_)
    refine pu_ (v := .bool true) (y_run (by rfl) (fun W => by have d := D9.out; go_simp)) ?_
    (try simp only [zP, zN, zA, zB, zC])
    refine nl_ (hK14 _ _ ?_); clear hK14 K14
    refine sq_ (fun K15 hK15 => ?_)
    refine wp_cond_true rfl ?_
    refine wp_skip ?_
    refine th_norm (hK15 _ _ ?_); try clear hK15 K15
    refine sq_ (fun K16 hK16 => ?_)
    refine wp_block ?_
    refine s_ (fun K17 hK17 => ?_)
    refine pu_ (v := .int .i64 j) (y_move rfl (by rfl) (by rfl)) ?_
    (try simp only [zP, zN, zA, zB, zC])
    refine pu_ (v := .int .i64 j) (y_assign rfl (by rfl) (by rfl)) ?_
    (try simp only [zP, zN, zA, zB, zC])
    refine nl_ (hK17 _ _ ?_); clear hK17 K17
    refine s_ (fun K18 hK18 => ?_)
    refine pu_ (v := .func (.func 44) #[] #[.pointer (some ⟨B, 0, none⟩)]) (y_move rfl (by rfl) (by rfl)) ?_
    (try simp only [zP, zN, zA, zB, zC])
    refine pu_ (v := .slice (some a) K.length z) (y_move rfl (by rfl) (by rfl)) ?_
    (try simp only [zP, zN, zA, zB, zC])
    refine pu_ (v := .int .i64 j) (y_move rfl (by rfl) (by rfl)) ?_
    (try simp only [zP, zN, zA, zB, zC])
    refine pu_ (v := .pointer (some (a.add j))) (y_run (by rfl) (fun W => by have d := D9.out; go_simp)) ?_
    (try simp only [zP, zN, zA, zB, zC])
    refine ld_ (v := .pointer (some ⟨k.b, 0, none⟩)) rfl (by rfl) (by rfl) (run_load_one (one_at (by have h9 := src_at ptrC_len SL.out ho.out; rw [Nat.mul_one] at h9; exact h9)) Tryd.underlying61 rfl) ?_
    (try simp only [zP, zN, zA, zB, zC])
    refine ef_ (fun K19 hK19 => ?_)
    refine e_callf Tryd.func44 (by kernel_rfl) rfl #[.pointer (some ⟨k.b, 0, none⟩), .pointer (some ⟨B, 0, none⟩)] (by rfl) rfl rfl (by rfl) (by first | rfl | simp [Act.eval]) (same_ (s := s) (k := k) (id := id) (Lib.hid (HSI.out.ch C0.out (by simp)).blk) FB) ?_
    rintro en w20 ⟨rfl, cc⟩
    refine ⟨_, rfl, ?_⟩
    have C0' := Lib.hid (show Ch [] w w20 from C0.out.trans' cc (fun x hx => absurd hx (by simp)))
    have SL' := Lib.hid (show SrcIs w20 (.slice (some a) K.length z) (K.length) (K.flatMap ptrC) 1 from SL.out.chx cc xnin_nil)
    have FB' := Lib.hid (show Blk w20 B (#[.int .i64 id]) 3 from cc.blk FB.out nin_nil)
    clear C0 SL FB
    have C0 := C0'; clear C0'
    have SL := SL'; clear SL'
    have FB := FB'; clear FB'
    clear cc
    rw [show (s.id == id) = false from beq_eq_false_iff_ne.2 HEQ.out]
    refine hK19 _ _ ?_; clear hK19 K19
    (try simp only [zP, zN, zA, zB, zC])
    refine nl_ (hK18 _ _ ?_); clear hK18 K18
    refine wp_cond_false rfl ?_
    refine wp_skip ?_
    refine ib_norm ?_
    refine th_norm (hK16 _ _ ?_); try clear hK16 K16
    refine r_ ?_
    refine pu_ (v := .int .i64 (j + 1 : Nat)) (y_run (by rfl) (fun W => by have d := Wj.out; go_simp)) ?_
    (try simp only [zP, zN, zA, zB, zC])
    refine pu_ (v := .int .i64 (j + 1 : Nat)) (y_move rfl (by rfl) (by rfl)) ?_
    (try simp only [zP, zN, zA, zB, zC])
    refine nl_ ?_
    exact th_norm (hK5 (jq - 1) _ _ (by have := hlt.out; have := hj.out; omega) ⟨j + 1, fun us_ => (#[.slice (some a) K.length z, .func (.func 44) #[] #[.pointer (some ⟨B, 0, none⟩)], us 2, us 3, us 4, .int .i64 j, us 6, .int .i64 K.length, .int .i64 (j + 1 : Nat), .bool true, .int .i64 j, .func (.func 44) #[] #[.pointer (some ⟨B, 0, none⟩)], .slice (some a) K.length z, .int .i64 j, .pointer (some (a.add j)), .pointer (some ⟨k.b, 0, none⟩), .bool false, us 17, .int .i64 (j + 1 : Nat)] : Array Value).getD us_ undef, rfl, C0, SL, FB, Lib.hid ⟨by have := hlt.out; omega, by have := hlt.out; have := hj.out; omega⟩, Lib.hid (fun i s' hi hs' => by rcases (show i < j ∨ i = j by omega) with h9 | h9; exact hb.out i s' h9 hs'; subst h9; rw [HS_.out] at hs'; injection hs' with h8; rw [← h8]; exact HEQ.out)⟩)
  · have D9 := Lib.hid (show ¬ j < K.length by have := hj.out; omega)
    have HE := Lib.hid h
    clear h
    refine s_ (fun K21 hK21 => ?_)
    refine pu_ (v := .bool false) (y_run (by rfl) (fun W => by have d := D9.out; go_simp)) ?_
    (try simp only [zP, zN, zA, zB, zC])
    refine nl_ (hK21 _ _ ?_); clear hK21 K21
    refine sq_ (fun K22 hK22 => ?_)
    refine wp_cond_false rfl ?_
    refine wp_exit ?_
    refine th_exit ?_
    refine th_exit ?_
    refine ib_exit ?_
    refine th_norm (hK2 _ _ ?_); try clear hK2 K2
    refine s_ (fun K23 hK23 => ?_)
    refine pu_ (v := .int .i64 (-1)) (y_assign rfl (by rfl) (by rfl)) ?_
    (try simp only [zP, zN, zA, zB, zC])
    refine nl_ (hK23 _ _ ?_); clear hK23 K23
    refine wp_ret ?_
    refine hQ _ _ _ ?_
    refine bodyPost_ret (res1 rfl (rdv_tmp (v := .int .i64 (-1)) (by rfl))) rfl ?_
    exact ⟨by rw [show fxI id L = -1 from by unfold fxI; rw [fx_none (fun i s' hs' => hb.out i s' (by have h9 := (List.getElem?_eq_some_iff.1 hs').1; have h8 := HA.out.len; have := HE.out; omega) hs')]], C0.out⟩
theorem find_ {A : Option Addr} {z c x la : Nat} {K : List SB} {L : List HS} {id : Int} (HN : Hid (K.length ≤ 100)) (HA : Hid (AllIs w c K L)) (SL : Hid (SrcIs w (.slice A K.length z) (K.length) (K.flatMap ptrC) 1)) (FX : Hid (Blk w x (#[.slice A K.length z, .int .i64 la]) 60)) :
    Calls Tryd.prog 29 #[.pointer (some ⟨x, 0, none⟩), .int .i64 id] w fun en w' => en = .returned (.int .i64 (fxI id L)) ∧ Ch [] w w' := by
  have C0 := Lib.hid (Ch.refl [] w)
  go_enter Tryd.func29, Tryd.ntmps29
  refine q_ (fun Q hQ hP => ?_)
  refine s_ (fun K1 hK1 => ?_)
  refine ef_ (fun K2 hK2 => ?_)
  refine e_boxN (by rfl) rfl rfl (cs := #[.int .i64 id]) (v := .int .i64 id) (by rfl) rfl ?_
  rintro g3 w4 HG5 B6 C7
  have nw8 := Lib.hid (show w.heap.size ≤ g3 by have := C0.out.size; have := HG5.out; omega)
  have nx9 := Lib.hid (SL.out.ne_new (by decide) HG5)
  have C0' := Lib.hid (show Ch [] w w4 from C0.out.trans' C7 (fun x hx => absurd hx (by simp)))
  have SL' := Lib.hid (show SrcIs w4 (.slice A K.length z) (K.length) (K.flatMap ptrC) 1 from SL.out.chx C7 xnin_nil)
  have FX' := Lib.hid (show Blk w4 x (#[.slice A K.length z, .int .i64 la]) 60 from C7.blk FX.out nin_nil)
  clear C0 SL FX
  have C0 := C0'; clear C0'
  have SL := SL'; clear SL'
  have FX := FX'; clear FX'
  have Fg3 := Lib.hid (show Blk w4 g3 (#[.int .i64 id]) 3 from B6); clear B6 C7
  refine hK2 _ _ ?_; clear hK2 K2
  (try simp only [zP, zN, zA, zB, zC])
  refine pu_ (v := .int .i64 0) (y_assign rfl (by rfl) (by rfl)) ?_
  (try simp only [zP, zN, zA, zB, zC])
  refine nl_ (hK1 _ _ ?_); clear hK1 K1
  refine s_ (fun K10 hK10 => ?_)
  refine pu_ (v := .pointer (some ⟨x, 0, none⟩)) (y_move rfl (by rfl) (by rfl)) ?_
  (try simp only [zP, zN, zA, zB, zC])
  refine pu_ (v := .pointer (some ⟨x, 0, none⟩)) (y_nil rfl (by rfl) (by rfl)) ?_
  (try simp only [zP, zN, zA, zB, zC])
  refine pu_ (v := .pointer (some ⟨x, 0, none⟩)) (y_run (by rfl) (fun W => by go_simp)) ?_
  (try simp only [zP, zN, zA, zB, zC])
  refine ld_ (v := .slice A K.length z) rfl (by rfl) (by rfl) (run_load_one ((FX.out.cell 0).trans rfl) Tryd.underlying58 rfl) ?_
  (try simp only [zP, zN, zA, zB, zC])
  refine pu_ (v := .func (.func 44) #[] #[.pointer (some ⟨g3, 0, none⟩)]) (y_run (by rfl) (fun W => by go_simp)) ?_
  (try simp only [zP, zN, zA, zB, zC])
  refine ef_ (fun K11 hK11 => ?_)
  refine e_call Tryd.func43 (by kernel_rfl) rfl #[.slice A K.length z, .func (.func 44) #[] #[.pointer (some ⟨g3, 0, none⟩)]] (by rfl) rfl rfl (by first | rfl | (simp only [List.map_toArray, List.map_cons, List.map_nil]; first | done | rfl)) ((index_ HN (Lib.hid (HA.out.ch C0.out (by simp))) SL Fg3)) ?_
  rintro en w13 ⟨rfl, cc12⟩
  refine ⟨_, rfl, ?_⟩
  have C0' := Lib.hid (show Ch [] w w13 from C0.out.trans' cc12 (fun x hx => absurd hx (by simp)))
  have SL' := Lib.hid (show SrcIs w13 (.slice A K.length z) (K.length) (K.flatMap ptrC) 1 from SL.out.chx cc12 xnin_nil)
  have FX' := Lib.hid (show Blk w13 x (#[.slice A K.length z, .int .i64 la]) 60 from cc12.blk FX.out nin_nil)
  have Fg3' := Lib.hid (show Blk w13 g3 (#[.int .i64 id]) 3 from cc12.blk Fg3.out nin_nil)
  clear C0 SL FX Fg3
  have C0 := C0'; clear C0'
  have SL := SL'; clear SL'
  have FX := FX'; clear FX'
  have Fg3 := Fg3'; clear Fg3'
  clear cc12
  refine hK11 _ _ ?_; clear hK11 K11
  (try simp only [zP, zN, zA, zB, zC])
  refine pu_ (v := .int .i64 (fxI id L)) (y_assign rfl (by rfl) (by rfl)) ?_
  (try simp only [zP, zN, zA, zB, zC])
  refine nl_ (hK10 _ _ ?_); clear hK10 K10
  refine wp_ret ?_
  refine hQ _ _ _ ?_
  refine bodyPost_ret (res1 rfl (rdv_tmp (v := .int .i64 (fxI id L)) (by rfl))) rfl ?_
  exact ⟨rfl, C0.out⟩
theorem of_none {A : Option Addr} {z c x la : Nat} {K : List SB} {L : List HS} {id : Int} (HN : Hid (K.length ≤ 100)) (HA : Hid (AllIs w c K L)) (HF : Hid (fx id L = none)) (SL : Hid (SrcIs w (.slice A K.length z) (K.length) (K.flatMap ptrC) 1)) (FX : Hid (Blk w x (#[.slice A K.length z, .int .i64 la]) 60)) :
    Calls Tryd.prog 24 #[.pointer (some ⟨x, 0, none⟩), .int .i64 id] w fun en w' => en = .returned (.pointer none) ∧ Ch [] w w' := by
  have C0 := Lib.hid (Ch.refl [] w)
  have HFI := Lib.hid (show fxI id L = -1 by unfold fxI; rw [HF.out])
  go_enter Tryd.func24, Tryd.ntmps24
  refine q_ (fun Q hQ hP => ?_)
  refine s_ (fun K1 hK1 => ?_)
  refine pu_ (v := .pointer none) (y_assign rfl (by rfl) (by rfl)) ?_
  (try simp only [zP, zN, zA, zB, zC])
  refine nl_ (hK1 _ _ ?_); clear hK1 K1
  refine sq_ (fun K2 hK2 => ?_)
  refine s_ (fun K3 hK3 => ?_)
  refine pu_ (v := .pointer (some ⟨x, 0, none⟩)) (y_move rfl (by rfl) (by rfl)) ?_
  (try simp only [zP, zN, zA, zB, zC])
  refine pu_ (v := .int .i64 id) (y_move rfl (by rfl) (by rfl)) ?_
  (try simp only [zP, zN, zA, zB, zC])
  refine ef_ (fun K4 hK4 => ?_)
  refine e_call Tryd.func29 (by kernel_rfl) rfl #[.pointer (some ⟨x, 0, none⟩), .int .i64 id] (by rfl) rfl rfl (by first | rfl | (simp only [List.map_toArray, List.map_cons, List.map_nil]; first | done | rfl)) ((find_ (id := id) HN (Lib.hid (HA.out.ch C0.out (by simp))) SL FX)) ?_
  rintro en w5 ⟨rfl, cc⟩
  refine ⟨_, rfl, ?_⟩
  rw [HFI.out]
  have C0' := Lib.hid (show Ch [] w w5 from C0.out.trans' cc (fun x hx => absurd hx (by simp)))
  have SL' := Lib.hid (show SrcIs w5 (.slice A K.length z) (K.length) (K.flatMap ptrC) 1 from SL.out.chx cc xnin_nil)
  have FX' := Lib.hid (show Blk w5 x (#[.slice A K.length z, .int .i64 la]) 60 from cc.blk FX.out nin_nil)
  clear C0 SL FX
  have C0 := C0'; clear C0'
  have SL := SL'; clear SL'
  have FX := FX'; clear FX'
  clear cc
  refine hK4 _ _ ?_; clear hK4 K4
  (try simp only [zP, zN, zA, zB, zC])
  refine pu_ (v := .int .i64 (-1)) (y_assign rfl (by rfl) (by rfl)) ?_
  (try simp only [zP, zN, zA, zB, zC])
  refine nl_ (hK3 _ _ ?_); clear hK3 K3
  refine s_ (fun K6 hK6 => ?_)
  refine pu_ (v := .int .i64 (-1)) (y_move rfl (by rfl) (by rfl)) ?_
  (try simp only [zP, zN, zA, zB, zC])
  refine pu_ (v := .bool false) (y_run (by rfl) (fun W => by first | (go_simp; done) | (go_simp; rfl) | (go_simp; decide))) ?_
  (try simp only [zP, zN, zA, zB, zC])
  refine nl_ (hK6 _ _ ?_); clear hK6 K6
  refine wp_cond_false rfl ?_
  refine wp_skip ?_
  refine th_norm (hK2 _ _ ?_); try clear hK2 K2
  refine s_ (fun K7 hK7 => ?_)
  refine pu_ (v := .pointer none) (y_assign rfl (by rfl) (by rfl)) ?_
  (try simp only [zP, zN, zA, zB, zC])
  refine nl_ (hK7 _ _ ?_); clear hK7 K7
  refine wp_ret ?_
  refine hQ _ _ _ ?_
  refine bodyPost_ret (res1 rfl (rdv_tmp (v := .pointer none) (by rfl))) rfl ?_
  exact ⟨rfl, C0.out⟩
theorem of_some {A : Option Addr} {z c x la : Nat} {K : List SB} {L : List HS} {id : Int} (HN : Hid (K.length ≤ 100)) (HA : Hid (AllIs w c K L)) {j : Nat} {k : SB} (HF : Hid (fx id L = some j)) (HK : Hid (K[j]? = some k)) (SL : Hid (SrcIs w (.slice A K.length z) (K.length) (K.flatMap ptrC) 1)) (FX : Hid (Blk w x (#[.slice A K.length z, .int .i64 la]) 60)) :
    Calls Tryd.prog 24 #[.pointer (some ⟨x, 0, none⟩), .int .i64 id] w fun en w' => en = .returned (.pointer (some ⟨k.b, 0, none⟩)) ∧ Ch [] w w' := by
  have C0 := Lib.hid (Ch.refl [] w)
  have HFI := Lib.hid (show fxI id L = j by unfold fxI; rw [HF.out])
  go_enter Tryd.func24, Tryd.ntmps24
  refine q_ (fun Q hQ hP => ?_)
  refine s_ (fun K1 hK1 => ?_)
  refine pu_ (v := .pointer none) (y_assign rfl (by rfl) (by rfl)) ?_
  (try simp only [zP, zN, zA, zB, zC])
  refine nl_ (hK1 _ _ ?_); clear hK1 K1
  refine sq_ (fun K2 hK2 => ?_)
  refine s_ (fun K3 hK3 => ?_)
  refine pu_ (v := .pointer (some ⟨x, 0, none⟩)) (y_move rfl (by rfl) (by rfl)) ?_
  (try simp only [zP, zN, zA, zB, zC])
  refine pu_ (v := .int .i64 id) (y_move rfl (by rfl) (by rfl)) ?_
  (try simp only [zP, zN, zA, zB, zC])
  refine ef_ (fun K4 hK4 => ?_)
  refine e_call Tryd.func29 (by kernel_rfl) rfl #[.pointer (some ⟨x, 0, none⟩), .int .i64 id] (by rfl) rfl rfl (by first | rfl | (simp only [List.map_toArray, List.map_cons, List.map_nil]; first | done | rfl)) ((find_ (id := id) HN (Lib.hid (HA.out.ch C0.out (by simp))) SL FX)) ?_
  rintro en w5 ⟨rfl, cc⟩
  refine ⟨_, rfl, ?_⟩
  rw [HFI.out]
  have C0' := Lib.hid (show Ch [] w w5 from C0.out.trans' cc (fun x hx => absurd hx (by simp)))
  have SL' := Lib.hid (show SrcIs w5 (.slice A K.length z) (K.length) (K.flatMap ptrC) 1 from SL.out.chx cc xnin_nil)
  have FX' := Lib.hid (show Blk w5 x (#[.slice A K.length z, .int .i64 la]) 60 from cc.blk FX.out nin_nil)
  clear C0 SL FX
  have C0 := C0'; clear C0'
  have SL := SL'; clear SL'
  have FX := FX'; clear FX'
  clear cc
  refine hK4 _ _ ?_; clear hK4 K4
  (try simp only [zP, zN, zA, zB, zC])
  refine pu_ (v := .int .i64 j) (y_assign rfl (by rfl) (by rfl)) ?_
  (try simp only [zP, zN, zA, zB, zC])
  refine nl_ (hK3 _ _ ?_); clear hK3 K3
  skip
  · obtain ⟨a, hsm_a⟩ := src_some SL.out (by have := (List.getElem?_eq_some_iff.1 HK.out).1; omega)
    subst hsm_a
    have D16 := Lib.hid (show (j : Int) < (K.length : Int) by have := (List.getElem?_eq_some_iff.1 HK.out).1; omega)
    have D10 := Lib.hid (show (0 : Int) ≤ (j : Int) by omega)
    refine s_ (fun K6 hK6 => ?_)
    refine pu_ (v := .int .i64 j) (y_move rfl (by rfl) (by rfl)) ?_
    (try simp only [zP, zN, zA, zB, zC])
    refine pu_ (v := .bool true) (y_run (by rfl) (fun W => by have d := D10.out; go_simp)) ?_
    (try simp only [zP, zN, zA, zB, zC])
    refine nl_ (hK6 _ _ ?_); clear hK6 K6
    refine wp_cond_true rfl ?_
    refine s_ (fun K7 hK7 => ?_)
    refine pu_ (v := .pointer (some ⟨x, 0, none⟩)) (y_move rfl (by rfl) (by rfl)) ?_
    (try simp only [zP, zN, zA, zB, zC])
    refine pu_ (v := .pointer (some ⟨x, 0, none⟩)) (y_nil rfl (by rfl) (by rfl)) ?_
    (try simp only [zP, zN, zA, zB, zC])
    refine pu_ (v := .pointer (some ⟨x, 0, none⟩)) (y_run (by rfl) (fun W => by go_simp)) ?_
    (try simp only [zP, zN, zA, zB, zC])
    refine ld_ (v := .slice (some a) K.length z) rfl (by rfl) (by rfl) (run_load_one ((FX.out.cell 0).trans rfl) Tryd.underlying58 rfl) ?_
    (try simp only [zP, zN, zA, zB, zC])
    refine pu_ (v := .int .i64 j) (y_move rfl (by rfl) (by rfl)) ?_
    (try simp only [zP, zN, zA, zB, zC])
    refine pu_ (v := .pointer (some (a.add j))) (y_run (by rfl) (fun W => by have d := D16.out; go_simp)) ?_
    (try simp only [zP, zN, zA, zB, zC])
    refine ld_ (v := .pointer (some ⟨k.b, 0, none⟩)) rfl (by rfl) (by rfl) (run_load_one (one_at (by have h9 := src_at ptrC_len SL.out HK.out; rw [Nat.mul_one] at h9; exact h9)) Tryd.underlying61 rfl) ?_
    (try simp only [zP, zN, zA, zB, zC])
    refine pu_ (v := .pointer (some ⟨k.b, 0, none⟩)) (y_assign rfl (by rfl) (by rfl)) ?_
    (try simp only [zP, zN, zA, zB, zC])
    refine nl_ (hK7 _ _ ?_); clear hK7 K7
    refine wp_ret ?_
    refine th_ret ?_
    refine hQ _ _ _ ?_
    refine bodyPost_ret (res1 rfl (rdv_tmp (v := .pointer (some ⟨k.b, 0, none⟩)) (by rfl))) rfl ?_
    exact ⟨rfl, C0.out⟩
theorem len_ {A : Option Addr} {z c x la : Nat} {K : List SB} {L : List HS} (HN : Hid (K.length ≤ 100)) (HA : Hid (AllIs w c K L)) (SL : Hid (SrcIs w (.slice A K.length z) (K.length) (K.flatMap ptrC) 1)) (FX : Hid (Blk w x (#[.slice A K.length z, .int .i64 la]) 60)) :
    Calls Tryd.prog 19 #[.pointer (some ⟨x, 0, none⟩)] w fun en w' => en = .returned (.int .i64 K.length) ∧ Ch [] w w' := by
  have C0 := Lib.hid (Ch.refl [] w)
  go_enter Tryd.func19, Tryd.ntmps19
  refine q_ (fun Q hQ hP => ?_)
  refine s_ (fun K1 hK1 => ?_)
  refine pu_ (v := .int .i64 0) (y_assign rfl (by rfl) (by rfl)) ?_
  (try simp only [zP, zN, zA, zB, zC])
  refine nl_ (hK1 _ _ ?_); clear hK1 K1
  refine s_ (fun K2 hK2 => ?_)
  refine pu_ (v := .pointer (some ⟨x, 0, none⟩)) (y_move rfl (by rfl) (by rfl)) ?_
  (try simp only [zP, zN, zA, zB, zC])
  refine pu_ (v := .pointer (some ⟨x, 0, none⟩)) (y_nil rfl (by rfl) (by rfl)) ?_
  (try simp only [zP, zN, zA, zB, zC])
  refine pu_ (v := .pointer (some ⟨x, 0, none⟩)) (y_run (by rfl) (fun W => by go_simp)) ?_
  (try simp only [zP, zN, zA, zB, zC])
  refine ld_ (v := .slice A K.length z) rfl (by rfl) (by rfl) (run_load_one ((FX.out.cell 0).trans rfl) Tryd.underlying58 rfl) ?_
  (try simp only [zP, zN, zA, zB, zC])
  refine pu_ (v := .int .i64 K.length) (y_run (by rfl) (fun W => by go_simp)) ?_
  (try simp only [zP, zN, zA, zB, zC])
  refine pu_ (v := .int .i64 K.length) (y_assign rfl (by rfl) (by rfl)) ?_
  (try simp only [zP, zN, zA, zB, zC])
  refine nl_ (hK2 _ _ ?_); clear hK2 K2
  refine wp_ret ?_
  refine hQ _ _ _ ?_
  refine bodyPost_ret (res1 rfl (rdv_tmp (v := .int .i64 K.length) (by rfl))) rfl ?_
  exact ⟨rfl, C0.out⟩
theorem ofx_none {A : Option Addr} {z c x la : Nat} {K : List SB} {L : List HS} {id : Int} (HN : Hid (K.length ≤ 100)) (HA : Hid (AllIs w c K L)) (HF : Hid (fx id L = none)) (SL : Hid (SrcIs w (.slice A K.length z) (K.length) (K.flatMap ptrC) 1)) (FX : Hid (Blk w x (#[.slice A K.length z, .int .i64 la]) 60)) :
    Calls Tryd.prog 15 #[.pointer (some ⟨x, 0, none⟩), .int .i64 id] w fun en w' => en = .returned (.tuple #[.int .i64 0, .int .i64 0, .bool false]) ∧ Ch [] w w' := by
  have C0 := Lib.hid (Ch.refl [] w)
  go_enter Tryd.func15, Tryd.ntmps15
  refine q_ (fun Q hQ hP => ?_)
  refine s_ (fun K1 hK1 => ?_)
  refine pu_ (v := .int .i64 0) (y_assign rfl (by rfl) (by rfl)) ?_
  (try simp only [zP, zN, zA, zB, zC])
  refine pu_ (v := .int .i64 0) (y_assign rfl (by rfl) (by rfl)) ?_
  (try simp only [zP, zN, zA, zB, zC])
  refine pu_ (v := .bool false) (y_assign rfl (by rfl) (by rfl)) ?_
  (try simp only [zP, zN, zA, zB, zC])
  refine nl_ (hK1 _ _ ?_); clear hK1 K1
  refine s_ (fun K2 hK2 => ?_)
  refine pu_ (v := .pointer (some ⟨x, 0, none⟩)) (y_move rfl (by rfl) (by rfl)) ?_
  (try simp only [zP, zN, zA, zB, zC])
  refine pu_ (v := .int .i64 id) (y_move rfl (by rfl) (by rfl)) ?_
  (try simp only [zP, zN, zA, zB, zC])
  refine ef_ (fun K3 hK3 => ?_)
  refine e_call Tryd.func24 (by kernel_rfl) rfl #[.pointer (some ⟨x, 0, none⟩), .int .i64 id] (by rfl) rfl rfl (by first | rfl | (simp only [List.map_toArray, List.map_cons, List.map_nil]; first | done | rfl)) ((of_none HN (Lib.hid (HA.out.ch C0.out (by simp))) HF SL FX)) ?_
  rintro en w5 ⟨rfl, cc4⟩
  refine ⟨_, rfl, ?_⟩
  have C0' := Lib.hid (show Ch [] w w5 from C0.out.trans' cc4 (fun x hx => absurd hx (by simp)))
  have SL' := Lib.hid (show SrcIs w5 (.slice A K.length z) (K.length) (K.flatMap ptrC) 1 from SL.out.chx cc4 xnin_nil)
  have FX' := Lib.hid (show Blk w5 x (#[.slice A K.length z, .int .i64 la]) 60 from cc4.blk FX.out nin_nil)
  clear C0 SL FX
  have C0 := C0'; clear C0'
  have SL := SL'; clear SL'
  have FX := FX'; clear FX'
  clear cc4
  refine hK3 _ _ ?_; clear hK3 K3
  (try simp only [zP, zN, zA, zB, zC])
  refine pu_ (v := .pointer none) (y_assign rfl (by rfl) (by rfl)) ?_
  (try simp only [zP, zN, zA, zB, zC])
  refine nl_ (hK2 _ _ ?_); clear hK2 K2
  refine sq_ (fun K6 hK6 => ?_)
  refine s_ (fun K7 hK7 => ?_)
  refine pu_ (v := .pointer none) (y_move rfl (by rfl) (by rfl)) ?_
  (try simp only [zP, zN, zA, zB, zC])
  refine pu_ (v := .bool true) (y_run (by rfl) (fun W => by first | (go_simp; done) | (go_simp; rfl) | (go_simp; decide))) ?_
  (try simp only [zP, zN, zA, zB, zC])
  refine nl_ (hK7 _ _ ?_); clear hK7 K7
  refine wp_cond_true rfl ?_
  refine s_ (fun K8 hK8 => ?_)
  refine pu_ (v := .int .i64 0) (y_assign rfl (by rfl) (by rfl)) ?_
  (try simp only [zP, zN, zA, zB, zC])
  refine pu_ (v := .int .i64 0) (y_assign rfl (by rfl) (by rfl)) ?_
  (try simp only [zP, zN, zA, zB, zC])
  refine pu_ (v := .bool false) (y_assign rfl (by rfl) (by rfl)) ?_
  (try simp only [zP, zN, zA, zB, zC])
  refine nl_ (hK8 _ _ ?_); clear hK8 K8
  refine wp_ret ?_
  refine th_ret ?_
  refine hQ _ _ _ ?_
  refine bodyPost_ret (res3 rfl (rdv_tmp (v := .int .i64 0) (by rfl)) (rdv_tmp (v := .int .i64 0) (by rfl)) (rdv_tmp (v := .bool false) (by rfl))) rfl ?_
  exact ⟨rfl, C0.out⟩
theorem ofx_some {A : Option Addr} {z c x la : Nat} {K : List SB} {L : List HS} {id : Int} (HN : Hid (K.length ≤ 100)) (HA : Hid (AllIs w c K L)) {j : Nat} {k : SB} {s : HS} (HF : Hid (fx id L = some j)) (HK : Hid (K[j]? = some k)) (SL : Hid (SrcIs w (.slice A K.length z) (K.length) (K.flatMap ptrC) 1)) (FX : Hid (Blk w x (#[.slice A K.length z, .int .i64 la]) 60)) (FS : Hid (Blk w k.b (#[.int .i64 s.id, .int .i64 s.box, .int .i64 s.ctr, .bool s.op, .pointer (some ⟨k.bi, 0, none⟩), .pointer (some ⟨k.bo, 0, none⟩)]) 65)) :
    Calls Tryd.prog 15 #[.pointer (some ⟨x, 0, none⟩), .int .i64 id] w fun en w' => en = .returned (.tuple #[.int .i64 s.box, .int .i64 s.ctr, .bool s.op]) ∧ Ch [] w w' := by
  have C0 := Lib.hid (Ch.refl [] w)
  go_enter Tryd.func15, Tryd.ntmps15
  refine q_ (fun Q hQ hP => ?_)
  refine s_ (fun K1 hK1 => ?_)
  refine pu_ (v := .int .i64 0) (y_assign rfl (by rfl) (by rfl)) ?_
  (try simp only [zP, zN, zA, zB, zC])
  refine pu_ (v := .int .i64 0) (y_assign rfl (by rfl) (by rfl)) ?_
  (try simp only [zP, zN, zA, zB, zC])
  refine pu_ (v := .bool false) (y_assign rfl (by rfl) (by rfl)) ?_
  (try simp only [zP, zN, zA, zB, zC])
  refine nl_ (hK1 _ _ ?_); clear hK1 K1
  refine s_ (fun K2 hK2 => ?_)
  refine pu_ (v := .pointer (some ⟨x, 0, none⟩)) (y_move rfl (by rfl) (by rfl)) ?_
  (try simp only [zP, zN, zA, zB, zC])
  refine pu_ (v := .int .i64 id) (y_move rfl (by rfl) (by rfl)) ?_
  (try simp only [zP, zN, zA, zB, zC])
  refine ef_ (fun K3 hK3 => ?_)
  refine e_call Tryd.func24 (by kernel_rfl) rfl #[.pointer (some ⟨x, 0, none⟩), .int .i64 id] (by rfl) rfl rfl (by first | rfl | (simp only [List.map_toArray, List.map_cons, List.map_nil]; first | done | rfl)) ((of_some HN (Lib.hid (HA.out.ch C0.out (by simp))) HF HK SL FX)) ?_
  rintro en w5 ⟨rfl, cc4⟩
  refine ⟨_, rfl, ?_⟩
  have C0' := Lib.hid (show Ch [] w w5 from C0.out.trans' cc4 (fun x hx => absurd hx (by simp)))
  have SL' := Lib.hid (show SrcIs w5 (.slice A K.length z) (K.length) (K.flatMap ptrC) 1 from SL.out.chx cc4 xnin_nil)
  have FX' := Lib.hid (show Blk w5 x (#[.slice A K.length z, .int .i64 la]) 60 from cc4.blk FX.out nin_nil)
  have FS' := Lib.hid (show Blk w5 k.b (#[.int .i64 s.id, .int .i64 s.box, .int .i64 s.ctr, .bool s.op, .pointer (some ⟨k.bi, 0, none⟩), .pointer (some ⟨k.bo, 0, none⟩)]) 65 from cc4.blk FS.out nin_nil)
  clear C0 SL FX FS
  have C0 := C0'; clear C0'
  have SL := SL'; clear SL'
  have FX := FX'; clear FX'
  have FS := FS'; clear FS'
  clear cc4
  refine hK3 _ _ ?_; clear hK3 K3
  (try simp only [zP, zN, zA, zB, zC])
  refine pu_ (v := .pointer (some ⟨k.b, 0, none⟩)) (y_assign rfl (by rfl) (by rfl)) ?_
  (try simp only [zP, zN, zA, zB, zC])
  refine nl_ (hK2 _ _ ?_); clear hK2 K2
  refine sq_ (fun K6 hK6 => ?_)
  refine s_ (fun K7 hK7 => ?_)
  refine pu_ (v := .pointer (some ⟨k.b, 0, none⟩)) (y_move rfl (by rfl) (by rfl)) ?_
  (try simp only [zP, zN, zA, zB, zC])
  refine pu_ (v := .bool false) (y_run (by rfl) (fun W => by first | (go_simp; done) | (go_simp; rfl) | (go_simp; decide))) ?_
  (try simp only [zP, zN, zA, zB, zC])
  refine nl_ (hK7 _ _ ?_); clear hK7 K7
  refine wp_cond_false rfl ?_
  refine wp_skip ?_
  refine th_norm (hK6 _ _ ?_); try clear hK6 K6
  refine sq_ (fun K8 hK8 => ?_)
  refine startk_ (S := fun W => Blk W k.b (#[.int .i64 s.id, .int .i64 s.box, .int .i64 s.ctr, .bool s.op, .pointer (some ⟨k.bi, 0, none⟩), .pointer (some ⟨k.bo, 0, none⟩)]) 65 ∧ True) (ds := []) #[false, false, false, false, false, false, false, false, false, false, false, false, false, false, false] (by kernel_rfl) rfl rfl (fun W c => ⟨c.blk FS.out nin_nil, trivial⟩) (fun w9 C10 hS11 => ?_)
  have C0' := Lib.hid (show Ch [] w w9 from C0.out.trans' C10 (fun x hx => absurd hx (by simp)))
  have SL' := Lib.hid (show SrcIs w9 (.slice A K.length z) (K.length) (K.flatMap ptrC) 1 from SL.out.chx C10 xnin_nil)
  have FX' := Lib.hid (show Blk w9 x (#[.slice A K.length z, .int .i64 la]) 60 from C10.blk FX.out nin_nil)
  have FS' := Lib.hid (show Blk w9 k.b (#[.int .i64 s.id, .int .i64 s.box, .int .i64 s.ctr, .bool s.op, .pointer (some ⟨k.bi, 0, none⟩), .pointer (some ⟨k.bo, 0, none⟩)]) 65 from C10.blk FS.out nin_nil)
  clear C0 SL FX FS
  have C0 := C0'; clear C0'
  have SL := SL'; clear SL'
  have FX := FX'; clear FX'
  have FS := FS'; clear FS'
  clear C10
  refine pure_ (i := 0) (N := some 13) (v := .pointer (some ⟨k.b, 0, none⟩)) #[true, false, false, false, false, false, false, false, false, false, false, false, false, false, false] rfl rfl (by kernel_rfl) (fun c a w h => hP c a _ _ w h) (y_move rfl (by rfl) (by rfl)) rfl ?_
  (try simp only [zP, zN, zA, zB, zC])
  refine pure_ (i := 1) (N := some 14) (v := .pointer (some ⟨k.b, 0, none⟩)) #[true, true, false, false, false, false, false, false, false, false, false, false, false, false, false] rfl rfl (by kernel_rfl) (fun c a w h => hP c a _ _ w h) (y_nil rfl (by rfl) (by rfl)) rfl ?_
  (try simp only [zP, zN, zA, zB, zC])
  refine pure_ (i := 2) (N := some 15) (v := .pointer (some ⟨k.b, 1, none⟩)) #[true, true, true, false, false, false, false, false, false, false, false, false, false, false, false] rfl rfl (by kernel_rfl) (fun c a w h => hP c a _ _ w h) (y_run (by rfl) (fun W => by go_simp)) rfl ?_
  (try simp only [zP, zN, zA, zB, zC])
  refine take_ (i := 3) (N := some 16) (v := .int .i64 s.box) #[true, true, true, true, false, false, false, false, false, false, false, false, false, false, false] rfl rfl (by kernel_rfl) (fun c a w h => hP c a _ _ w h) (y_load (p := ⟨k.b, 1, none⟩) rfl (by rfl) (by rfl) (fun W hS => run_load_one ((hS.1.cell 1).trans rfl) Tryd.underlying3 rfl)) hS11 rfl ?_
  (try simp only [zP, zN, zA, zB, zC])
  refine pure_ (i := 4) (N := some 17) (v := .pointer (some ⟨k.b, 0, none⟩)) #[true, true, true, true, true, false, false, false, false, false, false, false, false, false, false] rfl rfl (by kernel_rfl) (fun c a w h => hP c a _ _ w h) (y_move rfl (by rfl) (by rfl)) rfl ?_
  (try simp only [zP, zN, zA, zB, zC])
  refine pure_ (i := 5) (N := some 18) (v := .pointer (some ⟨k.b, 0, none⟩)) #[true, true, true, true, true, true, false, false, false, false, false, false, false, false, false] rfl rfl (by kernel_rfl) (fun c a w h => hP c a _ _ w h) (y_nil rfl (by rfl) (by rfl)) rfl ?_
  (try simp only [zP, zN, zA, zB, zC])
  refine pure_ (i := 6) (N := some 19) (v := .pointer (some ⟨k.b, 2, none⟩)) #[true, true, true, true, true, true, true, false, false, false, false, false, false, false, false] rfl rfl (by kernel_rfl) (fun c a w h => hP c a _ _ w h) (y_run (by rfl) (fun W => by go_simp)) rfl ?_
  (try simp only [zP, zN, zA, zB, zC])
  refine take_ (i := 7) (N := some 20) (v := .int .i64 s.ctr) #[true, true, true, true, true, true, true, true, false, false, false, false, false, false, false] rfl rfl (by kernel_rfl) (fun c a w h => hP c a _ _ w h) (y_load (p := ⟨k.b, 2, none⟩) rfl (by rfl) (by rfl) (fun W hS => run_load_one ((hS.1.cell 2).trans rfl) Tryd.underlying3 rfl)) hS11 rfl ?_
  (try simp only [zP, zN, zA, zB, zC])
  refine pure_ (i := 8) (N := some 21) (v := .pointer (some ⟨k.b, 0, none⟩)) #[true, true, true, true, true, true, true, true, true, false, false, false, false, false, false] rfl rfl (by kernel_rfl) (fun c a w h => hP c a _ _ w h) (y_move rfl (by rfl) (by rfl)) rfl ?_
  (try simp only [zP, zN, zA, zB, zC])
  refine pure_ (i := 9) (N := some 22) (v := .pointer (some ⟨k.b, 0, none⟩)) #[true, true, true, true, true, true, true, true, true, true, false, false, false, false, false] rfl rfl (by kernel_rfl) (fun c a w h => hP c a _ _ w h) (y_nil rfl (by rfl) (by rfl)) rfl ?_
  (try simp only [zP, zN, zA, zB, zC])
  refine pure_ (i := 10) (N := some 23) (v := .pointer (some ⟨k.b, 3, none⟩)) #[true, true, true, true, true, true, true, true, true, true, true, false, false, false, false] rfl rfl (by kernel_rfl) (fun c a w h => hP c a _ _ w h) (y_run (by rfl) (fun W => by go_simp)) rfl ?_
  (try simp only [zP, zN, zA, zB, zC])
  refine take_ (i := 11) (N := some 24) (v := .bool s.op) #[true, true, true, true, true, true, true, true, true, true, true, true, false, false, false] rfl rfl (by kernel_rfl) (fun c a w h => hP c a _ _ w h) (y_load (p := ⟨k.b, 3, none⟩) rfl (by rfl) (by rfl) (fun W hS => run_load_one ((hS.1.cell 3).trans rfl) Tryd.underlying4 rfl)) hS11 rfl ?_
  (try simp only [zP, zN, zA, zB, zC])
  refine pure_ (i := 12) (N := some 4) (v := .int .i64 s.box) #[true, true, true, true, true, true, true, true, true, true, true, true, true, false, false] rfl rfl (by kernel_rfl) (fun c a w h => hP c a _ _ w h) (y_assign rfl (by rfl) (by rfl)) rfl ?_
  (try simp only [zP, zN, zA, zB, zC])
  refine pure_ (i := 13) (N := some 5) (v := .int .i64 s.ctr) #[true, true, true, true, true, true, true, true, true, true, true, true, true, true, false] rfl rfl (by kernel_rfl) (fun c a w h => hP c a _ _ w h) (y_assign rfl (by rfl) (by rfl)) rfl ?_
  (try simp only [zP, zN, zA, zB, zC])
  refine pure_ (i := 14) (N := some 6) (v := .bool s.op) #[true, true, true, true, true, true, true, true, true, true, true, true, true, true, true] rfl rfl (by kernel_rfl) (fun c a w h => hP c a _ _ w h) (y_assign rfl (by rfl) (by rfl)) rfl ?_
  (try simp only [zP, zN, zA, zB, zC])
  refine done_ (by kernel_rfl) (th_norm (hK8 _ _ ?_)); clear hK8 K8
  refine wp_ret ?_
  refine hQ _ _ _ ?_
  refine bodyPost_ret (res3 rfl (rdv_tmp (v := .int .i64 s.box) (by rfl)) (rdv_tmp (v := .int .i64 s.ctr) (by rfl)) (rdv_tmp (v := .bool s.op) (by rfl))) rfl ?_
  exact ⟨rfl, C0.out⟩
theorem write_none {A : Option Addr} {z c x la : Nat} {K : List SB} {L : List HS} {id : Int} {t : ByteArray} (HN : Hid (K.length ≤ 100)) (HA : Hid (AllIs w c K L)) (HF : Hid (fx id L = none)) (SL : Hid (SrcIs w (.slice A K.length z) (K.length) (K.flatMap ptrC) 1)) (FX : Hid (Blk w x (#[.slice A K.length z, .int .i64 la]) 60)) :
    Calls Tryd.prog 9 #[.pointer (some ⟨x, 0, none⟩), .int .i64 id, .string t] w fun en w' => en = .returned (.tuple #[.int .i64 0, .int .i64 6]) ∧ Ch [] w w' := by
  have C0 := Lib.hid (Ch.refl [] w)
  go_enter Tryd.func9, Tryd.ntmps9
  refine q_ (fun Q hQ hP => ?_)
  refine s_ (fun K1 hK1 => ?_)
  refine pu_ (v := .int .i64 0) (y_assign rfl (by rfl) (by rfl)) ?_
  (try simp only [zP, zN, zA, zB, zC])
  refine pu_ (v := .int .i64 0) (y_assign rfl (by rfl) (by rfl)) ?_
  (try simp only [zP, zN, zA, zB, zC])
  refine nl_ (hK1 _ _ ?_); clear hK1 K1
  refine s_ (fun K2 hK2 => ?_)
  refine pu_ (v := .pointer (some ⟨x, 0, none⟩)) (y_move rfl (by rfl) (by rfl)) ?_
  (try simp only [zP, zN, zA, zB, zC])
  refine pu_ (v := .int .i64 id) (y_move rfl (by rfl) (by rfl)) ?_
  (try simp only [zP, zN, zA, zB, zC])
  refine ef_ (fun K3 hK3 => ?_)
  refine e_call Tryd.func24 (by kernel_rfl) rfl #[.pointer (some ⟨x, 0, none⟩), .int .i64 id] (by rfl) rfl rfl (by first | rfl | (simp only [List.map_toArray, List.map_cons, List.map_nil]; first | done | rfl)) ((of_none HN (Lib.hid (HA.out.ch C0.out (by simp))) HF SL FX)) ?_
  rintro en w5 ⟨rfl, cc4⟩
  refine ⟨_, rfl, ?_⟩
  have C0' := Lib.hid (show Ch [] w w5 from C0.out.trans' cc4 (fun x hx => absurd hx (by simp)))
  have SL' := Lib.hid (show SrcIs w5 (.slice A K.length z) (K.length) (K.flatMap ptrC) 1 from SL.out.chx cc4 xnin_nil)
  have FX' := Lib.hid (show Blk w5 x (#[.slice A K.length z, .int .i64 la]) 60 from cc4.blk FX.out nin_nil)
  clear C0 SL FX
  have C0 := C0'; clear C0'
  have SL := SL'; clear SL'
  have FX := FX'; clear FX'
  clear cc4
  refine hK3 _ _ ?_; clear hK3 K3
  (try simp only [zP, zN, zA, zB, zC])
  refine pu_ (v := .pointer none) (y_assign rfl (by rfl) (by rfl)) ?_
  (try simp only [zP, zN, zA, zB, zC])
  refine nl_ (hK2 _ _ ?_); clear hK2 K2
  refine sq_ (fun K6 hK6 => ?_)
  refine wp_block ?_
  refine s_ (fun K7 hK7 => ?_)
  refine pu_ (v := .pointer none) (y_move rfl (by rfl) (by rfl)) ?_
  (try simp only [zP, zN, zA, zB, zC])
  refine pu_ (v := .bool true) (y_run (by rfl) (fun W => by first | (go_simp; done) | (go_simp; rfl) | (go_simp; decide))) ?_
  (try simp only [zP, zN, zA, zB, zC])
  refine pu_ (v := .bool true) (y_assign rfl (by rfl) (by rfl)) ?_
  (try simp only [zP, zN, zA, zB, zC])
  refine nl_ (hK7 _ _ ?_); clear hK7 K7
  refine wp_cond_true rfl ?_
  refine s_ (fun K8 hK8 => ?_)
  refine pu_ (v := .int .i64 0) (y_assign rfl (by rfl) (by rfl)) ?_
  (try simp only [zP, zN, zA, zB, zC])
  refine pu_ (v := .int .i64 6) (y_assign rfl (by rfl) (by rfl)) ?_
  (try simp only [zP, zN, zA, zB, zC])
  refine nl_ (hK8 _ _ ?_); clear hK8 K8
  refine wp_ret ?_
  refine ib_ret ?_
  refine th_ret ?_
  refine hQ _ _ _ ?_
  refine bodyPost_ret (res2 rfl (rdv_tmp (v := .int .i64 0) (by rfl)) (rdv_tmp (v := .int .i64 6) (by rfl))) rfl ?_
  exact ⟨rfl, C0.out⟩
theorem write_closed {A : Option Addr} {z c x la : Nat} {K : List SB} {L : List HS} {id : Int} {t : ByteArray} (HN : Hid (K.length ≤ 100)) (HA : Hid (AllIs w c K L)) {j : Nat} {k : SB} {s : HS} (HF : Hid (fx id L = some j)) (HK : Hid (K[j]? = some k)) (SL : Hid (SrcIs w (.slice A K.length z) (K.length) (K.flatMap ptrC) 1)) (FX : Hid (Blk w x (#[.slice A K.length z, .int .i64 la]) 60)) (FS : Hid (Blk w k.b (#[.int .i64 s.id, .int .i64 s.box, .int .i64 s.ctr, .bool false, .pointer (some ⟨k.bi, 0, none⟩), .pointer (some ⟨k.bo, 0, none⟩)]) 65)) :
    Calls Tryd.prog 9 #[.pointer (some ⟨x, 0, none⟩), .int .i64 id, .string t] w fun en w' => en = .returned (.tuple #[.int .i64 0, .int .i64 400]) ∧ Ch [] w w' := by
  have C0 := Lib.hid (Ch.refl [] w)
  go_enter Tryd.func9, Tryd.ntmps9
  refine q_ (fun Q hQ hP => ?_)
  refine s_ (fun K1 hK1 => ?_)
  refine pu_ (v := .int .i64 0) (y_assign rfl (by rfl) (by rfl)) ?_
  (try simp only [zP, zN, zA, zB, zC])
  refine pu_ (v := .int .i64 0) (y_assign rfl (by rfl) (by rfl)) ?_
  (try simp only [zP, zN, zA, zB, zC])
  refine nl_ (hK1 _ _ ?_); clear hK1 K1
  refine s_ (fun K2 hK2 => ?_)
  refine pu_ (v := .pointer (some ⟨x, 0, none⟩)) (y_move rfl (by rfl) (by rfl)) ?_
  (try simp only [zP, zN, zA, zB, zC])
  refine pu_ (v := .int .i64 id) (y_move rfl (by rfl) (by rfl)) ?_
  (try simp only [zP, zN, zA, zB, zC])
  refine ef_ (fun K3 hK3 => ?_)
  refine e_call Tryd.func24 (by kernel_rfl) rfl #[.pointer (some ⟨x, 0, none⟩), .int .i64 id] (by rfl) rfl rfl (by first | rfl | (simp only [List.map_toArray, List.map_cons, List.map_nil]; first | done | rfl)) ((of_some HN (Lib.hid (HA.out.ch C0.out (by simp))) HF HK SL FX)) ?_
  rintro en w5 ⟨rfl, cc4⟩
  refine ⟨_, rfl, ?_⟩
  have C0' := Lib.hid (show Ch [] w w5 from C0.out.trans' cc4 (fun x hx => absurd hx (by simp)))
  have SL' := Lib.hid (show SrcIs w5 (.slice A K.length z) (K.length) (K.flatMap ptrC) 1 from SL.out.chx cc4 xnin_nil)
  have FX' := Lib.hid (show Blk w5 x (#[.slice A K.length z, .int .i64 la]) 60 from cc4.blk FX.out nin_nil)
  have FS' := Lib.hid (show Blk w5 k.b (#[.int .i64 s.id, .int .i64 s.box, .int .i64 s.ctr, .bool false, .pointer (some ⟨k.bi, 0, none⟩), .pointer (some ⟨k.bo, 0, none⟩)]) 65 from cc4.blk FS.out nin_nil)
  clear C0 SL FX FS
  have C0 := C0'; clear C0'
  have SL := SL'; clear SL'
  have FX := FX'; clear FX'
  have FS := FS'; clear FS'
  clear cc4
  refine hK3 _ _ ?_; clear hK3 K3
  (try simp only [zP, zN, zA, zB, zC])
  refine pu_ (v := .pointer (some ⟨k.b, 0, none⟩)) (y_assign rfl (by rfl) (by rfl)) ?_
  (try simp only [zP, zN, zA, zB, zC])
  refine nl_ (hK2 _ _ ?_); clear hK2 K2
  refine sq_ (fun K6 hK6 => ?_)
  refine wp_block ?_
  refine s_ (fun K7 hK7 => ?_)
  refine pu_ (v := .pointer (some ⟨k.b, 0, none⟩)) (y_move rfl (by rfl) (by rfl)) ?_
  (try simp only [zP, zN, zA, zB, zC])
  refine pu_ (v := .bool false) (y_run (by rfl) (fun W => by first | (go_simp; done) | (go_simp; rfl) | (go_simp; decide))) ?_
  (try simp only [zP, zN, zA, zB, zC])
  refine pu_ (v := .bool false) (y_assign rfl (by rfl) (by rfl)) ?_
  (try simp only [zP, zN, zA, zB, zC])
  refine nl_ (hK7 _ _ ?_); clear hK7 K7
  refine wp_cond_false rfl ?_
  refine s_ (fun K8 hK8 => ?_)
  refine pu_ (v := .pointer (some ⟨k.b, 0, none⟩)) (y_move rfl (by rfl) (by rfl)) ?_
  (try simp only [zP, zN, zA, zB, zC])
  refine pu_ (v := .pointer (some ⟨k.b, 0, none⟩)) (y_nil rfl (by rfl) (by rfl)) ?_
  (try simp only [zP, zN, zA, zB, zC])
  refine pu_ (v := .pointer (some ⟨k.b, 3, none⟩)) (y_run (by rfl) (fun W => by go_simp)) ?_
  (try simp only [zP, zN, zA, zB, zC])
  refine ld_ (v := .bool false) rfl (by rfl) (by rfl) (run_load_one ((FS.out.cell 3).trans rfl) Tryd.underlying4 rfl) ?_
  (try simp only [zP, zN, zA, zB, zC])
  refine pu_ (v := .bool true) (y_run (by rfl) (fun W => by go_simp)) ?_
  (try simp only [zP, zN, zA, zB, zC])
  refine pu_ (v := .bool true) (y_assign rfl (by rfl) (by rfl)) ?_
  (try simp only [zP, zN, zA, zB, zC])
  refine nl_ (hK8 _ _ ?_); clear hK8 K8
  refine wp_cond_true rfl ?_
  refine s_ (fun K9 hK9 => ?_)
  refine pu_ (v := .int .i64 0) (y_assign rfl (by rfl) (by rfl)) ?_
  (try simp only [zP, zN, zA, zB, zC])
  refine pu_ (v := .int .i64 400) (y_assign rfl (by rfl) (by rfl)) ?_
  (try simp only [zP, zN, zA, zB, zC])
  refine nl_ (hK9 _ _ ?_); clear hK9 K9
  refine wp_ret ?_
  refine ib_ret ?_
  refine th_ret ?_
  refine hQ _ _ _ ?_
  refine bodyPost_ret (res2 rfl (rdv_tmp (v := .int .i64 0) (by rfl)) (rdv_tmp (v := .int .i64 400) (by rfl))) rfl ?_
  exact ⟨rfl, C0.out⟩
theorem pwrite_ {c b : Nat} {q : List UInt8} {sh : Bool} {t : ByteArray} (hc : c ≤ 100000) (ht : t.size ≤ 100000) (h : PipeC w c b q sh) : Calls Tryd.prog 25 #[.pointer (some ⟨b, 0, none⟩), .string t] w fun en w' => en = .returned (.int .i64 ((min t.size (room q sh) : Nat) : Int)) ∧ PipeC w' (c + 64) b (q ++ t.data.toList.take (min t.size (room q sh))) sh ∧ Ch [b] w w' := by
  obtain ⟨i, o, hp, hi⟩ := h
  have hr : room q sh ≤ 64 := by unfold room; split <;> omega
  exact (Write_any b q i o sh t w hp (by omega) (by omega)).mono fun e w' ⟨h1, h2, h3⟩ => ⟨h1, ⟨_, _, h2, by omega⟩, h3⟩
theorem pread_ {c b : Nat} {q : List UInt8} {sh : Bool} {m : Int} (hc : c ≤ 100000) (hm : -9223372036854775808 ≤ m ∧ m ≤ 9223372036854775807) (h : PipeC w c b q sh) : Calls Tryd.prog 26 #[.pointer (some ⟨b, 0, none⟩), .int .i64 m] w fun en w' => en = .returned (.string (str (q.take (min (max m 0).toNat q.length)))) ∧ PipeC w' c b (q.drop (min (max m 0).toNat q.length)) sh ∧ Ch [b] w w' := by
  obtain ⟨i, o, hp, hi⟩ := h
  exact (Read_any b q i o sh m w hp (by omega) hm.1 hm.2).mono fun e w' ⟨h1, h2, h3⟩ => ⟨h1, ⟨_, _, h2, by omega⟩, h3⟩
theorem chD (w : World) (n : Nat) : Ch [] w (w.drewN n) := (Ch.refl [] w).drewN n
theorem proom_ {c b : Nat} {q : List UInt8} {sh : Bool} (hc : c ≤ 100000) (h : PipeC w c b q sh) : Calls Tryd.prog 28 #[.pointer (some ⟨b, 0, none⟩)] w fun en w' => en = .returned (.int .i64 (room q sh)) ∧ Ch [] w w' := by
  obtain ⟨i, o, hp, hi⟩ := h
  exact (Room_any b q i o sh w hp (by omega)).mono fun e w' ⟨h1, n, h2⟩ => ⟨h1, h2 ▸ chD w n⟩
theorem pshut_ {c b : Nat} {q : List UInt8} {sh : Bool} (h : PipeC w c b q sh) : Calls Tryd.prog 32 #[.pointer (some ⟨b, 0, none⟩)] w fun en w' => en = .returned (.tuple #[]) ∧ PipeC w' c b q true ∧ Ch [b] w w' := by
  obtain ⟨i, o, hp, hi⟩ := h
  exact (Shut_any b q i o sh w hp).mono fun e w' ⟨h1, h2, h3⟩ => ⟨h1, ⟨_, _, h2, hi⟩, h3⟩
theorem write_ok {A : Option Addr} {z c x la : Nat} {K : List SB} {L : List HS} {id : Int} {t : ByteArray} (HN : Hid (K.length ≤ 100)) (HA : Hid (AllIs w c K L)) {j : Nat} {k : SB} {s : HS} (HF : Hid (fx id L = some j)) (HK : Hid (K[j]? = some k)) (HC : Hid (c ≤ 100000 ∧ t.size ≤ 100000)) (HRN : Hid (k.bi ∉ xb (.slice A K.length z))) (SL : Hid (SrcIs w (.slice A K.length z) (K.length) (K.flatMap ptrC) 1)) (FX : Hid (Blk w x (#[.slice A K.length z, .int .i64 la]) 60)) (FS : Hid (Blk w k.b (#[.int .i64 s.id, .int .i64 s.box, .int .i64 s.ctr, .bool true, .pointer (some ⟨k.bi, 0, none⟩), .pointer (some ⟨k.bo, 0, none⟩)]) 65)) (PI : Hid (PipeC w (c) (k.bi) (s.qi) (false))) :
    Calls Tryd.prog 9 #[.pointer (some ⟨x, 0, none⟩), .int .i64 id, .string t] w fun en w' => en = .returned (.tuple #[.int .i64 ((min t.size (room s.qi false)) : Nat), .int .i64 0]) ∧ PipeC w' (c + 64) k.bi (s.qi ++ t.data.toList.take (min t.size (room s.qi false))) false ∧ Ch [k.bi] w w' := by
  have C0 := Lib.hid (Ch.refl [k.bi] w)
  go_enter Tryd.func9, Tryd.ntmps9
  refine q_ (fun Q hQ hP => ?_)
  refine s_ (fun K1 hK1 => ?_)
  refine pu_ (v := .int .i64 0) (y_assign rfl (by rfl) (by rfl)) ?_
  (try simp only [zP, zN, zA, zB, zC])
  refine pu_ (v := .int .i64 0) (y_assign rfl (by rfl) (by rfl)) ?_
  (try simp only [zP, zN, zA, zB, zC])
  refine nl_ (hK1 _ _ ?_); clear hK1 K1
  refine s_ (fun K2 hK2 => ?_)
  refine pu_ (v := .pointer (some ⟨x, 0, none⟩)) (y_move rfl (by rfl) (by rfl)) ?_
  (try simp only [zP, zN, zA, zB, zC])
  refine pu_ (v := .int .i64 id) (y_move rfl (by rfl) (by rfl)) ?_
  (try simp only [zP, zN, zA, zB, zC])
  refine ef_ (fun K3 hK3 => ?_)
  refine e_call Tryd.func24 (by kernel_rfl) rfl #[.pointer (some ⟨x, 0, none⟩), .int .i64 id] (by rfl) rfl rfl (by first | rfl | (simp only [List.map_toArray, List.map_cons, List.map_nil]; first | done | rfl)) ((of_some HN HA HF HK SL FX)) ?_
  rintro en w5 ⟨rfl, cc4⟩
  refine ⟨_, rfl, ?_⟩
  have C0' := Lib.hid (show Ch [k.bi] w w5 from C0.out.trans' cc4 (fun x hx => absurd hx (by simp)))
  have SL' := Lib.hid (show SrcIs w5 (.slice A K.length z) (K.length) (K.flatMap ptrC) 1 from SL.out.chx cc4 xnin_nil)
  have FX' := Lib.hid (show Blk w5 x (#[.slice A K.length z, .int .i64 la]) 60 from cc4.blk FX.out nin_nil)
  have FS' := Lib.hid (show Blk w5 k.b (#[.int .i64 s.id, .int .i64 s.box, .int .i64 s.ctr, .bool true, .pointer (some ⟨k.bi, 0, none⟩), .pointer (some ⟨k.bo, 0, none⟩)]) 65 from cc4.blk FS.out nin_nil)
  have PI' := Lib.hid (show PipeC w5 (c) (k.bi) (s.qi) (false) from PI.out.ch cc4 nin_nil)
  clear C0 SL FX FS PI
  have C0 := C0'; clear C0'
  have SL := SL'; clear SL'
  have FX := FX'; clear FX'
  have FS := FS'; clear FS'
  have PI := PI'; clear PI'
  clear cc4
  refine hK3 _ _ ?_; clear hK3 K3
  (try simp only [zP, zN, zA, zB, zC])
  refine pu_ (v := .pointer (some ⟨k.b, 0, none⟩)) (y_assign rfl (by rfl) (by rfl)) ?_
  (try simp only [zP, zN, zA, zB, zC])
  refine nl_ (hK2 _ _ ?_); clear hK2 K2
  refine sq_ (fun K6 hK6 => ?_)
  refine wp_block ?_
  refine s_ (fun K7 hK7 => ?_)
  refine pu_ (v := .pointer (some ⟨k.b, 0, none⟩)) (y_move rfl (by rfl) (by rfl)) ?_
  (try simp only [zP, zN, zA, zB, zC])
  refine pu_ (v := .bool false) (y_run (by rfl) (fun W => by first | (go_simp; done) | (go_simp; rfl) | (go_simp; decide))) ?_
  (try simp only [zP, zN, zA, zB, zC])
  refine pu_ (v := .bool false) (y_assign rfl (by rfl) (by rfl)) ?_
  (try simp only [zP, zN, zA, zB, zC])
  refine nl_ (hK7 _ _ ?_); clear hK7 K7
  refine wp_cond_false rfl ?_
  refine s_ (fun K8 hK8 => ?_)
  refine pu_ (v := .pointer (some ⟨k.b, 0, none⟩)) (y_move rfl (by rfl) (by rfl)) ?_
  (try simp only [zP, zN, zA, zB, zC])
  refine pu_ (v := .pointer (some ⟨k.b, 0, none⟩)) (y_nil rfl (by rfl) (by rfl)) ?_
  (try simp only [zP, zN, zA, zB, zC])
  refine pu_ (v := .pointer (some ⟨k.b, 3, none⟩)) (y_run (by rfl) (fun W => by go_simp)) ?_
  (try simp only [zP, zN, zA, zB, zC])
  refine ld_ (v := .bool true) rfl (by rfl) (by rfl) (run_load_one ((FS.out.cell 3).trans rfl) Tryd.underlying4 rfl) ?_
  (try simp only [zP, zN, zA, zB, zC])
  refine pu_ (v := .bool false) (y_run (by rfl) (fun W => by go_simp)) ?_
  (try simp only [zP, zN, zA, zB, zC])
  refine pu_ (v := .bool false) (y_assign rfl (by rfl) (by rfl)) ?_
  (try simp only [zP, zN, zA, zB, zC])
  refine nl_ (hK8 _ _ ?_); clear hK8 K8
  refine wp_cond_false rfl ?_
  refine wp_skip ?_
  refine ib_norm ?_
  refine th_norm (hK6 _ _ ?_); try clear hK6 K6
  refine s_ (fun K9 hK9 => ?_)
  refine pu_ (v := .pointer (some ⟨k.b, 0, none⟩)) (y_move rfl (by rfl) (by rfl)) ?_
  (try simp only [zP, zN, zA, zB, zC])
  refine pu_ (v := .pointer (some ⟨k.b, 0, none⟩)) (y_nil rfl (by rfl) (by rfl)) ?_
  (try simp only [zP, zN, zA, zB, zC])
  refine pu_ (v := .pointer (some ⟨k.b, 4, none⟩)) (y_run (by rfl) (fun W => by go_simp)) ?_
  (try simp only [zP, zN, zA, zB, zC])
  refine ld_ (v := .pointer (some ⟨k.bi, 0, none⟩)) rfl (by rfl) (by rfl) (run_load_one ((FS.out.cell 4).trans rfl) Tryd.underlying62 rfl) ?_
  (try simp only [zP, zN, zA, zB, zC])
  refine pu_ (v := .string t) (y_move rfl (by rfl) (by rfl)) ?_
  (try simp only [zP, zN, zA, zB, zC])
  refine ef_ (fun K10 hK10 => ?_)
  refine e_call Tryd.func25 (by kernel_rfl) rfl #[.pointer (some ⟨k.bi, 0, none⟩), .string t] (by rfl) rfl rfl (by first | rfl | (simp only [List.map_toArray, List.map_cons, List.map_nil]; first | done | rfl)) ((pwrite_ HC.out.1 HC.out.2 PI.out)) ?_
  rintro en w13 ⟨rfl, B12, cc11⟩
  refine ⟨_, rfl, ?_⟩
  have C0' := Lib.hid (show Ch [k.bi] w w13 from C0.out.trans' cc11 (inw_cons (.inl List.mem_cons_self) inw_nil))
  have SL' := Lib.hid (show SrcIs w13 (.slice A K.length z) (K.length) (K.flatMap ptrC) 1 from SL.out.chx cc11 (xnin_cons HRN.out xnin_nil))
  have FX' := Lib.hid (show Blk w13 x (#[.slice A K.length z, .int .i64 la]) 60 from cc11.blk FX.out (nin_cons (Blk.ne_type FX.out PI.out.blk.choose_spec (by decide)) nin_nil))
  have FS' := Lib.hid (show Blk w13 k.b (#[.int .i64 s.id, .int .i64 s.box, .int .i64 s.ctr, .bool true, .pointer (some ⟨k.bi, 0, none⟩), .pointer (some ⟨k.bo, 0, none⟩)]) 65 from cc11.blk FS.out (nin_cons (Blk.ne_type FS.out PI.out.blk.choose_spec (by decide)) nin_nil))
  clear C0 SL FX FS
  have C0 := C0'; clear C0'
  have SL := SL'; clear SL'
  have FX := FX'; clear FX'
  have FS := FS'; clear FS'
  clear PI
  clear cc11
  have PI := Lib.hid (show PipeC w13 (c + 64) (k.bi) (s.qi ++ t.data.toList.take (min t.size (room s.qi false))) (false) from B12)
  refine hK10 _ _ ?_; clear hK10 K10
  (try simp only [zP, zN, zA, zB, zC])
  refine pu_ (v := .int .i64 ((min t.size (room s.qi false)) : Nat)) (y_assign rfl (by rfl) (by rfl)) ?_
  (try simp only [zP, zN, zA, zB, zC])
  refine pu_ (v := .int .i64 0) (y_assign rfl (by rfl) (by rfl)) ?_
  (try simp only [zP, zN, zA, zB, zC])
  refine nl_ (hK9 _ _ ?_); clear hK9 K9
  refine wp_ret ?_
  refine hQ _ _ _ ?_
  refine bodyPost_ret (res2 rfl (rdv_tmp (v := .int .i64 ((min t.size (room s.qi false)) : Nat)) (by rfl)) (rdv_tmp (v := .int .i64 0) (by rfl))) rfl ?_
  exact ⟨rfl, PI.out, C0.out⟩
end
end Go.Proofs.YtcfkdglaedpnjaaDoor.V
