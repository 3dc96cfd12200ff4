/- The walks of what sorts candidates, and of who is evicted. -/
import Derived.Test.YtmoelehhofmhcaaPrR
import Derived.Test.YtmoelehhofmhcaaPrW
namespace Go.Proofs.Ytmoelehhofmhcaa.V
open Go Go.RowKit Go.Proofs.Ytmoelehhofmhcaa.K Go.Proofs.YtmoelehhofmhcaaW.PrintLast
set_option linter.unusedVariables false
set_option linter.unusedSimpArgs false
set_option maxRecDepth 100000
set_option maxHeartbeats 1600000
section
variable {w : World}
theorem collect_ {lb : Array Value} {X : List HC} {W0 : World} (HN : Hid (X.length ≤ 1000)) (HIT : Hid (IterOk lb X W0)) (HBW : Hid (Below W0.heap.size W0 w))  :
  Calls Try.prog 36 #[.func (.func 38) #[] lb] w fun en w' => ∃ v', en = .returned v' ∧ OwnS w' w.heap.size 41 11 v' X.length (X.flatMap candC) ∧ Ch [] w w' := by
 have C0 := qh (Ch.refl [] w)
 go_enter Try.func36, Try.ntmps36
 refine q_ (fun Q hQ hP => ?_)
 refine s_ (fun K1 hK1 => ?_)
 refine pu_ (v := .slice none 0 0) (y_assign rfl (by rfl) (by rfl)) ?_
 try simp only [zP,zN,zA,zB,zC]
 refine nl_ (hK1 _ _ ?_); clear hK1 K1
 refine s_ (fun K2 hK2 => ?_)
 refine pu_ (v := .func (.func 38) #[] lb) (y_move rfl (by rfl) (by rfl)) ?_
 try simp only [zP,zN,zA,zB,zC]
 refine ef_ (fun K3 hK3 => ?_)
 refine e_call Try.func45 (by kernel_rfl) rfl #[.slice none 0 0, .func (.func 38) #[] lb] (by rfl) rfl rfl (mp2 rfl rfl) ((appseq_ HN HIT (qh (HBW.out.trans (C0.out.below0.mono HBW.out.size))))) ?_
 rintro en w6 ⟨vt, rfl, OT0, cc5⟩
 refine ⟨_, rfl, ?_⟩
 have hr4 := OT0.lt
 have rw7 := qh (show ∀ z_, z_ ∈ rl vt → z_ ∈ [] ∨ w.heap.size ≤ z_ from fun x hx => .inr (by have := (fun k hk => (hr4 k hk).1) x hx; have := C0.out.size; omega))
 replace C0 := qh (C0.out.trans' cc5 inw_nil)
 clear cc5
 have OT := qh (show OwnS w6 w.heap.size 41 11 (vt) (X.length) (X.flatMap candC) from OT0)
 refine hK3 _ _ ?_; clear hK3 K3
 try simp only [zP,zN,zA,zB,zC]
 refine pu_ (v := vt) (y_assign rfl (by rfl) (by rfl)) ?_
 try simp only [zP,zN,zA,zB,zC]
 refine nl_ (hK2 _ _ ?_); clear hK2 K2
 refine wp_ret ?_
 refine hQ _ _ _ ?_
 refine bodyPost_ret (res1 rfl (rdv_tmp (v := vt) (by rfl))) rfl ?_
 exact ⟨_, rfl, OT.out, C0.out⟩
theorem insort_z {A : Option Addr} {c : Nat}  :
  Calls Try.prog 53 #[.slice A 0 c, .int .i64 0, .int .i64 0, .func (.func 34) #[] #[]] w fun en w' => en = .returned (.tuple #[]) ∧ Ch [] w w' := by
 have C0 := qh (Ch.refl [] w)
 go_enter Try.func53, Try.ntmps53
 refine q_ (fun Q hQ hP => ?_)
 refine s_ (fun K1 hK1 => ?_)
 refine pu_ (v := .int .i64 0) (y_move rfl (by rfl) (by rfl)) ?_
 try simp only [zP,zN,zA,zB,zC]
 refine pu_ (v := .int .i64 1) (y_run (by rfl) (fun W => by first | (go_simp; done) | (go_simp; rfl) | (go_simp; decide))) ?_
 try simp only [zP,zN,zA,zB,zC]
 refine pu_ (v := .int .i64 1) (y_assign rfl (by rfl) (by rfl)) ?_
 try simp only [zP,zN,zA,zB,zC]
 refine nl_ (hK1 _ _ ?_); clear hK1 K1
 refine wp_block ?_
 refine loop_none ?_
 refine sq_ (fun K2 hK2 => ?_)
 refine s_ (fun K3 hK3 => ?_)
 refine pu_ (v := .int .i64 1) (y_move rfl (by rfl) (by rfl)) ?_
 try simp only [zP,zN,zA,zB,zC]
 refine pu_ (v := .int .i64 0) (y_move rfl (by rfl) (by rfl)) ?_
 try simp only [zP,zN,zA,zB,zC]
 refine pu_ (v := .bool false) (y_run (by rfl) (fun W => by first | (go_simp; done) | (go_simp; rfl) | (go_simp; decide))) ?_
 try simp only [zP,zN,zA,zB,zC]
 refine nl_ (hK3 _ _ ?_); clear hK3 K3
 refine wp_cond_false rfl ?_
 refine wp_exit ?_
 refine th_exit ?_
 refine th_exit ?_
 refine ib_exit ?_
 refine hQ _ _ _ ?_
 refine bodyPost_end (res0 rfl) rfl ?_
 exact ⟨rfl, C0.out⟩
theorem stable_z {A : Option Addr} {c : Nat}  :
  Calls Try.prog 46 #[.slice A 0 c, .int .i64 0, .func (.func 34) #[] #[]] w fun en w' => en = .returned (.tuple #[]) ∧ Ch [] w w' := by
 have C0 := qh (Ch.refl [] w)
 go_enter Try.func46, Try.ntmps46
 refine q_ (fun Q hQ hP => ?_)
 refine s_ (fun K1 hK1 => ?_)
 refine pu_ (v := .int .i64 20) (y_assign rfl (by rfl) (by rfl)) ?_
 try simp only [zP,zN,zA,zB,zC]
 refine nl_ (hK1 _ _ ?_); clear hK1 K1
 refine s_ (fun K2 hK2 => ?_)
 refine pu_ (v := .int .i64 20) (y_move rfl (by rfl) (by rfl)) ?_
 try simp only [zP,zN,zA,zB,zC]
 refine pu_ (v := .int .i64 0) (y_assign rfl (by rfl) (by rfl)) ?_
 try simp only [zP,zN,zA,zB,zC]
 refine pu_ (v := .int .i64 20) (y_assign rfl (by rfl) (by rfl)) ?_
 try simp only [zP,zN,zA,zB,zC]
 refine nl_ (hK2 _ _ ?_); clear hK2 K2
 refine sq_ (fun K3 hK3 => ?_)
 refine wp_block ?_
 refine loop_none ?_
 refine sq_ (fun K4 hK4 => ?_)
 refine s_ (fun K5 hK5 => ?_)
 refine pu_ (v := .int .i64 20) (y_move rfl (by rfl) (by rfl)) ?_
 try simp only [zP,zN,zA,zB,zC]
 refine pu_ (v := .int .i64 0) (y_move rfl (by rfl) (by rfl)) ?_
 try simp only [zP,zN,zA,zB,zC]
 refine pu_ (v := .bool false) (y_run (by rfl) (fun W => by first | (go_simp; done) | (go_simp; rfl) | (go_simp; decide))) ?_
 try simp only [zP,zN,zA,zB,zC]
 refine nl_ (hK5 _ _ ?_); clear hK5 K5
 refine wp_cond_false rfl ?_
 refine wp_exit ?_
 refine th_exit ?_
 refine th_exit ?_
 refine ib_exit ?_
 refine th_norm (hK3 _ _ ?_); try clear hK3 K3
 refine s_ (fun K6 hK6 => ?_)
 refine pu_ (v := .slice A 0 c) (y_move rfl (by rfl) (by rfl)) ?_
 try simp only [zP,zN,zA,zB,zC]
 refine pu_ (v := .int .i64 0) (y_move rfl (by rfl) (by rfl)) ?_
 try simp only [zP,zN,zA,zB,zC]
 refine pu_ (v := .int .i64 0) (y_move rfl (by rfl) (by rfl)) ?_
 try simp only [zP,zN,zA,zB,zC]
 refine pu_ (v := .func (.func 34) #[] #[]) (y_move rfl (by rfl) (by rfl)) ?_
 try simp only [zP,zN,zA,zB,zC]
 refine ef_ (fun K7 hK7 => ?_)
 refine e_call Try.func53 (by kernel_rfl) rfl #[.slice A 0 c, .int .i64 0, .int .i64 0, .func (.func 34) #[] #[]] (by rfl) rfl rfl (mp4 rfl rfl rfl rfl) (insort_z) ?_
 rintro en w9 ⟨rfl, cc8⟩
 refine ⟨_, rfl, ?_⟩
 replace C0 := qh (C0.out.trans' cc8 inw_nil)
 clear cc8
 refine hK7 _ _ ?_; clear hK7 K7
 try simp only [zP,zN,zA,zB,zC]
 refine nl_ (hK6 _ _ ?_); clear hK6 K6
 refine wp_block ?_
 refine loop_none ?_
 refine sq_ (fun K10 hK10 => ?_)
 refine s_ (fun K11 hK11 => ?_)
 refine pu_ (v := .int .i64 20) (y_move rfl (by rfl) (by rfl)) ?_
 try simp only [zP,zN,zA,zB,zC]
 refine pu_ (v := .int .i64 0) (y_move rfl (by rfl) (by rfl)) ?_
 try simp only [zP,zN,zA,zB,zC]
 refine pu_ (v := .bool false) (y_run (by rfl) (fun W => by first | (go_simp; done) | (go_simp; rfl) | (go_simp; decide))) ?_
 try simp only [zP,zN,zA,zB,zC]
 refine nl_ (hK11 _ _ ?_); clear hK11 K11
 refine wp_cond_false rfl ?_
 refine wp_exit ?_
 refine th_exit ?_
 refine th_exit ?_
 refine ib_exit ?_
 refine hQ _ _ _ ?_
 refine bodyPost_end (res0 rfl) rfl ?_
 exact ⟨rfl, C0.out⟩
theorem sortst_z {A : Option Addr} {c : Nat}  :
  Calls Try.prog 37 #[.slice A 0 c, .func (.func 34) #[] #[]] w fun en w' => en = .returned (.tuple #[]) ∧ Ch [] w w' := by
 have C0 := qh (Ch.refl [] w)
 go_enter Try.func37, Try.ntmps37
 refine q_ (fun Q hQ hP => ?_)
 refine r_ ?_
 refine pu_ (v := .slice A 0 c) (y_move rfl (by rfl) (by rfl)) ?_
 try simp only [zP,zN,zA,zB,zC]
 refine pu_ (v := .slice A 0 c) (y_move rfl (by rfl) (by rfl)) ?_
 try simp only [zP,zN,zA,zB,zC]
 refine pu_ (v := .int .i64 0) (y_run (by rfl) (fun W => by go_simp)) ?_
 try simp only [zP,zN,zA,zB,zC]
 refine pu_ (v := .func (.func 34) #[] #[]) (y_move rfl (by rfl) (by rfl)) ?_
 try simp only [zP,zN,zA,zB,zC]
 refine ef_ (fun K1 hK1 => ?_)
 refine e_call Try.func46 (by kernel_rfl) rfl #[.slice A 0 c, .int .i64 0, .func (.func 34) #[] #[]] (by rfl) rfl rfl (mp3 rfl rfl rfl) (stable_z) ?_
 rintro en w3 ⟨rfl, cc2⟩
 refine ⟨_, rfl, ?_⟩
 replace C0 := qh (C0.out.trans' cc2 inw_nil)
 clear cc2
 refine hK1 _ _ ?_; clear hK1 K1
 try simp only [zP,zN,zA,zB,zC]
 refine nl_ ?_
 refine hQ _ _ _ ?_
 refine bodyPost_end (res0 rfl) rfl ?_
 exact ⟨rfl, C0.out⟩
theorem sorted_ {lb : Array Value} {X : List HC} {W0 : World} (HN : Hid (X.length ≤ 1000)) (HIT : Hid (IterOk lb X W0)) (HBW : Hid (Below W0.heap.size W0 w)) {W : World} {cz : HC → HC → Int} (HN20 : Hid (X.length ≤ 20)) (HCM : Hid (CmpOk W X cz)) (HWB : Hid (Below W.heap.size W w))  :
  Calls Try.prog 32 #[.func (.func 38) #[] lb, .func (.func 34) #[] #[]] w fun en w' => ∃ v', en = .returned v' ∧ OwnS w' w.heap.size 41 11 v' X.length ((isort (ltz cz) X).flatMap candC) ∧ Ch [] w w' := by
 have C0 := qh (Ch.refl [] w)
 go_enter Try.func32, Try.ntmps32
 refine q_ (fun Q hQ hP => ?_)
 refine s_ (fun K1 hK1 => ?_)
 refine pu_ (v := .slice none 0 0) (y_assign rfl (by rfl) (by rfl)) ?_
 try simp only [zP,zN,zA,zB,zC]
 refine nl_ (hK1 _ _ ?_); clear hK1 K1
 refine s_ (fun K2 hK2 => ?_)
 refine pu_ (v := .func (.func 38) #[] lb) (y_move rfl (by rfl) (by rfl)) ?_
 try simp only [zP,zN,zA,zB,zC]
 refine ef_ (fun K3 hK3 => ?_)
 refine e_call Try.func36 (by kernel_rfl) rfl #[.func (.func 38) #[] lb] (by rfl) rfl rfl (mp1 rfl) ((collect_ HN HIT (qh (HBW.out.trans (C0.out.below0.mono HBW.out.size))))) ?_
 rintro en w6 ⟨vt, rfl, OT0, cc5⟩
 refine ⟨_, rfl, ?_⟩
 have hr4 := OT0.lt
 have rw7 := qh (show ∀ z_, z_ ∈ rl vt → z_ ∈ [] ∨ w.heap.size ≤ z_ from fun x hx => .inr (by have := (fun k hk => (hr4 k hk).1) x hx; have := C0.out.size; omega))
 replace C0 := qh (C0.out.trans' cc5 inw_nil)
 clear cc5
 have OT := qh (show OwnS w6 w.heap.size 41 11 (vt) (X.length) (X.flatMap candC) from OT0)
 refine hK3 _ _ ?_; clear hK3 K3
 try simp only [zP,zN,zA,zB,zC]
 refine pu_ (v := vt) (y_assign rfl (by rfl) (by rfl)) ?_
 try simp only [zP,zN,zA,zB,zC]
 refine nl_ (hK2 _ _ ?_); clear hK2 K2
 rcases Nat.eq_zero_or_pos X.length with h | h
 ·have HZ := qh (show X = [] from List.eq_nil_of_length_eq_zero h)
  obtain ⟨A, c, hv, -, -⟩ := OT.out.slice
  rw [h] at hv
  clear h
  subst hv
  refine s_ (fun K8 hK8 => ?_)
  refine pu_ (v := .slice A 0 c) (y_move rfl (by rfl) (by rfl)) ?_
  try simp only [zP,zN,zA,zB,zC]
  refine pu_ (v := .func (.func 34) #[] #[]) (y_move rfl (by rfl) (by rfl)) ?_
  try simp only [zP,zN,zA,zB,zC]
  refine ef_ (fun K9 hK9 => ?_)
  refine e_call Try.func37 (by kernel_rfl) rfl #[.slice A 0 c, .func (.func 34) #[] #[]] (by rfl) rfl rfl (mp2 rfl rfl) (sortst_z) ?_
  rintro en w11 ⟨rfl, cc10⟩
  refine ⟨_, rfl, ?_⟩
  replace C0 := qh (C0.out.trans' cc10 inw_nil)
  replace OT := qh (OT.out.ch cc10 rnin_nil)
  clear cc10
  refine hK9 _ _ ?_; clear hK9 K9
  try simp only [zP,zN,zA,zB,zC]
  refine nl_ (hK8 _ _ ?_); clear hK8 K8
  refine s_ (fun K12 hK12 => ?_)
  refine pu_ (v := .slice A 0 c) (y_move rfl (by rfl) (by rfl)) ?_
  try simp only [zP,zN,zA,zB,zC]
  refine pu_ (v := .slice A 0 c) (y_assign rfl (by rfl) (by rfl)) ?_
  try simp only [zP,zN,zA,zB,zC]
  refine nl_ (hK12 _ _ ?_); clear hK12 K12
  refine wp_ret ?_
  refine hQ _ _ _ ?_
  refine bodyPost_ret (res1 rfl (rdv_tmp (v := .slice A 0 c) (by rfl))) rfl ?_
  exact ⟨_, rfl, by have h9 := OT.out; rw [HZ.out] at h9 ⊢; exact h9, C0.out⟩
 ·have HP := qh h
  clear h
  obtain ⟨gx, cx, hv, -, -, -, -, -⟩ := OT.out.some_ HP.out
  subst hv
  refine s_ (fun K13 hK13 => ?_)
  refine pu_ (v := .slice (some ⟨gx, 0, none⟩) X.length cx) (y_move rfl (by rfl) (by rfl)) ?_
  try simp only [zP,zN,zA,zB,zC]
  refine pu_ (v := .func (.func 34) #[] #[]) (y_move rfl (by rfl) (by rfl)) ?_
  try simp only [zP,zN,zA,zB,zC]
  refine ef_ (fun K14 hK14 => ?_)
  refine e_call Try.func37 (by kernel_rfl) rfl #[.slice (some ⟨gx, 0, none⟩) X.length cx, .func (.func 34) #[] #[]] (by rfl) rfl rfl (mp2 rfl rfl) ((sortst_ (W := W) HN20 HCM (qh (Nat.le_trans HWB.out.size C0.out.size)) (qh (HWB.out.trans (C0.out.below0.mono HWB.out.size))) (qh (fun x hx => Nat.le_trans HWB.out.size (OT.out.lt x hx).1)) OT)) ?_
  rintro en w17 ⟨rfl, O16, cc15⟩
  refine ⟨_, rfl, ?_⟩
  replace C0 := qh (C0.out.trans' cc15 (fun x hx => .inr (OT.out.lt x hx).1))
  clear OT
  clear cc15
  have OT := qh (show OwnS w17 w.heap.size 41 11 (.slice (some ⟨gx, 0, none⟩) X.length cx) (X.length) ((isort (ltz cz) X).flatMap candC) from O16)
  refine hK14 _ _ ?_; clear hK14 K14
  try simp only [zP,zN,zA,zB,zC]
  refine nl_ (hK13 _ _ ?_); clear hK13 K13
  refine s_ (fun K18 hK18 => ?_)
  refine pu_ (v := .slice (some ⟨gx, 0, none⟩) X.length cx) (y_move rfl (by rfl) (by rfl)) ?_
  try simp only [zP,zN,zA,zB,zC]
  refine pu_ (v := .slice (some ⟨gx, 0, none⟩) X.length cx) (y_assign rfl (by rfl) (by rfl)) ?_
  try simp only [zP,zN,zA,zB,zC]
  refine nl_ (hK18 _ _ ?_); clear hK18 K18
  refine wp_ret ?_
  refine hQ _ _ _ ?_
  refine bodyPost_ret (res1 rfl (rdv_tmp (v := .slice (some ⟨gx, 0, none⟩) X.length cx) (by rfl))) rfl ?_
  exact ⟨_, rfl, OT.out, C0.out⟩
abbrev uidV (x : HC) : Value := .int .i64 x.uid
theorem order_ {A : Option Addr} {c : Nat} {X : List HC} (HN : Hid (X.length ≤ 1000)) {W : World} {cz : HC → HC → Int} (HN20 : Hid (X.length ≤ 20)) (HCM : Hid (CmpOk W X cz)) (HWB : Hid (Below W.heap.size W w)) (SL : Hid (SrcIs w (.slice A X.length c) (X.length) (X.flatMap candC) 11)) :
  Calls Try.prog 30 #[.slice A X.length c] w fun en w' => ∃ v', en = .returned v' ∧ OwnS w' w.heap.size 3 1 v' X.length ((isort (ltz cz) X).map uidV) ∧ Ch [] w w' := by
 have C0 := qh (Ch.refl [] w)
 obtain ⟨i3, I3⟩ := Info.of info3
 go_enter Try.func30, Try.ntmps30
 refine q_ (fun Q hQ hP => ?_)
 refine s_ (fun K1 hK1 => ?_)
 refine pu_ (v := .slice none 0 0) (y_assign rfl (by rfl) (by rfl)) ?_
 try simp only [zP,zN,zA,zB,zC]
 refine nl_ (hK1 _ _ ?_); clear hK1 K1
 refine s_ (fun K2 hK2 => ?_)
 refine pu_ (v := .slice none 0 0) (y_assign rfl (by rfl) (by rfl)) ?_
 try simp only [zP,zN,zA,zB,zC]
 refine nl_ (hK2 _ _ ?_); clear hK2 K2
 refine sq_ (fun K3 hK3 => ?_)
 refine s_ (fun K4 hK4 => ?_)
 refine pu_ (v := .slice A X.length c) (y_move rfl (by rfl) (by rfl)) ?_
 try simp only [zP,zN,zA,zB,zC]
 refine ef_ (fun K5 hK5 => ?_)
 refine e_call Try.func33 (by kernel_rfl) rfl #[.slice A X.length c] (by rfl) rfl rfl (by first | rfl | (simp only [List.map_toArray, List.map_cons, List.map_nil]; first | done | rfl)) (values_ (X := X)) ?_
 rintro en w7 ⟨B, rfl, hb, hB0, cc⟩
 refine ⟨_, rfl, ?_⟩
 have hBN := qh (show w.heap.size ≤ B by have := C0.out.size; omega)
 replace C0 := qh (C0.out.trans' cc inw_nil)
 replace SL := qh (SL.out.chx cc xnin_nil)
 clear cc
 have FB := qh hb
 clear hb
 have HIT := qh (values_iter HN.out FB.out SL.out)
 have CW := qh (show Ch [] w w7 from C0.out)
 refine hK5 _ _ ?_; clear hK5 K5
 try simp only [zP,zN,zA,zB,zC]
 refine ef_ (fun K8 hK8 => ?_)
 refine e_call Try.func32 (by kernel_rfl) rfl #[.func (.func 38) #[] #[.pointer (some ⟨B, 0, none⟩)], .func (.func 34) #[] #[]] (by rfl) rfl rfl (mp2 rfl rfl) ((sorted_ HN HIT (qh (Below.refl _ _)) HN20 HCM (qh (HWB.out.trans (C0.out.below0.mono HWB.out.size))))) ?_
 rintro en w11 ⟨vs, rfl, OS0, cc10⟩
 refine ⟨_, rfl, ?_⟩
 have hr9 := OS0.lt
 have rw12 := qh (show ∀ z_, z_ ∈ rl vs → z_ ∈ [] ∨ w.heap.size ≤ z_ from fun x hx => .inr (by have := (fun k hk => (hr9 k hk).1) x hx; have := C0.out.size; omega))
 have xr13 := qh (show ∀ k, k ∈ xb (.slice A X.length c) → k ∉ rl vs from fun k hk hm => by have := (fun k hk => (hr9 k hk).1) k hm; have := SL.out.lt (by decide) k hk; omega)
 replace C0 := qh (C0.out.trans' cc10 inw_nil)
 replace SL := qh (SL.out.chx cc10 xnin_nil)
 replace FB := qh (cc10.blk FB.out nin_nil)
 clear cc10
 have OS := qh (show OwnS w11 w7.heap.size 41 11 (vs) (X.length) ((isort (ltz cz) X).flatMap candC) from OS0)
 refine hK8 _ _ ?_; clear hK8 K8
 try simp only [zP,zN,zA,zB,zC]
 refine pu_ (v := .int .i64 X.length) (y_run (by rfl) (fun W => by obtain ⟨Ao, co, hvo, -, -⟩ := OS.out.slice; subst hvo; go_simp)) ?_
 try simp only [zP,zN,zA,zB,zC]
 refine pu_ (v := .int .i64 0) (y_move rfl (by rfl) (by rfl)) ?_
 try simp only [zP,zN,zA,zB,zC]
 refine nl_ (hK4 _ _ ?_); clear hK4 K4
 refine wp_block ?_
 obtain ⟨Ao, co, hvo, -, -⟩ := OS.out.slice
 subst hvo
 have OT0 := qh (show OwnS w11 w.heap.size 3 1 (.slice none 0 0) 0 (((isort (ltz cz) X).take 0).map uidV) from OwnS.nil _ _ _ _ _)
 refine loopk_ (fun (kq : Nat) (a' : Act) (w' : World) => ∃ (k : Nat), ∃ (vt : Value), a' = ⟨#[.slice A X.length c, uo a' 1, .slice none 0 0, vt, uo a' 4, uo a' 5, uo a' 6, uo a' 7, .slice Ao X.length co, .int .i64 X.length, .int .i64 k, uo a' 11, uo a' 12, uo a' 13, uo a' 14, uo a' 15, uo a' 16, uo a' 17, uo a' 18, uo a' 19, uo a' 20], []⟩ ∧ Hid (Ch [] w w') ∧ Hid (OwnS w' w7.heap.size 41 11 (.slice Ao X.length co) (X.length) ((isort (ltz cz) X).flatMap candC)) ∧ Hid (OwnS w' w.heap.size 3 1 (vt) (k) (((isort (ltz cz) X).take k).map uidV)) ∧ Hid (k ≤ X.length ∧ kq + k = X.length)) (X.length) (⟨0, _, rfl, C0, OS, OT0, qh ⟨by omega, by omega⟩⟩) ?_
 rintro kq a_ w14 ⟨k, vt, ha_, C0, OS, OT, hk⟩ K15 hK15
 obtain ⟨us, hus_⟩ : ∃ us, us = uo a_ := ⟨_, rfl⟩; try rw [← hus_] at ha_
 subst ha_; clear hus_
 rcases at_ways' (L := (isort (ltz cz) X)) (k := k) (by rw [isort_len]; exact hk.out.1) with ⟨x, ho0, hlt0⟩ | h
 ·have hlt := qh (show k < X.length by rw [isort_len] at hlt0; exact hlt0)
  have ho := qh ho0
  clear hlt0 ho0
  obtain ⟨go, co2, hv, -, -, -, -, -⟩ := OS.out.some_ (by have := hlt.out; omega)
  injection hv with hv1 _ hv3
  subst hv1 hv3
  have D11 := qh (show (k : Int) < (X.length : Int) by have := hlt.out; omega)
  have Wk := qh (show IntKind.i64.wrap ((k : Int) + 1) = ((k + 1 : Nat) : Int) by rw [wr64 (by have := hlt.out; have h7 := HN.out; omega)]; omega)
  refine s_ (fun K16 hK16 => ?_)
  refine pu_ (v := .bool true) (y_run (by rfl) (fun W => by have d := D11.out; go_simp)) ?_
  try simp only [zP,zN,zA,zB,zC]
  refine nl_ (hK16 _ _ ?_); clear hK16 K16
  refine sq_ (fun K17 hK17 => ?_)
  refine wp_cond_true rfl ?_
  refine wp_skip ?_
  refine th_norm (hK17 _ _ ?_); try clear hK17 K17
  refine sq_ (fun K18 hK18 => ?_)
  refine wp_block ?_
  refine s_ (fun K19 hK19 => ?_)
  refine pu_ (v := .pointer (some ⟨go, k * 11, none⟩)) (y_run (by rfl) (fun W => by have d := D11.out; go_simp)) ?_
  try simp only [zP,zN,zA,zB,zC]
  refine ld_ (v := .agg (candC x).toArray) rfl (by rfl) (by rfl) (run_loadVar_at (own_at candC_len OS.out ho.out) Try.underlying41 rfl (by rw [candC_len]; kernel_rfl)) ?_
  try simp only [zP,zN,zA,zB,zC]
  refine ef_ (fun K20 hK20 => ?_)
  refine e_alloc (by rfl) rfl rfl (cs := #[.int .i64 0, .string ⟨#[]⟩, .slice none 0 0, .slice none 0 0, .slice none 0 0, .int .i64 0, .int .i64 0, .int .i64 0, .int .i64 0, .int .i64 0, .int .i64 0]) (by kernel_rfl) ?_
  rintro g21 w22 HG23 B24 C25
  have nw26 := qh (show w.heap.size ≤ g21 by have := C0.out.size; have := HG23.out; omega)
  have nr27 := qh (OS.out.ne_new HG23)
  replace C0 := qh (C0.out.trans' C25 inw_nil)
  replace OS := qh (OS.out.ch C25 rnin_nil)
  replace OT := qh (OT.out.ch C25 rnin_nil)
  have Fg21 := qh (show Blk w22 g21 (#[.int .i64 0, .string ⟨#[]⟩, .slice none 0 0, .slice none 0 0, .slice none 0 0, .int .i64 0, .int .i64 0, .int .i64 0, .int .i64 0, .int .i64 0, .int .i64 0]) 41 from B24); clear B24 C25
  refine hK20 _ _ ?_; clear hK20 K20
  try simp only [zP,zN,zA,zB,zC]
  refine ef_ (fun K28 hK28 => ?_)
  refine e_storeN (cells := (candC x).toArray) (by rfl) rfl rfl (by rfl) (by rfl) Fg21.out (sz41 x) (by rw [show (candC x).toArray.size = 11 by rw [List.size_toArray, candC_len]]; rfl) (by simpa using candC_one x) ?_
  rintro w29 B30 C31
  replace C0 := qh (C0.out.trans' C31 (inw_cons (.inr nw26.out) inw_nil))
  replace OS := qh (OS.out.ch C31 (rnin_cons nr27.out rnin_nil))
  replace OT := qh (OT.out.ch C31 (rnin_cons (OT.out.ne Fg21.out (by decide)) rnin_nil))
  clear Fg21; have Fg21 := qh (show Blk w29 g21 ((candC x).toArray) 41 from B30); clear B30 C31
  refine hK28 _ _ ?_; clear hK28 K28
  try simp only [zP,zN,zA,zB,zC]
  refine nl_ (hK19 _ _ ?_); clear hK19 K19
  refine r_ ?_
  refine pu_ (v := vt) (y_move rfl (by rfl) (by rfl)) ?_
  try simp only [zP,zN,zA,zB,zC]
  refine pu_ (v := .pointer (some ⟨g21, 0, none⟩)) (y_run (by rfl) (fun W => by go_simp)) ?_
  try simp only [zP,zN,zA,zB,zC]
  refine ld_ (v := .int .i64 x.uid) rfl (by rfl) (by rfl) (run_load_one ((Fg21.out.cell 0).trans (by simp [candC])) Try.underlying3 rfl) ?_
  try simp only [zP,zN,zA,zB,zC]
  refine ef_ (fun K32 hK32 => ?_)
  refine e_buildS (parts := #[(0, .int .i64 x.uid)]) (cells := #[.int .i64 x.uid]) (by rfl) rfl rfl (by first | rfl | (simp only [List.map_toArray, List.map_cons, List.map_nil]; first | done | rfl)) Try.underlying51 I3.hi I3.hz I3.hs (by decide) (by decide) (by kernel_rfl) ?_
  rintro g33 w34 HG35 B36 C37
  have nw38 := qh (show w.heap.size ≤ g33 by have := C0.out.size; have := HG35.out; omega)
  have nr39 := qh (OT.out.ne_new HG35)
  replace C0 := qh (C0.out.trans' C37 inw_nil)
  replace OS := qh (OS.out.ch C37 rnin_nil)
  replace OT := qh (OT.out.ch C37 rnin_nil)
  replace Fg21 := qh (C37.blk Fg21.out nin_nil)
  have Fg33 := qh (show Blk w34 g33 (#[.int .i64 x.uid]) 3 from B36); clear B36 C37
  refine hK32 _ _ ?_; clear hK32 K32
  try simp only [zP,zN,zA,zB,zC]
  refine ef_ (fun K40 hK40 => ?_)
  refine e_append (by rfl) rfl rfl (w.heap.size) 3 _ _ 1 8 Try.underlying51 I3.hi I3.hz I3.hs I3.hb rfl (by decide) (vt) (k) (((isort (ltz cz) X).take k).map uidV) (by rfl) OT.out (.slice (some ⟨g33, 0, none⟩) 1 1) 1 ([uidV x]) (by rfl) ⟨rfl, .inr ⟨_, _, rfl, CellsAt.blk Fg33.out 0⟩⟩ (ones_cons rfl ones_nil) (by unfold maxLen; have := hlt.out; have := HN.out; omega) (by have := hlt.out; have := HN.out; omega) C0.out.size ?_
  rintro v41 w42 O43 C44 R45 -
  have nr47 := qh (show g33 ∉ rl v41 from fun hk => (R45 _ hk).elim nr39.out (fun h => by have := Fg33.out.lt; omega))
  replace C0 := qh (C0.out.trans' C44 (fun x hx => .inr (OT.out.lt x hx).1))
  replace OS := qh (OS.out.ch C44 (OwnS.rne OS.out OT.out (by decide)))
  replace Fg21 := qh (C44.blk Fg21.out (OT.out.ne Fg21.out (by decide)))
  replace Fg33 := qh (C44.blk Fg33.out nr39.out)
  clear OT
  have OT := qh (show OwnS w42 w.heap.size 3 1 (v41) (k + 1) (((isort (ltz cz) X).take k).map uidV ++ [uidV x]) from O43); clear O43 C44
  refine hK40 _ _ ?_; clear hK40 K40
  try simp only [zP,zN,zA,zB,zC]
  refine pu_ (v := v41) (y_assign rfl (by rfl) (by rfl)) ?_
  try simp only [zP,zN,zA,zB,zC]
  refine nl_ ?_
  refine ib_norm ?_
  refine th_norm (hK18 _ _ ?_); try clear hK18 K18
  refine r_ ?_
  refine pu_ (v := .int .i64 (k + 1 : Nat)) (y_run (by rfl) (fun W => by have d := Wk.out; go_simp)) ?_
  try simp only [zP,zN,zA,zB,zC]
  refine pu_ (v := .int .i64 (k + 1 : Nat)) (y_move rfl (by rfl) (by rfl)) ?_
  try simp only [zP,zN,zA,zB,zC]
  refine nl_ ?_
  exact th_norm (hK15 (kq - 1) _ _ (by have := hlt.out; have := hk.out; omega) ⟨k + 1, _, rfl, C0, OS, qh (by have h9 := OT.out; rw [take_snoc ho.out, List.map_append, List.map_cons, List.map_nil]; exact h9), qh ⟨by have := hlt.out; omega, by have := hlt.out; have := hk.out; omega⟩⟩)
 ·rw [isort_len] at h
  have D11 := qh (show ¬ k < X.length by have := hk.out; omega)
  have HE := qh h
  clear h
  refine s_ (fun K48 hK48 => ?_)
  refine pu_ (v := .bool false) (y_run (by rfl) (fun W => by have d := D11.out; go_simp)) ?_
  try simp only [zP,zN,zA,zB,zC]
  refine nl_ (hK48 _ _ ?_); clear hK48 K48
  refine sq_ (fun K49 hK49 => ?_)
  refine wp_cond_false rfl ?_
  refine wp_exit ?_
  refine th_exit ?_
  refine th_exit ?_
  refine ib_exit ?_
  refine th_norm (hK3 _ _ ?_); try clear hK3 K3
  refine s_ (fun K50 hK50 => ?_)
  refine pu_ (v := vt) (y_move rfl (by rfl) (by rfl)) ?_
  try simp only [zP,zN,zA,zB,zC]
  refine pu_ (v := vt) (y_assign rfl (by rfl) (by rfl)) ?_
  try simp only [zP,zN,zA,zB,zC]
  refine nl_ (hK50 _ _ ?_); clear hK50 K50
  refine wp_ret ?_
  refine hQ _ _ _ ?_
  refine bodyPost_ret (res1 rfl (rdv_tmp (v := vt) (by rfl))) rfl ?_
  exact ⟨_, rfl, by have h9 := OT.out; rw [HE.out, List.take_of_length_le (by rw [isort_len]; exact Nat.le_refl _)] at h9; exact h9, C0.out⟩
end
end Go.Proofs.Ytmoelehhofmhcaa.V
