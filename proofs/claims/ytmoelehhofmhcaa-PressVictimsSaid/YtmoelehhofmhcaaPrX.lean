/- The walks of who is evicted, and of the chapter's example. -/
import Derived.Test.YtmoelehhofmhcaaPrV
namespace Go.Proofs.Ytmoelehhofmhcaa.V
open Go Go.RowKit Go.Proofs.Ytmoelehhofmhcaa.K Go.Proofs.YtmoelehhofmhcaaW.PrintLast
set_option linter.unusedVariables false
set_option linter.unusedSimpArgs false
set_option maxRecDepth 100000
set_option maxHeartbeats 1600000
section
variable {w : World}
/-- Who goes first. -/
def vicR (cz : HC → HC → Int) (X : List HC) : Int × Bool := match isort (ltz cz) X with
 | [] => (0, false)
 | x :: _ => (x.uid, true)
/-- Who is evicted. -/
def vicP (cz : HC → HC → Int) (L : List HL) (hm pc : Int) : Int × Bool := if (sumZ L).2.1 > limZ hm pc then vicR cz (candsOf L) else (0, false)
theorem vic_nil {cz : HC → HC → Int} {X : List HC} (h : X.length = 0) : vicR cz X = (0, false) := by
 rw [List.eq_nil_of_length_eq_zero h]
 rfl
theorem vic_cons {cz : HC → HC → Int} {X : List HC} (h : 0 < X.length) : ∃ x, (isort (ltz cz) X)[0]? = some x ∧ vicR cz X = (x.uid, true) := by
 unfold vicR
 have := isort_len (ltz cz) X
 cases hh : isort (ltz cz) X with
 | nil => rw [hh] at this; simp at this; omega
 | cons x T => exact ⟨x, rfl, rfl⟩
theorem qvictim_ {A : Option Addr} {c : Nat} {X : List HC} {W : World} {cz : HC → HC → Int} (HN20 : Hid (X.length ≤ 20)) (HCM : Hid (CmpOk W X cz)) (HWB : Hid (Below W.heap.size W w)) (SL : Hid (SrcIs w (.slice A X.length c) (X.length) (X.flatMap candC) 11)) :
  Calls Try.prog 24 #[.slice A X.length c] w fun en w' => en = .returned (.tuple #[.int .i64 (vicR cz X).1, .bool (vicR cz X).2]) ∧ Ch [] w w' := by
 have C0 := qh (Ch.refl [] w)
 go_enter Try.func24, Try.ntmps24
 refine q_ (fun Q hQ hP => ?_)
 refine s_ (fun K1 hK1 => ?_)
 refine pu_ (v := .int .i64 0) (y_assign rfl (by rfl) (by rfl)) ?_
 try simp only [zP,zN,zA,zB,zC]
 refine pu_ (v := .bool false) (y_assign rfl (by rfl) (by rfl)) ?_
 try simp only [zP,zN,zA,zB,zC]
 refine nl_ (hK1 _ _ ?_); clear hK1 K1
 refine s_ (fun K2 hK2 => ?_)
 refine pu_ (v := .slice A X.length c) (y_move rfl (by rfl) (by rfl)) ?_
 try simp only [zP,zN,zA,zB,zC]
 refine ef_ (fun K3 hK3 => ?_)
 refine e_call Try.func30 (by kernel_rfl) rfl #[.slice A X.length c] (by rfl) rfl rfl (mp1 rfl) ((order_ (qh (by have := HN20.out; omega)) HN20 HCM HWB SL)) ?_
 rintro en w6 ⟨vo, rfl, OO0, cc5⟩
 refine ⟨_, rfl, ?_⟩
 have hr4 := OO0.lt
 have rw7 := qh (show ∀ z_, z_ ∈ rl vo → z_ ∈ [] ∨ w.heap.size ≤ z_ from fun x hx => .inr (by have := (fun k hk => (hr4 k hk).1) x hx; have := C0.out.size; omega))
 have xr8 := qh (show ∀ k, k ∈ xb (.slice A X.length c) → k ∉ rl vo from fun k hk hm => by have := (fun k hk => (hr4 k hk).1) k hm; have := SL.out.lt (by decide) k hk; omega)
 replace C0 := qh (C0.out.trans' cc5 inw_nil)
 replace SL := qh (SL.out.chx cc5 xnin_nil)
 clear cc5
 have OO := qh (show OwnS w6 w.heap.size 3 1 (vo) (X.length) ((isort (ltz cz) X).map uidV) from OO0)
 refine hK3 _ _ ?_; clear hK3 K3
 try simp only [zP,zN,zA,zB,zC]
 refine pu_ (v := vo) (y_assign rfl (by rfl) (by rfl)) ?_
 try simp only [zP,zN,zA,zB,zC]
 refine nl_ (hK2 _ _ ?_); clear hK2 K2
 refine sq_ (fun K9 hK9 => ?_)
 rcases Nat.eq_zero_or_pos X.length with h | h
 ·have HZ := qh h
  have HR := qh (vic_nil (cz := cz) h)
  clear h
  have D9 := qh (show X.length = 0 from HZ.out)
  obtain ⟨Ao, co, hvo, -, -⟩ := OO.out.slice
  subst hvo
  refine s_ (fun K10 hK10 => ?_)
  refine pu_ (v := .slice Ao X.length co) (y_move rfl (by rfl) (by rfl)) ?_
  try simp only [zP,zN,zA,zB,zC]
  refine pu_ (v := .int .i64 X.length) (y_run (by rfl) (fun W => by go_simp)) ?_
  try simp only [zP,zN,zA,zB,zC]
  refine pu_ (v := .bool true) (y_run (by rfl) (fun W => by have d := D9.out; go_simp)) ?_
  try simp only [zP,zN,zA,zB,zC]
  refine nl_ (hK10 _ _ ?_); clear hK10 K10
  refine wp_cond_true rfl ?_
  refine s_ (fun K11 hK11 => ?_)
  refine pu_ (v := .int .i64 0) (y_assign rfl (by rfl) (by rfl)) ?_
  try simp only [zP,zN,zA,zB,zC]
  refine pu_ (v := .bool false) (y_assign rfl (by rfl) (by rfl)) ?_
  try simp only [zP,zN,zA,zB,zC]
  refine nl_ (hK11 _ _ ?_); clear hK11 K11
  refine wp_ret ?_
  refine th_ret ?_
  refine hQ _ _ _ ?_
  refine bodyPost_ret (res2 rfl (rdv_tmp (v := .int .i64 0) (by rfl)) (rdv_tmp (v := .bool false) (by rfl))) rfl ?_
  exact ⟨by rw [HR.out], C0.out⟩
 ·obtain ⟨x, hx, hr⟩ := vic_cons (cz := cz) h
  have HP := qh h
  have HX := qh hx
  have HR := qh hr
  clear h hx hr
  have D9 := qh (show ¬ X.length = 0 by have := HP.out; omega)
  have D11 := qh (show 0 < X.length from HP.out)
  obtain ⟨go, co, hvo, -, -, -, -, -⟩ := OO.out.some_ HP.out
  subst hvo
  refine s_ (fun K12 hK12 => ?_)
  refine pu_ (v := .slice (some ⟨go, 0, none⟩) X.length co) (y_move rfl (by rfl) (by rfl)) ?_
  try simp only [zP,zN,zA,zB,zC]
  refine pu_ (v := .int .i64 X.length) (y_run (by rfl) (fun W => by go_simp)) ?_
  try simp only [zP,zN,zA,zB,zC]
  refine pu_ (v := .bool false) (y_run (by rfl) (fun W => by have d := D9.out; go_simp)) ?_
  try simp only [zP,zN,zA,zB,zC]
  refine nl_ (hK12 _ _ ?_); clear hK12 K12
  refine wp_cond_false rfl ?_
  refine wp_skip ?_
  refine th_norm (hK9 _ _ ?_); try clear hK9 K9
  refine s_ (fun K13 hK13 => ?_)
  refine pu_ (v := .slice (some ⟨go, 0, none⟩) X.length co) (y_move rfl (by rfl) (by rfl)) ?_
  try simp only [zP,zN,zA,zB,zC]
  refine pu_ (v := .pointer (some ⟨go, 0, none⟩)) (y_run (by rfl) (fun W => by have d := D11.out; go_simp)) ?_
  try simp only [zP,zN,zA,zB,zC]
  refine ld_ (v := .int .i64 x.uid) rfl (by rfl) (by rfl) (run_load_one (own_cell OO.out (by rw [List.getElem?_map, HX.out]; rfl)) Try.underlying3 rfl) ?_
  try simp only [zP,zN,zA,zB,zC]
  refine pu_ (v := .int .i64 x.uid) (y_assign rfl (by rfl) (by rfl)) ?_
  try simp only [zP,zN,zA,zB,zC]
  refine pu_ (v := .bool true) (y_assign rfl (by rfl) (by rfl)) ?_
  try simp only [zP,zN,zA,zB,zC]
  refine nl_ (hK13 _ _ ?_); clear hK13 K13
  refine wp_ret ?_
  refine hQ _ _ _ ?_
  refine bodyPost_ret (res2 rfl (rdv_tmp (v := .int .i64 x.uid) (by rfl)) (rdv_tmp (v := .bool true) (by rfl))) rfl ?_
  exact ⟨by rw [HR.out], C0.out⟩
theorem victim_ {A : Option Addr} {z : Nat} {L : List HL} {a hm b pc : Int} {W : World} {cz : HC → HC → Int} (HN : Hid (L.length ≤ 20)) (HSM : Hid (∀ x ∈ L, SmallL x)) (HM : Hid (SmallZ hm)) (HCM : Hid (CmpOk W (candsOf L) cz)) (HWB : Hid (Below W.heap.size W w)) (SL : Hid (SrcIs w (.slice A L.length z) (L.length) ((L).flatMap loadC) 16)) :
  Calls Try.prog 16 #[.slice A L.length z, .agg #[.int .i64 a, .int .i64 hm, .int .i64 b], .int .i64 pc] w fun en w' => en = .returned (.tuple #[.int .i64 (vicP cz L hm pc).1, .bool (vicP cz L hm pc).2]) ∧ Ch [] w w' := by
 have C0 := qh (Ch.refl [] w)
 go_enter Try.func16, Try.ntmps16
 refine q_ (fun Q hQ hP => ?_)
 refine s_ (fun K1 hK1 => ?_)
 refine ef_ (fun K2 hK2 => ?_)
 refine e_boxN (by rfl) rfl rfl (cs := #[.int .i64 a, .int .i64 hm, .int .i64 b]) (v := .agg #[.int .i64 a, .int .i64 hm, .int .i64 b]) (by rfl) rfl ?_
 rintro g3 w4 HG5 B6 C7
 have nw8 := qh (show w.heap.size ≤ g3 by have := C0.out.size; have := HG5.out; omega)
 have nx9 := qh (SL.out.ne_new (by decide) HG5)
 replace C0 := qh (C0.out.trans' C7 inw_nil)
 replace SL := qh (SL.out.chx C7 xnin_nil)
 have Fg3 := qh (show Blk w4 g3 (#[.int .i64 a, .int .i64 hm, .int .i64 b]) 23 from B6); clear B6 C7
 refine hK2 _ _ ?_; clear hK2 K2
 try simp only [zP,zN,zA,zB,zC]
 refine pu_ (v := .int .i64 0) (y_assign rfl (by rfl) (by rfl)) ?_
 try simp only [zP,zN,zA,zB,zC]
 refine pu_ (v := .bool false) (y_assign rfl (by rfl) (by rfl)) ?_
 try simp only [zP,zN,zA,zB,zC]
 refine nl_ (hK1 _ _ ?_); clear hK1 K1
 refine sq_ (fun K10 hK10 => ?_)
 rcases Classical.em ((sumZ L).2.1 > limZ hm pc) with h | h
 ·have HG := qh h
  clear h
  have DD := qh (show decide ((sumZ L).2.1 > limZ hm pc) = true from decide_eq_true HG.out)
  have HR := qh (show vicP cz L hm pc = vicR cz (candsOf L) from if_pos HG.out)
  refine sq_ (fun K11 hK11 => ?_)
  refine startk_ (S := fun W => Blk W g3 (#[.int .i64 a, .int .i64 hm, .int .i64 b]) 23 ∧ True) (ds := []) (msk 6 0) (by kernel_rfl) rfl (by kernel_rfl) (fun W c => ⟨c.blk Fg3.out nin_nil, trivial⟩) (fun w12 C13 hS14 => ?_)
  replace C0 := qh (C0.out.trans' C13 inw_nil)
  replace SL := qh (SL.out.chx C13 xnin_nil)
  replace Fg3 := qh (C13.blk Fg3.out nin_nil)
  clear C13
  refine pureh_ (i := 0) (N := some 8) (v := .slice A L.length z) (msk 6 1) rfl rfl (by kernel_rfl) hP (y_move rfl (by rfl) (by rfl)) rfl ?_
  try simp only [zP,zN,zA,zB,zC]
  refine takeh_ (i := 2) (N := some 10) (v := .agg (#[.int .i64 a, .int .i64 hm, .int .i64 b])) (msk 6 5) rfl rfl (by kernel_rfl) hP (y_load (p := ⟨g3, 0, none⟩) rfl (by rfl) (by rfl) (fun W hS => run_loadVar_row _ _ 23 23 (#[.int .i64 a, .int .i64 hm, .int .i64 b]) (0, 0) _ hS.1 Try.underlying23 rfl (by kernel_rfl))) hS14 rfl ?_
  try simp only [zP,zN,zA,zB,zC]
  refine pureh_ (i := 3) (N := some 11) (v := .int .i64 pc) (msk 6 13) rfl rfl (by kernel_rfl) hP (y_move rfl (by rfl) (by rfl)) rfl ?_
  try simp only [zP,zN,zA,zB,zC]
  refine one_ (i := 1) (N := some 9) (msk 6 15) rfl rfl (by kernel_rfl) (by simp) (fun K15 hK15 => ?_)
  refine e_call Try.func18 (by kernel_rfl) rfl #[.slice A L.length z] (by rfl) rfl rfl (mp1 rfl) ((sum_ (qh (by have := HN.out; omega)) HSM SL)) ?_
  rintro en w17 ⟨rfl, cc16⟩
  refine ⟨_, rfl, ?_⟩
  replace C0 := qh (C0.out.trans' cc16 inw_nil)
  replace SL := qh (SL.out.chx cc16 xnin_nil)
  replace Fg3 := qh (cc16.blk Fg3.out nin_nil)
  clear cc16
  refine hK15.out _ _ ⟨Fg3.out, trivial⟩ (fun hS18 => ?_); clear hK15 K15
  try simp only [zP,zN,zA,zB,zC]
  refine one_ (i := 4) (N := some 12) (msk 6 31) rfl rfl (by kernel_rfl) (by simp) (fun K19 hK19 => ?_)
  refine e_call Try.func10 (by kernel_rfl) rfl #[.agg #[.int .i64 (sumZ L).1, .int .i64 (sumZ L).2.1, .int .i64 (sumZ L).2.2], .agg (#[.int .i64 a, .int .i64 hm, .int .i64 b]), .int .i64 pc] (by rfl) rfl rfl (mp3 rfl rfl rfl) ((by have h9 := short_ (w := w17) (a := (sumZ L).1) (b := (sumZ L).2.1) (c := (sumZ L).2.2) (d := a) (e := b) (pc := pc) HM; rw [DD.out] at h9; exact h9)) ?_
  rintro en w21 ⟨rfl, cc20⟩
  refine ⟨_, rfl, ?_⟩
  replace C0 := qh (C0.out.trans' cc20 inw_nil)
  replace SL := qh (SL.out.chx cc20 xnin_nil)
  replace Fg3 := qh (cc20.blk Fg3.out nin_nil)
  clear cc20
  refine hK19.out _ _ ⟨Fg3.out, trivial⟩ (fun hS22 => ?_); clear hK19 K19
  try simp only [zP,zN,zA,zB,zC]
  refine pureh_ (i := 5) (N := some 13) (v := .bool false) (msk 6 63) rfl rfl (by kernel_rfl) hP (y_run (by rfl) (fun W => by go_simp)) rfl ?_
  try simp only [zP,zN,zA,zB,zC]
  refine done_ (by kernel_rfl) (th_norm (hK11 _ _ ?_)); clear hK11 K11
  refine wp_cond_false rfl ?_
  refine wp_skip ?_
  refine th_norm (hK10 _ _ ?_); try clear hK10 K10
  refine s_ (fun K23 hK23 => ?_)
  refine pu_ (v := .slice A L.length z) (y_move rfl (by rfl) (by rfl)) ?_
  try simp only [zP,zN,zA,zB,zC]
  refine ef_ (fun K24 hK24 => ?_)
  refine e_call Try.func13 (by kernel_rfl) rfl #[.slice A L.length z] (by rfl) rfl rfl (mp1 rfl) ((cands_ (qh (by have := HN.out; omega)) SL)) ?_
  rintro en w27 ⟨vc, rfl, OC_0, cc26⟩
  refine ⟨_, rfl, ?_⟩
  have hr25 := OC_0.lt
  have rw28 := qh (show ∀ z_, z_ ∈ rl vc → z_ ∈ [] ∨ w.heap.size ≤ z_ from fun x hx => .inr (by have := (fun k hk => (hr25 k hk).1) x hx; have := C0.out.size; omega))
  have xr29 := qh (show ∀ k, k ∈ xb (.slice A L.length z) → k ∉ rl vc from fun k hk hm => by have := (fun k hk => (hr25 k hk).1) k hm; have := SL.out.lt (by decide) k hk; omega)
  replace C0 := qh (C0.out.trans' cc26 inw_nil)
  replace SL := qh (SL.out.chx cc26 xnin_nil)
  replace Fg3 := qh (cc26.blk Fg3.out nin_nil)
  clear cc26
  have OC_ := qh (show OwnS w27 w21.heap.size 41 11 (vc) ((candsOf L).length) ((candsOf L).flatMap candC) from OC_0)
  obtain ⟨Ac, cc9, hvc, -, -⟩ := OC_.out.slice
  subst hvc
  refine hK24 _ _ ?_; clear hK24 K24
  try simp only [zP,zN,zA,zB,zC]
  refine ef_ (fun K30 hK30 => ?_)
  refine e_call Try.func24 (by kernel_rfl) rfl #[.slice Ac (candsOf L).length cc9] (by rfl) rfl rfl (mp1 rfl) ((qvictim_ (qh (Nat.le_trans (cands_le L) HN.out)) HCM (qh (HWB.out.trans (C0.out.below0.mono HWB.out.size))) (qh OC_.out.src))) ?_
  rintro en w32 ⟨rfl, cc31⟩
  refine ⟨_, rfl, ?_⟩
  replace C0 := qh (C0.out.trans' cc31 inw_nil)
  replace SL := qh (SL.out.chx cc31 xnin_nil)
  replace Fg3 := qh (cc31.blk Fg3.out nin_nil)
  replace OC_ := qh (OC_.out.ch cc31 rnin_nil)
  clear cc31
  refine hK30 _ _ ?_; clear hK30 K30
  try simp only [zP,zN,zA,zB,zC]
  refine pu_ (v := .int .i64 (vicR cz (candsOf L)).1) (y_run (by rfl) (fun W => by go_simp)) ?_
  try simp only [zP,zN,zA,zB,zC]
  refine pu_ (v := .bool (vicR cz (candsOf L)).2) (y_run (by rfl) (fun W => by go_simp)) ?_
  try simp only [zP,zN,zA,zB,zC]
  refine pu_ (v := .int .i64 (vicR cz (candsOf L)).1) (y_assign rfl (by rfl) (by rfl)) ?_
  try simp only [zP,zN,zA,zB,zC]
  refine pu_ (v := .bool (vicR cz (candsOf L)).2) (y_assign rfl (by rfl) (by rfl)) ?_
  try simp only [zP,zN,zA,zB,zC]
  refine nl_ (hK23 _ _ ?_); clear hK23 K23
  refine wp_ret ?_
  refine hQ _ _ _ ?_
  refine bodyPost_ret (res2 rfl (rdv_tmp (v := .int .i64 (vicR cz (candsOf L)).1) (by rfl)) (rdv_tmp (v := .bool (vicR cz (candsOf L)).2) (by rfl))) rfl ?_
  exact ⟨by rw [HR.out], C0.out⟩
 ·have HG := qh h
  clear h
  have DD := qh (show decide ((sumZ L).2.1 > limZ hm pc) = false from decide_eq_false HG.out)
  have HR := qh (show vicP cz L hm pc = (0, false) from if_neg HG.out)
  refine sq_ (fun K33 hK33 => ?_)
  refine startk_ (S := fun W => Blk W g3 (#[.int .i64 a, .int .i64 hm, .int .i64 b]) 23 ∧ True) (ds := []) (msk 6 0) (by kernel_rfl) rfl (by kernel_rfl) (fun W c => ⟨c.blk Fg3.out nin_nil, trivial⟩) (fun w34 C35 hS36 => ?_)
  replace C0 := qh (C0.out.trans' C35 inw_nil)
  replace SL := qh (SL.out.chx C35 xnin_nil)
  replace Fg3 := qh (C35.blk Fg3.out nin_nil)
  clear C35
  refine pureh_ (i := 0) (N := some 8) (v := .slice A L.length z) (msk 6 1) rfl rfl (by kernel_rfl) hP (y_move rfl (by rfl) (by rfl)) rfl ?_
  try simp only [zP,zN,zA,zB,zC]
  refine takeh_ (i := 2) (N := some 10) (v := .agg (#[.int .i64 a, .int .i64 hm, .int .i64 b])) (msk 6 5) rfl rfl (by kernel_rfl) hP (y_load (p := ⟨g3, 0, none⟩) rfl (by rfl) (by rfl) (fun W hS => run_loadVar_row _ _ 23 23 (#[.int .i64 a, .int .i64 hm, .int .i64 b]) (0, 0) _ hS.1 Try.underlying23 rfl (by kernel_rfl))) hS36 rfl ?_
  try simp only [zP,zN,zA,zB,zC]
  refine pureh_ (i := 3) (N := some 11) (v := .int .i64 pc) (msk 6 13) rfl rfl (by kernel_rfl) hP (y_move rfl (by rfl) (by rfl)) rfl ?_
  try simp only [zP,zN,zA,zB,zC]
  refine one_ (i := 1) (N := some 9) (msk 6 15) rfl rfl (by kernel_rfl) (by simp) (fun K37 hK37 => ?_)
  refine e_call Try.func18 (by kernel_rfl) rfl #[.slice A L.length z] (by rfl) rfl rfl (mp1 rfl) ((sum_ (qh (by have := HN.out; omega)) HSM SL)) ?_
  rintro en w39 ⟨rfl, cc38⟩
  refine ⟨_, rfl, ?_⟩
  replace C0 := qh (C0.out.trans' cc38 inw_nil)
  replace SL := qh (SL.out.chx cc38 xnin_nil)
  replace Fg3 := qh (cc38.blk Fg3.out nin_nil)
  clear cc38
  refine hK37.out _ _ ⟨Fg3.out, trivial⟩ (fun hS40 => ?_); clear hK37 K37
  try simp only [zP,zN,zA,zB,zC]
  refine one_ (i := 4) (N := some 12) (msk 6 31) rfl rfl (by kernel_rfl) (by simp) (fun K41 hK41 => ?_)
  refine e_call Try.func10 (by kernel_rfl) rfl #[.agg #[.int .i64 (sumZ L).1, .int .i64 (sumZ L).2.1, .int .i64 (sumZ L).2.2], .agg (#[.int .i64 a, .int .i64 hm, .int .i64 b]), .int .i64 pc] (by rfl) rfl rfl (mp3 rfl rfl rfl) ((by have h9 := short_ (w := w39) (a := (sumZ L).1) (b := (sumZ L).2.1) (c := (sumZ L).2.2) (d := a) (e := b) (pc := pc) HM; rw [DD.out] at h9; exact h9)) ?_
  rintro en w43 ⟨rfl, cc42⟩
  refine ⟨_, rfl, ?_⟩
  replace C0 := qh (C0.out.trans' cc42 inw_nil)
  replace SL := qh (SL.out.chx cc42 xnin_nil)
  replace Fg3 := qh (cc42.blk Fg3.out nin_nil)
  clear cc42
  refine hK41.out _ _ ⟨Fg3.out, trivial⟩ (fun hS44 => ?_); clear hK41 K41
  try simp only [zP,zN,zA,zB,zC]
  refine pureh_ (i := 5) (N := some 13) (v := .bool true) (msk 6 63) rfl rfl (by kernel_rfl) hP (y_run (by rfl) (fun W => by go_simp)) rfl ?_
  try simp only [zP,zN,zA,zB,zC]
  refine done_ (by kernel_rfl) (th_norm (hK33 _ _ ?_)); clear hK33 K33
  refine wp_cond_true rfl ?_
  refine s_ (fun K45 hK45 => ?_)
  refine pu_ (v := .int .i64 0) (y_assign rfl (by rfl) (by rfl)) ?_
  try simp only [zP,zN,zA,zB,zC]
  refine pu_ (v := .bool false) (y_assign rfl (by rfl) (by rfl)) ?_
  try simp only [zP,zN,zA,zB,zC]
  refine nl_ (hK45 _ _ ?_); clear hK45 K45
  refine wp_ret ?_
  refine th_ret ?_
  refine hQ _ _ _ ?_
  refine bodyPost_ret (res2 rfl (rdv_tmp (v := .int .i64 0) (by rfl)) (rdv_tmp (v := .bool false) (by rfl))) rfl ?_
  exact ⟨by rw [HR.out], C0.out⟩
def loadW : HL := ⟨3, 0, ⟨[.string ⟨#[]⟩, .slice none 0 0, .slice none 0 0, .slice none 0 0, .int .i64 0, .int .i64 0, .int .i64 0], rfl, by simp [Value.oneCell']⟩, 2, ⟨[.slice none 0 0], rfl, by simp [Value.oneCell']⟩, 0, 0, 0, 901, 0⟩
theorem smallW : ∀ x ∈ [loadW], SmallL x := by
 intro x hx
 rw [List.mem_singleton.1 hx]
 unfold SmallL SmallZ loadW
 simp
theorem small_of (z : Int) (h : 0 ≤ z ∧ z ≤ 1000000) : SmallZ z := by
 unfold SmallZ
 omega
theorem works_   :
  Calls Try.prog 7 #[] w fun en w' => en = .returned (.bool true) ∧ Ch [] w w' := by
 have C0 := qh (Ch.refl [] w)
 obtain ⟨i56, hi56, hz56, hs56⟩ : ∃ i, Try.prog.info? 56 = some i ∧ i.zero = some (.agg #[.int .i64 0, .int .u64 0, .string ⟨#[]⟩, .slice none 0 0, .slice none 0 0, .slice none 0 0, .int .i64 0, .int .i64 0, .int .i64 0, .int .i64 0, .slice none 0 0, .int .i64 0, .int .i64 0, .int .i64 0, .int .i64 0, .int .i64 0]) ∧ i.size = 16 := by
  have h := info56
  cases hq : Try.prog.info? 56 with
  | none => rw [hq] at h; cases h
  | some i => rw [hq] at h; simp at h; exact ⟨i, rfl, h.1, h.2⟩
 go_enter Try.func7, Try.ntmps7
 refine q_ (fun Q hQ hP => ?_)
 refine s_ (fun K1 hK1 => ?_)
 refine pu_ (v := .bool false) (y_assign rfl (by rfl) (by rfl)) ?_
 try simp only [zP,zN,zA,zB,zC]
 refine nl_ (hK1 _ _ ?_); clear hK1 K1
 refine s_ (fun K2 hK2 => ?_)
 refine pu_ (v := .agg #[.int .i64 3, .int .u64 0, .string ⟨#[]⟩, .slice none 0 0, .slice none 0 0, .slice none 0 0, .int .i64 0, .int .i64 0, .int .i64 0, .int .i64 2, .slice none 0 0, .int .i64 0, .int .i64 0]) (y_build (vs := #[(0, .int .i64 3), (3, .int .i64 2)]) (by rfl) rfl (by first | rfl | (simp only [List.map_toArray, List.map_cons, List.map_nil]; first | done | rfl)) (by kernel_rfl)) ?_
 try simp only [zP,zN,zA,zB,zC]
 refine pu_ (v := .agg #[.int .i64 0, .int .i64 901, .int .i64 0]) (y_build (vs := #[(1, .int .i64 901)]) (by rfl) rfl (by first | rfl | (simp only [List.map_toArray, List.map_cons, List.map_nil]; first | done | rfl)) (by kernel_rfl)) ?_
 try simp only [zP,zN,zA,zB,zC]
 refine pu_ (v := .agg #[.int .i64 3, .int .u64 0, .string ⟨#[]⟩, .slice none 0 0, .slice none 0 0, .slice none 0 0, .int .i64 0, .int .i64 0, .int .i64 0, .int .i64 2, .slice none 0 0, .int .i64 0, .int .i64 0, .int .i64 0, .int .i64 901, .int .i64 0]) (y_build (vs := #[(0, .agg #[.int .i64 3, .int .u64 0, .string ⟨#[]⟩, .slice none 0 0, .slice none 0 0, .slice none 0 0, .int .i64 0, .int .i64 0, .int .i64 0, .int .i64 2, .slice none 0 0, .int .i64 0, .int .i64 0]), (1, .agg #[.int .i64 0, .int .i64 901, .int .i64 0])]) (by rfl) rfl (by first | rfl | (simp only [List.map_toArray, List.map_cons, List.map_nil]; first | done | rfl)) (by kernel_rfl)) ?_
 try simp only [zP,zN,zA,zB,zC]
 refine ef_ (fun K3 hK3 => ?_)
 refine e_buildS (parts := #[(0, .agg #[.int .i64 3, .int .u64 0, .string ⟨#[]⟩, .slice none 0 0, .slice none 0 0, .slice none 0 0, .int .i64 0, .int .i64 0, .int .i64 0, .int .i64 2, .slice none 0 0, .int .i64 0, .int .i64 0, .int .i64 0, .int .i64 901, .int .i64 0])]) (cells := #[.int .i64 3, .int .u64 0, .string ⟨#[]⟩, .slice none 0 0, .slice none 0 0, .slice none 0 0, .int .i64 0, .int .i64 0, .int .i64 0, .int .i64 2, .slice none 0 0, .int .i64 0, .int .i64 0, .int .i64 0, .int .i64 901, .int .i64 0]) (by rfl) rfl rfl (by first | rfl | (simp only [List.map_toArray, List.map_cons, List.map_nil]; first | done | rfl)) Try.underlying30 hi56 hz56 hs56 (by decide) (by decide) (by kernel_rfl) ?_
 rintro g4 w5 HG6 B7 C8
 have nw9 := qh (show w.heap.size ≤ g4 by have := C0.out.size; have := HG6.out; omega)
 replace C0 := qh (C0.out.trans' C8 inw_nil)
 have Fg4 := qh (show Blk w5 g4 (#[.int .i64 3, .int .u64 0, .string ⟨#[]⟩, .slice none 0 0, .slice none 0 0, .slice none 0 0, .int .i64 0, .int .i64 0, .int .i64 0, .int .i64 2, .slice none 0 0, .int .i64 0, .int .i64 0, .int .i64 0, .int .i64 901, .int .i64 0]) 56 from B7); clear B7 C8
 refine hK3 _ _ ?_; clear hK3 K3
 try simp only [zP,zN,zA,zB,zC]
 refine pu_ (v := .slice (some ⟨g4, 0, none⟩) 1 1) (y_assign rfl (by rfl) (by rfl)) ?_
 try simp only [zP,zN,zA,zB,zC]
 refine nl_ (hK2 _ _ ?_); clear hK2 K2
 refine s_ (fun K10 hK10 => ?_)
 refine pu_ (v := .slice (some ⟨g4, 0, none⟩) 1 1) (y_move rfl (by rfl) (by rfl)) ?_
 try simp only [zP,zN,zA,zB,zC]
 refine pu_ (v := .agg #[.int .i64 0, .int .i64 1000, .int .i64 0]) (y_build (vs := #[(1, .int .i64 1000)]) (by rfl) rfl (by first | rfl | (simp only [List.map_toArray, List.map_cons, List.map_nil]; first | done | rfl)) (by kernel_rfl)) ?_
 try simp only [zP,zN,zA,zB,zC]
 refine ef_ (fun K11 hK11 => ?_)
 refine e_call Try.func16 (by kernel_rfl) rfl #[.slice (some ⟨g4, 0, none⟩) 1 1, .agg #[.int .i64 0, .int .i64 1000, .int .i64 0], .int .i64 90] (by rfl) rfl rfl (mp3 rfl rfl rfl) ((by have h9 := victim_ (w := w5) (A := some ⟨g4, 0, none⟩) (z := 1) (L := [loadW]) (a := 0) (hm := 1000) (b := 0) (pc := 90) (W := w5) (cz := fun _ _ => 0) (qh (by decide)) (qh smallW) (qh (small_of _ (by omega))) (qh (cmp_one _ (candOf loadW) _)) (qh (Below.refl _ _)) (qh ⟨rfl, .inr ⟨_, _, rfl, CellsAt.blk Fg4.out 0⟩⟩); rw [show vicP (fun _ _ => 0) [loadW] 1000 90 = (3, true) from by decide] at h9; exact h9)) ?_
 rintro en w13 ⟨rfl, cc12⟩
 refine ⟨_, rfl, ?_⟩
 replace C0 := qh (C0.out.trans' cc12 inw_nil)
 replace Fg4 := qh (cc12.blk Fg4.out nin_nil)
 clear cc12
 refine hK11 _ _ ?_; clear hK11 K11
 try simp only [zP,zN,zA,zB,zC]
 refine pu_ (v := .tuple #[.int .i64 3, .bool true]) (y_move rfl (by rfl) (by rfl)) ?_
 try simp only [zP,zN,zA,zB,zC]
 refine pu_ (v := .int .i64 3) (y_run (by rfl) (fun W => by go_simp)) ?_
 try simp only [zP,zN,zA,zB,zC]
 refine pu_ (v := .bool true) (y_run (by rfl) (fun W => by go_simp)) ?_
 try simp only [zP,zN,zA,zB,zC]
 refine pu_ (v := .int .i64 3) (y_assign rfl (by rfl) (by rfl)) ?_
 try simp only [zP,zN,zA,zB,zC]
 refine pu_ (v := .bool true) (y_assign rfl (by rfl) (by rfl)) ?_
 try simp only [zP,zN,zA,zB,zC]
 refine nl_ (hK10 _ _ ?_); clear hK10 K10
 refine s_ (fun K14 hK14 => ?_)
 refine pu_ (v := .slice (some ⟨g4, 0, none⟩) 1 1) (y_move rfl (by rfl) (by rfl)) ?_
 try simp only [zP,zN,zA,zB,zC]
 refine pu_ (v := .agg #[.int .i64 0, .int .i64 2000, .int .i64 0]) (y_build (vs := #[(1, .int .i64 2000)]) (by rfl) rfl (by first | rfl | (simp only [List.map_toArray, List.map_cons, List.map_nil]; first | done | rfl)) (by kernel_rfl)) ?_
 try simp only [zP,zN,zA,zB,zC]
 refine ef_ (fun K15 hK15 => ?_)
 refine e_call Try.func16 (by kernel_rfl) rfl #[.slice (some ⟨g4, 0, none⟩) 1 1, .agg #[.int .i64 0, .int .i64 2000, .int .i64 0], .int .i64 90] (by rfl) rfl rfl (mp3 rfl rfl rfl) ((by have h9 := victim_ (w := w13) (A := some ⟨g4, 0, none⟩) (z := 1) (L := [loadW]) (a := 0) (hm := 2000) (b := 0) (pc := 90) (W := w13) (cz := fun _ _ => 0) (qh (by decide)) (qh smallW) (qh (small_of _ (by omega))) (qh (cmp_one _ (candOf loadW) _)) (qh (Below.refl _ _)) (qh ⟨rfl, .inr ⟨_, _, rfl, CellsAt.blk Fg4.out 0⟩⟩); rw [show vicP (fun _ _ => 0) [loadW] 2000 90 = (0, false) from by decide] at h9; exact h9)) ?_
 rintro en w17 ⟨rfl, cc16⟩
 refine ⟨_, rfl, ?_⟩
 replace C0 := qh (C0.out.trans' cc16 inw_nil)
 replace Fg4 := qh (cc16.blk Fg4.out nin_nil)
 clear cc16
 refine hK15 _ _ ?_; clear hK15 K15
 try simp only [zP,zN,zA,zB,zC]
 refine pu_ (v := .tuple #[.int .i64 0, .bool false]) (y_move rfl (by rfl) (by rfl)) ?_
 try simp only [zP,zN,zA,zB,zC]
 refine pu_ (v := .int .i64 0) (y_run (by rfl) (fun W => by go_simp)) ?_
 try simp only [zP,zN,zA,zB,zC]
 refine pu_ (v := .bool false) (y_run (by rfl) (fun W => by go_simp)) ?_
 try simp only [zP,zN,zA,zB,zC]
 refine pu_ (v := .int .i64 0) (y_assign rfl (by rfl) (by rfl)) ?_
 try simp only [zP,zN,zA,zB,zC]
 refine pu_ (v := .bool false) (y_assign rfl (by rfl) (by rfl)) ?_
 try simp only [zP,zN,zA,zB,zC]
 refine nl_ (hK14 _ _ ?_); clear hK14 K14
 refine s_ (fun K18 hK18 => ?_)
 refine pu_ (v := .agg #[.int .i64 0, .int .i64 1000, .int .i64 0]) (y_build (vs := #[(1, .int .i64 1000)]) (by rfl) rfl (by first | rfl | (simp only [List.map_toArray, List.map_cons, List.map_nil]; first | done | rfl)) (by kernel_rfl)) ?_
 try simp only [zP,zN,zA,zB,zC]
 refine ef_ (fun K19 hK19 => ?_)
 refine e_call Try.func9 (by kernel_rfl) rfl #[.agg #[.int .i64 0, .int .i64 1000, .int .i64 0], .int .i64 90] (by rfl) rfl rfl (mp2 rfl rfl) ((by have h9 := limit_ (w := w17) (c := 0) (m := 1000) (p := 0) (pc := 90) (qh (small_of _ (by omega))); rw [show limZ 1000 90 = 900 from by decide] at h9; exact h9)) ?_
 rintro en w21 ⟨rfl, cc20⟩
 refine ⟨_, rfl, ?_⟩
 replace C0 := qh (C0.out.trans' cc20 inw_nil)
 replace Fg4 := qh (cc20.blk Fg4.out nin_nil)
 clear cc20
 refine hK19 _ _ ?_; clear hK19 K19
 try simp only [zP,zN,zA,zB,zC]
 refine pu_ (v := .bool true) (y_run (by rfl) (fun W => by go_simp)) ?_
 try simp only [zP,zN,zA,zB,zC]
 refine pu_ (v := .bool true) (y_move rfl (by rfl) (by rfl)) ?_
 try simp only [zP,zN,zA,zB,zC]
 refine pu_ (v := .int .i64 3) (y_move rfl (by rfl) (by rfl)) ?_
 try simp only [zP,zN,zA,zB,zC]
 refine pu_ (v := .bool true) (y_run (by rfl) (fun W => by go_simp)) ?_
 try simp only [zP,zN,zA,zB,zC]
 refine pu_ (v := .bool true) (y_pick (t := true) (by rfl) rfl (by rfl) (by rfl)) ?_
 try simp only [zP,zN,zA,zB,zC]
 refine pu_ (v := .bool true) (y_move rfl (by rfl) (by rfl)) ?_
 try simp only [zP,zN,zA,zB,zC]
 refine pu_ (v := .bool true) (y_move rfl (by rfl) (by rfl)) ?_
 try simp only [zP,zN,zA,zB,zC]
 refine pu_ (v := .bool true) (y_pick (t := true) (by rfl) rfl (by rfl) (by rfl)) ?_
 try simp only [zP,zN,zA,zB,zC]
 refine pu_ (v := .bool true) (y_move rfl (by rfl) (by rfl)) ?_
 try simp only [zP,zN,zA,zB,zC]
 refine pu_ (v := .bool false) (y_move rfl (by rfl) (by rfl)) ?_
 try simp only [zP,zN,zA,zB,zC]
 refine pu_ (v := .bool true) (y_run (by rfl) (fun W => by go_simp)) ?_
 try simp only [zP,zN,zA,zB,zC]
 refine pu_ (v := .bool true) (y_pick (t := true) (by rfl) rfl (by rfl) (by rfl)) ?_
 try simp only [zP,zN,zA,zB,zC]
 refine pu_ (v := .bool true) (y_assign rfl (by rfl) (by rfl)) ?_
 try simp only [zP,zN,zA,zB,zC]
 refine nl_ (hK18 _ _ ?_); clear hK18 K18
 refine wp_ret ?_
 refine hQ _ _ _ ?_
 refine bodyPost_ret (res1 rfl (rdv_tmp (v := .bool true) (by rfl))) rfl ?_
 exact ⟨rfl, C0.out⟩
end
end Go.Proofs.Ytmoelehhofmhcaa.V
