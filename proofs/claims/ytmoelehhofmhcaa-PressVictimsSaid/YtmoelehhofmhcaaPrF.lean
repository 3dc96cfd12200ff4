/- The walks of the document's Victim, and of the law PressVictims. -/
import Derived.Test.YtmoelehhofmhcaaPrN
import Derived.Test.YtmoelehhofmhcaaPrE
import Derived.Test.YtmoelehhofmhcaaPrU
namespace Go.Proofs.Ytmoelehhofmhcaa.V
open Go Go.RowKit Go.Proofs.Ytmoelehhofmhcaa.K Go.Proofs.YtmoelehhofmhcaaW.PrintLast
set_option linter.unusedVariables false
set_option linter.unusedSimpArgs false
set_option maxRecDepth 100000
set_option maxHeartbeats 1600000
section
variable {w : World}
theorem vic_fst {cz : HC → HC → Int} {L : List HL} {hm pc : Int} (h1 : ∀ x ∈ L, 1 ≤ x.uid) : (vicP cz L hm pc).2 = decide (0 < (vicP cz L hm pc).1) := by
 unfold vicP vicR
 split
 ·split
  ·rfl
  ·rename_i x T he
   have hx : x ∈ candsOf L := isort_mem (lt := ltz cz) (by rw [he]; exact List.mem_cons_self)
   unfold candsOf at hx
   obtain ⟨y, hy, rfl⟩ := List.mem_map.1 hx
   have := h1 y (List.mem_filter.1 hy).1
   exact (decide_eq_true (show (0 : Int) < (candOf y).uid from this)).symm
 ·rfl
theorem eq23 (a b c : Int) (W : World) : (binOp .eql 23 (.agg #[.int .i64 a, .int .i64 b, .int .i64 c]) (.agg #[.int .i64 a, .int .i64 b, .int .i64 c])).run Try.prog W = .ok (.bool true) W := by go_simp
theorem ne23 (a b c : Int) (W : World) : (binOp .neq 23 (.agg #[.int .i64 a, .int .i64 b, .int .i64 c]) (.agg #[.int .i64 a, .int .i64 b, .int .i64 c])).run Try.prog W = .ok (.bool false) W := by go_simp
theorem dvictim_ {A : Option Addr} {z : Nat} {L : List HL} {ca hm pa pc : Int} {W : World} {cz : HC → HC → Int} (HN : Hid (L.length ≤ 20)) (HSM : Hid (∀ x ∈ L, SmallL x)) (HM : Hid (SmallZ hm)) (HFI : Hid (FirstOk W (candsOf L) cz)) (HWB : Hid (Below W.heap.size W w)) (SL : Hid (SrcIs w (.slice A L.length z) (L.length) ((L).flatMap loadC) 16)) :
  Calls Try.prog 17 #[.slice A L.length z, .agg #[.int .i64 ca, .int .i64 hm, .int .i64 pa], .int .i64 pc] w fun en w' => en = .returned (.int .i64 (vicP cz L hm pc).1) ∧ Ch [] w w' := by
 have C0 := qh (Ch.refl [] w)
 obtain ⟨X, hX⟩ : ∃ X, X = candsOf L := ⟨_, rfl⟩
 have HX := qh hX
 have HXL := qh (show X.length ≤ 20 by rw [hX]; exact Nat.le_trans (cands_le L) HN.out)
 have HFX := qh (show FirstOk W X cz by rw [hX]; exact HFI.out)
 clear hX
 go_enter Try.func17, Try.ntmps17
 refine q_ (fun Q hQ hP => ?_)
 refine s_ (fun K1 hK1 => ?_)
 refine ef_ (fun K2 hK2 => ?_)
 refine e_boxN (by rfl) rfl rfl (cs := #[.int .i64 ca, .int .i64 hm, .int .i64 pa]) (v := .agg #[.int .i64 ca, .int .i64 hm, .int .i64 pa]) (by rfl) rfl ?_
 rintro gb w3 HG4 B5 C6
 have nw7 := qh (show w.heap.size ≤ gb by have := C0.out.size; have := HG4.out; omega)
 have nx8 := qh (SL.out.ne_new (by decide) HG4)
 replace C0 := qh (C0.out.trans' C6 inw_nil)
 replace SL := qh (SL.out.chx C6 xnin_nil)
 have Fgb := qh (show Blk w3 gb (#[.int .i64 ca, .int .i64 hm, .int .i64 pa]) 23 from B5); clear B5 C6
 refine hK2 _ _ ?_; clear hK2 K2
 try simp only [zP,zN,zA,zB,zC]
 refine pu_ (v := .int .i64 0) (y_assign rfl (by rfl) (by rfl)) ?_
 try simp only [zP,zN,zA,zB,zC]
 refine nl_ (hK1 _ _ ?_); clear hK1 K1
 refine s_ (fun K9 hK9 => ?_)
 refine pu_ (v := .slice A L.length z) (y_move rfl (by rfl) (by rfl)) ?_
 try simp only [zP,zN,zA,zB,zC]
 refine ef_ (fun K10 hK10 => ?_)
 refine e_call Try.func14 (by kernel_rfl) rfl #[.slice A L.length z] (by rfl) rfl rfl (mp1 rfl) ((by have h9 := dcands_ (w := w3) (qh (Nat.le_trans HN.out (by decide))) SL; rw [← HX.out] at h9; exact h9)) ?_
 rintro en w13 ⟨vg, rfl, OG0, cc12⟩
 refine ⟨_, rfl, ?_⟩
 have hr11 := OG0.lt
 have rw14 := qh (show ∀ z_, z_ ∈ rl vg → z_ ∈ [] ∨ w.heap.size ≤ z_ from fun x hx => .inr (by have := (fun k hk => (hr11 k hk).1) x hx; have := C0.out.size; omega))
 have xr15 := qh (show ∀ k, k ∈ xb (.slice A L.length z) → k ∉ rl vg from fun k hk hm => by have := (fun k hk => (hr11 k hk).1) k hm; have := SL.out.lt (by decide) k hk; omega)
 replace C0 := qh (C0.out.trans' cc12 inw_nil)
 replace SL := qh (SL.out.chx cc12 xnin_nil)
 replace Fgb := qh (cc12.blk Fgb.out nin_nil)
 clear cc12
 have OG := qh (show OwnS w13 w3.heap.size 42 11 (vg) (X.length) (X.flatMap candC) from OG0)
 obtain ⟨Ag, cg, hv_, -, -⟩ := OG.out.slice
 subst hv_
 refine hK10 _ _ ?_; clear hK10 K10
 try simp only [zP,zN,zA,zB,zC]
 refine ef_ (fun K16 hK16 => ?_)
 refine e_call Try.func25 (by kernel_rfl) rfl #[.slice Ag X.length cg] (by rfl) rfl rfl (mp1 rfl) ((dorder_ (X := X) (W := W) HXL HFX (qh (HWB.out.trans (C0.out.below0.mono HWB.out.size))) (qh OG.out.src))) ?_
 rintro en w19 ⟨vo, rfl, OO0, cc18⟩
 refine ⟨_, rfl, ?_⟩
 have hr17 := OO0.lt
 have rw20 := qh (show ∀ z_, z_ ∈ rl vo → z_ ∈ [] ∨ w.heap.size ≤ z_ from fun x hx => .inr (by have := (fun k hk => (hr17 k hk).1) x hx; have := C0.out.size; omega))
 have xr21 := qh (show ∀ k, k ∈ xb (.slice A L.length z) → k ∉ rl vo from fun k hk hm => by have := (fun k hk => (hr17 k hk).1) k hm; have := SL.out.lt (by decide) k hk; omega)
 replace C0 := qh (C0.out.trans' cc18 inw_nil)
 replace SL := qh (SL.out.chx cc18 xnin_nil)
 replace Fgb := qh (cc18.blk Fgb.out nin_nil)
 replace OG := qh (OG.out.ch cc18 rnin_nil)
 clear cc18
 have OO := qh (show OwnS w19 w13.heap.size 3 1 (vo) (X.length) ((isort (ltz cz) X).map uidV) from OO0)
 obtain ⟨Ao, co, hv_, -, -⟩ := OO.out.slice
 subst hv_
 refine hK16 _ _ ?_; clear hK16 K16
 try simp only [zP,zN,zA,zB,zC]
 refine pu_ (v := .slice Ao X.length co) (y_assign rfl (by rfl) (by rfl)) ?_
 try simp only [zP,zN,zA,zB,zC]
 refine nl_ (hK9 _ _ ?_); clear hK9 K9
 refine sq_ (fun K22 hK22 => ?_)
 rcases (show (sumZ L).2.1 ≤ limZ hm pc ∨ ((sumZ L).2.1 > limZ hm pc ∧ X.length = 0) ∨ ((sumZ L).2.1 > limZ hm pc ∧ 0 < X.length) by omega) with h | h | h
 ·have HH := qh h
  clear h
  have D17 := qh (show  (sumZ L).2.1 ≤ limZ hm pc by have := HH.out; omega)
  have HR := qh (show (vicP cz L hm pc).1 = 0 by unfold vicP; rw [if_neg (by have := HH.out; omega)])
  refine sq_ (fun K23 hK23 => ?_)
  refine startk_ (S := fun W => Blk W gb (#[.int .i64 ca, .int .i64 hm, .int .i64 pa]) 23 ∧ True) (ds := []) (msk 12 0) (by kernel_rfl) rfl (by kernel_rfl) (fun W c => ⟨c.blk Fgb.out nin_nil, trivial⟩) (fun w24 C25 hS26 => ?_)
  replace C0 := qh (C0.out.trans' C25 inw_nil)
  replace SL := qh (SL.out.chx C25 xnin_nil)
  replace Fgb := qh (C25.blk Fgb.out nin_nil)
  replace OG := qh (OG.out.ch C25 rnin_nil)
  replace OO := qh (OO.out.ch C25 rnin_nil)
  clear C25
  refine pureh_ (i := 0) (N := some 11) (v := .slice A L.length z) (msk 12 1) rfl rfl (by kernel_rfl) hP (y_move rfl (by rfl) (by rfl)) rfl ?_
  try simp only [zP,zN,zA,zB,zC]
  refine takeh_ (i := 3) (N := some 14) (v := .agg (#[.int .i64 ca, .int .i64 hm, .int .i64 pa])) (msk 12 9) rfl rfl (by kernel_rfl) hP (y_load (p := ⟨gb, 0, none⟩) rfl (by rfl) (by rfl) (fun W hS => run_loadVar_row _ _ 23 23 (#[.int .i64 ca, .int .i64 hm, .int .i64 pa]) (0, 0) _ hS.1 Try.underlying23 rfl (by kernel_rfl))) hS26 rfl ?_
  try simp only [zP,zN,zA,zB,zC]
  refine pureh_ (i := 4) (N := some 15) (v := .int .i64 pc) (msk 12 25) rfl rfl (by kernel_rfl) hP (y_move rfl (by rfl) (by rfl)) rfl ?_
  try simp only [zP,zN,zA,zB,zC]
  refine one_ (i := 1) (N := some 12) (msk 12 27) rfl rfl (by kernel_rfl) (by simp) (fun K27 hK27 => ?_)
  refine e_call Try.func19 (by kernel_rfl) rfl #[.slice A L.length z] (by rfl) rfl rfl (mp1 rfl) ((dsum_ (qh (Nat.le_trans HN.out (by decide))) HSM SL)) ?_
  rintro en w29 ⟨rfl, cc28⟩
  refine ⟨_, rfl, ?_⟩
  replace C0 := qh (C0.out.trans' cc28 inw_nil)
  replace SL := qh (SL.out.chx cc28 xnin_nil)
  replace Fgb := qh (cc28.blk Fgb.out nin_nil)
  replace OG := qh (OG.out.ch cc28 rnin_nil)
  replace OO := qh (OO.out.ch cc28 rnin_nil)
  clear cc28
  refine hK27.out _ _ ⟨Fgb.out, trivial⟩ (fun hS30 => ?_); clear hK27 K27
  try simp only [zP,zN,zA,zB,zC]
  refine pureh_ (i := 2) (N := some 13) (v := .int .i64 (sumZ L).2.1) (msk 12 31) rfl rfl (by kernel_rfl) hP (y_run (by rfl) (fun W => by have d := field23 (sumZ L).1 (sumZ L).2.1 (sumZ L).2.2 W; go_simp)) rfl ?_
  try simp only [zP,zN,zA,zB,zC]
  refine one_ (i := 5) (N := some 16) (msk 12 63) rfl rfl (by kernel_rfl) (by simp) (fun K31 hK31 => ?_)
  refine e_call Try.func8 (by kernel_rfl) rfl #[.agg (#[.int .i64 ca, .int .i64 hm, .int .i64 pa]), .int .i64 pc] (by rfl) rfl rfl (mp2 rfl rfl) ((rlimit_ HM)) ?_
  rintro en w33 ⟨rfl, cc32⟩
  refine ⟨_, rfl, ?_⟩
  replace C0 := qh (C0.out.trans' cc32 inw_nil)
  replace SL := qh (SL.out.chx cc32 xnin_nil)
  replace Fgb := qh (cc32.blk Fgb.out nin_nil)
  replace OG := qh (OG.out.ch cc32 rnin_nil)
  replace OO := qh (OO.out.ch cc32 rnin_nil)
  clear cc32
  refine hK31.out _ _ ⟨Fgb.out, trivial⟩ (fun hS34 => ?_); clear hK31 K31
  try simp only [zP,zN,zA,zB,zC]
  refine pureh_ (i := 6) (N := some 17) (v := .bool true) (msk 12 127) rfl rfl (by kernel_rfl) hP (y_run (by rfl) (fun W => by have d := D17.out; go_simp)) rfl ?_
  try simp only [zP,zN,zA,zB,zC]
  refine pureh_ (i := 7) (N := some 18) (v := .bool true) (msk 12 255) rfl rfl (by kernel_rfl) hP (y_move rfl (by rfl) (by rfl)) rfl ?_
  try simp only [zP,zN,zA,zB,zC]
  refine pureh_ (i := 8) (N := some 19) (v := undef) (msk 12 511) rfl rfl (by kernel_rfl) hP (y_off (by rfl)) rfl ?_
  try simp only [zP,zN,zA,zB,zC]
  refine pureh_ (i := 9) (N := some 20) (v := undef) (msk 12 1023) rfl rfl (by kernel_rfl) hP (y_off (by rfl)) rfl ?_
  try simp only [zP,zN,zA,zB,zC]
  refine pureh_ (i := 10) (N := some 21) (v := undef) (msk 12 2047) rfl rfl (by kernel_rfl) hP (y_off (by rfl)) rfl ?_
  try simp only [zP,zN,zA,zB,zC]
  refine pureh_ (i := 11) (N := some 22) (v := .bool true) (msk 12 4095) rfl rfl (by kernel_rfl) hP (y_pick (t := true) (by rfl) rfl (by rfl) (by rfl)) rfl ?_
  try simp only [zP,zN,zA,zB,zC]
  refine done_ (by kernel_rfl) (th_norm (hK23 _ _ ?_)); clear hK23 K23
  refine wp_cond_true rfl ?_
  refine s_ (fun K35 hK35 => ?_)
  refine pu_ (v := .int .i64 0) (y_assign rfl (by rfl) (by rfl)) ?_
  try simp only [zP,zN,zA,zB,zC]
  refine nl_ (hK35 _ _ ?_); clear hK35 K35
  refine wp_ret ?_
  refine th_ret ?_
  refine hQ _ _ _ ?_
  refine bodyPost_ret (res1 rfl (rdv_tmp (v := .int .i64 0) (by rfl))) rfl ?_
  exact ⟨by rw [HR.out], C0.out⟩
 ·have HH := qh h
  clear h
  have D17 := qh (show ¬ (sumZ L).2.1 ≤ limZ hm pc by have := HH.out; omega)
  have D21 := qh (show X = [] from List.eq_nil_of_length_eq_zero HH.out.2)
  have HR := qh (show (vicP cz L hm pc).1 = 0 by unfold vicP; rw [if_pos (by have := HH.out.1; omega), ← HX.out, vic_nil HH.out.2])
  refine sq_ (fun K36 hK36 => ?_)
  refine startk_ (S := fun W => Blk W gb (#[.int .i64 ca, .int .i64 hm, .int .i64 pa]) 23 ∧ True) (ds := []) (msk 12 0) (by kernel_rfl) rfl (by kernel_rfl) (fun W c => ⟨c.blk Fgb.out nin_nil, trivial⟩) (fun w37 C38 hS39 => ?_)
  replace C0 := qh (C0.out.trans' C38 inw_nil)
  replace SL := qh (SL.out.chx C38 xnin_nil)
  replace Fgb := qh (C38.blk Fgb.out nin_nil)
  replace OG := qh (OG.out.ch C38 rnin_nil)
  replace OO := qh (OO.out.ch C38 rnin_nil)
  clear C38
  refine pureh_ (i := 0) (N := some 11) (v := .slice A L.length z) (msk 12 1) rfl rfl (by kernel_rfl) hP (y_move rfl (by rfl) (by rfl)) rfl ?_
  try simp only [zP,zN,zA,zB,zC]
  refine takeh_ (i := 3) (N := some 14) (v := .agg (#[.int .i64 ca, .int .i64 hm, .int .i64 pa])) (msk 12 9) rfl rfl (by kernel_rfl) hP (y_load (p := ⟨gb, 0, none⟩) rfl (by rfl) (by rfl) (fun W hS => run_loadVar_row _ _ 23 23 (#[.int .i64 ca, .int .i64 hm, .int .i64 pa]) (0, 0) _ hS.1 Try.underlying23 rfl (by kernel_rfl))) hS39 rfl ?_
  try simp only [zP,zN,zA,zB,zC]
  refine pureh_ (i := 4) (N := some 15) (v := .int .i64 pc) (msk 12 25) rfl rfl (by kernel_rfl) hP (y_move rfl (by rfl) (by rfl)) rfl ?_
  try simp only [zP,zN,zA,zB,zC]
  refine one_ (i := 1) (N := some 12) (msk 12 27) rfl rfl (by kernel_rfl) (by simp) (fun K40 hK40 => ?_)
  refine e_call Try.func19 (by kernel_rfl) rfl #[.slice A L.length z] (by rfl) rfl rfl (mp1 rfl) ((dsum_ (qh (Nat.le_trans HN.out (by decide))) HSM SL)) ?_
  rintro en w42 ⟨rfl, cc41⟩
  refine ⟨_, rfl, ?_⟩
  replace C0 := qh (C0.out.trans' cc41 inw_nil)
  replace SL := qh (SL.out.chx cc41 xnin_nil)
  replace Fgb := qh (cc41.blk Fgb.out nin_nil)
  replace OG := qh (OG.out.ch cc41 rnin_nil)
  replace OO := qh (OO.out.ch cc41 rnin_nil)
  clear cc41
  refine hK40.out _ _ ⟨Fgb.out, trivial⟩ (fun hS43 => ?_); clear hK40 K40
  try simp only [zP,zN,zA,zB,zC]
  refine pureh_ (i := 2) (N := some 13) (v := .int .i64 (sumZ L).2.1) (msk 12 31) rfl rfl (by kernel_rfl) hP (y_run (by rfl) (fun W => by have d := field23 (sumZ L).1 (sumZ L).2.1 (sumZ L).2.2 W; go_simp)) rfl ?_
  try simp only [zP,zN,zA,zB,zC]
  refine one_ (i := 5) (N := some 16) (msk 12 63) rfl rfl (by kernel_rfl) (by simp) (fun K44 hK44 => ?_)
  refine e_call Try.func8 (by kernel_rfl) rfl #[.agg (#[.int .i64 ca, .int .i64 hm, .int .i64 pa]), .int .i64 pc] (by rfl) rfl rfl (mp2 rfl rfl) ((rlimit_ HM)) ?_
  rintro en w46 ⟨rfl, cc45⟩
  refine ⟨_, rfl, ?_⟩
  replace C0 := qh (C0.out.trans' cc45 inw_nil)
  replace SL := qh (SL.out.chx cc45 xnin_nil)
  replace Fgb := qh (cc45.blk Fgb.out nin_nil)
  replace OG := qh (OG.out.ch cc45 rnin_nil)
  replace OO := qh (OO.out.ch cc45 rnin_nil)
  clear cc45
  refine hK44.out _ _ ⟨Fgb.out, trivial⟩ (fun hS47 => ?_); clear hK44 K44
  try simp only [zP,zN,zA,zB,zC]
  refine pureh_ (i := 6) (N := some 17) (v := .bool false) (msk 12 127) rfl rfl (by kernel_rfl) hP (y_run (by rfl) (fun W => by have d := D17.out; go_simp)) rfl ?_
  try simp only [zP,zN,zA,zB,zC]
  refine pureh_ (i := 7) (N := some 18) (v := .bool false) (msk 12 255) rfl rfl (by kernel_rfl) hP (y_move rfl (by rfl) (by rfl)) rfl ?_
  try simp only [zP,zN,zA,zB,zC]
  refine pureh_ (i := 8) (N := some 19) (v := .slice Ao X.length co) (msk 12 511) rfl rfl (by kernel_rfl) hP (y_move rfl (by rfl) (by rfl)) rfl ?_
  try simp only [zP,zN,zA,zB,zC]
  refine pureh_ (i := 9) (N := some 20) (v := .int .i64 X.length) (msk 12 1023) rfl rfl (by kernel_rfl) hP (y_run (by rfl) (fun W => by go_simp)) rfl ?_
  try simp only [zP,zN,zA,zB,zC]
  refine pureh_ (i := 10) (N := some 21) (v := .bool true) (msk 12 2047) rfl rfl (by kernel_rfl) hP (y_run (by rfl) (fun W => by have d := D21.out; go_simp)) rfl ?_
  try simp only [zP,zN,zA,zB,zC]
  refine pureh_ (i := 11) (N := some 22) (v := .bool true) (msk 12 4095) rfl rfl (by kernel_rfl) hP (y_pick (t := false) (by rfl) rfl (by rfl) (by rfl)) rfl ?_
  try simp only [zP,zN,zA,zB,zC]
  refine done_ (by kernel_rfl) (th_norm (hK36 _ _ ?_)); clear hK36 K36
  refine wp_cond_true rfl ?_
  refine s_ (fun K48 hK48 => ?_)
  refine pu_ (v := .int .i64 0) (y_assign rfl (by rfl) (by rfl)) ?_
  try simp only [zP,zN,zA,zB,zC]
  refine nl_ (hK48 _ _ ?_); clear hK48 K48
  refine wp_ret ?_
  refine th_ret ?_
  refine hQ _ _ _ ?_
  refine bodyPost_ret (res1 rfl (rdv_tmp (v := .int .i64 0) (by rfl))) rfl ?_
  exact ⟨by rw [HR.out], C0.out⟩
 ·have HH := qh h
  clear h
  have D17 := qh (show ¬ (sumZ L).2.1 ≤ limZ hm pc by have := HH.out; omega)
  have D21 := qh (show ¬ X = [] from fun h9 => by have h8 := HH.out.2; rw [h9] at h8; simp at h8)
  obtain ⟨x, hx, hr⟩ := vic_cons (cz := cz) HH.out.2
  have HXO := qh hx
  have HR := qh (show (vicP cz L hm pc).1 = x.uid by unfold vicP; rw [if_pos (by have := HH.out.1; omega), ← HX.out, hr])
  clear hx hr
  obtain ⟨go, co2, hv2, -, -, -, -, -⟩ := OO.out.some_ HH.out.2
  injection hv2 with hv1 _ hv3
  subst hv1 hv3
  refine sq_ (fun K49 hK49 => ?_)
  refine startk_ (S := fun W => Blk W gb (#[.int .i64 ca, .int .i64 hm, .int .i64 pa]) 23 ∧ True) (ds := []) (msk 12 0) (by kernel_rfl) rfl (by kernel_rfl) (fun W c => ⟨c.blk Fgb.out nin_nil, trivial⟩) (fun w50 C51 hS52 => ?_)
  replace C0 := qh (C0.out.trans' C51 inw_nil)
  replace SL := qh (SL.out.chx C51 xnin_nil)
  replace Fgb := qh (C51.blk Fgb.out nin_nil)
  replace OG := qh (OG.out.ch C51 rnin_nil)
  replace OO := qh (OO.out.ch C51 rnin_nil)
  clear C51
  refine pureh_ (i := 0) (N := some 11) (v := .slice A L.length z) (msk 12 1) rfl rfl (by kernel_rfl) hP (y_move rfl (by rfl) (by rfl)) rfl ?_
  try simp only [zP,zN,zA,zB,zC]
  refine takeh_ (i := 3) (N := some 14) (v := .agg (#[.int .i64 ca, .int .i64 hm, .int .i64 pa])) (msk 12 9) rfl rfl (by kernel_rfl) hP (y_load (p := ⟨gb, 0, none⟩) rfl (by rfl) (by rfl) (fun W hS => run_loadVar_row _ _ 23 23 (#[.int .i64 ca, .int .i64 hm, .int .i64 pa]) (0, 0) _ hS.1 Try.underlying23 rfl (by kernel_rfl))) hS52 rfl ?_
  try simp only [zP,zN,zA,zB,zC]
  refine pureh_ (i := 4) (N := some 15) (v := .int .i64 pc) (msk 12 25) rfl rfl (by kernel_rfl) hP (y_move rfl (by rfl) (by rfl)) rfl ?_
  try simp only [zP,zN,zA,zB,zC]
  refine one_ (i := 1) (N := some 12) (msk 12 27) rfl rfl (by kernel_rfl) (by simp) (fun K53 hK53 => ?_)
  refine e_call Try.func19 (by kernel_rfl) rfl #[.slice A L.length z] (by rfl) rfl rfl (mp1 rfl) ((dsum_ (qh (Nat.le_trans HN.out (by decide))) HSM SL)) ?_
  rintro en w55 ⟨rfl, cc54⟩
  refine ⟨_, rfl, ?_⟩
  replace C0 := qh (C0.out.trans' cc54 inw_nil)
  replace SL := qh (SL.out.chx cc54 xnin_nil)
  replace Fgb := qh (cc54.blk Fgb.out nin_nil)
  replace OG := qh (OG.out.ch cc54 rnin_nil)
  replace OO := qh (OO.out.ch cc54 rnin_nil)
  clear cc54
  refine hK53.out _ _ ⟨Fgb.out, trivial⟩ (fun hS56 => ?_); clear hK53 K53
  try simp only [zP,zN,zA,zB,zC]
  refine pureh_ (i := 2) (N := some 13) (v := .int .i64 (sumZ L).2.1) (msk 12 31) rfl rfl (by kernel_rfl) hP (y_run (by rfl) (fun W => by have d := field23 (sumZ L).1 (sumZ L).2.1 (sumZ L).2.2 W; go_simp)) rfl ?_
  try simp only [zP,zN,zA,zB,zC]
  refine one_ (i := 5) (N := some 16) (msk 12 63) rfl rfl (by kernel_rfl) (by simp) (fun K57 hK57 => ?_)
  refine e_call Try.func8 (by kernel_rfl) rfl #[.agg (#[.int .i64 ca, .int .i64 hm, .int .i64 pa]), .int .i64 pc] (by rfl) rfl rfl (mp2 rfl rfl) ((rlimit_ HM)) ?_
  rintro en w59 ⟨rfl, cc58⟩
  refine ⟨_, rfl, ?_⟩
  replace C0 := qh (C0.out.trans' cc58 inw_nil)
  replace SL := qh (SL.out.chx cc58 xnin_nil)
  replace Fgb := qh (cc58.blk Fgb.out nin_nil)
  replace OG := qh (OG.out.ch cc58 rnin_nil)
  replace OO := qh (OO.out.ch cc58 rnin_nil)
  clear cc58
  refine hK57.out _ _ ⟨Fgb.out, trivial⟩ (fun hS60 => ?_); clear hK57 K57
  try simp only [zP,zN,zA,zB,zC]
  refine pureh_ (i := 6) (N := some 17) (v := .bool false) (msk 12 127) rfl rfl (by kernel_rfl) hP (y_run (by rfl) (fun W => by have d := D17.out; go_simp)) rfl ?_
  try simp only [zP,zN,zA,zB,zC]
  refine pureh_ (i := 7) (N := some 18) (v := .bool false) (msk 12 255) rfl rfl (by kernel_rfl) hP (y_move rfl (by rfl) (by rfl)) rfl ?_
  try simp only [zP,zN,zA,zB,zC]
  refine pureh_ (i := 8) (N := some 19) (v := .slice (some ⟨go, 0, none⟩) X.length co) (msk 12 511) rfl rfl (by kernel_rfl) hP (y_move rfl (by rfl) (by rfl)) rfl ?_
  try simp only [zP,zN,zA,zB,zC]
  refine pureh_ (i := 9) (N := some 20) (v := .int .i64 X.length) (msk 12 1023) rfl rfl (by kernel_rfl) hP (y_run (by rfl) (fun W => by go_simp)) rfl ?_
  try simp only [zP,zN,zA,zB,zC]
  refine pureh_ (i := 10) (N := some 21) (v := .bool false) (msk 12 2047) rfl rfl (by kernel_rfl) hP (y_run (by rfl) (fun W => by have d := D21.out; go_simp)) rfl ?_
  try simp only [zP,zN,zA,zB,zC]
  refine pureh_ (i := 11) (N := some 22) (v := .bool false) (msk 12 4095) rfl rfl (by kernel_rfl) hP (y_pick (t := false) (by rfl) rfl (by rfl) (by rfl)) rfl ?_
  try simp only [zP,zN,zA,zB,zC]
  refine done_ (by kernel_rfl) (th_norm (hK49 _ _ ?_)); clear hK49 K49
  refine wp_cond_false rfl ?_
  refine wp_skip ?_
  refine th_norm (hK22 _ _ ?_); try clear hK22 K22
  skip
  ·have D24 := qh (show (0 : Int) < (X.length : Int) by have := HH.out.2; omega)
   refine s_ (fun K61 hK61 => ?_)
   refine pu_ (v := .slice (some ⟨go, 0, none⟩) X.length co) (y_move rfl (by rfl) (by rfl)) ?_
   try simp only [zP,zN,zA,zB,zC]
   refine pu_ (v := .pointer (some ⟨go, 0, none⟩)) (y_run (by rfl) (fun W => by have d2 := D21.out; go_simp; first | done | (intro h9; exact absurd h9 d2))) ?_
   try simp only [zP,zN,zA,zB,zC]
   refine ld_ (v := .int .i64 x.uid) rfl (by rfl) (by rfl) (run_load_one (own_cell OO.out (by rw [List.getElem?_map, HXO.out]; rfl)) Try.underlying3 rfl) ?_
   try simp only [zP,zN,zA,zB,zC]
   refine pu_ (v := .int .i64 x.uid) (y_assign rfl (by rfl) (by rfl)) ?_
   try simp only [zP,zN,zA,zB,zC]
   refine nl_ (hK61 _ _ ?_); clear hK61 K61
   refine wp_ret ?_
   refine hQ _ _ _ ?_
   refine bodyPost_ret (res1 rfl (rdv_tmp (v := .int .i64 x.uid) (by rfl))) rfl ?_
   exact ⟨by rw [HR.out], C0.out⟩
theorem one_cell {w : World} {b o : Nat} {v : Value} (h : CellsAt w ⟨b, o + 0, none⟩ [v]) : w.cell? ⟨b, o, none⟩ = some v := by
 have := h 0 v rfl
 rwa [add_plain] at this
theorem victims_ {A : Option Addr} {z : Nat} {L : List HL} {lr : HL → Bool} {c m e pc : Int} (HLD : Hid (∀ x ∈ L, SpecR w x.sp.1 (lr x) ∧ (lr x = true → ∃ M N pr, SpOk w x.sp.1 M N pr) ∧ I3 (x.cpu, x.mem, x.pids))) (HSP_ : Hid (∀ x ∈ L, SameS w x.sp.1)) (SL : Hid (SrcIs w (.slice A L.length z) (L.length) ((L).flatMap loadC) 16)) :
  Calls Try.prog 4 #[.slice A L.length z, .agg #[.int .i64 c, .int .i64 m, .int .i64 e], .int .i64 pc] w fun en w' => en = .returned (.bool true) ∧ Ch [] w w' := by
 have C0 := qh (Ch.refl [] w)
 have HLR := qh (fun x (hx : x ∈ L) => (HLD.out x hx).1)
 go_enter Try.func4, Try.ntmps4
 refine q_ (fun Q hQ hP => ?_)
 refine s_ (fun K1 hK1 => ?_)
 refine ef_ (fun K2 hK2 => ?_)
 refine e_boxN (by rfl) rfl rfl (cs := #[.int .i64 c, .int .i64 m, .int .i64 e]) (v := .agg #[.int .i64 c, .int .i64 m, .int .i64 e]) (by rfl) rfl ?_
 rintro gb w3 HG4 B5 C6
 have nw7 := qh (show w.heap.size ≤ gb by have := C0.out.size; have := HG4.out; omega)
 have nx8 := qh (SL.out.ne_new (by decide) HG4)
 replace C0 := qh (C0.out.trans' C6 inw_nil)
 replace SL := qh (SL.out.chx C6 xnin_nil)
 have Fgb := qh (show Blk w3 gb (#[.int .i64 c, .int .i64 m, .int .i64 e]) 23 from B5); clear B5 C6
 refine hK2 _ _ ?_; clear hK2 K2
 try simp only [zP,zN,zA,zB,zC]
 refine pu_ (v := .bool false) (y_assign rfl (by rfl) (by rfl)) ?_
 try simp only [zP,zN,zA,zB,zC]
 refine nl_ (hK1 _ _ ?_); clear hK1 K1
 refine sq_ (fun K9 hK9 => ?_)
 rcases (show (¬ RightP L lr) ∨ (RightP L lr ∧ ¬ (SmallZ c ∧ SmallZ m ∧ SmallZ e)) ∨ (RightP L lr ∧ (SmallZ c ∧ SmallZ m ∧ SmallZ e)) from by rcases Classical.em (RightP L lr) with h1 | h1 <;> rcases Classical.em (SmallZ c ∧ SmallZ m ∧ SmallZ e) with h2 | h2 <;> simp only [h1, h2, not_true_eq_false, not_false_eq_true, and_self, and_true, true_and, or_true, true_or, false_and, and_false, or_false, false_or]) with h | h | h
 ·have HH := qh h
  clear h
  refine s_ (fun K10 hK10 => ?_)
  refine pu_ (v := .slice A L.length z) (y_move rfl (by rfl) (by rfl)) ?_
  try simp only [zP,zN,zA,zB,zC]
  refine ef_ (fun K11 hK11 => ?_)
  refine e_call Try.func11 (by kernel_rfl) rfl #[.slice A L.length z] (by rfl) rfl rfl (mp1 rfl) ((ynF (right_ (lr := lr) (qh (fun x hx w2 hb => HLR.out x hx w2 (C0.out.below0.trans (hb.mono C0.out.size)))) SL) HH.out)) ?_
  rintro en w13 ⟨rfl, cc12⟩
  refine ⟨_, rfl, ?_⟩
  replace C0 := qh (C0.out.trans' cc12 inw_nil)
  replace SL := qh (SL.out.chx cc12 xnin_nil)
  replace Fgb := qh (cc12.blk Fgb.out nin_nil)
  clear cc12
  refine hK11 _ _ ?_; clear hK11 K11
  try simp only [zP,zN,zA,zB,zC]
  refine pu_ (v := .bool true) (y_run (by rfl) (fun W => by go_simp)) ?_
  try simp only [zP,zN,zA,zB,zC]
  refine pu_ (v := .bool true) (y_move rfl (by rfl) (by rfl)) ?_
  try simp only [zP,zN,zA,zB,zC]
  refine pu_ (y_off (by rfl)) ?_
  try simp only [zP,zN,zA,zB,zC]
  refine pu_ (y_off (by rfl)) ?_
  try simp only [zP,zN,zA,zB,zC]
  refine pu_ (y_off (by rfl)) ?_
  try simp only [zP,zN,zA,zB,zC]
  refine pu_ (v := .bool true) (y_pick (t := true) (by rfl) rfl (by rfl) (by rfl)) ?_
  try simp only [zP,zN,zA,zB,zC]
  refine nl_ (hK10 _ _ ?_); clear hK10 K10
  refine wp_cond_true rfl ?_
  refine s_ (fun K14 hK14 => ?_)
  refine ef_ (fun K15 hK15 => ?_)
  refine e_call Try.func7 (by kernel_rfl) rfl #[] (by rfl) rfl rfl (mp0) (works_) ?_
  rintro en w17 ⟨rfl, cc16⟩
  refine ⟨_, rfl, ?_⟩
  replace C0 := qh (C0.out.trans' cc16 inw_nil)
  replace SL := qh (SL.out.chx cc16 xnin_nil)
  replace Fgb := qh (cc16.blk Fgb.out nin_nil)
  clear cc16
  refine hK15 _ _ ?_; clear hK15 K15
  try simp only [zP,zN,zA,zB,zC]
  refine pu_ (v := .bool true) (y_assign rfl (by rfl) (by rfl)) ?_
  try simp only [zP,zN,zA,zB,zC]
  refine nl_ (hK14 _ _ ?_); clear hK14 K14
  refine wp_ret ?_
  refine th_ret ?_
  refine hQ _ _ _ ?_
  refine bodyPost_ret (res1 rfl (rdv_tmp (v := .bool true) (by rfl))) rfl ?_
  exact ⟨rfl, C0.out⟩
 ·have HH := qh h
  clear h
  refine s_ (fun K18 hK18 => ?_)
  refine pu_ (v := .slice A L.length z) (y_move rfl (by rfl) (by rfl)) ?_
  try simp only [zP,zN,zA,zB,zC]
  refine ef_ (fun K19 hK19 => ?_)
  refine e_call Try.func11 (by kernel_rfl) rfl #[.slice A L.length z] (by rfl) rfl rfl (mp1 rfl) ((ynT (right_ (lr := lr) (qh (fun x hx w2 hb => HLR.out x hx w2 (C0.out.below0.trans (hb.mono C0.out.size)))) SL) HH.out.1)) ?_
  rintro en w21 ⟨rfl, cc20⟩
  refine ⟨_, rfl, ?_⟩
  replace C0 := qh (C0.out.trans' cc20 inw_nil)
  replace SL := qh (SL.out.chx cc20 xnin_nil)
  replace Fgb := qh (cc20.blk Fgb.out nin_nil)
  clear cc20
  refine hK19 _ _ ?_; clear hK19 K19
  try simp only [zP,zN,zA,zB,zC]
  refine pu_ (v := .bool false) (y_run (by rfl) (fun W => by go_simp)) ?_
  try simp only [zP,zN,zA,zB,zC]
  refine pu_ (v := .bool false) (y_move rfl (by rfl) (by rfl)) ?_
  try simp only [zP,zN,zA,zB,zC]
  refine ld_ (v := .agg (#[.int .i64 c, .int .i64 m, .int .i64 e])) rfl (by rfl) (by rfl) (run_loadVar_row _ _ 23 23 (#[.int .i64 c, .int .i64 m, .int .i64 e]) (0, 0) _ Fgb.out Try.underlying23 rfl (by kernel_rfl)) ?_
  try simp only [zP,zN,zA,zB,zC]
  refine ef_ (fun K22 hK22 => ?_)
  refine e_call Try.func6 (by kernel_rfl) rfl #[.agg (#[.int .i64 c, .int .i64 m, .int .i64 e])] (by rfl) rfl rfl (mp1 rfl) ((ynF (small_ c m e) HH.out.2)) ?_
  rintro en w24 ⟨rfl, cc23⟩
  refine ⟨_, rfl, ?_⟩
  replace C0 := qh (C0.out.trans' cc23 inw_nil)
  replace SL := qh (SL.out.chx cc23 xnin_nil)
  replace Fgb := qh (cc23.blk Fgb.out nin_nil)
  clear cc23
  refine hK22 _ _ ?_; clear hK22 K22
  try simp only [zP,zN,zA,zB,zC]
  refine pu_ (v := .bool true) (y_run (by rfl) (fun W => by go_simp)) ?_
  try simp only [zP,zN,zA,zB,zC]
  refine pu_ (v := .bool true) (y_pick (t := false) (by rfl) rfl (by rfl) (by rfl)) ?_
  try simp only [zP,zN,zA,zB,zC]
  refine nl_ (hK18 _ _ ?_); clear hK18 K18
  refine wp_cond_true rfl ?_
  refine s_ (fun K25 hK25 => ?_)
  refine ef_ (fun K26 hK26 => ?_)
  refine e_call Try.func7 (by kernel_rfl) rfl #[] (by rfl) rfl rfl (mp0) (works_) ?_
  rintro en w28 ⟨rfl, cc27⟩
  refine ⟨_, rfl, ?_⟩
  replace C0 := qh (C0.out.trans' cc27 inw_nil)
  replace SL := qh (SL.out.chx cc27 xnin_nil)
  replace Fgb := qh (cc27.blk Fgb.out nin_nil)
  clear cc27
  refine hK26 _ _ ?_; clear hK26 K26
  try simp only [zP,zN,zA,zB,zC]
  refine pu_ (v := .bool true) (y_assign rfl (by rfl) (by rfl)) ?_
  try simp only [zP,zN,zA,zB,zC]
  refine nl_ (hK25 _ _ ?_); clear hK25 K25
  refine wp_ret ?_
  refine th_ret ?_
  refine hQ _ _ _ ?_
  refine bodyPost_ret (res1 rfl (rdv_tmp (v := .bool true) (by rfl))) rfl ?_
  exact ⟨rfl, C0.out⟩
 ·have HH := qh h
  clear h
  have HRP := qh HH.out.1
  have HM := qh (show SmallZ m from HH.out.2.2.1)
  have HSM := qh (show ∀ x ∈ L, SmallL x from fun x hx => (HH.out.1.2 x hx).1)
  obtain ⟨F, hF⟩ := tab_of HLD.out HH.out.1
  have HCM := qh (cmp_ok hF)
  have HFI := qh (first_ok hF)
  clear hF
  obtain ⟨X, hX⟩ : ∃ X, X = candsOf L := ⟨_, rfl⟩
  have HX := qh hX
  have HXL := qh (show X.length ≤ 20 by rw [hX]; exact Nat.le_trans (cands_le L) HH.out.1.1)
  have HXS := qh (show ∀ x ∈ X, SameS w x.sp.1 from fun x hx => by rw [hX] at hx; unfold candsOf at hx; obtain ⟨y, hy, rfl⟩ := List.mem_map.1 hx; exact HSP_.out y (List.mem_filter.1 hy).1)
  clear hX
  obtain ⟨vu, vb, hv⟩ : ∃ vu vb, vicP (czF F) L m pc = (vu, vb) := ⟨_, _, rfl⟩
  have HV := qh hv
  have D102 := qh (show vb = decide (0 < vu) by have h9 := vic_fst (cz := czF F) (L := L) (hm := m) (pc := pc) (fun x hx => (HH.out.1.2 x hx).2.2); rw [hv] at h9; exact h9)
  clear hv
  refine s_ (fun K29 hK29 => ?_)
  refine pu_ (v := .slice A L.length z) (y_move rfl (by rfl) (by rfl)) ?_
  try simp only [zP,zN,zA,zB,zC]
  refine ef_ (fun K30 hK30 => ?_)
  refine e_call Try.func11 (by kernel_rfl) rfl #[.slice A L.length z] (by rfl) rfl rfl (mp1 rfl) ((ynT (right_ (lr := lr) (qh (fun x hx w2 hb => HLR.out x hx w2 (C0.out.below0.trans (hb.mono C0.out.size)))) SL) HH.out.1)) ?_
  rintro en w32 ⟨rfl, cc31⟩
  refine ⟨_, rfl, ?_⟩
  replace C0 := qh (C0.out.trans' cc31 inw_nil)
  replace SL := qh (SL.out.chx cc31 xnin_nil)
  replace Fgb := qh (cc31.blk Fgb.out nin_nil)
  clear cc31
  refine hK30 _ _ ?_; clear hK30 K30
  try simp only [zP,zN,zA,zB,zC]
  refine pu_ (v := .bool false) (y_run (by rfl) (fun W => by go_simp)) ?_
  try simp only [zP,zN,zA,zB,zC]
  refine pu_ (v := .bool false) (y_move rfl (by rfl) (by rfl)) ?_
  try simp only [zP,zN,zA,zB,zC]
  refine ld_ (v := .agg (#[.int .i64 c, .int .i64 m, .int .i64 e])) rfl (by rfl) (by rfl) (run_loadVar_row _ _ 23 23 (#[.int .i64 c, .int .i64 m, .int .i64 e]) (0, 0) _ Fgb.out Try.underlying23 rfl (by kernel_rfl)) ?_
  try simp only [zP,zN,zA,zB,zC]
  refine ef_ (fun K33 hK33 => ?_)
  refine e_call Try.func6 (by kernel_rfl) rfl #[.agg (#[.int .i64 c, .int .i64 m, .int .i64 e])] (by rfl) rfl rfl (mp1 rfl) ((ynT (small_ c m e) HH.out.2)) ?_
  rintro en w35 ⟨rfl, cc34⟩
  refine ⟨_, rfl, ?_⟩
  replace C0 := qh (C0.out.trans' cc34 inw_nil)
  replace SL := qh (SL.out.chx cc34 xnin_nil)
  replace Fgb := qh (cc34.blk Fgb.out nin_nil)
  clear cc34
  refine hK33 _ _ ?_; clear hK33 K33
  try simp only [zP,zN,zA,zB,zC]
  refine pu_ (v := .bool false) (y_run (by rfl) (fun W => by go_simp)) ?_
  try simp only [zP,zN,zA,zB,zC]
  refine pu_ (v := .bool false) (y_pick (t := false) (by rfl) rfl (by rfl) (by rfl)) ?_
  try simp only [zP,zN,zA,zB,zC]
  refine nl_ (hK29 _ _ ?_); clear hK29 K29
  refine wp_cond_false rfl ?_
  refine wp_skip ?_
  refine th_norm (hK9 _ _ ?_); try clear hK9 K9
  refine s_ (fun K36 hK36 => ?_)
  refine pu_ (v := .slice A L.length z) (y_move rfl (by rfl) (by rfl)) ?_
  try simp only [zP,zN,zA,zB,zC]
  refine ef_ (fun K37 hK37 => ?_)
  have HLO_OX := qh C0.out.size
  refine e_call Try.func12 (by kernel_rfl) rfl #[.slice A L.length z] (by rfl) rfl rfl (mp1 rfl) ((to_ (qh (Nat.le_trans HRP.out.1 (by decide))) SL)) ?_
  rintro en w40 ⟨vx, rfl, OX0, cc39⟩
  refine ⟨_, rfl, ?_⟩
  have hr38 := OX0.lt
  have rw41 := qh (show ∀ z_, z_ ∈ rl vx → z_ ∈ [] ∨ w.heap.size ≤ z_ from fun x hx => .inr (by have := (fun k hk => (hr38 k hk).1) x hx; have := C0.out.size; omega))
  have xr42 := qh (show ∀ k, k ∈ xb (.slice A L.length z) → k ∉ rl vx from fun k hk hm => by have := (fun k hk => (hr38 k hk).1) k hm; have := SL.out.lt (by decide) k hk; omega)
  replace C0 := qh (C0.out.trans' cc39 inw_nil)
  replace SL := qh (SL.out.chx cc39 xnin_nil)
  replace Fgb := qh (cc39.blk Fgb.out nin_nil)
  clear cc39
  have OX := qh (show OwnS w40 w35.heap.size 56 16 (vx) (L.length) (L.flatMap loadC) from OX0)
  obtain ⟨Ax, cx, hv_, -, -⟩ := OX.out.slice
  subst hv_
  refine hK37 _ _ ?_; clear hK37 K37
  try simp only [zP,zN,zA,zB,zC]
  refine pu_ (v := .slice Ax L.length cx) (y_assign rfl (by rfl) (by rfl)) ?_
  try simp only [zP,zN,zA,zB,zC]
  refine nl_ (hK36 _ _ ?_); clear hK36 K36
  refine s_ (fun K43 hK43 => ?_)
  refine pu_ (v := .slice Ax L.length cx) (y_move rfl (by rfl) (by rfl)) ?_
  try simp only [zP,zN,zA,zB,zC]
  refine ef_ (fun K44 hK44 => ?_)
  have HLO_OG := qh C0.out.size
  refine e_call Try.func13 (by kernel_rfl) rfl #[.slice Ax L.length cx] (by rfl) rfl rfl (mp1 rfl) ((by have h9 := cands_ (w := w40) (qh (Nat.le_trans HRP.out.1 (by decide))) (qh OX.out.src); rw [← HX.out] at h9; exact h9)) ?_
  rintro en w47 ⟨vg, rfl, OG0, cc46⟩
  refine ⟨_, rfl, ?_⟩
  have hr45 := OG0.lt
  have rw48 := qh (show ∀ z_, z_ ∈ rl vg → z_ ∈ [] ∨ w.heap.size ≤ z_ from fun x hx => .inr (by have := (fun k hk => (hr45 k hk).1) x hx; have := C0.out.size; omega))
  have xr49 := qh (show ∀ k, k ∈ xb (.slice A L.length z) → k ∉ rl vg from fun k hk hm => by have := (fun k hk => (hr45 k hk).1) k hm; have := SL.out.lt (by decide) k hk; omega)
  replace C0 := qh (C0.out.trans' cc46 inw_nil)
  replace SL := qh (SL.out.chx cc46 xnin_nil)
  replace Fgb := qh (cc46.blk Fgb.out nin_nil)
  replace OX := qh (OX.out.ch cc46 rnin_nil)
  clear cc46
  have OG := qh (show OwnS w47 w40.heap.size 41 11 (vg) (X.length) (X.flatMap candC) from OG0)
  obtain ⟨Ag, cg, hv_, -, -⟩ := OG.out.slice
  subst hv_
  refine hK44 _ _ ?_; clear hK44 K44
  try simp only [zP,zN,zA,zB,zC]
  refine pu_ (v := .slice A L.length z) (y_move rfl (by rfl) (by rfl)) ?_
  try simp only [zP,zN,zA,zB,zC]
  refine ef_ (fun K50 hK50 => ?_)
  have HLO_OW := qh C0.out.size
  refine e_call Try.func14 (by kernel_rfl) rfl #[.slice A L.length z] (by rfl) rfl rfl (mp1 rfl) ((by have h9 := dcands_ (w := w47) (qh (Nat.le_trans HRP.out.1 (by decide))) SL; rw [← HX.out] at h9; exact h9)) ?_
  rintro en w53 ⟨vw, rfl, OW0, cc52⟩
  refine ⟨_, rfl, ?_⟩
  have hr51 := OW0.lt
  have rw54 := qh (show ∀ z_, z_ ∈ rl vw → z_ ∈ [] ∨ w.heap.size ≤ z_ from fun x hx => .inr (by have := (fun k hk => (hr51 k hk).1) x hx; have := C0.out.size; omega))
  have xr55 := qh (show ∀ k, k ∈ xb (.slice A L.length z) → k ∉ rl vw from fun k hk hm => by have := (fun k hk => (hr51 k hk).1) k hm; have := SL.out.lt (by decide) k hk; omega)
  replace C0 := qh (C0.out.trans' cc52 inw_nil)
  replace SL := qh (SL.out.chx cc52 xnin_nil)
  replace Fgb := qh (cc52.blk Fgb.out nin_nil)
  replace OX := qh (OX.out.ch cc52 rnin_nil)
  replace OG := qh (OG.out.ch cc52 rnin_nil)
  clear cc52
  have OW := qh (show OwnS w53 w47.heap.size 42 11 (vw) (X.length) (X.flatMap candC) from OW0)
  obtain ⟨Aw, cw, hv_, -, -⟩ := OW.out.slice
  subst hv_
  refine hK50 _ _ ?_; clear hK50 K50
  try simp only [zP,zN,zA,zB,zC]
  refine pu_ (v := .slice Ag X.length cg) (y_assign rfl (by rfl) (by rfl)) ?_
  try simp only [zP,zN,zA,zB,zC]
  refine pu_ (v := .slice Aw X.length cw) (y_assign rfl (by rfl) (by rfl)) ?_
  try simp only [zP,zN,zA,zB,zC]
  refine nl_ (hK43 _ _ ?_); clear hK43 K43
  refine sq_ (fun K56 hK56 => ?_)
  refine s_ (fun K57 hK57 => ?_)
  refine pu_ (v := .slice Ag X.length cg) (y_move rfl (by rfl) (by rfl)) ?_
  try simp only [zP,zN,zA,zB,zC]
  refine pu_ (v := .int .i64 X.length) (y_run (by rfl) (fun W => by go_simp)) ?_
  try simp only [zP,zN,zA,zB,zC]
  refine pu_ (v := .slice Aw X.length cw) (y_move rfl (by rfl) (by rfl)) ?_
  try simp only [zP,zN,zA,zB,zC]
  refine pu_ (v := .int .i64 X.length) (y_run (by rfl) (fun W => by go_simp)) ?_
  try simp only [zP,zN,zA,zB,zC]
  refine pu_ (v := .bool false) (y_run (by rfl) (fun W => by first | (go_simp; done) | (go_simp; rfl) | (go_simp; decide))) ?_
  try simp only [zP,zN,zA,zB,zC]
  refine nl_ (hK57 _ _ ?_); clear hK57 K57
  refine wp_cond_false rfl ?_
  refine wp_skip ?_
  refine th_norm (hK56 _ _ ?_); try clear hK56 K56
  refine sq_ (fun K58 hK58 => ?_)
  refine s_ (fun K59 hK59 => ?_)
  refine pu_ (v := .int .i64 0) (y_assign rfl (by rfl) (by rfl)) ?_
  try simp only [zP,zN,zA,zB,zC]
  refine nl_ (hK59 _ _ ?_); clear hK59 K59
  refine wp_block ?_
  have OX' := qh (show OwnS w53 w.heap.size 56 16 (.slice Ax L.length cx) (L.length) (L.flatMap loadC) from OX.out.lower HLO_OX.out); clear OX; have OX := OX'; clear OX'
  have OG' := qh (show OwnS w53 w.heap.size 41 11 (.slice Ag X.length cg) (X.length) (X.flatMap candC) from OG.out.lower HLO_OG.out); clear OG; have OG := OG'; clear OG'
  have OW' := qh (show OwnS w53 w.heap.size 42 11 (.slice Aw X.length cw) (X.length) (X.flatMap candC) from OW.out.lower HLO_OW.out); clear OW; have OW := OW'; clear OW'
  refine loopk_ (fun (kq : Nat) (a' : Act) (w' : World) => ∃ (k : Nat), a' = ⟨#[.slice A L.length z, uo a' 1, .int .i64 pc, uo a' 3, .pointer (some ⟨gb, 0, none⟩), uo a' 5, .bool false, .slice Ax L.length cx, .slice Ag X.length cg, .slice Aw X.length cw, .int .i64 k, uo a' 11, uo a' 12, uo a' 13, uo a' 14, uo a' 15, uo a' 16, uo a' 17, uo a' 18, uo a' 19, uo a' 20, uo a' 21, uo a' 22, uo a' 23, uo a' 24, uo a' 25, uo a' 26, uo a' 27, uo a' 28, uo a' 29, uo a' 30, uo a' 31, uo a' 32, uo a' 33, uo a' 34, uo a' 35, uo a' 36, uo a' 37, uo a' 38, uo a' 39, uo a' 40, uo a' 41, uo a' 42, uo a' 43, uo a' 44, uo a' 45, uo a' 46, uo a' 47, uo a' 48, uo a' 49, uo a' 50, uo a' 51, uo a' 52, uo a' 53, uo a' 54, uo a' 55, uo a' 56, uo a' 57, uo a' 58, uo a' 59, uo a' 60, uo a' 61, uo a' 62, uo a' 63, uo a' 64, uo a' 65, uo a' 66, uo a' 67, uo a' 68, uo a' 69, uo a' 70, uo a' 71, uo a' 72, uo a' 73, uo a' 74, uo a' 75, uo a' 76, uo a' 77, uo a' 78, uo a' 79, uo a' 80, uo a' 81, uo a' 82, uo a' 83, uo a' 84, uo a' 85, uo a' 86, uo a' 87, uo a' 88, uo a' 89, uo a' 90, uo a' 91, uo a' 92, uo a' 93, uo a' 94, uo a' 95, uo a' 96, uo a' 97, uo a' 98, uo a' 99, uo a' 100, uo a' 101, uo a' 102, uo a' 103, uo a' 104, uo a' 105, uo a' 106, uo a' 107, uo a' 108, uo a' 109, uo a' 110, uo a' 111, uo a' 112, uo a' 113], []⟩ ∧ Hid (Ch [] w w') ∧ Hid (SrcIs w' (.slice A L.length z) (L.length) ((L).flatMap loadC) 16) ∧ Hid (Blk w' gb (#[.int .i64 c, .int .i64 m, .int .i64 e]) 23) ∧ Hid (OwnS w' w.heap.size 56 16 (.slice Ax L.length cx) (L.length) (L.flatMap loadC)) ∧ Hid (OwnS w' w.heap.size 41 11 (.slice Ag X.length cg) (X.length) (X.flatMap candC)) ∧ Hid (OwnS w' w.heap.size 42 11 (.slice Aw X.length cw) (X.length) (X.flatMap candC)) ∧ Hid (k ≤ X.length ∧ kq + k = X.length)) (X.length) (⟨0, rfl, C0, SL, Fgb, OX, OG, OW, qh ⟨by omega, by omega⟩⟩) ?_
  rintro kq a_ w60 ⟨k, ha_, C0, SL, Fgb, OX, OG, OW, hk⟩ K61 hK61
  obtain ⟨us, hus_⟩ : ∃ us, us = uo a_ := ⟨_, rfl⟩; try rw [← hus_] at ha_
  subst ha_; clear hus_
  refine sq_ (fun K62 hK62 => ?_)
  rcases at_ways' hk.out.1 with ⟨x, ho0, hlt0⟩ | h
  ·have hlt := qh hlt0
   have ho := qh ho0
   clear hlt0 ho0
   have D37 := qh (show (k : Int) < (X.length : Int) by have := hlt.out; omega)
   have D42 := qh D37.out
   have Wk := qh (show IntKind.i64.wrap ((k : Int) + 1) = ((k + 1 : Nat) : Int) by rw [wr64 (by have := hlt.out; have := HXL.out; omega)]; omega)
   obtain ⟨gg, c9, hv9, -, -, -, -, -⟩ := OG.out.some_ (by have := hlt.out; omega)
   injection hv9 with hv1 _ hv3
   subst hv1 hv3
   obtain ⟨gw, c9, hv9, -, -, -, -, -⟩ := OW.out.some_ (by have := hlt.out; omega)
   injection hv9 with hv1 _ hv3
   subst hv1 hv3
   obtain ⟨u, s0, s1, s2, s3, s4, s5, s6, cu, mu, pu, hlc, hu, hsp, -, -, -, hone⟩ := cand_lits x
   have HLC := qh hlc
   have HSX := qh (show SameS w [s0, s1, s2, s3, s4, s5, s6] by rw [← hsp]; exact HXS.out x (List.mem_of_getElem? ho.out))
   clear hlc hu hsp hone
   refine s_ (fun K63 hK63 => ?_)
   refine pu_ (v := .int .i64 k) (y_move rfl (by rfl) (by rfl)) ?_
   try simp only [zP,zN,zA,zB,zC]
   refine pu_ (v := .slice (some ⟨gw, 0, none⟩) X.length cw) (y_move rfl (by rfl) (by rfl)) ?_
   try simp only [zP,zN,zA,zB,zC]
   refine pu_ (v := .int .i64 X.length) (y_run (by rfl) (fun W => by go_simp)) ?_
   try simp only [zP,zN,zA,zB,zC]
   refine pu_ (v := .bool true) (y_run (by rfl) (fun W => by have d := D37.out; go_simp)) ?_
   try simp only [zP,zN,zA,zB,zC]
   refine pu_ (v := .bool true) (y_move rfl (by rfl) (by rfl)) ?_
   try simp only [zP,zN,zA,zB,zC]
   refine pu_ (v := .int .i64 k) (y_move rfl (by rfl) (by rfl)) ?_
   try simp only [zP,zN,zA,zB,zC]
   refine pu_ (v := .slice (some ⟨gg, 0, none⟩) X.length cg) (y_move rfl (by rfl) (by rfl)) ?_
   try simp only [zP,zN,zA,zB,zC]
   refine pu_ (v := .int .i64 X.length) (y_run (by rfl) (fun W => by go_simp)) ?_
   try simp only [zP,zN,zA,zB,zC]
   refine pu_ (v := .bool true) (y_run (by rfl) (fun W => by have d := D42.out; go_simp)) ?_
   try simp only [zP,zN,zA,zB,zC]
   refine pu_ (v := .bool true) (y_pick (t := true) (by rfl) rfl (by rfl) (by rfl)) ?_
   try simp only [zP,zN,zA,zB,zC]
   refine nl_ (hK63 _ _ ?_); clear hK63 K63
   refine wp_cond_true rfl ?_
   refine wp_skip ?_
   refine th_norm (hK62 _ _ ?_); try clear hK62 K62
   refine sq_ (fun K64 hK64 => ?_)
   refine wp_block ?_
   refine sq_ (fun K65 hK65 => ?_)
   refine startk_ (S := fun W => OwnS W w.heap.size 41 11 (.slice (some ⟨gg, 0, none⟩) X.length cg) (X.length) (X.flatMap candC) ∧ OwnS W w.heap.size 42 11 (.slice (some ⟨gw, 0, none⟩) X.length cw) (X.length) (X.flatMap candC) ∧ True) (ds := []) (msk 38 0) (by kernel_rfl) rfl (by kernel_rfl) (fun W c => ⟨OG.out.ch c rnin_nil, OW.out.ch c rnin_nil, trivial⟩) (fun w66 C67 hS68 => ?_)
   replace C0 := qh (C0.out.trans' C67 inw_nil)
   replace SL := qh (SL.out.chx C67 xnin_nil)
   replace Fgb := qh (C67.blk Fgb.out nin_nil)
   replace OX := qh (OX.out.ch C67 rnin_nil)
   replace OG := qh (OG.out.ch C67 rnin_nil)
   replace OW := qh (OW.out.ch C67 rnin_nil)
   clear C67
   refine pureh_ (i := 0) (N := some 46) (v := .slice (some ⟨gg, 0, none⟩) X.length cg) (msk 38 1) rfl rfl (by kernel_rfl) hP (y_move rfl (by rfl) (by rfl)) rfl ?_
   try simp only [zP,zN,zA,zB,zC]
   refine pureh_ (i := 1) (N := some 47) (v := .int .i64 k) (msk 38 3) rfl rfl (by kernel_rfl) hP (y_move rfl (by rfl) (by rfl)) rfl ?_
   try simp only [zP,zN,zA,zB,zC]
   refine pureh_ (i := 2) (N := some 48) (v := .pointer (some ⟨gg, k * 11, none⟩)) (msk 38 7) rfl rfl (by kernel_rfl) hP (y_run (by rfl) (fun W => by have d := D37.out; go_simp)) rfl ?_
   try simp only [zP,zN,zA,zB,zC]
   refine pureh_ (i := 3) (N := some 49) (v := .pointer (some ⟨gg, k * 11, none⟩)) (msk 38 15) rfl rfl (by kernel_rfl) hP (y_run (by rfl) (fun W => by go_simp)) rfl ?_
   try simp only [zP,zN,zA,zB,zC]
   refine takeh_ (i := 4) (N := some 50) (v := .int .i64 u) (msk 38 31) rfl rfl (by kernel_rfl) hP (y_load (p := ⟨gg, k * 11, none⟩) rfl (by rfl) (by rfl) (fun W hS => run_load_one (one_cell (CellsAt.part (by have h9 := own_at candC_len hS.1 ho.out; rw [HLC.out] at h9; exact h9) 0 1)) Try.underlying3 rfl)) hS68 rfl ?_
   try simp only [zP,zN,zA,zB,zC]
   refine pureh_ (i := 5) (N := some 51) (v := .slice (some ⟨gw, 0, none⟩) X.length cw) (msk 38 63) rfl rfl (by kernel_rfl) hP (y_move rfl (by rfl) (by rfl)) rfl ?_
   try simp only [zP,zN,zA,zB,zC]
   refine pureh_ (i := 6) (N := some 52) (v := .int .i64 k) (msk 38 127) rfl rfl (by kernel_rfl) hP (y_move rfl (by rfl) (by rfl)) rfl ?_
   try simp only [zP,zN,zA,zB,zC]
   refine pureh_ (i := 7) (N := some 53) (v := .pointer (some ⟨gw, k * 11, none⟩)) (msk 38 255) rfl rfl (by kernel_rfl) hP (y_run (by rfl) (fun W => by have d := D37.out; go_simp)) rfl ?_
   try simp only [zP,zN,zA,zB,zC]
   refine pureh_ (i := 8) (N := some 54) (v := .pointer (some ⟨gw, k * 11, none⟩)) (msk 38 511) rfl rfl (by kernel_rfl) hP (y_run (by rfl) (fun W => by go_simp)) rfl ?_
   try simp only [zP,zN,zA,zB,zC]
   refine takeh_ (i := 9) (N := some 55) (v := .int .i64 u) (msk 38 1023) rfl rfl (by kernel_rfl) hP (y_load (p := ⟨gw, k * 11, none⟩) rfl (by rfl) (by rfl) (fun W hS => run_load_one (one_cell (CellsAt.part (by have h9 := own_at candC_len hS.2.1 ho.out; rw [HLC.out] at h9; exact h9) 0 1)) Try.underlying3 rfl)) hS68 rfl ?_
   try simp only [zP,zN,zA,zB,zC]
   refine pureh_ (i := 10) (N := some 56) (v := .bool false) (msk 38 2047) rfl rfl (by kernel_rfl) hP (y_run (by rfl) (fun W => by first | (go_simp; done) | (go_simp; rfl) | (go_simp; decide))) rfl ?_
   try simp only [zP,zN,zA,zB,zC]
   refine pureh_ (i := 11) (N := some 57) (v := .bool false) (msk 38 4095) rfl rfl (by kernel_rfl) hP (y_move rfl (by rfl) (by rfl)) rfl ?_
   try simp only [zP,zN,zA,zB,zC]
   refine pureh_ (i := 12) (N := some 58) (v := .slice (some ⟨gg, 0, none⟩) X.length cg) (msk 38 8191) rfl rfl (by kernel_rfl) hP (y_move rfl (by rfl) (by rfl)) rfl ?_
   try simp only [zP,zN,zA,zB,zC]
   refine pureh_ (i := 13) (N := some 59) (v := .int .i64 k) (msk 38 16383) rfl rfl (by kernel_rfl) hP (y_move rfl (by rfl) (by rfl)) rfl ?_
   try simp only [zP,zN,zA,zB,zC]
   refine pureh_ (i := 14) (N := some 60) (v := .pointer (some ⟨gg, k * 11, none⟩)) (msk 38 32767) rfl rfl (by kernel_rfl) hP (y_run (by rfl) (fun W => by have d := D37.out; go_simp)) rfl ?_
   try simp only [zP,zN,zA,zB,zC]
   refine pureh_ (i := 15) (N := some 61) (v := .pointer (some ⟨gg, k * 11 + 8, none⟩)) (msk 38 65535) rfl rfl (by kernel_rfl) hP (y_run (by rfl) (fun W => by go_simp)) rfl ?_
   try simp only [zP,zN,zA,zB,zC]
   refine takeh_ (i := 16) (N := some 62) (v := .agg #[.int .i64 cu, .int .i64 mu, .int .i64 pu]) (msk 38 131071) rfl rfl (by kernel_rfl) hP (y_load (p := ⟨gg, k * 11 + 8, none⟩) rfl (by rfl) (by rfl) (fun W hS => run_loadVar_at (cs := [.int .i64 cu, .int .i64 mu, .int .i64 pu]) (CellsAt.part (by have h9 := own_at candC_len hS.1 ho.out; rw [HLC.out] at h9; exact h9) 8 3) Try.underlying23 rfl (by kernel_rfl))) hS68 rfl ?_
   try simp only [zP,zN,zA,zB,zC]
   refine pureh_ (i := 17) (N := some 63) (v := .slice (some ⟨gw, 0, none⟩) X.length cw) (msk 38 262143) rfl rfl (by kernel_rfl) hP (y_move rfl (by rfl) (by rfl)) rfl ?_
   try simp only [zP,zN,zA,zB,zC]
   refine pureh_ (i := 18) (N := some 64) (v := .int .i64 k) (msk 38 524287) rfl rfl (by kernel_rfl) hP (y_move rfl (by rfl) (by rfl)) rfl ?_
   try simp only [zP,zN,zA,zB,zC]
   refine pureh_ (i := 19) (N := some 65) (v := .pointer (some ⟨gw, k * 11, none⟩)) (msk 38 1048575) rfl rfl (by kernel_rfl) hP (y_run (by rfl) (fun W => by have d := D37.out; go_simp)) rfl ?_
   try simp only [zP,zN,zA,zB,zC]
   refine pureh_ (i := 20) (N := some 66) (v := .pointer (some ⟨gw, k * 11 + 8, none⟩)) (msk 38 2097151) rfl rfl (by kernel_rfl) hP (y_run (by rfl) (fun W => by go_simp)) rfl ?_
   try simp only [zP,zN,zA,zB,zC]
   refine takeh_ (i := 21) (N := some 67) (v := .agg #[.int .i64 cu, .int .i64 mu, .int .i64 pu]) (msk 38 4194303) rfl rfl (by kernel_rfl) hP (y_load (p := ⟨gw, k * 11 + 8, none⟩) rfl (by rfl) (by rfl) (fun W hS => run_loadVar_at (cs := [.int .i64 cu, .int .i64 mu, .int .i64 pu]) (CellsAt.part (by have h9 := own_at candC_len hS.2.1 ho.out; rw [HLC.out] at h9; exact h9) 8 3) Try.underlying23 rfl (by kernel_rfl))) hS68 rfl ?_
   try simp only [zP,zN,zA,zB,zC]
   refine pureh_ (i := 22) (N := some 68) (v := .bool false) (msk 38 8388607) rfl rfl (by kernel_rfl) hP (y_run (by rfl) (fun W => by have d := ne23 cu mu pu W; go_simp)) rfl ?_
   try simp only [zP,zN,zA,zB,zC]
   refine pureh_ (i := 23) (N := some 69) (v := .bool false) (msk 38 16777215) rfl rfl (by kernel_rfl) hP (y_pick (t := false) (by rfl) rfl (by rfl) (by rfl)) rfl ?_
   try simp only [zP,zN,zA,zB,zC]
   refine pureh_ (i := 24) (N := some 70) (v := .bool false) (msk 38 33554431) rfl rfl (by kernel_rfl) hP (y_move rfl (by rfl) (by rfl)) rfl ?_
   try simp only [zP,zN,zA,zB,zC]
   refine pureh_ (i := 25) (N := some 71) (v := .slice (some ⟨gg, 0, none⟩) X.length cg) (msk 38 67108863) rfl rfl (by kernel_rfl) hP (y_move rfl (by rfl) (by rfl)) rfl ?_
   try simp only [zP,zN,zA,zB,zC]
   refine pureh_ (i := 26) (N := some 72) (v := .int .i64 k) (msk 38 134217727) rfl rfl (by kernel_rfl) hP (y_move rfl (by rfl) (by rfl)) rfl ?_
   try simp only [zP,zN,zA,zB,zC]
   refine pureh_ (i := 27) (N := some 73) (v := .pointer (some ⟨gg, k * 11, none⟩)) (msk 38 268435455) rfl rfl (by kernel_rfl) hP (y_run (by rfl) (fun W => by have d := D37.out; go_simp)) rfl ?_
   try simp only [zP,zN,zA,zB,zC]
   refine pureh_ (i := 28) (N := some 74) (v := .pointer (some ⟨gg, k * 11 + 1, none⟩)) (msk 38 536870911) rfl rfl (by kernel_rfl) hP (y_run (by rfl) (fun W => by go_simp)) rfl ?_
   try simp only [zP,zN,zA,zB,zC]
   refine takeh_ (i := 29) (N := some 75) (v := .agg #[s0, s1, s2, s3, s4, s5, s6]) (msk 38 1073741823) rfl rfl (by kernel_rfl) hP (y_load (p := ⟨gg, k * 11 + 1, none⟩) rfl (by rfl) (by rfl) (fun W hS => run_loadVar_at (cs := [s0, s1, s2, s3, s4, s5, s6]) (CellsAt.part (by have h9 := own_at candC_len hS.1 ho.out; rw [HLC.out] at h9; exact h9) 1 7) Try.underlying39 rfl (by kernel_rfl))) hS68 rfl ?_
   try simp only [zP,zN,zA,zB,zC]
   refine pureh_ (i := 30) (N := some 76) (v := .slice (some ⟨gw, 0, none⟩) X.length cw) (msk 38 2147483647) rfl rfl (by kernel_rfl) hP (y_move rfl (by rfl) (by rfl)) rfl ?_
   try simp only [zP,zN,zA,zB,zC]
   refine pureh_ (i := 31) (N := some 77) (v := .int .i64 k) (msk 38 4294967295) rfl rfl (by kernel_rfl) hP (y_move rfl (by rfl) (by rfl)) rfl ?_
   try simp only [zP,zN,zA,zB,zC]
   refine pureh_ (i := 32) (N := some 78) (v := .pointer (some ⟨gw, k * 11, none⟩)) (msk 38 8589934591) rfl rfl (by kernel_rfl) hP (y_run (by rfl) (fun W => by have d := D37.out; go_simp)) rfl ?_
   try simp only [zP,zN,zA,zB,zC]
   refine pureh_ (i := 33) (N := some 79) (v := .pointer (some ⟨gw, k * 11 + 1, none⟩)) (msk 38 17179869183) rfl rfl (by kernel_rfl) hP (y_run (by rfl) (fun W => by go_simp)) rfl ?_
   try simp only [zP,zN,zA,zB,zC]
   refine takeh_ (i := 34) (N := some 80) (v := .agg #[s0, s1, s2, s3, s4, s5, s6]) (msk 38 34359738367) rfl rfl (by kernel_rfl) hP (y_load (p := ⟨gw, k * 11 + 1, none⟩) rfl (by rfl) (by rfl) (fun W hS => run_loadVar_at (cs := [s0, s1, s2, s3, s4, s5, s6]) (CellsAt.part (by have h9 := own_at candC_len hS.2.1 ho.out; rw [HLC.out] at h9; exact h9) 1 7) Try.underlying39 rfl (by kernel_rfl))) hS68 rfl ?_
   try simp only [zP,zN,zA,zB,zC]
   refine one_ (i := 35) (N := some 81) (msk 38 68719476735) rfl rfl (by kernel_rfl) (by simp) (fun K69 hK69 => ?_)
   refine e_call Try.func15 (by kernel_rfl) rfl #[.agg #[s0, s1, s2, s3, s4, s5, s6], .agg #[s0, s1, s2, s3, s4, s5, s6]] (by rfl) rfl rfl (mp2 rfl rfl) ((HSX.out w66 C0.out.below0)) ?_
   rintro en w71 ⟨rfl, cc70⟩
   refine ⟨_, rfl, ?_⟩
   replace C0 := qh (C0.out.trans' cc70 inw_nil)
   replace SL := qh (SL.out.chx cc70 xnin_nil)
   replace Fgb := qh (cc70.blk Fgb.out nin_nil)
   replace OX := qh (OX.out.ch cc70 rnin_nil)
   replace OG := qh (OG.out.ch cc70 rnin_nil)
   replace OW := qh (OW.out.ch cc70 rnin_nil)
   clear cc70
   refine hK69.out _ _ ⟨OG.out, OW.out, trivial⟩ (fun hS72 => ?_); clear hK69 K69
   try simp only [zP,zN,zA,zB,zC]
   refine pureh_ (i := 36) (N := some 82) (v := .bool false) (msk 38 137438953471) rfl rfl (by kernel_rfl) hP (y_run (by rfl) (fun W => by go_simp)) rfl ?_
   try simp only [zP,zN,zA,zB,zC]
   refine pureh_ (i := 37) (N := some 83) (v := .bool false) (msk 38 274877906943) rfl rfl (by kernel_rfl) hP (y_pick (t := false) (by rfl) rfl (by rfl) (by rfl)) rfl ?_
   try simp only [zP,zN,zA,zB,zC]
   refine done_ (by kernel_rfl) (th_norm (hK65 _ _ ?_)); clear hK65 K65
   refine wp_cond_false rfl ?_
   refine wp_skip ?_
   refine ib_norm ?_
   refine th_norm (hK64 _ _ ?_); try clear hK64 K64
   refine r_ ?_
   refine pu_ (v := .int .i64 k) (y_move rfl (by rfl) (by rfl)) ?_
   try simp only [zP,zN,zA,zB,zC]
   refine pu_ (v := .int .i64 (k + 1 : Nat)) (y_run (by rfl) (fun W => by have d := Wk.out; go_simp)) ?_
   try simp only [zP,zN,zA,zB,zC]
   refine pu_ (v := .int .i64 (k + 1 : Nat)) (y_assign rfl (by rfl) (by rfl)) ?_
   try simp only [zP,zN,zA,zB,zC]
   refine nl_ ?_
   exact th_norm (hK61 (kq - 1) _ _ (by have := hlt.out; have := hk.out; omega) ⟨k + 1, rfl, C0, SL, Fgb, OX, OG, OW, qh ⟨by have := hlt.out; omega, by have := hlt.out; have := hk.out; omega⟩⟩)
  ·have D37 := qh (show ¬ k < X.length by have := hk.out; omega)
   have HE := qh h
   clear h
   refine s_ (fun K73 hK73 => ?_)
   refine pu_ (v := .int .i64 k) (y_move rfl (by rfl) (by rfl)) ?_
   try simp only [zP,zN,zA,zB,zC]
   refine pu_ (v := .slice Aw X.length cw) (y_move rfl (by rfl) (by rfl)) ?_
   try simp only [zP,zN,zA,zB,zC]
   refine pu_ (v := .int .i64 X.length) (y_run (by rfl) (fun W => by go_simp)) ?_
   try simp only [zP,zN,zA,zB,zC]
   refine pu_ (v := .bool false) (y_run (by rfl) (fun W => by have d := D37.out; go_simp)) ?_
   try simp only [zP,zN,zA,zB,zC]
   refine pu_ (v := .bool false) (y_move rfl (by rfl) (by rfl)) ?_
   try simp only [zP,zN,zA,zB,zC]
   refine pu_ (y_off (by rfl)) ?_
   try simp only [zP,zN,zA,zB,zC]
   refine pu_ (y_off (by rfl)) ?_
   try simp only [zP,zN,zA,zB,zC]
   refine pu_ (y_off (by rfl)) ?_
   try simp only [zP,zN,zA,zB,zC]
   refine pu_ (y_off (by rfl)) ?_
   try simp only [zP,zN,zA,zB,zC]
   refine pu_ (v := .bool false) (y_pick (t := false) (by rfl) rfl (by rfl) (by rfl)) ?_
   try simp only [zP,zN,zA,zB,zC]
   refine nl_ (hK73 _ _ ?_); clear hK73 K73
   refine wp_cond_false rfl ?_
   refine wp_exit ?_
   refine th_exit ?_
   refine th_exit ?_
   refine ib_exit ?_
   refine th_norm (hK58 _ _ ?_); try clear hK58 K58
   refine s_ (fun K74 hK74 => ?_)
   refine pu_ (v := .slice Ax L.length cx) (y_move rfl (by rfl) (by rfl)) ?_
   try simp only [zP,zN,zA,zB,zC]
   refine ld_ (v := .agg (#[.int .i64 c, .int .i64 m, .int .i64 e])) rfl (by rfl) (by rfl) (run_loadVar_row _ _ 23 23 (#[.int .i64 c, .int .i64 m, .int .i64 e]) (0, 0) _ Fgb.out Try.underlying23 rfl (by kernel_rfl)) ?_
   try simp only [zP,zN,zA,zB,zC]
   refine pu_ (v := .int .i64 pc) (y_move rfl (by rfl) (by rfl)) ?_
   try simp only [zP,zN,zA,zB,zC]
   refine ef_ (fun K75 hK75 => ?_)
   refine e_call Try.func16 (by kernel_rfl) rfl #[.slice Ax L.length cx, .agg (#[.int .i64 c, .int .i64 m, .int .i64 e]), .int .i64 pc] (by rfl) rfl rfl (mp3 rfl rfl rfl) ((by have h9 := victim_ (w := w60) (L := L) (W := w) (cz := czF F) (a := c) (b := e) (hm := m) (pc := pc) (qh HRP.out.1) HSM HM HCM (qh C0.out.below0) (qh OX.out.src); rw [HV.out] at h9; exact h9)) ?_
   rintro en w77 ⟨rfl, cc76⟩
   refine ⟨_, rfl, ?_⟩
   replace C0 := qh (C0.out.trans' cc76 inw_nil)
   replace SL := qh (SL.out.chx cc76 xnin_nil)
   replace Fgb := qh (cc76.blk Fgb.out nin_nil)
   replace OX := qh (OX.out.ch cc76 rnin_nil)
   replace OG := qh (OG.out.ch cc76 rnin_nil)
   replace OW := qh (OW.out.ch cc76 rnin_nil)
   clear cc76
   refine hK75 _ _ ?_; clear hK75 K75
   try simp only [zP,zN,zA,zB,zC]
   refine pu_ (v := .tuple #[.int .i64 vu, .bool vb]) (y_move rfl (by rfl) (by rfl)) ?_
   try simp only [zP,zN,zA,zB,zC]
   refine pu_ (v := .int .i64 vu) (y_run (by rfl) (fun W => by go_simp)) ?_
   try simp only [zP,zN,zA,zB,zC]
   refine pu_ (v := .bool vb) (y_run (by rfl) (fun W => by go_simp)) ?_
   try simp only [zP,zN,zA,zB,zC]
   refine pu_ (v := .int .i64 vu) (y_assign rfl (by rfl) (by rfl)) ?_
   try simp only [zP,zN,zA,zB,zC]
   refine pu_ (v := .bool vb) (y_assign rfl (by rfl) (by rfl)) ?_
   try simp only [zP,zN,zA,zB,zC]
   refine nl_ (hK74 _ _ ?_); clear hK74 K74
   refine s_ (fun K78 hK78 => ?_)
   refine pu_ (v := .slice A L.length z) (y_move rfl (by rfl) (by rfl)) ?_
   try simp only [zP,zN,zA,zB,zC]
   refine ld_ (v := .agg (#[.int .i64 c, .int .i64 m, .int .i64 e])) rfl (by rfl) (by rfl) (run_loadVar_row _ _ 23 23 (#[.int .i64 c, .int .i64 m, .int .i64 e]) (0, 0) _ Fgb.out Try.underlying23 rfl (by kernel_rfl)) ?_
   try simp only [zP,zN,zA,zB,zC]
   refine pu_ (v := .int .i64 pc) (y_move rfl (by rfl) (by rfl)) ?_
   try simp only [zP,zN,zA,zB,zC]
   refine ef_ (fun K79 hK79 => ?_)
   refine e_call Try.func17 (by kernel_rfl) rfl #[.slice A L.length z, .agg (#[.int .i64 c, .int .i64 m, .int .i64 e]), .int .i64 pc] (by rfl) rfl rfl (mp3 rfl rfl rfl) ((by have h9 := dvictim_ (w := w77) (L := L) (W := w) (cz := czF F) (ca := c) (pa := e) (hm := m) (pc := pc) (qh HRP.out.1) HSM HM HFI (qh C0.out.below0) SL; rw [HV.out] at h9; exact h9)) ?_
   rintro en w81 ⟨rfl, cc80⟩
   refine ⟨_, rfl, ?_⟩
   replace C0 := qh (C0.out.trans' cc80 inw_nil)
   replace SL := qh (SL.out.chx cc80 xnin_nil)
   replace Fgb := qh (cc80.blk Fgb.out nin_nil)
   replace OX := qh (OX.out.ch cc80 rnin_nil)
   replace OG := qh (OG.out.ch cc80 rnin_nil)
   replace OW := qh (OW.out.ch cc80 rnin_nil)
   clear cc80
   refine hK79 _ _ ?_; clear hK79 K79
   try simp only [zP,zN,zA,zB,zC]
   refine pu_ (v := .int .i64 vu) (y_assign rfl (by rfl) (by rfl)) ?_
   try simp only [zP,zN,zA,zB,zC]
   refine nl_ (hK78 _ _ ?_); clear hK78 K78
   refine s_ (fun K82 hK82 => ?_)
   refine pu_ (v := .int .i64 vu) (y_move rfl (by rfl) (by rfl)) ?_
   try simp only [zP,zN,zA,zB,zC]
   refine pu_ (v := .int .i64 vu) (y_move rfl (by rfl) (by rfl)) ?_
   try simp only [zP,zN,zA,zB,zC]
   refine pu_ (v := .bool true) (y_run (by rfl) (fun W => by first | (go_simp; done) | (go_simp; rfl) | (go_simp; decide))) ?_
   try simp only [zP,zN,zA,zB,zC]
   refine pu_ (v := .bool true) (y_move rfl (by rfl) (by rfl)) ?_
   try simp only [zP,zN,zA,zB,zC]
   refine pu_ (v := .bool vb) (y_move rfl (by rfl) (by rfl)) ?_
   try simp only [zP,zN,zA,zB,zC]
   refine pu_ (v := .int .i64 vu) (y_move rfl (by rfl) (by rfl)) ?_
   try simp only [zP,zN,zA,zB,zC]
   refine pu_ (v := .bool (decide (0 < vu))) (y_run (by rfl) (fun W => by go_simp)) ?_
   try simp only [zP,zN,zA,zB,zC]
   refine pu_ (v := .bool true) (y_run (by rfl) (fun W => by rw [D102.out]; go_simp)) ?_
   try simp only [zP,zN,zA,zB,zC]
   refine pu_ (v := .bool true) (y_pick (t := true) (by rfl) rfl (by rfl) (by rfl)) ?_
   try simp only [zP,zN,zA,zB,zC]
   refine pu_ (v := .bool true) (y_move rfl (by rfl) (by rfl)) ?_
   try simp only [zP,zN,zA,zB,zC]
   refine pu_ (v := .slice Ax L.length cx) (y_move rfl (by rfl) (by rfl)) ?_
   try simp only [zP,zN,zA,zB,zC]
   refine ef_ (fun K83 hK83 => ?_)
   refine e_call Try.func18 (by kernel_rfl) rfl #[.slice Ax L.length cx] (by rfl) rfl rfl (mp1 rfl) ((sum_ (qh (Nat.le_trans HRP.out.1 (by decide))) HSM (qh OX.out.src))) ?_
   rintro en w85 ⟨rfl, cc84⟩
   refine ⟨_, rfl, ?_⟩
   replace C0 := qh (C0.out.trans' cc84 inw_nil)
   replace SL := qh (SL.out.chx cc84 xnin_nil)
   replace Fgb := qh (cc84.blk Fgb.out nin_nil)
   replace OX := qh (OX.out.ch cc84 rnin_nil)
   replace OG := qh (OG.out.ch cc84 rnin_nil)
   replace OW := qh (OW.out.ch cc84 rnin_nil)
   clear cc84
   refine hK83 _ _ ?_; clear hK83 K83
   try simp only [zP,zN,zA,zB,zC]
   refine pu_ (v := .slice A L.length z) (y_move rfl (by rfl) (by rfl)) ?_
   try simp only [zP,zN,zA,zB,zC]
   refine ef_ (fun K86 hK86 => ?_)
   refine e_call Try.func19 (by kernel_rfl) rfl #[.slice A L.length z] (by rfl) rfl rfl (mp1 rfl) ((dsum_ (qh (Nat.le_trans HRP.out.1 (by decide))) HSM SL)) ?_
   rintro en w88 ⟨rfl, cc87⟩
   refine ⟨_, rfl, ?_⟩
   replace C0 := qh (C0.out.trans' cc87 inw_nil)
   replace SL := qh (SL.out.chx cc87 xnin_nil)
   replace Fgb := qh (cc87.blk Fgb.out nin_nil)
   replace OX := qh (OX.out.ch cc87 rnin_nil)
   replace OG := qh (OG.out.ch cc87 rnin_nil)
   replace OW := qh (OW.out.ch cc87 rnin_nil)
   clear cc87
   refine hK86 _ _ ?_; clear hK86 K86
   try simp only [zP,zN,zA,zB,zC]
   refine pu_ (v := .bool true) (y_run (by rfl) (fun W => by have d := eq23 (sumZ L).1 (sumZ L).2.1 (sumZ L).2.2 W; go_simp)) ?_
   try simp only [zP,zN,zA,zB,zC]
   refine pu_ (v := .bool true) (y_pick (t := true) (by rfl) rfl (by rfl) (by rfl)) ?_
   try simp only [zP,zN,zA,zB,zC]
   refine pu_ (v := .bool true) (y_move rfl (by rfl) (by rfl)) ?_
   try simp only [zP,zN,zA,zB,zC]
   refine ef_ (fun K89 hK89 => ?_)
   refine e_call Try.func7 (by kernel_rfl) rfl #[] (by rfl) rfl rfl (mp0) (works_) ?_
   rintro en w91 ⟨rfl, cc90⟩
   refine ⟨_, rfl, ?_⟩
   replace C0 := qh (C0.out.trans' cc90 inw_nil)
   replace SL := qh (SL.out.chx cc90 xnin_nil)
   replace Fgb := qh (cc90.blk Fgb.out nin_nil)
   replace OX := qh (OX.out.ch cc90 rnin_nil)
   replace OG := qh (OG.out.ch cc90 rnin_nil)
   replace OW := qh (OW.out.ch cc90 rnin_nil)
   clear cc90
   refine hK89 _ _ ?_; clear hK89 K89
   try simp only [zP,zN,zA,zB,zC]
   refine pu_ (v := .bool true) (y_pick (t := true) (by rfl) rfl (by rfl) (by rfl)) ?_
   try simp only [zP,zN,zA,zB,zC]
   refine pu_ (v := .bool true) (y_assign rfl (by rfl) (by rfl)) ?_
   try simp only [zP,zN,zA,zB,zC]
   refine nl_ (hK82 _ _ ?_); clear hK82 K82
   refine wp_ret ?_
   refine hQ _ _ _ ?_
   refine bodyPost_ret (res1 rfl (rdv_tmp (v := .bool true) (by rfl))) rfl ?_
   exact ⟨rfl, C0.out⟩
end
end Go.Proofs.Ytmoelehhofmhcaa.V
