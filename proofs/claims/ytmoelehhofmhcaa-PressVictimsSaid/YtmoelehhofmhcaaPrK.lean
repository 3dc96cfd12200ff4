/- The walks of the document's candidates: who goes first, sums. -/
import Derived.Test.YtmoelehhofmhcaaPrJ
namespace Go.Proofs.Ytmoelehhofmhcaa.V
open Go Go.RowKit Go.Proofs.Ytmoelehhofmhcaa.K Go.Proofs.YtmoelehhofmhcaaW.PrintLast
set_option linter.unusedVariables false
set_option linter.unusedSimpArgs false
set_option maxRecDepth 100000
set_option maxHeartbeats 1600000
section
variable {w : World}
theorem of_zero {M N : List R3} (h : (of3 M N).2 = false) : of3 M N = ((0, 0, 0), false) := by
 unfold of3 at h ⊢
 split
 ·rename_i h1
  rw [if_pos h1] at h
  cases h
 ·rfl
theorem info42 : (Try.prog.info? 42).map (fun i => (i.zero, i.size, i.bytes)) = some (some (.agg #[.int .i64 0, .string ⟨#[]⟩, .slice none 0 0, .slice none 0 0, .slice none 0 0, .int .i64 0, .int .i64 0, .int .i64 0, .int .i64 0, .int .i64 0, .int .i64 0]), 11, 144) := by kernel_rfl
theorem dcover_ {u c m p : Int} {s0 s1 : Value} {A2 A3 : Option Addr} {c2 c3 : Nat} {M N : List R3} {z1 z2 pr : Int} (HS0 : s0.oneCell' = true) (HS1 : s1.oneCell' = true) (HN : Hid (M.length ≤ 1000 ∧ N.length ≤ 1000)) (HR2 : Hid (reqF w A2 N.length N)) (HR3 : Hid (reqF w A3 M.length M)) (HU : Hid (I3 (c, m, p)))  :
  Calls Try.prog 35 #[.agg #[.int .i64 u, s0, s1, .slice A2 N.length c2, .slice A3 M.length c3, .int .i64 z1, .int .i64 z2, .int .i64 pr, .int .i64 c, .int .i64 m, .int .i64 p]] w fun en w' => en = .returned (.int .i64 (over1 m (of3 M N).1.2.1)) ∧ Ch [] w w' := by
 have C0 := qh (Ch.refl [] w)
 go_enter Try.func35, Try.ntmps35
 refine q_ (fun Q hQ hP => ?_)
 refine s_ (fun K1 hK1 => ?_)
 refine ef_ (fun K2 hK2 => ?_)
 refine e_boxN (by rfl) rfl rfl (cs := #[.int .i64 u, s0, s1, .slice A2 N.length c2, .slice A3 M.length c3, .int .i64 z1, .int .i64 z2, .int .i64 pr, .int .i64 c, .int .i64 m, .int .i64 p]) (v := .agg #[.int .i64 u, s0, s1, .slice A2 N.length c2, .slice A3 M.length c3, .int .i64 z1, .int .i64 z2, .int .i64 pr, .int .i64 c, .int .i64 m, .int .i64 p]) (by rfl) rfl ?_
 rintro gc w3 HG4 B5 C6
 have nw7 := qh (show w.heap.size ≤ gc by have := C0.out.size; have := HG4.out; omega)
 replace C0 := qh (C0.out.trans' C6 inw_nil)
 have Fgc := qh (show Blk w3 gc (#[.int .i64 u, s0, s1, .slice A2 N.length c2, .slice A3 M.length c3, .int .i64 z1, .int .i64 z2, .int .i64 pr, .int .i64 c, .int .i64 m, .int .i64 p]) 42 from B5); clear B5 C6
 refine hK2 _ _ ?_; clear hK2 K2
 try simp only [zP,zN,zA,zB,zC]
 refine pu_ (v := .int .i64 0) (y_assign rfl (by rfl) (by rfl)) ?_
 try simp only [zP,zN,zA,zB,zC]
 refine nl_ (hK1 _ _ ?_); clear hK1 K1
 rcases Bool.eq_false_or_eq_true (of3 M N).2 with h | h
 ·have HOK := qh h
  clear h
  have HR := qh (show (over1 m (of3 M N).1.2.1) = over1 m (of3 M N).1.2.1 by rfl)
  refine s_ (fun K8 hK8 => ?_)
  refine pu_ (v := .pointer (some ⟨gc, 1, none⟩)) (y_run (by rfl) (fun W => by go_simp)) ?_
  try simp only [zP,zN,zA,zB,zC]
  refine ld_ (v := .agg #[s0, s1, .slice A2 N.length c2, .slice A3 M.length c3, .int .i64 z1, .int .i64 z2, .int .i64 pr]) rfl (by rfl) (by rfl) (run_loadVar_at (cs := [s0, s1, .slice A2 N.length c2, .slice A3 M.length c3, .int .i64 z1, .int .i64 z2, .int .i64 pr]) (cells_part Fgc.out 1 (by rfl)) Try.underlying39 rfl (by kernel_rfl)) ?_
  try simp only [zP,zN,zA,zB,zC]
  refine ef_ (fun K9 hK9 => ?_)
  refine e_call Try.func43 (by kernel_rfl) rfl #[.agg #[s0, s1, .slice A2 N.length c2, .slice A3 M.length c3, .int .i64 z1, .int .i64 z2, .int .i64 pr]] (by rfl) rfl rfl (mp1 rfl) ((by have h9 := dof_ (w := w3) (z1 := z1) (z2 := z2) (pr := pr) (c2 := c2) (c3 := c3) HS0 HS1 HN (qh (HR2.out.ch C0.out)) (qh (HR3.out.ch C0.out)); rw [HOK.out] at h9; exact h9)) ?_
  rintro en w11 ⟨rfl, cc10⟩
  refine ⟨_, rfl, ?_⟩
  replace C0 := qh (C0.out.trans' cc10 inw_nil)
  replace Fgc := qh (cc10.blk Fgc.out nin_nil)
  clear cc10
  refine hK9 _ _ ?_; clear hK9 K9
  try simp only [zP,zN,zA,zB,zC]
  refine pu_ (v := .tuple #[.agg #[.int .i64 (of3 M N).1.1, .int .i64 (of3 M N).1.2.1, .int .i64 (of3 M N).1.2.2], .bool true]) (y_move rfl (by rfl) (by rfl)) ?_
  try simp only [zP,zN,zA,zB,zC]
  refine pu_ (v := .agg #[.int .i64 (of3 M N).1.1, .int .i64 (of3 M N).1.2.1, .int .i64 (of3 M N).1.2.2]) (y_run (by rfl) (fun W => by go_simp)) ?_
  try simp only [zP,zN,zA,zB,zC]
  refine pu_ (v := .bool true) (y_run (by rfl) (fun W => by go_simp)) ?_
  try simp only [zP,zN,zA,zB,zC]
  refine ef_ (fun K12 hK12 => ?_)
  refine e_alloc (by rfl) rfl rfl (cs := #[.int .i64 0, .int .i64 0, .int .i64 0]) (by kernel_rfl) ?_
  rintro g13 w14 HG15 B16 C17
  have nw18 := qh (show w.heap.size ≤ g13 by have := C0.out.size; have := HG15.out; omega)
  replace C0 := qh (C0.out.trans' C17 inw_nil)
  replace Fgc := qh (C17.blk Fgc.out nin_nil)
  have Fg13 := qh (show Blk w14 g13 (#[.int .i64 0, .int .i64 0, .int .i64 0]) 23 from B16); clear B16 C17
  refine hK12 _ _ ?_; clear hK12 K12
  try simp only [zP,zN,zA,zB,zC]
  refine ef_ (fun K19 hK19 => ?_)
  refine e_storeN (cells := #[.int .i64 (of3 M N).1.1, .int .i64 (of3 M N).1.2.1, .int .i64 (of3 M N).1.2.2]) (by rfl) rfl rfl (by rfl) (by rfl) Fg13.out (by kernel_rfl) (by rfl) (ones_cons rfl (ones_cons rfl (ones_cons rfl ones_nil))) ?_
  rintro w20 B21 C22
  replace C0 := qh (C0.out.trans' C22 (inw_cons (.inr nw18.out) inw_nil))
  replace Fgc := qh (C22.blk Fgc.out (nin_cons (Blk.ne_type Fgc.out Fg13.out (by decide)) nin_nil))
  clear Fg13; have Fg13 := qh (show Blk w20 g13 (#[.int .i64 (of3 M N).1.1, .int .i64 (of3 M N).1.2.1, .int .i64 (of3 M N).1.2.2]) 23 from B21); clear B21 C22
  refine hK19 _ _ ?_; clear hK19 K19
  try simp only [zP,zN,zA,zB,zC]
  refine pu_ (v := .bool true) (y_assign rfl (by rfl) (by rfl)) ?_
  try simp only [zP,zN,zA,zB,zC]
  refine nl_ (hK8 _ _ ?_); clear hK8 K8
  refine sq_ (fun K23 hK23 => ?_)
  refine s_ (fun K24 hK24 => ?_)
  refine pu_ (v := .bool true) (y_move rfl (by rfl) (by rfl)) ?_
  try simp only [zP,zN,zA,zB,zC]
  refine pu_ (v := .bool false) (y_run (by rfl) (fun W => by go_simp)) ?_
  try simp only [zP,zN,zA,zB,zC]
  refine nl_ (hK24 _ _ ?_); clear hK24 K24
  refine wp_cond_false rfl ?_
  refine wp_skip ?_
  refine th_norm (hK23 _ _ ?_); try clear hK23 K23
  refine s_ (fun K25 hK25 => ?_)
  refine pu_ (v := .pointer (some ⟨gc, 8, none⟩)) (y_run (by rfl) (fun W => by go_simp)) ?_
  try simp only [zP,zN,zA,zB,zC]
  refine ld_ (v := .agg #[.int .i64 c, .int .i64 m, .int .i64 p]) rfl (by rfl) (by rfl) (run_loadVar_at (cs := [.int .i64 c, .int .i64 m, .int .i64 p]) (cells_part Fgc.out 8 (by rfl)) Try.underlying23 rfl (by kernel_rfl)) ?_
  try simp only [zP,zN,zA,zB,zC]
  refine ld_ (v := .agg (#[.int .i64 (of3 M N).1.1, .int .i64 (of3 M N).1.2.1, .int .i64 (of3 M N).1.2.2])) rfl (by rfl) (by rfl) (run_loadVar_row _ _ 23 23 (#[.int .i64 (of3 M N).1.1, .int .i64 (of3 M N).1.2.1, .int .i64 (of3 M N).1.2.2]) (0, 0) _ Fg13.out Try.underlying23 rfl (by kernel_rfl)) ?_
  try simp only [zP,zN,zA,zB,zC]
  refine ef_ (fun K26 hK26 => ?_)
  refine e_call Try.func44 (by kernel_rfl) rfl #[.agg #[.int .i64 c, .int .i64 m, .int .i64 p], .agg (#[.int .i64 (of3 M N).1.1, .int .i64 (of3 M N).1.2.1, .int .i64 (of3 M N).1.2.2])] (by rfl) rfl rfl (mp2 rfl rfl) ((dover_ (x0 := c) (x1 := m) (x2 := p) (y0 := (of3 M N).1.1) (y1 := (of3 M N).1.2.1) (y2 := (of3 M N).1.2.2) HU (qh (of_i3 (fun r hr => by obtain ⟨i, hi⟩ := List.mem_iff_getElem?.1 hr; exact (HR2.out.2 i r hi).1))))) ?_
  rintro en w28 ⟨rfl, cc27⟩
  refine ⟨_, rfl, ?_⟩
  replace C0 := qh (C0.out.trans' cc27 inw_nil)
  replace Fgc := qh (cc27.blk Fgc.out nin_nil)
  replace Fg13 := qh (cc27.blk Fg13.out nin_nil)
  clear cc27
  refine hK26 _ _ ?_; clear hK26 K26
  try simp only [zP,zN,zA,zB,zC]
  refine pu_ (v := .int .i64 (over1 m (of3 M N).1.2.1)) (y_run (by rfl) (fun W => by have d := field23 (over1 c (of3 M N).1.1) (over1 m (of3 M N).1.2.1) (over1 p (of3 M N).1.2.2) W; go_simp)) ?_
  try simp only [zP,zN,zA,zB,zC]
  refine pu_ (v := .int .i64 (over1 m (of3 M N).1.2.1)) (y_assign rfl (by rfl) (by rfl)) ?_
  try simp only [zP,zN,zA,zB,zC]
  refine nl_ (hK25 _ _ ?_); clear hK25 K25
  refine wp_ret ?_
  refine hQ _ _ _ ?_
  refine bodyPost_ret (res1 rfl (rdv_tmp (v := .int .i64 (over1 m (of3 M N).1.2.1)) (by rfl))) rfl ?_
  exact ⟨by rw [HR.out], C0.out⟩
 ·have HOK := qh h
  clear h
  have HZ_ := qh (of_zero HOK.out)
  have HR := qh (show (over1 m (of3 M N).1.2.1) = over1 m 0 by rw [HZ_.out])
  refine s_ (fun K29 hK29 => ?_)
  refine pu_ (v := .pointer (some ⟨gc, 1, none⟩)) (y_run (by rfl) (fun W => by go_simp)) ?_
  try simp only [zP,zN,zA,zB,zC]
  refine ld_ (v := .agg #[s0, s1, .slice A2 N.length c2, .slice A3 M.length c3, .int .i64 z1, .int .i64 z2, .int .i64 pr]) rfl (by rfl) (by rfl) (run_loadVar_at (cs := [s0, s1, .slice A2 N.length c2, .slice A3 M.length c3, .int .i64 z1, .int .i64 z2, .int .i64 pr]) (cells_part Fgc.out 1 (by rfl)) Try.underlying39 rfl (by kernel_rfl)) ?_
  try simp only [zP,zN,zA,zB,zC]
  refine ef_ (fun K30 hK30 => ?_)
  refine e_call Try.func43 (by kernel_rfl) rfl #[.agg #[s0, s1, .slice A2 N.length c2, .slice A3 M.length c3, .int .i64 z1, .int .i64 z2, .int .i64 pr]] (by rfl) rfl rfl (mp1 rfl) ((by have h9 := dof_ (w := w3) (z1 := z1) (z2 := z2) (pr := pr) (c2 := c2) (c3 := c3) HS0 HS1 HN (qh (HR2.out.ch C0.out)) (qh (HR3.out.ch C0.out)); rw [HZ_.out] at h9; exact h9)) ?_
  rintro en w32 ⟨rfl, cc31⟩
  refine ⟨_, rfl, ?_⟩
  replace C0 := qh (C0.out.trans' cc31 inw_nil)
  replace Fgc := qh (cc31.blk Fgc.out nin_nil)
  clear cc31
  refine hK30 _ _ ?_; clear hK30 K30
  try simp only [zP,zN,zA,zB,zC]
  refine pu_ (v := .tuple #[.agg #[.int .i64 0, .int .i64 0, .int .i64 0], .bool false]) (y_move rfl (by rfl) (by rfl)) ?_
  try simp only [zP,zN,zA,zB,zC]
  refine pu_ (v := .agg #[.int .i64 0, .int .i64 0, .int .i64 0]) (y_run (by rfl) (fun W => by go_simp)) ?_
  try simp only [zP,zN,zA,zB,zC]
  refine pu_ (v := .bool false) (y_run (by rfl) (fun W => by go_simp)) ?_
  try simp only [zP,zN,zA,zB,zC]
  refine ef_ (fun K33 hK33 => ?_)
  refine e_alloc (by rfl) rfl rfl (cs := #[.int .i64 0, .int .i64 0, .int .i64 0]) (by kernel_rfl) ?_
  rintro g34 w35 HG36 B37 C38
  have nw39 := qh (show w.heap.size ≤ g34 by have := C0.out.size; have := HG36.out; omega)
  replace C0 := qh (C0.out.trans' C38 inw_nil)
  replace Fgc := qh (C38.blk Fgc.out nin_nil)
  have Fg34 := qh (show Blk w35 g34 (#[.int .i64 0, .int .i64 0, .int .i64 0]) 23 from B37); clear B37 C38
  refine hK33 _ _ ?_; clear hK33 K33
  try simp only [zP,zN,zA,zB,zC]
  refine ef_ (fun K40 hK40 => ?_)
  refine e_storeN (cells := #[.int .i64 0, .int .i64 0, .int .i64 0]) (by rfl) rfl rfl (by rfl) (by rfl) Fg34.out (by kernel_rfl) (by rfl) (ones_cons rfl (ones_cons rfl (ones_cons rfl ones_nil))) ?_
  rintro w41 B42 C43
  replace C0 := qh (C0.out.trans' C43 (inw_cons (.inr nw39.out) inw_nil))
  replace Fgc := qh (C43.blk Fgc.out (nin_cons (Blk.ne_type Fgc.out Fg34.out (by decide)) nin_nil))
  clear Fg34; have Fg34 := qh (show Blk w41 g34 (#[.int .i64 0, .int .i64 0, .int .i64 0]) 23 from B42); clear B42 C43
  refine hK40 _ _ ?_; clear hK40 K40
  try simp only [zP,zN,zA,zB,zC]
  refine pu_ (v := .bool false) (y_assign rfl (by rfl) (by rfl)) ?_
  try simp only [zP,zN,zA,zB,zC]
  refine nl_ (hK29 _ _ ?_); clear hK29 K29
  refine sq_ (fun K44 hK44 => ?_)
  refine s_ (fun K45 hK45 => ?_)
  refine pu_ (v := .bool false) (y_move rfl (by rfl) (by rfl)) ?_
  try simp only [zP,zN,zA,zB,zC]
  refine pu_ (v := .bool true) (y_run (by rfl) (fun W => by go_simp)) ?_
  try simp only [zP,zN,zA,zB,zC]
  refine nl_ (hK45 _ _ ?_); clear hK45 K45
  refine wp_cond_true rfl ?_
  refine r_ ?_
  refine pu_ (v := .agg #[.int .i64 0, .int .i64 0, .int .i64 0]) (y_build (vs := #[]) (by rfl) rfl (by first | rfl | (simp only [List.map_toArray, List.map_cons, List.map_nil]; first | done | rfl)) (by kernel_rfl)) ?_
  try simp only [zP,zN,zA,zB,zC]
  refine ef_ (fun K46 hK46 => ?_)
  refine e_storeN (cells := #[.int .i64 0, .int .i64 0, .int .i64 0]) (by rfl) rfl rfl (by rfl) (by rfl) Fg34.out (by kernel_rfl) (by rfl) (ones_cons rfl (ones_cons rfl (ones_cons rfl ones_nil))) ?_
  rintro w47 B48 C49
  replace C0 := qh (C0.out.trans' C49 (inw_cons (.inr nw39.out) inw_nil))
  replace Fgc := qh (C49.blk Fgc.out (nin_cons (Blk.ne_type Fgc.out Fg34.out (by decide)) nin_nil))
  clear Fg34; have Fg34 := qh (show Blk w47 g34 (#[.int .i64 0, .int .i64 0, .int .i64 0]) 23 from B48); clear B48 C49
  refine hK46 _ _ ?_; clear hK46 K46
  try simp only [zP,zN,zA,zB,zC]
  refine nl_ ?_
  refine th_norm (hK44 _ _ ?_); try clear hK44 K44
  refine s_ (fun K50 hK50 => ?_)
  refine pu_ (v := .pointer (some ⟨gc, 8, none⟩)) (y_run (by rfl) (fun W => by go_simp)) ?_
  try simp only [zP,zN,zA,zB,zC]
  refine ld_ (v := .agg #[.int .i64 c, .int .i64 m, .int .i64 p]) rfl (by rfl) (by rfl) (run_loadVar_at (cs := [.int .i64 c, .int .i64 m, .int .i64 p]) (cells_part Fgc.out 8 (by rfl)) Try.underlying23 rfl (by kernel_rfl)) ?_
  try simp only [zP,zN,zA,zB,zC]
  refine ld_ (v := .agg (#[.int .i64 0, .int .i64 0, .int .i64 0])) rfl (by rfl) (by rfl) (run_loadVar_row _ _ 23 23 (#[.int .i64 0, .int .i64 0, .int .i64 0]) (0, 0) _ Fg34.out Try.underlying23 rfl (by kernel_rfl)) ?_
  try simp only [zP,zN,zA,zB,zC]
  refine ef_ (fun K51 hK51 => ?_)
  refine e_call Try.func44 (by kernel_rfl) rfl #[.agg #[.int .i64 c, .int .i64 m, .int .i64 p], .agg (#[.int .i64 0, .int .i64 0, .int .i64 0])] (by rfl) rfl rfl (mp2 rfl rfl) ((dover_ (x0 := c) (x1 := m) (x2 := p) (y0 := 0) (y1 := 0) (y2 := 0) HU (qh zero_i3))) ?_
  rintro en w53 ⟨rfl, cc52⟩
  refine ⟨_, rfl, ?_⟩
  replace C0 := qh (C0.out.trans' cc52 inw_nil)
  replace Fgc := qh (cc52.blk Fgc.out nin_nil)
  replace Fg34 := qh (cc52.blk Fg34.out nin_nil)
  clear cc52
  refine hK51 _ _ ?_; clear hK51 K51
  try simp only [zP,zN,zA,zB,zC]
  refine pu_ (v := .int .i64 (over1 m 0)) (y_run (by rfl) (fun W => by have d := field23 (over1 c 0) (over1 m 0) (over1 p 0) W; go_simp)) ?_
  try simp only [zP,zN,zA,zB,zC]
  refine pu_ (v := .int .i64 (over1 m 0)) (y_assign rfl (by rfl) (by rfl)) ?_
  try simp only [zP,zN,zA,zB,zC]
  refine nl_ (hK50 _ _ ?_); clear hK50 K50
  refine wp_ret ?_
  refine hQ _ _ _ ?_
  refine bodyPost_ret (res1 rfl (rdv_tmp (v := .int .i64 (over1 m 0)) (by rfl))) rfl ?_
  exact ⟨by rw [HR.out], C0.out⟩
theorem first_ways (x y pa pb ua ub : Int) (hx : 0 ≤ x) (hy : 0 ≤ y) :
  (0 < x ∧ y = 0 ∧ orZ (cmpI (min y 1) (min x 1)) (cmpI pa pb) (cmpI y x) (cmpI ub ua) < 0) ∨ (x = 0 ∧ 0 < y ∧ ¬ orZ (cmpI (min y 1) (min x 1)) (cmpI pa pb) (cmpI y x) (cmpI ub ua) < 0) ∨
  (decide (0 < x) = decide (0 < y) ∧ ((pa < pb ∧ orZ (cmpI (min y 1) (min x 1)) (cmpI pa pb) (cmpI y x) (cmpI ub ua) < 0) ∨ (pb < pa ∧ ¬ orZ (cmpI (min y 1) (min x 1)) (cmpI pa pb) (cmpI y x) (cmpI ub ua) < 0) ∨ (pa = pb ∧
   ((y < x ∧ orZ (cmpI (min y 1) (min x 1)) (cmpI pa pb) (cmpI y x) (cmpI ub ua) < 0) ∨ (x < y ∧ ¬ orZ (cmpI (min y 1) (min x 1)) (cmpI pa pb) (cmpI y x) (cmpI ub ua) < 0) ∨ (x = y ∧
    ((ub < ua ∧ orZ (cmpI (min y 1) (min x 1)) (cmpI pa pb) (cmpI y x) (cmpI ub ua) < 0) ∨ (¬ ub < ua ∧ ¬ orZ (cmpI (min y 1) (min x 1)) (cmpI pa pb) (cmpI y x) (cmpI ub ua) < 0))))))) := by
 rcases (show (0 < x ∧ y = 0) ∨ (x = 0 ∧ 0 < y) ∨ (min x 1 = min y 1 ∧ (0 < x ↔ 0 < y)) by omega) with h | h | h
 ·left
  refine ⟨h.1, h.2, ?_⟩
  rw [show min y 1 = 0 by omega, show min x 1 = 1 by omega]
  unfold orZ cmpI
  simp
 ·right; left
  refine ⟨h.1, h.2, ?_⟩
  rw [show min y 1 = 1 by omega, show min x 1 = 0 by omega]
  unfold orZ cmpI
  simp
 ·right; right
  refine ⟨decide_eq_decide.2 h.2, ?_⟩
  rw [h.1]
  have e0 : cmpI (min y 1) (min y 1) = 0 := by unfold cmpI; simp
  rw [e0]
  rcases (show pa < pb ∨ pb < pa ∨ pa = pb by omega) with h1 | h1 | h1
  ·exact .inl ⟨h1, by unfold orZ cmpI; simp [h1]⟩
  ·exact .inr (.inl ⟨h1, by unfold orZ cmpI; simp [h1, show ¬ pa < pb by omega]⟩)
  ·refine .inr (.inr ⟨h1, ?_⟩)
   subst h1
   have e1 : cmpI pa pa = 0 := by unfold cmpI; simp
   rw [e1]
   rcases (show y < x ∨ x < y ∨ x = y by omega) with h2 | h2 | h2
   ·exact .inl ⟨h2, by unfold orZ cmpI; simp [h2]⟩
   ·exact .inr (.inl ⟨h2, by unfold orZ cmpI; simp [h2, show ¬ y < x by omega]⟩)
   ·refine .inr (.inr ⟨h2, ?_⟩)
    subst h2
    have e2 : cmpI x x = 0 := by unfold cmpI; simp
    rw [e2]
    rcases (show ub < ua ∨ ¬ ub < ua from Classical.em _) with h3 | h3
    ·exact .inl ⟨h3, by unfold orZ cmpI; simp [h3]⟩
    ·exact .inr ⟨h3, by unfold orZ cmpI; simp [h3]; split <;> omega⟩
theorem dfirst_lit {ua ca ma pa : Int} {s0a s1a : Value} {A2a A3a : Option Addr} {c2a c3a : Nat} {Ma Na : List R3} {z1a z2a pra : Int} (HS0a : s0a.oneCell' = true) (HS1a : s1a.oneCell' = true) (HNa : Hid (Ma.length ≤ 1000 ∧ Na.length ≤ 1000)) (HR2a : Hid (reqF w A2a Na.length Na)) (HR3a : Hid (reqF w A3a Ma.length Ma)) (HUa : Hid (I3 (ca, ma, pa))) {ub cb mb pb : Int} {s0b s1b : Value} {A2b A3b : Option Addr} {c2b c3b : Nat} {Mb Nb : List R3} {z1b z2b prb : Int} (HS0b : s0b.oneCell' = true) (HS1b : s1b.oneCell' = true) (HNb : Hid (Mb.length ≤ 1000 ∧ Nb.length ≤ 1000)) (HR2b : Hid (reqF w A2b Nb.length Nb)) (HR3b : Hid (reqF w A3b Mb.length Mb)) (HUb : Hid (I3 (cb, mb, pb)))  :
  Calls Try.prog 31 #[.agg #[.int .i64 ua, s0a, s1a, .slice A2a Na.length c2a, .slice A3a Ma.length c3a, .int .i64 z1a, .int .i64 z2a, .int .i64 pra, .int .i64 ca, .int .i64 ma, .int .i64 pa], .agg #[.int .i64 ub, s0b, s1b, .slice A2b Nb.length c2b, .slice A3b Mb.length c3b, .int .i64 z1b, .int .i64 z2b, .int .i64 prb, .int .i64 cb, .int .i64 mb, .int .i64 pb]] w fun en w' => en = .returned (.bool (decide (orZ (cmpI (min (over1 mb (of3 Mb Nb).1.2.1) 1) (min (over1 ma (of3 Ma Na).1.2.1) 1)) (cmpI pra prb) (cmpI (over1 mb (of3 Mb Nb).1.2.1) (over1 ma (of3 Ma Na).1.2.1)) (cmpI ub ua) < 0))) ∧ Ch [] w w' := by
 have C0 := qh (Ch.refl [] w)
 go_enter Try.func31, Try.ntmps31
 refine q_ (fun Q hQ hP => ?_)
 refine s_ (fun K1 hK1 => ?_)
 refine ef_ (fun K2 hK2 => ?_)
 refine e_boxN (by rfl) rfl rfl (cs := #[.int .i64 ua, s0a, s1a, .slice A2a Na.length c2a, .slice A3a Ma.length c3a, .int .i64 z1a, .int .i64 z2a, .int .i64 pra, .int .i64 ca, .int .i64 ma, .int .i64 pa]) (v := .agg #[.int .i64 ua, s0a, s1a, .slice A2a Na.length c2a, .slice A3a Ma.length c3a, .int .i64 z1a, .int .i64 z2a, .int .i64 pra, .int .i64 ca, .int .i64 ma, .int .i64 pa]) (by rfl) rfl ?_
 rintro ga w3 HG4 B5 C6
 have nw7 := qh (show w.heap.size ≤ ga by have := C0.out.size; have := HG4.out; omega)
 replace C0 := qh (C0.out.trans' C6 inw_nil)
 have Fga := qh (show Blk w3 ga (#[.int .i64 ua, s0a, s1a, .slice A2a Na.length c2a, .slice A3a Ma.length c3a, .int .i64 z1a, .int .i64 z2a, .int .i64 pra, .int .i64 ca, .int .i64 ma, .int .i64 pa]) 42 from B5); clear B5 C6
 refine hK2 _ _ ?_; clear hK2 K2
 try simp only [zP,zN,zA,zB,zC]
 refine ef_ (fun K8 hK8 => ?_)
 refine e_boxN (by rfl) rfl rfl (cs := #[.int .i64 ub, s0b, s1b, .slice A2b Nb.length c2b, .slice A3b Mb.length c3b, .int .i64 z1b, .int .i64 z2b, .int .i64 prb, .int .i64 cb, .int .i64 mb, .int .i64 pb]) (v := .agg #[.int .i64 ub, s0b, s1b, .slice A2b Nb.length c2b, .slice A3b Mb.length c3b, .int .i64 z1b, .int .i64 z2b, .int .i64 prb, .int .i64 cb, .int .i64 mb, .int .i64 pb]) (by rfl) rfl ?_
 rintro gb w9 HG10 B11 C12
 have nw13 := qh (show w.heap.size ≤ gb by have := C0.out.size; have := HG10.out; omega)
 have ne14 := qh (Fga.out.ne_new HG10)
 replace C0 := qh (C0.out.trans' C12 inw_nil)
 replace Fga := qh (C12.blk Fga.out nin_nil)
 have Fgb := qh (show Blk w9 gb (#[.int .i64 ub, s0b, s1b, .slice A2b Nb.length c2b, .slice A3b Mb.length c3b, .int .i64 z1b, .int .i64 z2b, .int .i64 prb, .int .i64 cb, .int .i64 mb, .int .i64 pb]) 42 from B11); clear B11 C12
 refine hK8 _ _ ?_; clear hK8 K8
 try simp only [zP,zN,zA,zB,zC]
 refine pu_ (v := .bool false) (y_assign rfl (by rfl) (by rfl)) ?_
 try simp only [zP,zN,zA,zB,zC]
 refine nl_ (hK1 _ _ ?_); clear hK1 K1
 obtain ⟨x, hx⟩ : ∃ x, x = (over1 ma (of3 Ma Na).1.2.1) := ⟨_, rfl⟩; obtain ⟨y, hy⟩ : ∃ y, y = (over1 mb (of3 Mb Nb).1.2.1) := ⟨_, rfl⟩
 ·have HX := qh hx
  have HY := qh hy
  clear hx hy
  refine s_ (fun K15 hK15 => ?_)
  refine ld_ (v := .agg (#[.int .i64 ua, s0a, s1a, .slice A2a Na.length c2a, .slice A3a Ma.length c3a, .int .i64 z1a, .int .i64 z2a, .int .i64 pra, .int .i64 ca, .int .i64 ma, .int .i64 pa])) rfl (by rfl) (by rfl) (run_loadVar_row _ _ 42 42 (#[.int .i64 ua, s0a, s1a, .slice A2a Na.length c2a, .slice A3a Ma.length c3a, .int .i64 z1a, .int .i64 z2a, .int .i64 pra, .int .i64 ca, .int .i64 ma, .int .i64 pa]) (0, 0) _ Fga.out Try.underlying42 rfl (by kernel_rfl)) ?_
  try simp only [zP,zN,zA,zB,zC]
  refine ef_ (fun K16 hK16 => ?_)
  refine e_call Try.func35 (by kernel_rfl) rfl #[.agg (#[.int .i64 ua, s0a, s1a, .slice A2a Na.length c2a, .slice A3a Ma.length c3a, .int .i64 z1a, .int .i64 z2a, .int .i64 pra, .int .i64 ca, .int .i64 ma, .int .i64 pa])] (by rfl) rfl rfl (mp1 rfl) ((by have h9 := dcover_ (w := w9) (u := ua) (z1 := z1a) (z2 := z2a) (pr := pra) (c2 := c2a) (c3 := c3a) HS0a HS1a HNa (qh (HR2a.out.ch C0.out)) (qh (HR3a.out.ch C0.out)) HUa; rw [← HX.out] at h9; exact h9)) ?_
  rintro en w18 ⟨rfl, cc17⟩
  refine ⟨_, rfl, ?_⟩
  replace C0 := qh (C0.out.trans' cc17 inw_nil)
  replace Fga := qh (cc17.blk Fga.out nin_nil)
  replace Fgb := qh (cc17.blk Fgb.out nin_nil)
  clear cc17
  refine hK16 _ _ ?_; clear hK16 K16
  try simp only [zP,zN,zA,zB,zC]
  refine pu_ (v := .int .i64 x) (y_assign rfl (by rfl) (by rfl)) ?_
  try simp only [zP,zN,zA,zB,zC]
  refine nl_ (hK15 _ _ ?_); clear hK15 K15
  refine s_ (fun K19 hK19 => ?_)
  refine ld_ (v := .agg (#[.int .i64 ub, s0b, s1b, .slice A2b Nb.length c2b, .slice A3b Mb.length c3b, .int .i64 z1b, .int .i64 z2b, .int .i64 prb, .int .i64 cb, .int .i64 mb, .int .i64 pb])) rfl (by rfl) (by rfl) (run_loadVar_row _ _ 42 42 (#[.int .i64 ub, s0b, s1b, .slice A2b Nb.length c2b, .slice A3b Mb.length c3b, .int .i64 z1b, .int .i64 z2b, .int .i64 prb, .int .i64 cb, .int .i64 mb, .int .i64 pb]) (0, 0) _ Fgb.out Try.underlying42 rfl (by kernel_rfl)) ?_
  try simp only [zP,zN,zA,zB,zC]
  refine ef_ (fun K20 hK20 => ?_)
  refine e_call Try.func35 (by kernel_rfl) rfl #[.agg (#[.int .i64 ub, s0b, s1b, .slice A2b Nb.length c2b, .slice A3b Mb.length c3b, .int .i64 z1b, .int .i64 z2b, .int .i64 prb, .int .i64 cb, .int .i64 mb, .int .i64 pb])] (by rfl) rfl rfl (mp1 rfl) ((by have h9 := dcover_ (w := w18) (u := ub) (z1 := z1b) (z2 := z2b) (pr := prb) (c2 := c2b) (c3 := c3b) HS0b HS1b HNb (qh (HR2b.out.ch C0.out)) (qh (HR3b.out.ch C0.out)) HUb; rw [← HY.out] at h9; exact h9)) ?_
  rintro en w22 ⟨rfl, cc21⟩
  refine ⟨_, rfl, ?_⟩
  replace C0 := qh (C0.out.trans' cc21 inw_nil)
  replace Fga := qh (cc21.blk Fga.out nin_nil)
  replace Fgb := qh (cc21.blk Fgb.out nin_nil)
  clear cc21
  refine hK20 _ _ ?_; clear hK20 K20
  try simp only [zP,zN,zA,zB,zC]
  refine pu_ (v := .int .i64 y) (y_assign rfl (by rfl) (by rfl)) ?_
  try simp only [zP,zN,zA,zB,zC]
  refine nl_ (hK19 _ _ ?_); clear hK19 K19
  refine sq_ (fun K23 hK23 => ?_)
  rcases first_ways x y pra prb ua ub (by rw [HX.out]; exact (over_ge _ _).1) (by rw [HY.out]; exact (over_ge _ _).1) with h | h | ⟨hd, h2 | h2 | ⟨h1, h2 | h2 | ⟨h3, h2 | h2⟩⟩⟩
  ·have HH := qh h
   clear h
   have D12 := qh (show decide (x > 0) = true from decide_eq_true (by have := HH.out; omega))
   have D14 := qh (show decide (y > 0) = false from decide_eq_false (by have := HH.out; omega))
   have D17 := qh (show decide (x > 0) = true from decide_eq_true (by have := HH.out; omega))
   have HC := qh HH.out.2.2
   refine s_ (fun K24 hK24 => ?_)
   refine pu_ (v := .int .i64 x) (y_move rfl (by rfl) (by rfl)) ?_
   try simp only [zP,zN,zA,zB,zC]
   refine pu_ (v := .bool true) (y_run (by rfl) (fun W => by have d := D12.out; go_simp)) ?_
   try simp only [zP,zN,zA,zB,zC]
   refine pu_ (v := .int .i64 y) (y_move rfl (by rfl) (by rfl)) ?_
   try simp only [zP,zN,zA,zB,zC]
   refine pu_ (v := .bool false) (y_run (by rfl) (fun W => by have d := D14.out; go_simp)) ?_
   try simp only [zP,zN,zA,zB,zC]
   refine pu_ (v := .bool true) (y_run (by rfl) (fun W => by first | (go_simp; done) | (go_simp; rfl) | (go_simp; decide))) ?_
   try simp only [zP,zN,zA,zB,zC]
   refine nl_ (hK24 _ _ ?_); clear hK24 K24
   refine wp_cond_true rfl ?_
   refine s_ (fun K25 hK25 => ?_)
   refine pu_ (v := .int .i64 x) (y_move rfl (by rfl) (by rfl)) ?_
   try simp only [zP,zN,zA,zB,zC]
   refine pu_ (v := .bool true) (y_run (by rfl) (fun W => by have d := D17.out; go_simp)) ?_
   try simp only [zP,zN,zA,zB,zC]
   refine pu_ (v := .bool true) (y_assign rfl (by rfl) (by rfl)) ?_
   try simp only [zP,zN,zA,zB,zC]
   refine nl_ (hK25 _ _ ?_); clear hK25 K25
   refine wp_ret ?_
   refine th_ret ?_
   refine hQ _ _ _ ?_
   refine bodyPost_ret (res1 rfl (rdv_tmp (v := .bool true) (by rfl))) rfl ?_
   exact ⟨by rw [← HX.out, ← HY.out, decide_eq_true HC.out], C0.out⟩
  ·have HH := qh h
   clear h
   have D12 := qh (show decide (x > 0) = false from decide_eq_false (by have := HH.out; omega))
   have D14 := qh (show decide (y > 0) = true from decide_eq_true (by have := HH.out; omega))
   have D17 := qh (show decide (x > 0) = false from decide_eq_false (by have := HH.out; omega))
   have HC := qh HH.out.2.2
   refine s_ (fun K26 hK26 => ?_)
   refine pu_ (v := .int .i64 x) (y_move rfl (by rfl) (by rfl)) ?_
   try simp only [zP,zN,zA,zB,zC]
   refine pu_ (v := .bool false) (y_run (by rfl) (fun W => by have d := D12.out; go_simp)) ?_
   try simp only [zP,zN,zA,zB,zC]
   refine pu_ (v := .int .i64 y) (y_move rfl (by rfl) (by rfl)) ?_
   try simp only [zP,zN,zA,zB,zC]
   refine pu_ (v := .bool true) (y_run (by rfl) (fun W => by have d := D14.out; go_simp)) ?_
   try simp only [zP,zN,zA,zB,zC]
   refine pu_ (v := .bool true) (y_run (by rfl) (fun W => by first | (go_simp; done) | (go_simp; rfl) | (go_simp; decide))) ?_
   try simp only [zP,zN,zA,zB,zC]
   refine nl_ (hK26 _ _ ?_); clear hK26 K26
   refine wp_cond_true rfl ?_
   refine s_ (fun K27 hK27 => ?_)
   refine pu_ (v := .int .i64 x) (y_move rfl (by rfl) (by rfl)) ?_
   try simp only [zP,zN,zA,zB,zC]
   refine pu_ (v := .bool false) (y_run (by rfl) (fun W => by have d := D17.out; go_simp)) ?_
   try simp only [zP,zN,zA,zB,zC]
   refine pu_ (v := .bool false) (y_assign rfl (by rfl) (by rfl)) ?_
   try simp only [zP,zN,zA,zB,zC]
   refine nl_ (hK27 _ _ ?_); clear hK27 K27
   refine wp_ret ?_
   refine th_ret ?_
   refine hQ _ _ _ ?_
   refine bodyPost_ret (res1 rfl (rdv_tmp (v := .bool false) (by rfl))) rfl ?_
   exact ⟨by rw [← HX.out, ← HY.out, decide_eq_false HC.out], C0.out⟩
  ·have D15 := qh hd
   have HH := qh h2
   clear hd h2
   have HC := qh HH.out.2
   have D24 := qh (show ¬ pra = prb by have := HH.out.1; omega)
   have D31 := qh (show decide (pra < prb) = true from decide_eq_true (by have := HH.out.1; omega))
   refine s_ (fun K28 hK28 => ?_)
   refine pu_ (v := .int .i64 x) (y_move rfl (by rfl) (by rfl)) ?_
   try simp only [zP,zN,zA,zB,zC]
   refine pu_ (v := .bool (decide (0 < x))) (y_run (by rfl) (fun W => by go_simp)) ?_
   try simp only [zP,zN,zA,zB,zC]
   refine pu_ (v := .int .i64 y) (y_move rfl (by rfl) (by rfl)) ?_
   try simp only [zP,zN,zA,zB,zC]
   refine pu_ (v := .bool (decide (0 < y))) (y_run (by rfl) (fun W => by go_simp)) ?_
   try simp only [zP,zN,zA,zB,zC]
   refine pu_ (v := .bool false) (y_run (by rfl) (fun W => by rw [D15.out]; go_simp)) ?_
   try simp only [zP,zN,zA,zB,zC]
   refine nl_ (hK28 _ _ ?_); clear hK28 K28
   refine wp_cond_false rfl ?_
   refine wp_skip ?_
   refine th_norm (hK23 _ _ ?_); try clear hK23 K23
   refine sq_ (fun K29 hK29 => ?_)
   refine s_ (fun K30 hK30 => ?_)
   refine pu_ (v := .pointer (some ⟨ga, 1, none⟩)) (y_run (by rfl) (fun W => by go_simp)) ?_
   try simp only [zP,zN,zA,zB,zC]
   refine pu_ (v := .pointer (some ⟨ga, 7, none⟩)) (y_run (by rfl) (fun W => by go_simp)) ?_
   try simp only [zP,zN,zA,zB,zC]
   refine ld_ (v := .int .i64 pra) rfl (by rfl) (by rfl) (run_load_one ((Fga.out.cell 7).trans rfl) Try.underlying3 rfl) ?_
   try simp only [zP,zN,zA,zB,zC]
   refine pu_ (v := .pointer (some ⟨gb, 1, none⟩)) (y_run (by rfl) (fun W => by go_simp)) ?_
   try simp only [zP,zN,zA,zB,zC]
   refine pu_ (v := .pointer (some ⟨gb, 7, none⟩)) (y_run (by rfl) (fun W => by go_simp)) ?_
   try simp only [zP,zN,zA,zB,zC]
   refine ld_ (v := .int .i64 prb) rfl (by rfl) (by rfl) (run_load_one ((Fgb.out.cell 7).trans rfl) Try.underlying3 rfl) ?_
   try simp only [zP,zN,zA,zB,zC]
   refine pu_ (v := .bool true) (y_run (by rfl) (fun W => by have d := D24.out; go_simp)) ?_
   try simp only [zP,zN,zA,zB,zC]
   refine nl_ (hK30 _ _ ?_); clear hK30 K30
   refine wp_cond_true rfl ?_
   refine s_ (fun K31 hK31 => ?_)
   refine pu_ (v := .pointer (some ⟨ga, 1, none⟩)) (y_run (by rfl) (fun W => by go_simp)) ?_
   try simp only [zP,zN,zA,zB,zC]
   refine pu_ (v := .pointer (some ⟨ga, 7, none⟩)) (y_run (by rfl) (fun W => by go_simp)) ?_
   try simp only [zP,zN,zA,zB,zC]
   refine ld_ (v := .int .i64 pra) rfl (by rfl) (by rfl) (run_load_one ((Fga.out.cell 7).trans rfl) Try.underlying3 rfl) ?_
   try simp only [zP,zN,zA,zB,zC]
   refine pu_ (v := .pointer (some ⟨gb, 1, none⟩)) (y_run (by rfl) (fun W => by go_simp)) ?_
   try simp only [zP,zN,zA,zB,zC]
   refine pu_ (v := .pointer (some ⟨gb, 7, none⟩)) (y_run (by rfl) (fun W => by go_simp)) ?_
   try simp only [zP,zN,zA,zB,zC]
   refine ld_ (v := .int .i64 prb) rfl (by rfl) (by rfl) (run_load_one ((Fgb.out.cell 7).trans rfl) Try.underlying3 rfl) ?_
   try simp only [zP,zN,zA,zB,zC]
   refine pu_ (v := .bool true) (y_run (by rfl) (fun W => by have d := D31.out; go_simp)) ?_
   try simp only [zP,zN,zA,zB,zC]
   refine pu_ (v := .bool true) (y_assign rfl (by rfl) (by rfl)) ?_
   try simp only [zP,zN,zA,zB,zC]
   refine nl_ (hK31 _ _ ?_); clear hK31 K31
   refine wp_ret ?_
   refine th_ret ?_
   refine hQ _ _ _ ?_
   refine bodyPost_ret (res1 rfl (rdv_tmp (v := .bool true) (by rfl))) rfl ?_
   exact ⟨by rw [← HX.out, ← HY.out, decide_eq_true HC.out], C0.out⟩
  ·have D15 := qh hd
   have HH := qh h2
   clear hd h2
   have HC := qh HH.out.2
   have D24 := qh (show ¬ pra = prb by have := HH.out.1; omega)
   have D31 := qh (show decide (pra < prb) = false from decide_eq_false (by have := HH.out.1; omega))
   refine s_ (fun K32 hK32 => ?_)
   refine pu_ (v := .int .i64 x) (y_move rfl (by rfl) (by rfl)) ?_
   try simp only [zP,zN,zA,zB,zC]
   refine pu_ (v := .bool (decide (0 < x))) (y_run (by rfl) (fun W => by go_simp)) ?_
   try simp only [zP,zN,zA,zB,zC]
   refine pu_ (v := .int .i64 y) (y_move rfl (by rfl) (by rfl)) ?_
   try simp only [zP,zN,zA,zB,zC]
   refine pu_ (v := .bool (decide (0 < y))) (y_run (by rfl) (fun W => by go_simp)) ?_
   try simp only [zP,zN,zA,zB,zC]
   refine pu_ (v := .bool false) (y_run (by rfl) (fun W => by rw [D15.out]; go_simp)) ?_
   try simp only [zP,zN,zA,zB,zC]
   refine nl_ (hK32 _ _ ?_); clear hK32 K32
   refine wp_cond_false rfl ?_
   refine wp_skip ?_
   refine th_norm (hK23 _ _ ?_); try clear hK23 K23
   refine sq_ (fun K33 hK33 => ?_)
   refine s_ (fun K34 hK34 => ?_)
   refine pu_ (v := .pointer (some ⟨ga, 1, none⟩)) (y_run (by rfl) (fun W => by go_simp)) ?_
   try simp only [zP,zN,zA,zB,zC]
   refine pu_ (v := .pointer (some ⟨ga, 7, none⟩)) (y_run (by rfl) (fun W => by go_simp)) ?_
   try simp only [zP,zN,zA,zB,zC]
   refine ld_ (v := .int .i64 pra) rfl (by rfl) (by rfl) (run_load_one ((Fga.out.cell 7).trans rfl) Try.underlying3 rfl) ?_
   try simp only [zP,zN,zA,zB,zC]
   refine pu_ (v := .pointer (some ⟨gb, 1, none⟩)) (y_run (by rfl) (fun W => by go_simp)) ?_
   try simp only [zP,zN,zA,zB,zC]
   refine pu_ (v := .pointer (some ⟨gb, 7, none⟩)) (y_run (by rfl) (fun W => by go_simp)) ?_
   try simp only [zP,zN,zA,zB,zC]
   refine ld_ (v := .int .i64 prb) rfl (by rfl) (by rfl) (run_load_one ((Fgb.out.cell 7).trans rfl) Try.underlying3 rfl) ?_
   try simp only [zP,zN,zA,zB,zC]
   refine pu_ (v := .bool true) (y_run (by rfl) (fun W => by have d := D24.out; go_simp)) ?_
   try simp only [zP,zN,zA,zB,zC]
   refine nl_ (hK34 _ _ ?_); clear hK34 K34
   refine wp_cond_true rfl ?_
   refine s_ (fun K35 hK35 => ?_)
   refine pu_ (v := .pointer (some ⟨ga, 1, none⟩)) (y_run (by rfl) (fun W => by go_simp)) ?_
   try simp only [zP,zN,zA,zB,zC]
   refine pu_ (v := .pointer (some ⟨ga, 7, none⟩)) (y_run (by rfl) (fun W => by go_simp)) ?_
   try simp only [zP,zN,zA,zB,zC]
   refine ld_ (v := .int .i64 pra) rfl (by rfl) (by rfl) (run_load_one ((Fga.out.cell 7).trans rfl) Try.underlying3 rfl) ?_
   try simp only [zP,zN,zA,zB,zC]
   refine pu_ (v := .pointer (some ⟨gb, 1, none⟩)) (y_run (by rfl) (fun W => by go_simp)) ?_
   try simp only [zP,zN,zA,zB,zC]
   refine pu_ (v := .pointer (some ⟨gb, 7, none⟩)) (y_run (by rfl) (fun W => by go_simp)) ?_
   try simp only [zP,zN,zA,zB,zC]
   refine ld_ (v := .int .i64 prb) rfl (by rfl) (by rfl) (run_load_one ((Fgb.out.cell 7).trans rfl) Try.underlying3 rfl) ?_
   try simp only [zP,zN,zA,zB,zC]
   refine pu_ (v := .bool false) (y_run (by rfl) (fun W => by have d := D31.out; go_simp)) ?_
   try simp only [zP,zN,zA,zB,zC]
   refine pu_ (v := .bool false) (y_assign rfl (by rfl) (by rfl)) ?_
   try simp only [zP,zN,zA,zB,zC]
   refine nl_ (hK35 _ _ ?_); clear hK35 K35
   refine wp_ret ?_
   refine th_ret ?_
   refine hQ _ _ _ ?_
   refine bodyPost_ret (res1 rfl (rdv_tmp (v := .bool false) (by rfl))) rfl ?_
   exact ⟨by rw [← HX.out, ← HY.out, decide_eq_false HC.out], C0.out⟩
  ·replace h2 := And.intro h1 h2
   clear h1
   have D15 := qh hd
   have HH := qh h2
   clear hd h2
   have HC := qh HH.out.2.2
   have D24 := qh (show  pra = prb by have := HH.out.1; omega)
   have D34 := qh (show ¬ x = y by have := HH.out.2.1; omega)
   have D37 := qh (show decide (x > y) = true from decide_eq_true (by have := HH.out.2.1; omega))
   refine s_ (fun K36 hK36 => ?_)
   refine pu_ (v := .int .i64 x) (y_move rfl (by rfl) (by rfl)) ?_
   try simp only [zP,zN,zA,zB,zC]
   refine pu_ (v := .bool (decide (0 < x))) (y_run (by rfl) (fun W => by go_simp)) ?_
   try simp only [zP,zN,zA,zB,zC]
   refine pu_ (v := .int .i64 y) (y_move rfl (by rfl) (by rfl)) ?_
   try simp only [zP,zN,zA,zB,zC]
   refine pu_ (v := .bool (decide (0 < y))) (y_run (by rfl) (fun W => by go_simp)) ?_
   try simp only [zP,zN,zA,zB,zC]
   refine pu_ (v := .bool false) (y_run (by rfl) (fun W => by rw [D15.out]; go_simp)) ?_
   try simp only [zP,zN,zA,zB,zC]
   refine nl_ (hK36 _ _ ?_); clear hK36 K36
   refine wp_cond_false rfl ?_
   refine wp_skip ?_
   refine th_norm (hK23 _ _ ?_); try clear hK23 K23
   refine sq_ (fun K37 hK37 => ?_)
   refine s_ (fun K38 hK38 => ?_)
   refine pu_ (v := .pointer (some ⟨ga, 1, none⟩)) (y_run (by rfl) (fun W => by go_simp)) ?_
   try simp only [zP,zN,zA,zB,zC]
   refine pu_ (v := .pointer (some ⟨ga, 7, none⟩)) (y_run (by rfl) (fun W => by go_simp)) ?_
   try simp only [zP,zN,zA,zB,zC]
   refine ld_ (v := .int .i64 pra) rfl (by rfl) (by rfl) (run_load_one ((Fga.out.cell 7).trans rfl) Try.underlying3 rfl) ?_
   try simp only [zP,zN,zA,zB,zC]
   refine pu_ (v := .pointer (some ⟨gb, 1, none⟩)) (y_run (by rfl) (fun W => by go_simp)) ?_
   try simp only [zP,zN,zA,zB,zC]
   refine pu_ (v := .pointer (some ⟨gb, 7, none⟩)) (y_run (by rfl) (fun W => by go_simp)) ?_
   try simp only [zP,zN,zA,zB,zC]
   refine ld_ (v := .int .i64 prb) rfl (by rfl) (by rfl) (run_load_one ((Fgb.out.cell 7).trans rfl) Try.underlying3 rfl) ?_
   try simp only [zP,zN,zA,zB,zC]
   refine pu_ (v := .bool false) (y_run (by rfl) (fun W => by have d := D24.out; go_simp)) ?_
   try simp only [zP,zN,zA,zB,zC]
   refine nl_ (hK38 _ _ ?_); clear hK38 K38
   refine wp_cond_false rfl ?_
   refine wp_skip ?_
   refine th_norm (hK37 _ _ ?_); try clear hK37 K37
   refine sq_ (fun K39 hK39 => ?_)
   refine s_ (fun K40 hK40 => ?_)
   refine pu_ (v := .int .i64 x) (y_move rfl (by rfl) (by rfl)) ?_
   try simp only [zP,zN,zA,zB,zC]
   refine pu_ (v := .int .i64 y) (y_move rfl (by rfl) (by rfl)) ?_
   try simp only [zP,zN,zA,zB,zC]
   refine pu_ (v := .bool true) (y_run (by rfl) (fun W => by have d := D34.out; go_simp)) ?_
   try simp only [zP,zN,zA,zB,zC]
   refine nl_ (hK40 _ _ ?_); clear hK40 K40
   refine wp_cond_true rfl ?_
   refine s_ (fun K41 hK41 => ?_)
   refine pu_ (v := .int .i64 x) (y_move rfl (by rfl) (by rfl)) ?_
   try simp only [zP,zN,zA,zB,zC]
   refine pu_ (v := .int .i64 y) (y_move rfl (by rfl) (by rfl)) ?_
   try simp only [zP,zN,zA,zB,zC]
   refine pu_ (v := .bool true) (y_run (by rfl) (fun W => by have d := D37.out; go_simp)) ?_
   try simp only [zP,zN,zA,zB,zC]
   refine pu_ (v := .bool true) (y_assign rfl (by rfl) (by rfl)) ?_
   try simp only [zP,zN,zA,zB,zC]
   refine nl_ (hK41 _ _ ?_); clear hK41 K41
   refine wp_ret ?_
   refine th_ret ?_
   refine hQ _ _ _ ?_
   refine bodyPost_ret (res1 rfl (rdv_tmp (v := .bool true) (by rfl))) rfl ?_
   exact ⟨by rw [← HX.out, ← HY.out, decide_eq_true HC.out], C0.out⟩
  ·replace h2 := And.intro h1 h2
   clear h1
   have D15 := qh hd
   have HH := qh h2
   clear hd h2
   have HC := qh HH.out.2.2
   have D24 := qh (show  pra = prb by have := HH.out.1; omega)
   have D34 := qh (show ¬ x = y by have := HH.out.2.1; omega)
   have D37 := qh (show decide (x > y) = false from decide_eq_false (by have := HH.out.2.1; omega))
   refine s_ (fun K42 hK42 => ?_)
   refine pu_ (v := .int .i64 x) (y_move rfl (by rfl) (by rfl)) ?_
   try simp only [zP,zN,zA,zB,zC]
   refine pu_ (v := .bool (decide (0 < x))) (y_run (by rfl) (fun W => by go_simp)) ?_
   try simp only [zP,zN,zA,zB,zC]
   refine pu_ (v := .int .i64 y) (y_move rfl (by rfl) (by rfl)) ?_
   try simp only [zP,zN,zA,zB,zC]
   refine pu_ (v := .bool (decide (0 < y))) (y_run (by rfl) (fun W => by go_simp)) ?_
   try simp only [zP,zN,zA,zB,zC]
   refine pu_ (v := .bool false) (y_run (by rfl) (fun W => by rw [D15.out]; go_simp)) ?_
   try simp only [zP,zN,zA,zB,zC]
   refine nl_ (hK42 _ _ ?_); clear hK42 K42
   refine wp_cond_false rfl ?_
   refine wp_skip ?_
   refine th_norm (hK23 _ _ ?_); try clear hK23 K23
   refine sq_ (fun K43 hK43 => ?_)
   refine s_ (fun K44 hK44 => ?_)
   refine pu_ (v := .pointer (some ⟨ga, 1, none⟩)) (y_run (by rfl) (fun W => by go_simp)) ?_
   try simp only [zP,zN,zA,zB,zC]
   refine pu_ (v := .pointer (some ⟨ga, 7, none⟩)) (y_run (by rfl) (fun W => by go_simp)) ?_
   try simp only [zP,zN,zA,zB,zC]
   refine ld_ (v := .int .i64 pra) rfl (by rfl) (by rfl) (run_load_one ((Fga.out.cell 7).trans rfl) Try.underlying3 rfl) ?_
   try simp only [zP,zN,zA,zB,zC]
   refine pu_ (v := .pointer (some ⟨gb, 1, none⟩)) (y_run (by rfl) (fun W => by go_simp)) ?_
   try simp only [zP,zN,zA,zB,zC]
   refine pu_ (v := .pointer (some ⟨gb, 7, none⟩)) (y_run (by rfl) (fun W => by go_simp)) ?_
   try simp only [zP,zN,zA,zB,zC]
   refine ld_ (v := .int .i64 prb) rfl (by rfl) (by rfl) (run_load_one ((Fgb.out.cell 7).trans rfl) Try.underlying3 rfl) ?_
   try simp only [zP,zN,zA,zB,zC]
   refine pu_ (v := .bool false) (y_run (by rfl) (fun W => by have d := D24.out; go_simp)) ?_
   try simp only [zP,zN,zA,zB,zC]
   refine nl_ (hK44 _ _ ?_); clear hK44 K44
   refine wp_cond_false rfl ?_
   refine wp_skip ?_
   refine th_norm (hK43 _ _ ?_); try clear hK43 K43
   refine sq_ (fun K45 hK45 => ?_)
   refine s_ (fun K46 hK46 => ?_)
   refine pu_ (v := .int .i64 x) (y_move rfl (by rfl) (by rfl)) ?_
   try simp only [zP,zN,zA,zB,zC]
   refine pu_ (v := .int .i64 y) (y_move rfl (by rfl) (by rfl)) ?_
   try simp only [zP,zN,zA,zB,zC]
   refine pu_ (v := .bool true) (y_run (by rfl) (fun W => by have d := D34.out; go_simp)) ?_
   try simp only [zP,zN,zA,zB,zC]
   refine nl_ (hK46 _ _ ?_); clear hK46 K46
   refine wp_cond_true rfl ?_
   refine s_ (fun K47 hK47 => ?_)
   refine pu_ (v := .int .i64 x) (y_move rfl (by rfl) (by rfl)) ?_
   try simp only [zP,zN,zA,zB,zC]
   refine pu_ (v := .int .i64 y) (y_move rfl (by rfl) (by rfl)) ?_
   try simp only [zP,zN,zA,zB,zC]
   refine pu_ (v := .bool false) (y_run (by rfl) (fun W => by have d := D37.out; go_simp)) ?_
   try simp only [zP,zN,zA,zB,zC]
   refine pu_ (v := .bool false) (y_assign rfl (by rfl) (by rfl)) ?_
   try simp only [zP,zN,zA,zB,zC]
   refine nl_ (hK47 _ _ ?_); clear hK47 K47
   refine wp_ret ?_
   refine th_ret ?_
   refine hQ _ _ _ ?_
   refine bodyPost_ret (res1 rfl (rdv_tmp (v := .bool false) (by rfl))) rfl ?_
   exact ⟨by rw [← HX.out, ← HY.out, decide_eq_false HC.out], C0.out⟩
  ·replace h2 := And.intro h1 (And.intro h3 h2)
   clear h1 h3
   have D15 := qh hd
   have HH := qh h2
   clear hd h2
   have HC := qh HH.out.2.2.2
   have D24 := qh (show  pra = prb by have := HH.out.1; omega)
   have D34 := qh (show  x = y by have := HH.out.2.1; omega)
   have D42 := qh (show decide (ua > ub) = true from decide_eq_true (by have := HH.out.2.2.1; omega))
   refine s_ (fun K48 hK48 => ?_)
   refine pu_ (v := .int .i64 x) (y_move rfl (by rfl) (by rfl)) ?_
   try simp only [zP,zN,zA,zB,zC]
   refine pu_ (v := .bool (decide (0 < x))) (y_run (by rfl) (fun W => by go_simp)) ?_
   try simp only [zP,zN,zA,zB,zC]
   refine pu_ (v := .int .i64 y) (y_move rfl (by rfl) (by rfl)) ?_
   try simp only [zP,zN,zA,zB,zC]
   refine pu_ (v := .bool (decide (0 < y))) (y_run (by rfl) (fun W => by go_simp)) ?_
   try simp only [zP,zN,zA,zB,zC]
   refine pu_ (v := .bool false) (y_run (by rfl) (fun W => by rw [D15.out]; go_simp)) ?_
   try simp only [zP,zN,zA,zB,zC]
   refine nl_ (hK48 _ _ ?_); clear hK48 K48
   refine wp_cond_false rfl ?_
   refine wp_skip ?_
   refine th_norm (hK23 _ _ ?_); try clear hK23 K23
   refine sq_ (fun K49 hK49 => ?_)
   refine s_ (fun K50 hK50 => ?_)
   refine pu_ (v := .pointer (some ⟨ga, 1, none⟩)) (y_run (by rfl) (fun W => by go_simp)) ?_
   try simp only [zP,zN,zA,zB,zC]
   refine pu_ (v := .pointer (some ⟨ga, 7, none⟩)) (y_run (by rfl) (fun W => by go_simp)) ?_
   try simp only [zP,zN,zA,zB,zC]
   refine ld_ (v := .int .i64 pra) rfl (by rfl) (by rfl) (run_load_one ((Fga.out.cell 7).trans rfl) Try.underlying3 rfl) ?_
   try simp only [zP,zN,zA,zB,zC]
   refine pu_ (v := .pointer (some ⟨gb, 1, none⟩)) (y_run (by rfl) (fun W => by go_simp)) ?_
   try simp only [zP,zN,zA,zB,zC]
   refine pu_ (v := .pointer (some ⟨gb, 7, none⟩)) (y_run (by rfl) (fun W => by go_simp)) ?_
   try simp only [zP,zN,zA,zB,zC]
   refine ld_ (v := .int .i64 prb) rfl (by rfl) (by rfl) (run_load_one ((Fgb.out.cell 7).trans rfl) Try.underlying3 rfl) ?_
   try simp only [zP,zN,zA,zB,zC]
   refine pu_ (v := .bool false) (y_run (by rfl) (fun W => by have d := D24.out; go_simp)) ?_
   try simp only [zP,zN,zA,zB,zC]
   refine nl_ (hK50 _ _ ?_); clear hK50 K50
   refine wp_cond_false rfl ?_
   refine wp_skip ?_
   refine th_norm (hK49 _ _ ?_); try clear hK49 K49
   refine sq_ (fun K51 hK51 => ?_)
   refine s_ (fun K52 hK52 => ?_)
   refine pu_ (v := .int .i64 x) (y_move rfl (by rfl) (by rfl)) ?_
   try simp only [zP,zN,zA,zB,zC]
   refine pu_ (v := .int .i64 y) (y_move rfl (by rfl) (by rfl)) ?_
   try simp only [zP,zN,zA,zB,zC]
   refine pu_ (v := .bool false) (y_run (by rfl) (fun W => by have d := D34.out; go_simp)) ?_
   try simp only [zP,zN,zA,zB,zC]
   refine nl_ (hK52 _ _ ?_); clear hK52 K52
   refine wp_cond_false rfl ?_
   refine wp_skip ?_
   refine th_norm (hK51 _ _ ?_); try clear hK51 K51
   refine s_ (fun K53 hK53 => ?_)
   refine pu_ (v := .pointer (some ⟨ga, 0, none⟩)) (y_run (by rfl) (fun W => by go_simp)) ?_
   try simp only [zP,zN,zA,zB,zC]
   refine ld_ (v := .int .i64 ua) rfl (by rfl) (by rfl) (run_load_one ((Fga.out.cell 0).trans rfl) Try.underlying3 rfl) ?_
   try simp only [zP,zN,zA,zB,zC]
   refine pu_ (v := .pointer (some ⟨gb, 0, none⟩)) (y_run (by rfl) (fun W => by go_simp)) ?_
   try simp only [zP,zN,zA,zB,zC]
   refine ld_ (v := .int .i64 ub) rfl (by rfl) (by rfl) (run_load_one ((Fgb.out.cell 0).trans rfl) Try.underlying3 rfl) ?_
   try simp only [zP,zN,zA,zB,zC]
   refine pu_ (v := .bool true) (y_run (by rfl) (fun W => by have d := D42.out; go_simp)) ?_
   try simp only [zP,zN,zA,zB,zC]
   refine pu_ (v := .bool true) (y_assign rfl (by rfl) (by rfl)) ?_
   try simp only [zP,zN,zA,zB,zC]
   refine nl_ (hK53 _ _ ?_); clear hK53 K53
   refine wp_ret ?_
   refine hQ _ _ _ ?_
   refine bodyPost_ret (res1 rfl (rdv_tmp (v := .bool true) (by rfl))) rfl ?_
   exact ⟨by rw [← HX.out, ← HY.out, decide_eq_true HC.out], C0.out⟩
  ·replace h2 := And.intro h1 (And.intro h3 h2)
   clear h1 h3
   have D15 := qh hd
   have HH := qh h2
   clear hd h2
   have HC := qh HH.out.2.2.2
   have D24 := qh (show  pra = prb by have := HH.out.1; omega)
   have D34 := qh (show  x = y by have := HH.out.2.1; omega)
   have D42 := qh (show decide (ua > ub) = false from decide_eq_false (by have := HH.out.2.2.1; omega))
   refine s_ (fun K54 hK54 => ?_)
   refine pu_ (v := .int .i64 x) (y_move rfl (by rfl) (by rfl)) ?_
   try simp only [zP,zN,zA,zB,zC]
   refine pu_ (v := .bool (decide (0 < x))) (y_run (by rfl) (fun W => by go_simp)) ?_
   try simp only [zP,zN,zA,zB,zC]
   refine pu_ (v := .int .i64 y) (y_move rfl (by rfl) (by rfl)) ?_
   try simp only [zP,zN,zA,zB,zC]
   refine pu_ (v := .bool (decide (0 < y))) (y_run (by rfl) (fun W => by go_simp)) ?_
   try simp only [zP,zN,zA,zB,zC]
   refine pu_ (v := .bool false) (y_run (by rfl) (fun W => by rw [D15.out]; go_simp)) ?_
   try simp only [zP,zN,zA,zB,zC]
   refine nl_ (hK54 _ _ ?_); clear hK54 K54
   refine wp_cond_false rfl ?_
   refine wp_skip ?_
   refine th_norm (hK23 _ _ ?_); try clear hK23 K23
   refine sq_ (fun K55 hK55 => ?_)
   refine s_ (fun K56 hK56 => ?_)
   refine pu_ (v := .pointer (some ⟨ga, 1, none⟩)) (y_run (by rfl) (fun W => by go_simp)) ?_
   try simp only [zP,zN,zA,zB,zC]
   refine pu_ (v := .pointer (some ⟨ga, 7, none⟩)) (y_run (by rfl) (fun W => by go_simp)) ?_
   try simp only [zP,zN,zA,zB,zC]
   refine ld_ (v := .int .i64 pra) rfl (by rfl) (by rfl) (run_load_one ((Fga.out.cell 7).trans rfl) Try.underlying3 rfl) ?_
   try simp only [zP,zN,zA,zB,zC]
   refine pu_ (v := .pointer (some ⟨gb, 1, none⟩)) (y_run (by rfl) (fun W => by go_simp)) ?_
   try simp only [zP,zN,zA,zB,zC]
   refine pu_ (v := .pointer (some ⟨gb, 7, none⟩)) (y_run (by rfl) (fun W => by go_simp)) ?_
   try simp only [zP,zN,zA,zB,zC]
   refine ld_ (v := .int .i64 prb) rfl (by rfl) (by rfl) (run_load_one ((Fgb.out.cell 7).trans rfl) Try.underlying3 rfl) ?_
   try simp only [zP,zN,zA,zB,zC]
   refine pu_ (v := .bool false) (y_run (by rfl) (fun W => by have d := D24.out; go_simp)) ?_
   try simp only [zP,zN,zA,zB,zC]
   refine nl_ (hK56 _ _ ?_); clear hK56 K56
   refine wp_cond_false rfl ?_
   refine wp_skip ?_
   refine th_norm (hK55 _ _ ?_); try clear hK55 K55
   refine sq_ (fun K57 hK57 => ?_)
   refine s_ (fun K58 hK58 => ?_)
   refine pu_ (v := .int .i64 x) (y_move rfl (by rfl) (by rfl)) ?_
   try simp only [zP,zN,zA,zB,zC]
   refine pu_ (v := .int .i64 y) (y_move rfl (by rfl) (by rfl)) ?_
   try simp only [zP,zN,zA,zB,zC]
   refine pu_ (v := .bool false) (y_run (by rfl) (fun W => by have d := D34.out; go_simp)) ?_
   try simp only [zP,zN,zA,zB,zC]
   refine nl_ (hK58 _ _ ?_); clear hK58 K58
   refine wp_cond_false rfl ?_
   refine wp_skip ?_
   refine th_norm (hK57 _ _ ?_); try clear hK57 K57
   refine s_ (fun K59 hK59 => ?_)
   refine pu_ (v := .pointer (some ⟨ga, 0, none⟩)) (y_run (by rfl) (fun W => by go_simp)) ?_
   try simp only [zP,zN,zA,zB,zC]
   refine ld_ (v := .int .i64 ua) rfl (by rfl) (by rfl) (run_load_one ((Fga.out.cell 0).trans rfl) Try.underlying3 rfl) ?_
   try simp only [zP,zN,zA,zB,zC]
   refine pu_ (v := .pointer (some ⟨gb, 0, none⟩)) (y_run (by rfl) (fun W => by go_simp)) ?_
   try simp only [zP,zN,zA,zB,zC]
   refine ld_ (v := .int .i64 ub) rfl (by rfl) (by rfl) (run_load_one ((Fgb.out.cell 0).trans rfl) Try.underlying3 rfl) ?_
   try simp only [zP,zN,zA,zB,zC]
   refine pu_ (v := .bool false) (y_run (by rfl) (fun W => by have d := D42.out; go_simp)) ?_
   try simp only [zP,zN,zA,zB,zC]
   refine pu_ (v := .bool false) (y_assign rfl (by rfl) (by rfl)) ?_
   try simp only [zP,zN,zA,zB,zC]
   refine nl_ (hK59 _ _ ?_); clear hK59 K59
   refine wp_ret ?_
   refine hQ _ _ _ ?_
   refine bodyPost_ret (res1 rfl (rdv_tmp (v := .bool false) (by rfl))) rfl ?_
   exact ⟨by rw [← HX.out, ← HY.out, decide_eq_false HC.out], C0.out⟩
theorem dplus_ {a b : Int} (HA : Hid (UptoZ a)) (HB : Hid (SmallZ b))  :
  Calls Try.prog 27 #[.int .i64 a, .int .i64 b] w fun en w' => en = .returned (.int .i64 (plusZ a b)) ∧ Ch [] w w' := by
 have C0 := qh (Ch.refl [] w)
 go_enter Try.func27, Try.ntmps27
 refine q_ (fun Q hQ hP => ?_)
 refine s_ (fun K1 hK1 => ?_)
 refine pu_ (v := .int .i64 0) (y_assign rfl (by rfl) (by rfl)) ?_
 try simp only [zP,zN,zA,zB,zC]
 refine nl_ (hK1 _ _ ?_); clear hK1 K1
 refine sq_ (fun K2 hK2 => ?_)
 rcases (show a > 4611686018427387904 - b ∨ a ≤ 4611686018427387904 - b by omega) with h | h
 ·have HH := qh h
  clear h
  have BU := qh (show 0 ≤ a ∧ a ≤ 4611686018427387904 ∧ 0 ≤ b ∧ b ≤ 1152921504606846976 from ⟨HA.out.1, HA.out.2, HB.out.1, HB.out.2⟩)
  have W7 := qh (show IntKind.i64.wrap (4611686018427387904 - b) = 4611686018427387904 - b from wr64 (by have := BU.out; have := HH.out; omega))
  have D8 := qh (show decide (a > 4611686018427387904 - b) = true from decide_eq_true (by have := HH.out; have := BU.out; omega))
  have HR := qh (show plusZ a b = 4611686018427387904 by unfold plusZ; have := HH.out; omega)
  refine s_ (fun K3 hK3 => ?_)
  refine pu_ (v := .int .i64 a) (y_move rfl (by rfl) (by rfl)) ?_
  try simp only [zP,zN,zA,zB,zC]
  refine pu_ (v := .int .i64 b) (y_move rfl (by rfl) (by rfl)) ?_
  try simp only [zP,zN,zA,zB,zC]
  refine pu_ (v := .int .i64 (4611686018427387904 - b)) (y_run (by rfl) (fun W => by have d := W7.out; go_simp)) ?_
  try simp only [zP,zN,zA,zB,zC]
  refine pu_ (v := .bool true) (y_run (by rfl) (fun W => by have d := D8.out; go_simp)) ?_
  try simp only [zP,zN,zA,zB,zC]
  refine nl_ (hK3 _ _ ?_); clear hK3 K3
  refine wp_cond_true rfl ?_
  refine s_ (fun K4 hK4 => ?_)
  refine pu_ (v := .int .i64 4611686018427387904) (y_assign rfl (by rfl) (by rfl)) ?_
  try simp only [zP,zN,zA,zB,zC]
  refine nl_ (hK4 _ _ ?_); clear hK4 K4
  refine wp_ret ?_
  refine th_ret ?_
  refine hQ _ _ _ ?_
  refine bodyPost_ret (res1 rfl (rdv_tmp (v := .int .i64 4611686018427387904) (by rfl))) rfl ?_
  exact ⟨by rw [HR.out], C0.out⟩
 ·have HH := qh h
  clear h
  have BU := qh (show 0 ≤ a ∧ a ≤ 4611686018427387904 ∧ 0 ≤ b ∧ b ≤ 1152921504606846976 from ⟨HA.out.1, HA.out.2, HB.out.1, HB.out.2⟩)
  have W7 := qh (show IntKind.i64.wrap (4611686018427387904 - b) = 4611686018427387904 - b from wr64 (by have := BU.out; have := HH.out; omega))
  have D8 := qh (show decide (a > 4611686018427387904 - b) = false from decide_eq_false (by have := HH.out; have := BU.out; omega))
  have W11 := qh (show IntKind.i64.wrap (a + b) = a + b from wr64 (by have := BU.out; have := HH.out; omega))
  have HR := qh (show plusZ a b = a + b by unfold plusZ; have := HH.out; omega)
  refine s_ (fun K5 hK5 => ?_)
  refine pu_ (v := .int .i64 a) (y_move rfl (by rfl) (by rfl)) ?_
  try simp only [zP,zN,zA,zB,zC]
  refine pu_ (v := .int .i64 b) (y_move rfl (by rfl) (by rfl)) ?_
  try simp only [zP,zN,zA,zB,zC]
  refine pu_ (v := .int .i64 (4611686018427387904 - b)) (y_run (by rfl) (fun W => by have d := W7.out; go_simp)) ?_
  try simp only [zP,zN,zA,zB,zC]
  refine pu_ (v := .bool false) (y_run (by rfl) (fun W => by have d := D8.out; go_simp)) ?_
  try simp only [zP,zN,zA,zB,zC]
  refine nl_ (hK5 _ _ ?_); clear hK5 K5
  refine wp_cond_false rfl ?_
  refine wp_skip ?_
  refine th_norm (hK2 _ _ ?_); try clear hK2 K2
  refine s_ (fun K6 hK6 => ?_)
  refine pu_ (v := .int .i64 a) (y_move rfl (by rfl) (by rfl)) ?_
  try simp only [zP,zN,zA,zB,zC]
  refine pu_ (v := .int .i64 b) (y_move rfl (by rfl) (by rfl)) ?_
  try simp only [zP,zN,zA,zB,zC]
  refine pu_ (v := .int .i64 (a + b)) (y_run (by rfl) (fun W => by have d := W11.out; go_simp)) ?_
  try simp only [zP,zN,zA,zB,zC]
  refine pu_ (v := .int .i64 (a + b)) (y_assign rfl (by rfl) (by rfl)) ?_
  try simp only [zP,zN,zA,zB,zC]
  refine nl_ (hK6 _ _ ?_); clear hK6 K6
  refine wp_ret ?_
  refine hQ _ _ _ ?_
  refine bodyPost_ret (res1 rfl (rdv_tmp (v := .int .i64 (a + b)) (by rfl))) rfl ?_
  exact ⟨by rw [HR.out], C0.out⟩
theorem dsum_ {A : Option Addr} {z : Nat} {L : List HL} (HN : Hid (L.length ≤ 1000)) (HSM : Hid (∀ x ∈ L, SmallL x)) (SL : Hid (SrcIs w (.slice A L.length z) (L.length) ((L).flatMap loadC) 16)) :
  Calls Try.prog 19 #[.slice A L.length z] w fun en w' => en = .returned (.agg #[.int .i64 (sumZ L).1, .int .i64 (sumZ L).2.1, .int .i64 (sumZ L).2.2]) ∧ Ch [] w w' := by
 have C0 := qh (Ch.refl [] w)
 go_enter Try.func19, Try.ntmps19
 refine q_ (fun Q hQ hP => ?_)
 refine s_ (fun K1 hK1 => ?_)
 refine ef_ (fun K2 hK2 => ?_)
 refine e_alloc (by rfl) rfl rfl (cs := #[.int .i64 0, .int .i64 0, .int .i64 0]) (by kernel_rfl) ?_
 rintro gr w3 HG4 B5 C6
 have nw7 := qh (show w.heap.size ≤ gr by have := C0.out.size; have := HG4.out; omega)
 have nx8 := qh (SL.out.ne_new (by decide) HG4)
 replace C0 := qh (C0.out.trans' C6 inw_nil)
 replace SL := qh (SL.out.chx C6 xnin_nil)
 have Fgr := qh (show Blk w3 gr (#[.int .i64 0, .int .i64 0, .int .i64 0]) 23 from B5); clear B5 C6
 refine hK2 _ _ ?_; clear hK2 K2
 try simp only [zP,zN,zA,zB,zC]
 refine nl_ (hK1 _ _ ?_); clear hK1 K1
 refine s_ (fun K9 hK9 => ?_)
 refine ef_ (fun K10 hK10 => ?_)
 refine e_alloc (by rfl) rfl rfl (cs := #[.int .i64 0, .int .i64 0, .int .i64 0]) (by kernel_rfl) ?_
 rintro gs w11 HG12 B13 C14
 have nw15 := qh (show w.heap.size ≤ gs by have := C0.out.size; have := HG12.out; omega)
 have nx16 := qh (SL.out.ne_new (by decide) HG12)
 have ne17 := qh (Fgr.out.ne_new HG12)
 replace C0 := qh (C0.out.trans' C14 inw_nil)
 replace SL := qh (SL.out.chx C14 xnin_nil)
 replace Fgr := qh (C14.blk Fgr.out nin_nil)
 have Fgs := qh (show Blk w11 gs (#[.int .i64 0, .int .i64 0, .int .i64 0]) 23 from B13); clear B13 C14
 refine hK10 _ _ ?_; clear hK10 K10
 try simp only [zP,zN,zA,zB,zC]
 refine nl_ (hK9 _ _ ?_); clear hK9 K9
 refine sq_ (fun K18 hK18 => ?_)
 refine s_ (fun K19 hK19 => ?_)
 refine pu_ (v := .int .i64 0) (y_assign rfl (by rfl) (by rfl)) ?_
 try simp only [zP,zN,zA,zB,zC]
 refine nl_ (hK19 _ _ ?_); clear hK19 K19
 refine wp_block ?_
 have FS := qh (show Blk w11 gs #[.int .i64 (sumZ (L.take 0)).1, .int .i64 (sumZ (L.take 0)).2.1, .int .i64 (sumZ (L.take 0)).2.2] 23 from by rw [show sumZ (L.take 0) = (0, 0, 0) from rfl]; exact Fgs.out)
 refine loopk_ (fun (kq : Nat) (a' : Act) (w' : World) => ∃ (k : Nat), a' = ⟨#[.slice A L.length z, uo a' 1, .pointer (some ⟨gr, 0, none⟩), .pointer (some ⟨gs, 0, none⟩), .int .i64 k, uo a' 5, uo a' 6, uo a' 7, uo a' 8, uo a' 9, uo a' 10, uo a' 11, uo a' 12, uo a' 13, uo a' 14, uo a' 15, uo a' 16, uo a' 17, uo a' 18, uo a' 19, uo a' 20, uo a' 21, uo a' 22, uo a' 23, uo a' 24, uo a' 25, uo a' 26, uo a' 27, uo a' 28, uo a' 29, uo a' 30, uo a' 31, uo a' 32, uo a' 33, uo a' 34, uo a' 35, uo a' 36, uo a' 37, uo a' 38, uo a' 39], []⟩ ∧ Hid (Ch [] w w') ∧ Hid (SrcIs w' (.slice A L.length z) (L.length) ((L).flatMap loadC) 16) ∧ Hid (Blk w' gr (#[.int .i64 0, .int .i64 0, .int .i64 0]) 23) ∧ Hid (Blk w' gs (#[.int .i64 (sumZ (L.take k)).1, .int .i64 (sumZ (L.take k)).2.1, .int .i64 (sumZ (L.take k)).2.2]) 23) ∧ Hid (k ≤ L.length ∧ kq + k = L.length)) (L.length) (⟨0, rfl, C0, SL, Fgr, FS, qh ⟨by omega, by omega⟩⟩) ?_
 rintro kq a_ w20 ⟨k, ha_, C0, SL, FR, FS, hk⟩ K21 hK21
 obtain ⟨us, hus_⟩ : ∃ us, us = uo a_ := ⟨_, rfl⟩; try rw [← hus_] at ha_
 subst ha_; clear hus_
 refine sq_ (fun K22 hK22 => ?_)
 rcases at_ways' hk.out.1 with ⟨x, ho0, hlt0⟩ | h
 ·have hlt := qh hlt0
  have ho := qh ho0
  clear hlt0 ho0
  obtain ⟨a, hsm_a⟩ := src_some SL.out (by have := hlt.out; omega)
  subst hsm_a
  have D8 := qh (show (k : Int) < (L.length : Int) by have := hlt.out; omega)
  have Wk := qh (show IntKind.i64.wrap ((k : Int) + 1) = ((k + 1 : Nat) : Int) by rw [wr64 (by have := hlt.out; have h7 := HN.out; omega)]; omega)
  obtain ⟨u, rv, s0, s1, s2, s3, s4, s5, s6, ph, rs, mk, gz, c, m, p, hlc, hu, hsp, hph, hmk, hc, hm, hp, hone⟩ := load_lits x
  have HLC := qh hlc; have HU := qh hu; have HSP := qh hsp; have HPH := qh hph; have HMK := qh hmk; have HC := qh hc; have HM_ := qh hm; have HP_ := qh hp; have HO1 := qh hone
  clear hlc hu hsp hph hmk hc hm hp hone
  have HX := qh (show SmallZ c ∧ SmallZ m ∧ SmallZ p by rw [← HC.out, ← HM_.out, ← HP_.out]; exact HSM.out x (List.mem_of_getElem? ho.out))
  have HUP := qh (sum_upto HSM.out k)
  refine s_ (fun K23 hK23 => ?_)
  refine pu_ (v := .int .i64 k) (y_move rfl (by rfl) (by rfl)) ?_
  try simp only [zP,zN,zA,zB,zC]
  refine pu_ (v := .slice (some a) L.length z) (y_move rfl (by rfl) (by rfl)) ?_
  try simp only [zP,zN,zA,zB,zC]
  refine pu_ (v := .int .i64 L.length) (y_run (by rfl) (fun W => by go_simp)) ?_
  try simp only [zP,zN,zA,zB,zC]
  refine pu_ (v := .bool true) (y_run (by rfl) (fun W => by have d := D8.out; go_simp)) ?_
  try simp only [zP,zN,zA,zB,zC]
  refine nl_ (hK23 _ _ ?_); clear hK23 K23
  refine wp_cond_true rfl ?_
  refine wp_skip ?_
  refine th_norm (hK22 _ _ ?_); try clear hK22 K22
  refine sq_ (fun K24 hK24 => ?_)
  refine wp_block ?_
  refine startk_ (S := fun W => SrcIs W (.slice (some a) L.length z) (L.length) ((L).flatMap loadC) 16 ∧ Blk W gs (#[.int .i64 (sumZ (L.take k)).1, .int .i64 (sumZ (L.take k)).2.1, .int .i64 (sumZ (L.take k)).2.2]) 23 ∧ True) (ds := [28]) (msk 29 0) (by kernel_rfl) rfl (by kernel_rfl) (fun W c => ⟨SL.out.chx c xnin_nil, c.blk FS.out nin_nil, trivial⟩) (fun w25 C26 hS27 => ?_)
  replace C0 := qh (C0.out.trans' C26 inw_nil)
  replace SL := qh (SL.out.chx C26 xnin_nil)
  replace FR := qh (C26.blk FR.out nin_nil)
  replace FS := qh (C26.blk FS.out nin_nil)
  clear C26
  refine pureh_ (i := 0) (N := some 11) (v := .pointer (some ⟨gs, 0, none⟩)) (msk 29 1) rfl rfl (by kernel_rfl) hP (y_run (by rfl) (fun W => by go_simp)) rfl ?_
  try simp only [zP,zN,zA,zB,zC]
  refine takeh_ (i := 1) (N := some 12) (v := .int .i64 (sumZ (L.take k)).1) (msk 29 3) rfl rfl (by kernel_rfl) hP (y_load (p := ⟨gs, 0, none⟩) rfl (by rfl) (by rfl) (fun W hS => run_load_one ((hS.2.1.cell 0).trans rfl) Try.underlying3 rfl)) hS27 rfl ?_
  try simp only [zP,zN,zA,zB,zC]
  refine pureh_ (i := 2) (N := some 13) (v := .slice (some a) L.length z) (msk 29 7) rfl rfl (by kernel_rfl) hP (y_move rfl (by rfl) (by rfl)) rfl ?_
  try simp only [zP,zN,zA,zB,zC]
  refine pureh_ (i := 3) (N := some 14) (v := .int .i64 k) (msk 29 15) rfl rfl (by kernel_rfl) hP (y_move rfl (by rfl) (by rfl)) rfl ?_
  try simp only [zP,zN,zA,zB,zC]
  refine pureh_ (i := 4) (N := some 15) (v := .pointer (some (a.add (k * 16)))) (msk 29 31) rfl rfl (by kernel_rfl) hP (y_run (by rfl) (fun W => by have d := D8.out; go_simp)) rfl ?_
  try simp only [zP,zN,zA,zB,zC]
  refine pureh_ (i := 5) (N := some 16) (v := .pointer (some ((a.add (k * 16)).add 13))) (msk 29 63) rfl rfl (by kernel_rfl) hP (y_run (by rfl) (fun W => by go_simp)) rfl ?_
  try simp only [zP,zN,zA,zB,zC]
  refine pureh_ (i := 6) (N := some 17) (v := .pointer (some (((a.add (k * 16)).add 13).add 0))) (msk 29 127) rfl rfl (by kernel_rfl) hP (y_run (by rfl) (fun W => by go_simp)) rfl ?_
  try simp only [zP,zN,zA,zB,zC]
  refine takeh_ (i := 7) (N := some 18) (v := .int .i64 c) (msk 29 255) rfl rfl (by kernel_rfl) hP (y_load (p := (((a.add (k * 16)).add 13).add 0)) rfl (by rfl) (by rfl) (fun W hS => run_load_one ((cells_sub (by have h := src_at loadC_len hS.1 ho.out; rw [HLC.out] at h; exact h) 13 (ys := [.int .i64 c, .int .i64 m, .int .i64 p]) rfl) 0 _ rfl) Try.underlying3 rfl)) hS27 rfl ?_
  try simp only [zP,zN,zA,zB,zC]
  refine pureh_ (i := 9) (N := some 20) (v := .pointer (some ⟨gs, 1, none⟩)) (msk 29 767) rfl rfl (by kernel_rfl) hP (y_run (by rfl) (fun W => by go_simp)) rfl ?_
  try simp only [zP,zN,zA,zB,zC]
  refine takeh_ (i := 10) (N := some 21) (v := .int .i64 (sumZ (L.take k)).2.1) (msk 29 1791) rfl rfl (by kernel_rfl) hP (y_load (p := ⟨gs, 1, none⟩) rfl (by rfl) (by rfl) (fun W hS => run_load_one ((hS.2.1.cell 1).trans rfl) Try.underlying3 rfl)) hS27 rfl ?_
  try simp only [zP,zN,zA,zB,zC]
  refine pureh_ (i := 11) (N := some 22) (v := .slice (some a) L.length z) (msk 29 3839) rfl rfl (by kernel_rfl) hP (y_move rfl (by rfl) (by rfl)) rfl ?_
  try simp only [zP,zN,zA,zB,zC]
  refine pureh_ (i := 12) (N := some 23) (v := .int .i64 k) (msk 29 7935) rfl rfl (by kernel_rfl) hP (y_move rfl (by rfl) (by rfl)) rfl ?_
  try simp only [zP,zN,zA,zB,zC]
  refine pureh_ (i := 13) (N := some 24) (v := .pointer (some (a.add (k * 16)))) (msk 29 16127) rfl rfl (by kernel_rfl) hP (y_run (by rfl) (fun W => by have d := D8.out; go_simp)) rfl ?_
  try simp only [zP,zN,zA,zB,zC]
  refine pureh_ (i := 14) (N := some 25) (v := .pointer (some ((a.add (k * 16)).add 13))) (msk 29 32511) rfl rfl (by kernel_rfl) hP (y_run (by rfl) (fun W => by go_simp)) rfl ?_
  try simp only [zP,zN,zA,zB,zC]
  refine pureh_ (i := 15) (N := some 26) (v := .pointer (some (((a.add (k * 16)).add 13).add 1))) (msk 29 65279) rfl rfl (by kernel_rfl) hP (y_run (by rfl) (fun W => by go_simp)) rfl ?_
  try simp only [zP,zN,zA,zB,zC]
  refine takeh_ (i := 16) (N := some 27) (v := .int .i64 m) (msk 29 130815) rfl rfl (by kernel_rfl) hP (y_load (p := (((a.add (k * 16)).add 13).add 1)) rfl (by rfl) (by rfl) (fun W hS => run_load_one ((cells_sub (by have h := src_at loadC_len hS.1 ho.out; rw [HLC.out] at h; exact h) 13 (ys := [.int .i64 c, .int .i64 m, .int .i64 p]) rfl) 1 _ rfl) Try.underlying3 rfl)) hS27 rfl ?_
  try simp only [zP,zN,zA,zB,zC]
  refine pureh_ (i := 18) (N := some 29) (v := .pointer (some ⟨gs, 2, none⟩)) (msk 29 392959) rfl rfl (by kernel_rfl) hP (y_run (by rfl) (fun W => by go_simp)) rfl ?_
  try simp only [zP,zN,zA,zB,zC]
  refine takeh_ (i := 19) (N := some 30) (v := .int .i64 (sumZ (L.take k)).2.2) (msk 29 917247) rfl rfl (by kernel_rfl) hP (y_load (p := ⟨gs, 2, none⟩) rfl (by rfl) (by rfl) (fun W hS => run_load_one ((hS.2.1.cell 2).trans rfl) Try.underlying3 rfl)) hS27 rfl ?_
  try simp only [zP,zN,zA,zB,zC]
  refine pureh_ (i := 20) (N := some 31) (v := .slice (some a) L.length z) (msk 29 1965823) rfl rfl (by kernel_rfl) hP (y_move rfl (by rfl) (by rfl)) rfl ?_
  try simp only [zP,zN,zA,zB,zC]
  refine pureh_ (i := 21) (N := some 32) (v := .int .i64 k) (msk 29 4062975) rfl rfl (by kernel_rfl) hP (y_move rfl (by rfl) (by rfl)) rfl ?_
  try simp only [zP,zN,zA,zB,zC]
  refine pureh_ (i := 22) (N := some 33) (v := .pointer (some (a.add (k * 16)))) (msk 29 8257279) rfl rfl (by kernel_rfl) hP (y_run (by rfl) (fun W => by have d := D8.out; go_simp)) rfl ?_
  try simp only [zP,zN,zA,zB,zC]
  refine pureh_ (i := 23) (N := some 34) (v := .pointer (some ((a.add (k * 16)).add 13))) (msk 29 16645887) rfl rfl (by kernel_rfl) hP (y_run (by rfl) (fun W => by go_simp)) rfl ?_
  try simp only [zP,zN,zA,zB,zC]
  refine pureh_ (i := 24) (N := some 35) (v := .pointer (some (((a.add (k * 16)).add 13).add 2))) (msk 29 33423103) rfl rfl (by kernel_rfl) hP (y_run (by rfl) (fun W => by go_simp)) rfl ?_
  try simp only [zP,zN,zA,zB,zC]
  refine takeh_ (i := 25) (N := some 36) (v := .int .i64 p) (msk 29 66977535) rfl rfl (by kernel_rfl) hP (y_load (p := (((a.add (k * 16)).add 13).add 2)) rfl (by rfl) (by rfl) (fun W hS => run_load_one ((cells_sub (by have h := src_at loadC_len hS.1 ho.out; rw [HLC.out] at h; exact h) 13 (ys := [.int .i64 c, .int .i64 m, .int .i64 p]) rfl) 2 _ rfl) Try.underlying3 rfl)) hS27 rfl ?_
  try simp only [zP,zN,zA,zB,zC]
  refine one_ (i := 8) (N := some 19) (msk 29 66977791) rfl rfl (by kernel_rfl) (by simp) (fun K28 hK28 => ?_)
  refine e_call Try.func27 (by kernel_rfl) rfl #[.int .i64 (sumZ (L.take k)).1, .int .i64 c] (by rfl) rfl rfl (mp2 rfl rfl) ((dplus_ (qh HUP.out.1) (qh HX.out.1))) ?_
  rintro en w30 ⟨rfl, cc29⟩
  refine ⟨_, rfl, ?_⟩
  replace C0 := qh (C0.out.trans' cc29 inw_nil)
  replace SL := qh (SL.out.chx cc29 xnin_nil)
  replace FR := qh (cc29.blk FR.out nin_nil)
  replace FS := qh (cc29.blk FS.out nin_nil)
  clear cc29
  refine hK28.out _ _ ⟨SL.out, FS.out, trivial⟩ (fun hS31 => ?_); clear hK28 K28
  try simp only [zP,zN,zA,zB,zC]
  refine one_ (i := 17) (N := some 28) (msk 29 67108863) rfl rfl (by kernel_rfl) (by simp) (fun K32 hK32 => ?_)
  refine e_call Try.func27 (by kernel_rfl) rfl #[.int .i64 (sumZ (L.take k)).2.1, .int .i64 m] (by rfl) rfl rfl (mp2 rfl rfl) ((dplus_ (qh HUP.out.2.1) (qh HX.out.2.1))) ?_
  rintro en w34 ⟨rfl, cc33⟩
  refine ⟨_, rfl, ?_⟩
  replace C0 := qh (C0.out.trans' cc33 inw_nil)
  replace SL := qh (SL.out.chx cc33 xnin_nil)
  replace FR := qh (cc33.blk FR.out nin_nil)
  replace FS := qh (cc33.blk FS.out nin_nil)
  clear cc33
  refine hK32.out _ _ ⟨SL.out, FS.out, trivial⟩ (fun hS35 => ?_); clear hK32 K32
  try simp only [zP,zN,zA,zB,zC]
  refine one_ (i := 26) (N := some 37) (msk 29 134217727) rfl rfl (by kernel_rfl) (by simp) (fun K36 hK36 => ?_)
  refine e_call Try.func27 (by kernel_rfl) rfl #[.int .i64 (sumZ (L.take k)).2.2, .int .i64 p] (by rfl) rfl rfl (mp2 rfl rfl) ((dplus_ (qh HUP.out.2.2) (qh HX.out.2.2))) ?_
  rintro en w38 ⟨rfl, cc37⟩
  refine ⟨_, rfl, ?_⟩
  replace C0 := qh (C0.out.trans' cc37 inw_nil)
  replace SL := qh (SL.out.chx cc37 xnin_nil)
  replace FR := qh (cc37.blk FR.out nin_nil)
  replace FS := qh (cc37.blk FS.out nin_nil)
  clear cc37
  refine hK36.out _ _ ⟨SL.out, FS.out, trivial⟩ (fun hS39 => ?_); clear hK36 K36
  try simp only [zP,zN,zA,zB,zC]
  refine pureh_ (i := 27) (N := some 38) (v := .agg #[.int .i64 (plusZ (sumZ (L.take k)).1 c), .int .i64 (plusZ (sumZ (L.take k)).2.1 m), .int .i64 (plusZ (sumZ (L.take k)).2.2 p)]) (msk 29 268435455) rfl rfl (by kernel_rfl) hP (y_build (vs := #[(0, .int .i64 (plusZ (sumZ (L.take k)).1 c)), (1, .int .i64 (plusZ (sumZ (L.take k)).2.1 m)), (2, .int .i64 (plusZ (sumZ (L.take k)).2.2 p))]) (by rfl) rfl (by first | rfl | (simp only [List.map_toArray, List.map_cons, List.map_nil]; first | done | rfl)) (by kernel_rfl)) rfl ?_
  try simp only [zP,zN,zA,zB,zC]
  refine last_ (i := 28) (N := none) (msk 29 536870911) rfl rfl (by kernel_rfl) (by simp) (fun K40 hK40 => ?_)
  refine e_storeN (cells := #[.int .i64 (plusZ (sumZ (L.take k)).1 c), .int .i64 (plusZ (sumZ (L.take k)).2.1 m), .int .i64 (plusZ (sumZ (L.take k)).2.2 p)]) (by rfl) rfl rfl (by rfl) (by rfl) FS.out (by kernel_rfl) (by rfl) (ones_cons rfl (ones_cons rfl (ones_cons rfl ones_nil))) ?_
  rintro w41 B42 C43
  replace C0 := qh (C0.out.trans' C43 (inw_cons (.inr nw15.out) inw_nil))
  replace SL := qh (SL.out.chx C43 (xnin_cons nx16.out xnin_nil))
  replace FR := qh (C43.blk FR.out (nin_cons ne17.out nin_nil))
  clear FS; have FS := qh (show Blk w41 gs (#[.int .i64 (plusZ (sumZ (L.take k)).1 c), .int .i64 (plusZ (sumZ (L.take k)).2.1 m), .int .i64 (plusZ (sumZ (L.take k)).2.2 p)]) 23 from B42); clear B42 C43
  refine hK40.out _ _ ?_; clear hK40 K40
  try simp only [zP,zN,zA,zB,zC]
  refine done_ (by kernel_rfl) ?_
  refine ib_norm ?_
  refine th_norm (hK24 _ _ ?_); try clear hK24 K24
  refine r_ ?_
  refine pu_ (v := .int .i64 k) (y_move rfl (by rfl) (by rfl)) ?_
  try simp only [zP,zN,zA,zB,zC]
  refine pu_ (v := .int .i64 (k + 1 : Nat)) (y_run (by rfl) (fun W => by have d := Wk.out; go_simp)) ?_
  try simp only [zP,zN,zA,zB,zC]
  refine pu_ (v := .int .i64 (k + 1 : Nat)) (y_assign rfl (by rfl) (by rfl)) ?_
  try simp only [zP,zN,zA,zB,zC]
  refine nl_ ?_
  exact th_norm (hK21 (kq - 1) _ _ (by have := hlt.out; have := hk.out; omega) ⟨k + 1, rfl, C0, SL, FR, qh (by rw [sum_succ ho.out, HC.out, HM_.out, HP_.out]; exact FS.out), qh ⟨by have := hlt.out; omega, by have := hlt.out; have := hk.out; omega⟩⟩)
 ·have D8 := qh (show ¬ k < L.length by have := hk.out; omega)
  have HE := qh h
  clear h
  refine s_ (fun K44 hK44 => ?_)
  refine pu_ (v := .int .i64 k) (y_move rfl (by rfl) (by rfl)) ?_
  try simp only [zP,zN,zA,zB,zC]
  refine pu_ (v := .slice A L.length z) (y_move rfl (by rfl) (by rfl)) ?_
  try simp only [zP,zN,zA,zB,zC]
  refine pu_ (v := .int .i64 L.length) (y_run (by rfl) (fun W => by go_simp)) ?_
  try simp only [zP,zN,zA,zB,zC]
  refine pu_ (v := .bool false) (y_run (by rfl) (fun W => by have d := D8.out; go_simp)) ?_
  try simp only [zP,zN,zA,zB,zC]
  refine nl_ (hK44 _ _ ?_); clear hK44 K44
  refine wp_cond_false rfl ?_
  refine wp_exit ?_
  refine th_exit ?_
  refine th_exit ?_
  refine ib_exit ?_
  refine th_norm (hK18 _ _ ?_); try clear hK18 K18
  refine s_ (fun K45 hK45 => ?_)
  refine ld_ (v := .agg (#[.int .i64 (sumZ (L.take k)).1, .int .i64 (sumZ (L.take k)).2.1, .int .i64 (sumZ (L.take k)).2.2])) rfl (by rfl) (by rfl) (run_loadVar_row _ _ 23 23 (#[.int .i64 (sumZ (L.take k)).1, .int .i64 (sumZ (L.take k)).2.1, .int .i64 (sumZ (L.take k)).2.2]) (0, 0) _ FS.out Try.underlying23 rfl (by kernel_rfl)) ?_
  try simp only [zP,zN,zA,zB,zC]
  refine ef_ (fun K46 hK46 => ?_)
  refine e_storeN (cells := (#[.int .i64 (sumZ (L.take k)).1, .int .i64 (sumZ (L.take k)).2.1, .int .i64 (sumZ (L.take k)).2.2])) (by rfl) rfl rfl (by rfl) (by rfl) FR.out (by kernel_rfl) (by rfl) (ones_cons rfl (ones_cons rfl (ones_cons rfl ones_nil))) ?_
  rintro w47 B48 C49
  replace C0 := qh (C0.out.trans' C49 (inw_cons (.inr nw7.out) inw_nil))
  replace SL := qh (SL.out.chx C49 (xnin_cons nx8.out xnin_nil))
  replace FS := qh (C49.blk FS.out (nin_cons (Ne.symm ne17.out) nin_nil))
  clear FR; have FR := qh (show Blk w47 gr ((#[.int .i64 (sumZ (L.take k)).1, .int .i64 (sumZ (L.take k)).2.1, .int .i64 (sumZ (L.take k)).2.2])) 23 from B48); clear B48 C49
  refine hK46 _ _ ?_; clear hK46 K46
  try simp only [zP,zN,zA,zB,zC]
  refine nl_ (hK45 _ _ ?_); clear hK45 K45
  refine wp_ret ?_
  refine hQ _ _ _ ?_
  refine bodyPost_ret (res1 rfl (rdv_cell (by rfl) (run_loadVar_row _ _ 23 23 ((#[.int .i64 (sumZ (L.take k)).1, .int .i64 (sumZ (L.take k)).2.1, .int .i64 (sumZ (L.take k)).2.2])) (0, 0) _ FR.out Try.underlying23 rfl (by kernel_rfl)))) rfl ?_
  exact ⟨by rw [show sumZ L = sumZ (L.take k) by rw [HE.out, List.take_length]], C0.out⟩
theorem dcands_ {A : Option Addr} {z : Nat} {L : List HL} (HN : Hid (L.length ≤ 1000)) (SL : Hid (SrcIs w (.slice A L.length z) (L.length) ((L).flatMap loadC) 16)) :
  Calls Try.prog 14 #[.slice A L.length z] w fun en w' => ∃ v', en = .returned v' ∧ OwnS w' w.heap.size 42 11 v' (candsOf L).length ((candsOf L).flatMap candC) ∧ Ch [] w w' := by
 have C0 := qh (Ch.refl [] w)
 obtain ⟨i42, I42⟩ := Info.of info42
 go_enter Try.func14, Try.ntmps14
 refine q_ (fun Q hQ hP => ?_)
 refine s_ (fun K1 hK1 => ?_)
 refine pu_ (v := .slice none 0 0) (y_assign rfl (by rfl) (by rfl)) ?_
 try simp only [zP,zN,zA,zB,zC]
 refine nl_ (hK1 _ _ ?_); clear hK1 K1
 refine s_ (fun K2 hK2 => ?_)
 refine pu_ (v := .slice none 0 0) (y_assign rfl (by rfl) (by rfl)) ?_
 try simp only [zP,zN,zA,zB,zC]
 refine nl_ (hK2 _ _ ?_); clear hK2 K2
 refine sq_ (fun K3 hK3 => ?_)
 refine s_ (fun K4 hK4 => ?_)
 refine pu_ (v := .int .i64 0) (y_assign rfl (by rfl) (by rfl)) ?_
 try simp only [zP,zN,zA,zB,zC]
 refine nl_ (hK4 _ _ ?_); clear hK4 K4
 refine wp_block ?_
 have OT0 := qh (show OwnS w w.heap.size 42 11 (.slice none 0 0) (candsOf (L.take 0)).length ((candsOf (L.take 0)).flatMap candC) from OwnS.nil _ _ _ _ _)
 refine loopk_ (fun (kq : Nat) (a' : Act) (w' : World) => ∃ (k : Nat), ∃ (vt : Value), a' = ⟨#[.slice A L.length z, uo a' 1, .slice none 0 0, vt, .int .i64 k, uo a' 5, uo a' 6, uo a' 7, uo a' 8, uo a' 9, uo a' 10, uo a' 11, uo a' 12, uo a' 13, uo a' 14, uo a' 15, uo a' 16, uo a' 17, uo a' 18, uo a' 19, uo a' 20, uo a' 21, uo a' 22, uo a' 23, uo a' 24, uo a' 25, uo a' 26, uo a' 27, uo a' 28, uo a' 29, uo a' 30, uo a' 31, uo a' 32, uo a' 33, uo a' 34, uo a' 35, uo a' 36, uo a' 37, uo a' 38, uo a' 39, uo a' 40, uo a' 41, uo a' 42, uo a' 43, uo a' 44, uo a' 45, uo a' 46, uo a' 47, uo a' 48], []⟩ ∧ Hid (Ch [] w w') ∧ Hid (SrcIs w' (.slice A L.length z) (L.length) ((L).flatMap loadC) 16) ∧ Hid (OwnS w' w.heap.size 42 11 (vt) ((candsOf (L.take k)).length) ((candsOf (L.take k)).flatMap candC)) ∧ Hid (k ≤ L.length ∧ kq + k = L.length) ∧ Hid (∀ k, k ∈ xb (.slice A L.length z) → k ∉ rl vt)) (L.length) (⟨0, _, rfl, C0, SL, OT0, qh ⟨by omega, by omega⟩, qh (fun k _ hm => absurd hm (by simp [rl]))⟩) ?_
 rintro kq a_ w5 ⟨k, vt, ha_, C0, SL, OT, hk, hxr⟩ K6 hK6
 obtain ⟨us, hus_⟩ : ∃ us, us = uo a_ := ⟨_, rfl⟩; try rw [← hus_] at ha_
 subst ha_; clear hus_
 refine sq_ (fun K7 hK7 => ?_)
 rcases at_ways' hk.out.1 with ⟨x, ho0, hlt0⟩ | h; rcases (show (x.ph = 2 ∧ x.mrk = 0) ∨ (x.ph = 2 ∧ x.mrk ≠ 0) ∨ x.ph ≠ 2 by omega) with h | h | h
 ·have hcs := qh h
  clear h
  have hlt := qh hlt0
  have ho := qh ho0
  clear hlt0 ho0
  obtain ⟨a, hsm_a⟩ := src_some SL.out (by have := hlt.out; omega)
  subst hsm_a
  have D8 := qh (show (k : Int) < (L.length : Int) by have := hlt.out; omega)
  have Wk := qh (show IntKind.i64.wrap ((k : Int) + 1) = ((k + 1 : Nat) : Int) by rw [wr64 (by have := hlt.out; have h7 := HN.out; omega)]; omega)
  obtain ⟨u, rv, s0, s1, s2, s3, s4, s5, s6, ph, rs, mk, gz, c, m, p, hlc, hu, hsp, hph, hmk, hc, hm, hp, hone⟩ := load_lits x
  have HLC := qh hlc; have HU := qh hu; have HSP := qh hsp; have HPH := qh hph; have HMK := qh hmk; have HC := qh hc; have HM_ := qh hm; have HP_ := qh hp; have HO1 := qh hone
  clear hlc hu hsp hph hmk hc hm hp hone
  have D17 := qh (show (ph == 2) = true from beq_iff_eq.2 (by rw [← HPH.out]; exact hcs.out.1))
  have D25 := qh (show (mk == 0) = true from beq_iff_eq.2 (by rw [← HMK.out]; exact hcs.out.2))
  have HIC := qh (show isCand x = true from by unfold isCand; rw [HPH.out, HMK.out, D17.out, D25.out]; rfl)
  have HCC := qh (show candC (candOf x) = [.int .i64 u, s0, s1, s2, s3, s4, s5, s6, .int .i64 c, .int .i64 m, .int .i64 p] from by unfold candC candOf; simp only [HU.out, HSP.out, HC.out, HM_.out, HP_.out]; rfl)
  have HCL := qh (show (candsOf (L.take k)).length ≤ 1000 from Nat.le_trans (cands_le _) (by rw [List.length_take]; have := HN.out; omega))
  refine s_ (fun K8 hK8 => ?_)
  refine pu_ (v := .int .i64 k) (y_move rfl (by rfl) (by rfl)) ?_
  try simp only [zP,zN,zA,zB,zC]
  refine pu_ (v := .slice (some a) L.length z) (y_move rfl (by rfl) (by rfl)) ?_
  try simp only [zP,zN,zA,zB,zC]
  refine pu_ (v := .int .i64 L.length) (y_run (by rfl) (fun W => by go_simp)) ?_
  try simp only [zP,zN,zA,zB,zC]
  refine pu_ (v := .bool true) (y_run (by rfl) (fun W => by have d := D8.out; go_simp)) ?_
  try simp only [zP,zN,zA,zB,zC]
  refine nl_ (hK8 _ _ ?_); clear hK8 K8
  refine wp_cond_true rfl ?_
  refine wp_skip ?_
  refine th_norm (hK7 _ _ ?_); try clear hK7 K7
  refine sq_ (fun K9 hK9 => ?_)
  refine wp_block ?_
  refine s_ (fun K10 hK10 => ?_)
  refine pu_ (v := .slice (some a) L.length z) (y_move rfl (by rfl) (by rfl)) ?_
  try simp only [zP,zN,zA,zB,zC]
  refine pu_ (v := .int .i64 k) (y_move rfl (by rfl) (by rfl)) ?_
  try simp only [zP,zN,zA,zB,zC]
  refine pu_ (v := .pointer (some (a.add (k * 16)))) (y_run (by rfl) (fun W => by have d := D8.out; go_simp)) ?_
  try simp only [zP,zN,zA,zB,zC]
  refine pu_ (v := .pointer (some ((a.add (k * 16)).add 0))) (y_run (by rfl) (fun W => by go_simp)) ?_
  try simp only [zP,zN,zA,zB,zC]
  refine pu_ (v := .pointer (some (((a.add (k * 16)).add 0).add 9))) (y_run (by rfl) (fun W => by go_simp)) ?_
  try simp only [zP,zN,zA,zB,zC]
  refine ld_ (v := .int .i64 ph) rfl (by rfl) (by rfl) (run_load_one ((cells_sub (by have h := src_at loadC_len SL.out ho.out; rw [HLC.out] at h; exact h) 0 (ys := [.int .i64 u, .int .u64 rv, s0, s1, s2, s3, s4, s5, s6, .int .i64 ph, rs, .int .i64 mk, .int .i64 gz, .int .i64 c, .int .i64 m, .int .i64 p]) rfl) 9 _ rfl) Try.underlying3 rfl) ?_
  try simp only [zP,zN,zA,zB,zC]
  refine pu_ (v := .bool true) (y_run (by rfl) (fun W => by have d := D17.out; go_simp)) ?_
  try simp only [zP,zN,zA,zB,zC]
  refine pu_ (v := .bool true) (y_move rfl (by rfl) (by rfl)) ?_
  try simp only [zP,zN,zA,zB,zC]
  refine pu_ (v := .slice (some a) L.length z) (y_move rfl (by rfl) (by rfl)) ?_
  try simp only [zP,zN,zA,zB,zC]
  refine pu_ (v := .int .i64 k) (y_move rfl (by rfl) (by rfl)) ?_
  try simp only [zP,zN,zA,zB,zC]
  refine pu_ (v := .pointer (some (a.add (k * 16)))) (y_run (by rfl) (fun W => by have d := D8.out; go_simp)) ?_
  try simp only [zP,zN,zA,zB,zC]
  refine pu_ (v := .pointer (some ((a.add (k * 16)).add 0))) (y_run (by rfl) (fun W => by go_simp)) ?_
  try simp only [zP,zN,zA,zB,zC]
  refine pu_ (v := .pointer (some (((a.add (k * 16)).add 0).add 11))) (y_run (by rfl) (fun W => by go_simp)) ?_
  try simp only [zP,zN,zA,zB,zC]
  refine ld_ (v := .int .i64 mk) rfl (by rfl) (by rfl) (run_load_one ((cells_sub (by have h := src_at loadC_len SL.out ho.out; rw [HLC.out] at h; exact h) 0 (ys := [.int .i64 u, .int .u64 rv, s0, s1, s2, s3, s4, s5, s6, .int .i64 ph, rs, .int .i64 mk, .int .i64 gz, .int .i64 c, .int .i64 m, .int .i64 p]) rfl) 11 _ rfl) Try.underlying3 rfl) ?_
  try simp only [zP,zN,zA,zB,zC]
  refine pu_ (v := .bool true) (y_run (by rfl) (fun W => by have d := D25.out; go_simp)) ?_
  try simp only [zP,zN,zA,zB,zC]
  refine pu_ (v := .bool true) (y_pick (t := true) (by rfl) rfl (by rfl) (by rfl)) ?_
  try simp only [zP,zN,zA,zB,zC]
  refine nl_ (hK10 _ _ ?_); clear hK10 K10
  refine wp_cond_true rfl ?_
  refine startk_ (S := fun W => SrcIs W (.slice (some a) L.length z) (L.length) ((L).flatMap loadC) 16 ∧ True) (ds := []) (msk 22 0) (by kernel_rfl) rfl (by kernel_rfl) (fun W c => ⟨SL.out.chx c xnin_nil, trivial⟩) (fun w11 C12 hS13 => ?_)
  replace C0 := qh (C0.out.trans' C12 inw_nil)
  replace SL := qh (SL.out.chx C12 xnin_nil)
  replace OT := qh (OT.out.ch C12 rnin_nil)
  clear C12
  refine pureh_ (i := 0) (N := some 27) (v := vt) (msk 22 1) rfl rfl (by kernel_rfl) hP (y_move rfl (by rfl) (by rfl)) rfl ?_
  try simp only [zP,zN,zA,zB,zC]
  refine pureh_ (i := 1) (N := some 28) (v := .slice (some a) L.length z) (msk 22 3) rfl rfl (by kernel_rfl) hP (y_move rfl (by rfl) (by rfl)) rfl ?_
  try simp only [zP,zN,zA,zB,zC]
  refine pureh_ (i := 2) (N := some 29) (v := .int .i64 k) (msk 22 7) rfl rfl (by kernel_rfl) hP (y_move rfl (by rfl) (by rfl)) rfl ?_
  try simp only [zP,zN,zA,zB,zC]
  refine pureh_ (i := 3) (N := some 30) (v := .pointer (some (a.add (k * 16)))) (msk 22 15) rfl rfl (by kernel_rfl) hP (y_run (by rfl) (fun W => by have d := D8.out; go_simp)) rfl ?_
  try simp only [zP,zN,zA,zB,zC]
  refine pureh_ (i := 4) (N := some 31) (v := .pointer (some ((a.add (k * 16)).add 0))) (msk 22 31) rfl rfl (by kernel_rfl) hP (y_run (by rfl) (fun W => by go_simp)) rfl ?_
  try simp only [zP,zN,zA,zB,zC]
  refine pureh_ (i := 5) (N := some 32) (v := .pointer (some (((a.add (k * 16)).add 0).add 0))) (msk 22 63) rfl rfl (by kernel_rfl) hP (y_run (by rfl) (fun W => by go_simp)) rfl ?_
  try simp only [zP,zN,zA,zB,zC]
  refine takeh_ (i := 6) (N := some 33) (v := .int .i64 u) (msk 22 127) rfl rfl (by kernel_rfl) hP (y_load (p := (((a.add (k * 16)).add 0).add 0)) rfl (by rfl) (by rfl) (fun W hS => run_load_one ((cells_sub (by have h := src_at loadC_len hS.1 ho.out; rw [HLC.out] at h; exact h) 0 (ys := [.int .i64 u, .int .u64 rv, s0, s1, s2, s3, s4, s5, s6, .int .i64 ph, rs, .int .i64 mk, .int .i64 gz, .int .i64 c, .int .i64 m, .int .i64 p]) rfl) 0 _ rfl) Try.underlying3 rfl)) hS13 rfl ?_
  try simp only [zP,zN,zA,zB,zC]
  refine pureh_ (i := 7) (N := some 34) (v := .slice (some a) L.length z) (msk 22 255) rfl rfl (by kernel_rfl) hP (y_move rfl (by rfl) (by rfl)) rfl ?_
  try simp only [zP,zN,zA,zB,zC]
  refine pureh_ (i := 8) (N := some 35) (v := .int .i64 k) (msk 22 511) rfl rfl (by kernel_rfl) hP (y_move rfl (by rfl) (by rfl)) rfl ?_
  try simp only [zP,zN,zA,zB,zC]
  refine pureh_ (i := 9) (N := some 36) (v := .pointer (some (a.add (k * 16)))) (msk 22 1023) rfl rfl (by kernel_rfl) hP (y_run (by rfl) (fun W => by have d := D8.out; go_simp)) rfl ?_
  try simp only [zP,zN,zA,zB,zC]
  refine pureh_ (i := 10) (N := some 37) (v := .pointer (some ((a.add (k * 16)).add 0))) (msk 22 2047) rfl rfl (by kernel_rfl) hP (y_run (by rfl) (fun W => by go_simp)) rfl ?_
  try simp only [zP,zN,zA,zB,zC]
  refine pureh_ (i := 11) (N := some 38) (v := .pointer (some (((a.add (k * 16)).add 0).add 2))) (msk 22 4095) rfl rfl (by kernel_rfl) hP (y_run (by rfl) (fun W => by go_simp)) rfl ?_
  try simp only [zP,zN,zA,zB,zC]
  refine takeh_ (i := 12) (N := some 39) (v := .agg #[s0, s1, s2, s3, s4, s5, s6]) (msk 22 8191) rfl rfl (by kernel_rfl) hP (y_load (p := (((a.add (k * 16)).add 0).add 2)) rfl (by rfl) (by rfl) (fun W hS => run_loadVar_at (cs := [s0, s1, s2, s3, s4, s5, s6]) (cells_sub (cells_sub (by have h := src_at loadC_len hS.1 ho.out; rw [HLC.out] at h; exact h) 0 (ys := [.int .i64 u, .int .u64 rv, s0, s1, s2, s3, s4, s5, s6, .int .i64 ph, rs, .int .i64 mk, .int .i64 gz, .int .i64 c, .int .i64 m, .int .i64 p]) rfl) 2 rfl) Try.underlying39 rfl (by kernel_rfl))) hS13 rfl ?_
  try simp only [zP,zN,zA,zB,zC]
  refine pureh_ (i := 13) (N := some 40) (v := .slice (some a) L.length z) (msk 22 16383) rfl rfl (by kernel_rfl) hP (y_move rfl (by rfl) (by rfl)) rfl ?_
  try simp only [zP,zN,zA,zB,zC]
  refine pureh_ (i := 14) (N := some 41) (v := .int .i64 k) (msk 22 32767) rfl rfl (by kernel_rfl) hP (y_move rfl (by rfl) (by rfl)) rfl ?_
  try simp only [zP,zN,zA,zB,zC]
  refine pureh_ (i := 15) (N := some 42) (v := .pointer (some (a.add (k * 16)))) (msk 22 65535) rfl rfl (by kernel_rfl) hP (y_run (by rfl) (fun W => by have d := D8.out; go_simp)) rfl ?_
  try simp only [zP,zN,zA,zB,zC]
  refine pureh_ (i := 16) (N := some 43) (v := .pointer (some ((a.add (k * 16)).add 13))) (msk 22 131071) rfl rfl (by kernel_rfl) hP (y_run (by rfl) (fun W => by go_simp)) rfl ?_
  try simp only [zP,zN,zA,zB,zC]
  refine takeh_ (i := 17) (N := some 44) (v := .agg #[.int .i64 c, .int .i64 m, .int .i64 p]) (msk 22 262143) rfl rfl (by kernel_rfl) hP (y_load (p := ((a.add (k * 16)).add 13)) rfl (by rfl) (by rfl) (fun W hS => run_loadVar_at (cs := [.int .i64 c, .int .i64 m, .int .i64 p]) (cells_sub (by have h := src_at loadC_len hS.1 ho.out; rw [HLC.out] at h; exact h) 13 rfl) Try.underlying23 rfl (by kernel_rfl))) hS13 rfl ?_
  try simp only [zP,zN,zA,zB,zC]
  refine pureh_ (i := 18) (N := some 45) (v := .agg #[.int .i64 u, s0, s1, s2, s3, s4, s5, s6, .int .i64 c, .int .i64 m, .int .i64 p]) (msk 22 524287) rfl rfl (by kernel_rfl) hP (y_build (vs := #[(0, .int .i64 u), (1, .agg #[s0, s1, s2, s3, s4, s5, s6]), (2, .agg #[.int .i64 c, .int .i64 m, .int .i64 p])]) (by rfl) rfl (by first | rfl | (simp only [List.map_toArray, List.map_cons, List.map_nil]; first | done | rfl)) (by kernel_rfl)) rfl ?_
  try simp only [zP,zN,zA,zB,zC]
  refine one_ (i := 19) (N := some 46) (msk 22 1048575) rfl rfl (by kernel_rfl) (by simp) (fun K14 hK14 => ?_)
  refine e_buildS (parts := #[(0, .agg #[.int .i64 u, s0, s1, s2, s3, s4, s5, s6, .int .i64 c, .int .i64 m, .int .i64 p])]) (cells := #[.int .i64 u, s0, s1, s2, s3, s4, s5, s6, .int .i64 c, .int .i64 m, .int .i64 p]) (by rfl) rfl rfl (by first | rfl | (simp only [List.map_toArray, List.map_cons, List.map_nil]; first | done | rfl)) Try.underlying34 I42.hi I42.hz I42.hs (by decide) (by decide) (by kernel_rfl) ?_
  rintro g15 w16 HG17 B18 C19
  have nw20 := qh (show w.heap.size ≤ g15 by have := C0.out.size; have := HG17.out; omega)
  have nx21 := qh (SL.out.ne_new (by decide) HG17)
  have nr22 := qh (OT.out.ne_new HG17)
  replace C0 := qh (C0.out.trans' C19 inw_nil)
  replace SL := qh (SL.out.chx C19 xnin_nil)
  replace OT := qh (OT.out.ch C19 rnin_nil)
  have Fg15 := qh (show Blk w16 g15 (#[.int .i64 u, s0, s1, s2, s3, s4, s5, s6, .int .i64 c, .int .i64 m, .int .i64 p]) 42 from B18); clear B18 C19
  refine hK14.out _ _ ⟨SL.out, trivial⟩ (fun hS23 => ?_); clear hK14 K14
  try simp only [zP,zN,zA,zB,zC]
  refine one_ (i := 20) (N := some 47) (msk 22 2097151) rfl rfl (by kernel_rfl) (by simp) (fun K24 hK24 => ?_)
  refine e_append (by rfl) rfl rfl (w.heap.size) 42 _ _ 11 144 Try.underlying34 I42.hi I42.hz I42.hs I42.hb rfl (by decide) (vt) ((candsOf (L.take k)).length) ((candsOf (L.take k)).flatMap candC) (by rfl) OT.out (.slice (some ⟨g15, 0, none⟩) 1 1) 1 ([.int .i64 u, s0, s1, s2, s3, s4, s5, s6, .int .i64 c, .int .i64 m, .int .i64 p]) (by rfl) ⟨rfl, .inr ⟨_, _, rfl, CellsAt.blk Fg15.out 0⟩⟩ (ones_cons rfl (ones_cons HO1.out.1.1 (ones_cons HO1.out.1.2.1 (ones_cons HO1.out.1.2.2.1 (ones_cons HO1.out.1.2.2.2 (ones_cons HO1.out.2.1 (ones_cons HO1.out.2.2.1 (ones_cons HO1.out.2.2.2.1 (ones_cons rfl (ones_cons rfl (ones_cons rfl ones_nil))))))))))) (by unfold maxLen; have := HCL.out; omega) (by have := HCL.out; omega) C0.out.size ?_
  rintro v25 w26 O27 C28 R29 -
  have xr31 := qh (show ∀ k, k ∈ xb (.slice (some a) L.length z) → k ∉ rl v25 from fun k hk hm => (R29 k hm).elim (fun h => hxr.out k hk h) (fun h => by have := SL.out.lt (by decide) k hk; omega))
  have nr32 := qh (show g15 ∉ rl v25 from fun hk => (R29 _ hk).elim nr22.out (fun h => by have := Fg15.out.lt; omega))
  replace C0 := qh (C0.out.trans' C28 (fun x hx => .inr (OT.out.lt x hx).1))
  replace SL := qh (SL.out.chx C28 hxr.out)
  replace Fg15 := qh (C28.blk Fg15.out nr22.out)
  clear OT
  have OT := qh (show OwnS w26 w.heap.size 42 11 (v25) ((candsOf (L.take k)).length + 1) ((candsOf (L.take k)).flatMap candC ++ [.int .i64 u, s0, s1, s2, s3, s4, s5, s6, .int .i64 c, .int .i64 m, .int .i64 p]) from O27); clear O27 C28
  refine hK24.out _ _ ⟨SL.out, trivial⟩ (fun hS33 => ?_); clear hK24 K24
  try simp only [zP,zN,zA,zB,zC]
  refine pureh_ (i := 21) (N := some 3) (v := v25) (msk 22 4194303) rfl rfl (by kernel_rfl) hP (y_assign rfl (by rfl) (by rfl)) rfl ?_
  try simp only [zP,zN,zA,zB,zC]
  refine done_ (by kernel_rfl) ?_
  refine ib_norm ?_
  refine th_norm (hK9 _ _ ?_); try clear hK9 K9
  refine r_ ?_
  refine pu_ (v := .int .i64 k) (y_move rfl (by rfl) (by rfl)) ?_
  try simp only [zP,zN,zA,zB,zC]
  refine pu_ (v := .int .i64 (k + 1 : Nat)) (y_run (by rfl) (fun W => by have d := Wk.out; go_simp)) ?_
  try simp only [zP,zN,zA,zB,zC]
  refine pu_ (v := .int .i64 (k + 1 : Nat)) (y_assign rfl (by rfl) (by rfl)) ?_
  try simp only [zP,zN,zA,zB,zC]
  refine nl_ ?_
  exact th_norm (hK6 (kq - 1) _ _ (by have := hlt.out; have := hk.out; omega) ⟨k + 1, _, rfl, C0, SL, qh (by have h := OT.out; rw [cands_yes ho.out HIC.out, List.length_append, List.flatMap_append, List.flatMap_cons, List.flatMap_nil, List.append_nil, HCC.out]; exact h), qh ⟨by have := hlt.out; omega, by have := hlt.out; have := hk.out; omega⟩, qh (xr31.out)⟩)
 ·have hcs := qh h
  clear h
  have hlt := qh hlt0
  have ho := qh ho0
  clear hlt0 ho0
  obtain ⟨a, hsm_a⟩ := src_some SL.out (by have := hlt.out; omega)
  subst hsm_a
  have D8 := qh (show (k : Int) < (L.length : Int) by have := hlt.out; omega)
  have Wk := qh (show IntKind.i64.wrap ((k : Int) + 1) = ((k + 1 : Nat) : Int) by rw [wr64 (by have := hlt.out; have h7 := HN.out; omega)]; omega)
  obtain ⟨u, rv, s0, s1, s2, s3, s4, s5, s6, ph, rs, mk, gz, c, m, p, hlc, hu, hsp, hph, hmk, hc, hm, hp, hone⟩ := load_lits x
  have HLC := qh hlc; have HU := qh hu; have HSP := qh hsp; have HPH := qh hph; have HMK := qh hmk; have HC := qh hc; have HM_ := qh hm; have HP_ := qh hp; have HO1 := qh hone
  clear hlc hu hsp hph hmk hc hm hp hone
  have D17 := qh (show (ph == 2) = true from beq_iff_eq.2 (by rw [← HPH.out]; exact hcs.out.1))
  have D25 := qh (show (mk == 0) = false from beq_eq_false_iff_ne.2 (by rw [← HMK.out]; exact hcs.out.2))
  have HIC := qh (show isCand x = false from by unfold isCand; rw [HPH.out, HMK.out, D17.out, D25.out]; rfl)
  refine s_ (fun K34 hK34 => ?_)
  refine pu_ (v := .int .i64 k) (y_move rfl (by rfl) (by rfl)) ?_
  try simp only [zP,zN,zA,zB,zC]
  refine pu_ (v := .slice (some a) L.length z) (y_move rfl (by rfl) (by rfl)) ?_
  try simp only [zP,zN,zA,zB,zC]
  refine pu_ (v := .int .i64 L.length) (y_run (by rfl) (fun W => by go_simp)) ?_
  try simp only [zP,zN,zA,zB,zC]
  refine pu_ (v := .bool true) (y_run (by rfl) (fun W => by have d := D8.out; go_simp)) ?_
  try simp only [zP,zN,zA,zB,zC]
  refine nl_ (hK34 _ _ ?_); clear hK34 K34
  refine wp_cond_true rfl ?_
  refine wp_skip ?_
  refine th_norm (hK7 _ _ ?_); try clear hK7 K7
  refine sq_ (fun K35 hK35 => ?_)
  refine wp_block ?_
  refine s_ (fun K36 hK36 => ?_)
  refine pu_ (v := .slice (some a) L.length z) (y_move rfl (by rfl) (by rfl)) ?_
  try simp only [zP,zN,zA,zB,zC]
  refine pu_ (v := .int .i64 k) (y_move rfl (by rfl) (by rfl)) ?_
  try simp only [zP,zN,zA,zB,zC]
  refine pu_ (v := .pointer (some (a.add (k * 16)))) (y_run (by rfl) (fun W => by have d := D8.out; go_simp)) ?_
  try simp only [zP,zN,zA,zB,zC]
  refine pu_ (v := .pointer (some ((a.add (k * 16)).add 0))) (y_run (by rfl) (fun W => by go_simp)) ?_
  try simp only [zP,zN,zA,zB,zC]
  refine pu_ (v := .pointer (some (((a.add (k * 16)).add 0).add 9))) (y_run (by rfl) (fun W => by go_simp)) ?_
  try simp only [zP,zN,zA,zB,zC]
  refine ld_ (v := .int .i64 ph) rfl (by rfl) (by rfl) (run_load_one ((cells_sub (by have h := src_at loadC_len SL.out ho.out; rw [HLC.out] at h; exact h) 0 (ys := [.int .i64 u, .int .u64 rv, s0, s1, s2, s3, s4, s5, s6, .int .i64 ph, rs, .int .i64 mk, .int .i64 gz, .int .i64 c, .int .i64 m, .int .i64 p]) rfl) 9 _ rfl) Try.underlying3 rfl) ?_
  try simp only [zP,zN,zA,zB,zC]
  refine pu_ (v := .bool true) (y_run (by rfl) (fun W => by have d := D17.out; go_simp)) ?_
  try simp only [zP,zN,zA,zB,zC]
  refine pu_ (v := .bool true) (y_move rfl (by rfl) (by rfl)) ?_
  try simp only [zP,zN,zA,zB,zC]
  refine pu_ (v := .slice (some a) L.length z) (y_move rfl (by rfl) (by rfl)) ?_
  try simp only [zP,zN,zA,zB,zC]
  refine pu_ (v := .int .i64 k) (y_move rfl (by rfl) (by rfl)) ?_
  try simp only [zP,zN,zA,zB,zC]
  refine pu_ (v := .pointer (some (a.add (k * 16)))) (y_run (by rfl) (fun W => by have d := D8.out; go_simp)) ?_
  try simp only [zP,zN,zA,zB,zC]
  refine pu_ (v := .pointer (some ((a.add (k * 16)).add 0))) (y_run (by rfl) (fun W => by go_simp)) ?_
  try simp only [zP,zN,zA,zB,zC]
  refine pu_ (v := .pointer (some (((a.add (k * 16)).add 0).add 11))) (y_run (by rfl) (fun W => by go_simp)) ?_
  try simp only [zP,zN,zA,zB,zC]
  refine ld_ (v := .int .i64 mk) rfl (by rfl) (by rfl) (run_load_one ((cells_sub (by have h := src_at loadC_len SL.out ho.out; rw [HLC.out] at h; exact h) 0 (ys := [.int .i64 u, .int .u64 rv, s0, s1, s2, s3, s4, s5, s6, .int .i64 ph, rs, .int .i64 mk, .int .i64 gz, .int .i64 c, .int .i64 m, .int .i64 p]) rfl) 11 _ rfl) Try.underlying3 rfl) ?_
  try simp only [zP,zN,zA,zB,zC]
  refine pu_ (v := .bool false) (y_run (by rfl) (fun W => by have d := D25.out; go_simp)) ?_
  try simp only [zP,zN,zA,zB,zC]
  refine pu_ (v := .bool false) (y_pick (t := true) (by rfl) rfl (by rfl) (by rfl)) ?_
  try simp only [zP,zN,zA,zB,zC]
  refine nl_ (hK36 _ _ ?_); clear hK36 K36
  refine wp_cond_false rfl ?_
  refine wp_skip ?_
  refine ib_norm ?_
  refine th_norm (hK35 _ _ ?_); try clear hK35 K35
  refine r_ ?_
  refine pu_ (v := .int .i64 k) (y_move rfl (by rfl) (by rfl)) ?_
  try simp only [zP,zN,zA,zB,zC]
  refine pu_ (v := .int .i64 (k + 1 : Nat)) (y_run (by rfl) (fun W => by have d := Wk.out; go_simp)) ?_
  try simp only [zP,zN,zA,zB,zC]
  refine pu_ (v := .int .i64 (k + 1 : Nat)) (y_assign rfl (by rfl) (by rfl)) ?_
  try simp only [zP,zN,zA,zB,zC]
  refine nl_ ?_
  exact th_norm (hK6 (kq - 1) _ _ (by have := hlt.out; have := hk.out; omega) ⟨k + 1, _, rfl, C0, SL, qh (by have h := OT.out; rw [← cands_no ho.out HIC.out] at h; exact h), qh ⟨by have := hlt.out; omega, by have := hlt.out; have := hk.out; omega⟩, qh (hxr.out)⟩)
 ·have hcs := qh h
  clear h
  have hlt := qh hlt0
  have ho := qh ho0
  clear hlt0 ho0
  obtain ⟨a, hsm_a⟩ := src_some SL.out (by have := hlt.out; omega)
  subst hsm_a
  have D8 := qh (show (k : Int) < (L.length : Int) by have := hlt.out; omega)
  have Wk := qh (show IntKind.i64.wrap ((k : Int) + 1) = ((k + 1 : Nat) : Int) by rw [wr64 (by have := hlt.out; have h7 := HN.out; omega)]; omega)
  obtain ⟨u, rv, s0, s1, s2, s3, s4, s5, s6, ph, rs, mk, gz, c, m, p, hlc, hu, hsp, hph, hmk, hc, hm, hp, hone⟩ := load_lits x
  have HLC := qh hlc; have HU := qh hu; have HSP := qh hsp; have HPH := qh hph; have HMK := qh hmk; have HC := qh hc; have HM_ := qh hm; have HP_ := qh hp; have HO1 := qh hone
  clear hlc hu hsp hph hmk hc hm hp hone
  have D17 := qh (show (ph == 2) = false from beq_eq_false_iff_ne.2 (by rw [← HPH.out]; exact hcs.out))
  have HIC := qh (show isCand x = false from by unfold isCand; rw [HPH.out, HMK.out, D17.out]; rfl)
  refine s_ (fun K37 hK37 => ?_)
  refine pu_ (v := .int .i64 k) (y_move rfl (by rfl) (by rfl)) ?_
  try simp only [zP,zN,zA,zB,zC]
  refine pu_ (v := .slice (some a) L.length z) (y_move rfl (by rfl) (by rfl)) ?_
  try simp only [zP,zN,zA,zB,zC]
  refine pu_ (v := .int .i64 L.length) (y_run (by rfl) (fun W => by go_simp)) ?_
  try simp only [zP,zN,zA,zB,zC]
  refine pu_ (v := .bool true) (y_run (by rfl) (fun W => by have d := D8.out; go_simp)) ?_
  try simp only [zP,zN,zA,zB,zC]
  refine nl_ (hK37 _ _ ?_); clear hK37 K37
  refine wp_cond_true rfl ?_
  refine wp_skip ?_
  refine th_norm (hK7 _ _ ?_); try clear hK7 K7
  refine sq_ (fun K38 hK38 => ?_)
  refine wp_block ?_
  refine s_ (fun K39 hK39 => ?_)
  refine pu_ (v := .slice (some a) L.length z) (y_move rfl (by rfl) (by rfl)) ?_
  try simp only [zP,zN,zA,zB,zC]
  refine pu_ (v := .int .i64 k) (y_move rfl (by rfl) (by rfl)) ?_
  try simp only [zP,zN,zA,zB,zC]
  refine pu_ (v := .pointer (some (a.add (k * 16)))) (y_run (by rfl) (fun W => by have d := D8.out; go_simp)) ?_
  try simp only [zP,zN,zA,zB,zC]
  refine pu_ (v := .pointer (some ((a.add (k * 16)).add 0))) (y_run (by rfl) (fun W => by go_simp)) ?_
  try simp only [zP,zN,zA,zB,zC]
  refine pu_ (v := .pointer (some (((a.add (k * 16)).add 0).add 9))) (y_run (by rfl) (fun W => by go_simp)) ?_
  try simp only [zP,zN,zA,zB,zC]
  refine ld_ (v := .int .i64 ph) rfl (by rfl) (by rfl) (run_load_one ((cells_sub (by have h := src_at loadC_len SL.out ho.out; rw [HLC.out] at h; exact h) 0 (ys := [.int .i64 u, .int .u64 rv, s0, s1, s2, s3, s4, s5, s6, .int .i64 ph, rs, .int .i64 mk, .int .i64 gz, .int .i64 c, .int .i64 m, .int .i64 p]) rfl) 9 _ rfl) Try.underlying3 rfl) ?_
  try simp only [zP,zN,zA,zB,zC]
  refine pu_ (v := .bool false) (y_run (by rfl) (fun W => by have d := D17.out; go_simp)) ?_
  try simp only [zP,zN,zA,zB,zC]
  refine pu_ (v := .bool false) (y_move rfl (by rfl) (by rfl)) ?_
  try simp only [zP,zN,zA,zB,zC]
  refine pu_ (y_off (by rfl)) ?_
  try simp only [zP,zN,zA,zB,zC]
  refine pu_ (y_off (by rfl)) ?_
  try simp only [zP,zN,zA,zB,zC]
  refine pu_ (y_off (by rfl)) ?_
  try simp only [zP,zN,zA,zB,zC]
  refine pu_ (y_off (by rfl)) ?_
  try simp only [zP,zN,zA,zB,zC]
  refine pu_ (y_off (by rfl)) ?_
  try simp only [zP,zN,zA,zB,zC]
  refine pu_ (y_off (by rfl)) ?_
  try simp only [zP,zN,zA,zB,zC]
  refine pu_ (y_off (by rfl)) ?_
  try simp only [zP,zN,zA,zB,zC]
  refine pu_ (v := .bool false) (y_pick (t := false) (by rfl) rfl (by rfl) (by rfl)) ?_
  try simp only [zP,zN,zA,zB,zC]
  refine nl_ (hK39 _ _ ?_); clear hK39 K39
  refine wp_cond_false rfl ?_
  refine wp_skip ?_
  refine ib_norm ?_
  refine th_norm (hK38 _ _ ?_); try clear hK38 K38
  refine r_ ?_
  refine pu_ (v := .int .i64 k) (y_move rfl (by rfl) (by rfl)) ?_
  try simp only [zP,zN,zA,zB,zC]
  refine pu_ (v := .int .i64 (k + 1 : Nat)) (y_run (by rfl) (fun W => by have d := Wk.out; go_simp)) ?_
  try simp only [zP,zN,zA,zB,zC]
  refine pu_ (v := .int .i64 (k + 1 : Nat)) (y_assign rfl (by rfl) (by rfl)) ?_
  try simp only [zP,zN,zA,zB,zC]
  refine nl_ ?_
  exact th_norm (hK6 (kq - 1) _ _ (by have := hlt.out; have := hk.out; omega) ⟨k + 1, _, rfl, C0, SL, qh (by have h := OT.out; rw [← cands_no ho.out HIC.out] at h; exact h), qh ⟨by have := hlt.out; omega, by have := hlt.out; have := hk.out; omega⟩, qh (hxr.out)⟩)
 ·have D8 := qh (show ¬ k < L.length by have := hk.out; omega)
  have HE := qh h
  clear h
  refine s_ (fun K40 hK40 => ?_)
  refine pu_ (v := .int .i64 k) (y_move rfl (by rfl) (by rfl)) ?_
  try simp only [zP,zN,zA,zB,zC]
  refine pu_ (v := .slice A L.length z) (y_move rfl (by rfl) (by rfl)) ?_
  try simp only [zP,zN,zA,zB,zC]
  refine pu_ (v := .int .i64 L.length) (y_run (by rfl) (fun W => by go_simp)) ?_
  try simp only [zP,zN,zA,zB,zC]
  refine pu_ (v := .bool false) (y_run (by rfl) (fun W => by have d := D8.out; go_simp)) ?_
  try simp only [zP,zN,zA,zB,zC]
  refine nl_ (hK40 _ _ ?_); clear hK40 K40
  refine wp_cond_false rfl ?_
  refine wp_exit ?_
  refine th_exit ?_
  refine th_exit ?_
  refine ib_exit ?_
  refine th_norm (hK3 _ _ ?_); try clear hK3 K3
  refine s_ (fun K41 hK41 => ?_)
  refine pu_ (v := vt) (y_move rfl (by rfl) (by rfl)) ?_
  try simp only [zP,zN,zA,zB,zC]
  refine pu_ (v := vt) (y_assign rfl (by rfl) (by rfl)) ?_
  try simp only [zP,zN,zA,zB,zC]
  refine nl_ (hK41 _ _ ?_); clear hK41 K41
  refine wp_ret ?_
  refine hQ _ _ _ ?_
  refine bodyPost_ret (res1 rfl (rdv_tmp (v := vt) (by rfl))) rfl ?_
  exact ⟨_, rfl, by have h := OT.out; rw [HE.out, List.take_length] at h; exact h, C0.out⟩
end
end Go.Proofs.Ytmoelehhofmhcaa.V
