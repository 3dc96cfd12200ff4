/- The walks of the document's Order and Victim. -/
import Derived.Test.YtmoelehhofmhcaaPrK
namespace Go.Proofs.Ytmoelehhofmhcaa.V
open Go Go.RowKit Go.Proofs.Ytmoelehhofmhcaa.K Go.Proofs.YtmoelehhofmhcaaW.PrintLast
set_option linter.unusedVariables false
set_option linter.unusedSimpArgs false
set_option maxRecDepth 100000
set_option maxHeartbeats 1600000
section
variable {w : World}
/-- What First tells of candidates. -/
def FirstOk (W : World) (X : List HC) (cz : HC → HC → Int) : Prop := ∀ e y, e ∈ X → y ∈ X → ∀ w, Below W.heap.size W w → Calls Try.prog 31 #[.agg (candC e).toArray, .agg (candC y).toArray] w fun en w' => en = .returned (.bool (ltz cz e y)) ∧ Ch [] w w'
theorem first_ok {W : World} {X : List HC} {F : HC → List R3 × List R3 × Int} (h : ∀ x ∈ X, CandOk W x (F x)) : FirstOk W X (czF F) := by
 intro e y he hy w hb
 have h1 := h e he
 have h2 := h y hy
 obtain ⟨ue, ⟨le, hle, hoe⟩, ce, me, pe⟩ := e
 obtain ⟨uy, ⟨ly, hly, hoy⟩, cy, my, py⟩ := y
 obtain ⟨i1, s0, s1, A2, c2, A3, c3, q1, q2, e1, o0, o1, r2, r3, m3, m2⟩ := h1
 obtain ⟨i2, t0, t1, B2, d2, B3, d3, p1, p2, e2, o2, o3, r4, r5, m5, m4⟩ := h2
 simp only at e1 e2
 unfold ltz czF ovZ candC
 obtain ⟨Fe, hFe⟩ : ∃ t, t = F ⟨ue, ⟨le, hle, hoe⟩, ce, me, pe⟩ := ⟨_, rfl⟩
 obtain ⟨Fy, hFy⟩ : ∃ t, t = F ⟨uy, ⟨ly, hly, hoy⟩, cy, my, py⟩ := ⟨_, rfl⟩
 rw [← hFe] at e1 r2 r3 m3 m2 ⊢
 rw [← hFy] at e2 r4 r5 m5 m4 ⊢
 simp only [e1, e2]
 exact dfirst_lit o0 o1 (qh ⟨m3, m2⟩) (qh (r2.ch (chBelow hb))) (qh (r3.ch (chBelow hb))) (qh i1) o2 o3 (qh ⟨m5, m4⟩) (qh (r4.ch (chBelow hb))) (qh (r5.ch (chBelow hb))) (qh i2)
theorem csrc_take {a : Addr} {n c : Nat} {L : List HC} (h : SrcIs w (.slice (some a) n c) n (L.flatMap candC) 11) {j : Nat} (hj : j ≤ n) : SrcIs w (.slice (some a) j c) j ((L.take j).flatMap candC) 11 := by
 have hl : L.length = n := by have := h.1; rw [flat_len candC_len] at this; omega
 refine ⟨by rw [flat_len candC_len, List.length_take]; omega, .inr ⟨a, c, rfl, fun i u hu => ?_⟩⟩
 rcases h.2 with ⟨_, he⟩ | ⟨a', c', he, hc⟩
 ·injection he with he; cases he
 ·injection he with e1 _ _
  injection e1 with e1
  subst e1
  refine hc i u ?_
  have e2 : L.flatMap candC = (L.take j).flatMap candC ++ (L.drop j).flatMap candC := by rw [← List.flatMap_append, List.take_append_drop]
  rw [e2, List.getElem?_append_left (List.getElem?_eq_some_iff.1 hu).1]
  exact hu
theorem csrc_drop {a : Addr} {n c : Nat} {L : List HC} (h : SrcIs w (.slice (some a) n c) n (L.flatMap candC) 11) {j : Nat} (hj : j ≤ n) (hc : n ≤ c) {A2 : Addr} (hA : j < n → A2 = a.add (j * 11)) : SrcIs w (.slice (some A2) (n - j) (c - j)) (n - j) ((L.drop j).flatMap candC) 11 := by
 have hl : L.length = n := by have := h.1; rw [flat_len candC_len] at this; omega
 refine ⟨by rw [flat_len candC_len, List.length_drop]; omega, .inr ⟨A2, c - j, rfl, fun i u hu => ?_⟩⟩
 have hi := (List.getElem?_eq_some_iff.1 hu).1
 rw [flat_len candC_len, List.length_drop] at hi
 rw [hA (by omega), Go.Deep.add_add]
 rcases h.2 with ⟨_, he⟩ | ⟨a', c', he, hc⟩
 ·injection he with he; cases he
 ·injection he with e1 _ _
  injection e1 with e1
  subst e1
  refine hc _ u ?_
  have e2 : L.flatMap candC = (L.take j).flatMap candC ++ (L.drop j).flatMap candC := by rw [← List.flatMap_append, List.take_append_drop]
  have e3 : ((L.take j).flatMap candC).length = j * 11 := by rw [flat_len candC_len, List.length_take]; omega
  rw [e2, List.getElem?_append_right (by omega), e3, show j * 11 + i - j * 11 = i by omega]
  exact hu
theorem OwnS.of_blk {base e size g n : Nat} {cs : Array Value} (h : Blk w g cs e) (hb : base ≤ g) (h0 : 0 < n) (hs : cs.size = n * size) (hm : decide (n ≤ 1000) = true) : OwnS w base e size (.slice (some ⟨g, 0, none⟩) n n) n cs.toList := by
 have hm := of_decide_eq_true hm
 refine ⟨by rw [Array.length_toList, hs], .inr ⟨g, n, cs, rfl, h0, hb, h, Nat.le_refl _, by unfold maxLen; omega, hs, ?_⟩⟩
 rw [List.take_of_length_le (by rw [Array.length_toList, hs]; exact Nat.le_refl _)]
theorem ones_app {a b : List Value} (ha : ∀ u ∈ a, u.oneCell' = true) (hb : ∀ u ∈ b, u.oneCell' = true) : ∀ u ∈ a ++ b, u.oneCell' = true := fun u hu => (List.mem_append.1 hu).elim (ha u) (hb u)
theorem dorder_ {A : Option Addr} {c : Nat} {X : List HC} {W : World} {cz : HC → HC → Int} (HN20 : Hid (X.length ≤ 20)) (HCM : Hid (FirstOk W X cz)) (HWB : Hid (Below W.heap.size W w)) (SL : Hid (SrcIs w (.slice A X.length c) (X.length) (X.flatMap candC) 11)) :
  Calls Try.prog 25 #[.slice A X.length c] w fun en w' => ∃ v', en = .returned v' ∧ OwnS w' w.heap.size 3 1 v' X.length ((isort (ltz cz) X).map uidV) ∧ Ch [] w w' := by
 have C0 := qh (Ch.refl [] w)
 obtain ⟨i3, I3⟩ := Info.of info3
 obtain ⟨i42, I42⟩ := Info.of info42
 go_enter Try.func25, Try.ntmps25
 refine q_ (fun Q hQ hP => ?_)
 refine s_ (fun K1 hK1 => ?_)
 refine pu_ (v := .slice none 0 0) (y_assign rfl (by rfl) (by rfl)) ?_
 try simp only [zP,zN,zA,zB,zC]
 refine nl_ (hK1 _ _ ?_); clear hK1 K1
 refine s_ (fun K2 hK2 => ?_)
 refine pu_ (v := .slice none 0 0) (y_assign rfl (by rfl) (by rfl)) ?_
 try simp only [zP,zN,zA,zB,zC]
 refine nl_ (hK2 _ _ ?_); clear hK2 K2
 refine sq_ (fun K3 hK3 => ?_)
 refine s_ (fun K4 hK4 => ?_)
 refine pu_ (v := .int .i64 0) (y_assign rfl (by rfl) (by rfl)) ?_
 try simp only [zP,zN,zA,zB,zC]
 refine nl_ (hK4 _ _ ?_); clear hK4 K4
 refine wp_block ?_
 have OT0 := qh (show OwnS w w.heap.size 42 11 (.slice none 0 0) 0 ((isort (ltz cz) (X.take 0)).flatMap candC) from OwnS.nil _ _ _ _ _)
 refine loopk_ (fun (kq : Nat) (a' : Act) (w' : World) => ∃ (i : Nat), ∃ (vt : Value), a' = ⟨#[.slice A X.length c, uo a' 1, .slice none 0 0, vt, .int .i64 i, uo a' 5, uo a' 6, uo a' 7, uo a' 8, uo a' 9, uo a' 10, uo a' 11, uo a' 12, uo a' 13, uo a' 14, uo a' 15, uo a' 16, uo a' 17, uo a' 18, uo a' 19, uo a' 20, uo a' 21, uo a' 22, uo a' 23, uo a' 24, uo a' 25, uo a' 26, uo a' 27, uo a' 28, uo a' 29, uo a' 30, uo a' 31, uo a' 32, uo a' 33, uo a' 34, uo a' 35, uo a' 36, uo a' 37, uo a' 38, uo a' 39, uo a' 40, uo a' 41, uo a' 42, uo a' 43, uo a' 44, uo a' 45, uo a' 46, uo a' 47, uo a' 48, uo a' 49, uo a' 50, uo a' 51, uo a' 52, uo a' 53, uo a' 54, uo a' 55, uo a' 56, uo a' 57, uo a' 58, uo a' 59, uo a' 60, uo a' 61, uo a' 62, uo a' 63], []⟩ ∧ Hid (Ch [] w w') ∧ Hid (SrcIs w' (.slice A X.length c) (X.length) (X.flatMap candC) 11) ∧ Hid (OwnS w' w.heap.size 42 11 (vt) (i) (((isort (ltz cz) (X.take i))).flatMap candC)) ∧ Hid (i ≤ X.length ∧ kq + i = X.length) ∧ Hid (∀ k, k ∈ xb (.slice A X.length c) → k ∉ rl vt) ∧ Hid (i = 0 → vt = .slice none 0 0)) (X.length) (⟨0, _, rfl, C0, SL, OT0, qh ⟨by omega, by omega⟩, qh (fun k _ hm => absurd hm (by simp [rl])), qh (fun _ => rfl)⟩) ?_
 rintro kq a_ w5 ⟨i, vt, ha_, C0, SL, OT, hi, hxr, hv0⟩ K6 hK6
 obtain ⟨us, hus_⟩ : ∃ us, us = uo a_ := ⟨_, rfl⟩; try rw [← hus_] at ha_
 subst ha_; clear hus_
 refine sq_ (fun K7 hK7 => ?_)
 rcases (show (∃ e, X[i]? = some e ∧ i < X.length ∧ i = 0) ∨ (∃ e, X[i]? = some e ∧ i < X.length ∧ i ≠ 0) ∨ i = X.length by rcases at_ways' hi.out.1 with ⟨e, ho0, hlt0⟩ | h; rcases (show i = 0 ∨ i ≠ 0 from Classical.em _) with h | h; exact .inl ⟨e, ho0, hlt0, h⟩; exact .inr (.inl ⟨e, ho0, hlt0, h⟩); exact .inr (.inr h)) with ⟨e, ho0, hlt0, h⟩ | ⟨e, ho0, hlt0, h⟩ | h
 ·have hlt := qh hlt0
  have he := qh ho0
  clear hlt0 ho0
  obtain ⟨a, hsm_a⟩ := src_some SL.out (by have := hlt.out; omega)
  subst hsm_a
  have D12 := qh (show (i : Int) < (X.length : Int) by have := hlt.out; omega)
  have Wi := qh (show IntKind.i64.wrap ((i : Int) + 1) = ((i + 1 : Nat) : Int) by rw [wr64 (by have := hlt.out; have h7 := HN20.out; omega)]; omega)
  have HBL := qh (show (isort (ltz cz) (X.take i)).length = i by rw [isort_len, List.length_take]; have := hlt.out; omega)
  obtain ⟨u, s0, s1, s2, s3, s4, s5, s6, cu, m, p, hlc, -, -, -, -, -, hone⟩ := cand_lits e
  have HLE := qh hlc
  have HO1 := qh hone
  clear hlc hone
  have H0 := qh h
  clear h
  have HV := qh (hv0.out H0.out)
  obtain rfl := HV.out
  clear HV
  have HB0 := qh (show (isort (ltz cz) (X.take i)) = [] from List.eq_nil_of_length_eq_zero (by rw [HBL.out]; exact H0.out))
  refine s_ (fun K8 hK8 => ?_)
  refine pu_ (v := .int .i64 i) (y_move rfl (by rfl) (by rfl)) ?_
  try simp only [zP,zN,zA,zB,zC]
  refine pu_ (v := .slice (some a) X.length c) (y_move rfl (by rfl) (by rfl)) ?_
  try simp only [zP,zN,zA,zB,zC]
  refine pu_ (v := .int .i64 X.length) (y_run (by rfl) (fun W => by go_simp)) ?_
  try simp only [zP,zN,zA,zB,zC]
  refine pu_ (v := .bool true) (y_run (by rfl) (fun W => by have d := D12.out; go_simp)) ?_
  try simp only [zP,zN,zA,zB,zC]
  refine nl_ (hK8 _ _ ?_); clear hK8 K8
  refine wp_cond_true rfl ?_
  refine wp_skip ?_
  refine th_norm (hK7 _ _ ?_); try clear hK7 K7
  refine sq_ (fun K9 hK9 => ?_)
  refine wp_block ?_
  refine s_ (fun K10 hK10 => ?_)
  refine pu_ (v := .slice none 0 0) (y_move rfl (by rfl) (by rfl)) ?_
  try simp only [zP,zN,zA,zB,zC]
  refine pu_ (v := .int .i64 0) (y_run (by rfl) (fun W => by go_simp)) ?_
  try simp only [zP,zN,zA,zB,zC]
  refine pu_ (v := .int .i64 0) (y_assign rfl (by rfl) (by rfl)) ?_
  try simp only [zP,zN,zA,zB,zC]
  refine nl_ (hK10 _ _ ?_); clear hK10 K10
  refine cutk_ (fun (a' : Act) (w' : World) => ∃ (j : Nat), ∃ (C : List HC), ∃ (D : List HC), a' = ⟨#[.slice (some a) X.length c, uo a' 1, .slice none 0 0, .slice none 0 0, .int .i64 i, .int .i64 j, uo a' 6, uo a' 7, uo a' 8, uo a' 9, uo a' 10, uo a' 11, uo a' 12, uo a' 13, uo a' 14, uo a' 15, uo a' 16, uo a' 17, uo a' 18, uo a' 19, uo a' 20, uo a' 21, uo a' 22, uo a' 23, uo a' 24, uo a' 25, uo a' 26, uo a' 27, uo a' 28, uo a' 29, uo a' 30, uo a' 31, uo a' 32, uo a' 33, uo a' 34, uo a' 35, uo a' 36, uo a' 37, uo a' 38, uo a' 39, uo a' 40, uo a' 41, uo a' 42, uo a' 43, uo a' 44, uo a' 45, uo a' 46, uo a' 47, uo a' 48, uo a' 49, uo a' 50, uo a' 51, uo a' 52, uo a' 53, uo a' 54, uo a' 55, uo a' 56, uo a' 57, uo a' 58, uo a' 59, uo a' 60, uo a' 61, uo a' 62, uo a' 63], []⟩ ∧ Hid (Ch [] w w') ∧ Hid (SrcIs w' (.slice (some a) X.length c) (X.length) (X.flatMap candC) 11) ∧ Hid (OwnS w' w.heap.size 42 11 (.slice none 0 0) (i) (((isort (ltz cz) (X.take i))).flatMap candC)) ∧ Hid ((isort (ltz cz) (X.take i)) = C ++ D) ∧ Hid ((rins (ltz cz) e (isort (ltz cz) (X.take i)).reverse).reverse = C ++ e :: D) ∧ Hid (j = C.length ∧ j ≤ i)) (fun K11 hK11 => ?_) ?_
  ·refine wp_block ?_
   refine loopk_ (fun (jq : Nat) (a' : Act) (w' : World) => ∃ (j : Nat), ∃ (C : List HC), ∃ (D : List HC), a' = ⟨#[.slice (some a) X.length c, uo a' 1, .slice none 0 0, .slice none 0 0, .int .i64 i, .int .i64 j, uo a' 6, uo a' 7, uo a' 8, uo a' 9, uo a' 10, uo a' 11, uo a' 12, uo a' 13, uo a' 14, uo a' 15, uo a' 16, uo a' 17, uo a' 18, uo a' 19, uo a' 20, uo a' 21, uo a' 22, uo a' 23, uo a' 24, uo a' 25, uo a' 26, uo a' 27, uo a' 28, uo a' 29, uo a' 30, uo a' 31, uo a' 32, uo a' 33, uo a' 34, uo a' 35, uo a' 36, uo a' 37, uo a' 38, uo a' 39, uo a' 40, uo a' 41, uo a' 42, uo a' 43, uo a' 44, uo a' 45, uo a' 46, uo a' 47, uo a' 48, uo a' 49, uo a' 50, uo a' 51, uo a' 52, uo a' 53, uo a' 54, uo a' 55, uo a' 56, uo a' 57, uo a' 58, uo a' 59, uo a' 60, uo a' 61, uo a' 62, uo a' 63], []⟩ ∧ Hid (Ch [] w w') ∧ Hid (SrcIs w' (.slice (some a) X.length c) (X.length) (X.flatMap candC) 11) ∧ Hid (OwnS w' w.heap.size 42 11 (.slice none 0 0) (i) (((isort (ltz cz) (X.take i))).flatMap candC)) ∧ Hid ((isort (ltz cz) (X.take i)) = C ++ D) ∧ Hid (rins (ltz cz) e (isort (ltz cz) (X.take i)).reverse = D.reverse ++ rins (ltz cz) e C.reverse) ∧ Hid (j = C.length ∧ jq = C.length)) (i) (⟨0, (isort (ltz cz) (X.take i)), [], rfl, C0, SL, OT, qh (List.append_nil _).symm, qh rfl, qh ⟨by rw [HB0.out]; rfl, HBL.out.symm⟩⟩) ?_
   rintro jq a_ w13 ⟨j, C, D, ha_, C0, SL, OT, HCD, HRI, hj⟩ K14 hK14
   obtain ⟨us, hus_⟩ : ∃ us, us = uo a_ := ⟨_, rfl⟩; try rw [← hus_] at ha_
   subst ha_; clear hus_
   refine sq_ (fun K15 hK15 => ?_)
   rcases ins_ways (ltz cz) C e with h | ⟨C1, y, hC0, h⟩ | ⟨C1, y, hC0, h⟩
   ·have HFIN := qh (show (rins (ltz cz) e (isort (ltz cz) (X.take i)).reverse).reverse = C ++ e :: D from by rw [h]; exact rins_nil (by have h9 := HRI.out; rw [h] at h9; exact h9))
    have D18 := qh (show ¬ 0 < j by have := hj.out; rw [h] at this; simp at this; omega)
    clear h
    refine sq_ (fun K16 hK16 => ?_)
    refine startk_ (S := fun W => True) (ds := []) (msk 14 0) (by kernel_rfl) rfl (by kernel_rfl) (fun W c => trivial) (fun w17 C18 hS19 => ?_)
    replace C0 := qh (C0.out.trans' C18 inw_nil)
    replace SL := qh (SL.out.chx C18 xnin_nil)
    replace OT := qh (OT.out.ch C18 (fun k hk => absurd hk (by simp [rl])))
    clear C18
    refine pureh_ (i := 0) (N := some 17) (v := .int .i64 j) (msk 14 1) rfl rfl (by kernel_rfl) hP (y_move rfl (by rfl) (by rfl)) rfl ?_
    try simp only [zP,zN,zA,zB,zC]
    refine pureh_ (i := 1) (N := some 18) (v := .bool false) (msk 14 3) rfl rfl (by kernel_rfl) hP (y_run (by rfl) (fun W => by have d := D18.out; go_simp)) rfl ?_
    try simp only [zP,zN,zA,zB,zC]
    refine pureh_ (i := 2) (N := some 19) (v := .bool false) (msk 14 7) rfl rfl (by kernel_rfl) hP (y_move rfl (by rfl) (by rfl)) rfl ?_
    try simp only [zP,zN,zA,zB,zC]
    refine pureh_ (i := 3) (N := some 20) (v := undef) (msk 14 15) rfl rfl (by kernel_rfl) hP (y_off (by rfl)) rfl ?_
    try simp only [zP,zN,zA,zB,zC]
    refine pureh_ (i := 4) (N := some 21) (v := undef) (msk 14 31) rfl rfl (by kernel_rfl) hP (y_off (by rfl)) rfl ?_
    try simp only [zP,zN,zA,zB,zC]
    refine pureh_ (i := 5) (N := some 22) (v := undef) (msk 14 63) rfl rfl (by kernel_rfl) hP (y_off (by rfl)) rfl ?_
    try simp only [zP,zN,zA,zB,zC]
    refine pureh_ (i := 6) (N := some 23) (v := undef) (msk 14 127) rfl rfl (by kernel_rfl) hP (y_off (by rfl)) rfl ?_
    try simp only [zP,zN,zA,zB,zC]
    refine pureh_ (i := 7) (N := some 24) (v := undef) (msk 14 255) rfl rfl (by kernel_rfl) hP (y_off (by rfl)) rfl ?_
    try simp only [zP,zN,zA,zB,zC]
    refine pureh_ (i := 8) (N := some 25) (v := undef) (msk 14 511) rfl rfl (by kernel_rfl) hP (y_off (by rfl)) rfl ?_
    try simp only [zP,zN,zA,zB,zC]
    refine pureh_ (i := 9) (N := some 26) (v := undef) (msk 14 1023) rfl rfl (by kernel_rfl) hP (y_off (by rfl)) rfl ?_
    try simp only [zP,zN,zA,zB,zC]
    refine pureh_ (i := 10) (N := some 27) (v := undef) (msk 14 2047) rfl rfl (by kernel_rfl) hP (y_off (by rfl)) rfl ?_
    try simp only [zP,zN,zA,zB,zC]
    refine pureh_ (i := 11) (N := some 28) (v := undef) (msk 14 4095) rfl rfl (by kernel_rfl) hP (y_off (by rfl)) rfl ?_
    try simp only [zP,zN,zA,zB,zC]
    refine pureh_ (i := 12) (N := some 29) (v := undef) (msk 14 8191) rfl rfl (by kernel_rfl) hP (y_off (by rfl)) rfl ?_
    try simp only [zP,zN,zA,zB,zC]
    refine pureh_ (i := 13) (N := some 30) (v := .bool false) (msk 14 16383) rfl rfl (by kernel_rfl) hP (y_pick (t := false) (by rfl) rfl (by rfl) (by rfl)) rfl ?_
    try simp only [zP,zN,zA,zB,zC]
    refine done_ (by kernel_rfl) (th_norm (hK16 _ _ ?_)); clear hK16 K16
    refine wp_cond_false rfl ?_
    refine wp_exit ?_
    refine th_exit ?_
    refine th_exit ?_
    refine ib_exit ?_
    exact th_norm (hK11 _ _ ⟨j, C, D, rfl, C0, SL, OT, HCD, HFIN, qh ⟨hj.out.1, by have h9 := congrArg List.length HCD.out; rw [HBL.out, List.length_append] at h9; have := hj.out; omega⟩⟩)
   ·have EC := qh hC0
    have ECL := qh (show C.length = C1.length + 1 by rw [hC0]; simp)
    have HYB := qh (show (isort (ltz cz) (X.take i))[C1.length]? = some y by rw [HCD.out, hC0, List.append_assoc, List.getElem?_append_right (Nat.le_refl _), Nat.sub_self]; rfl)
    have HLT := qh h
    have HLI := qh (show C1.length < i by have h9 := (List.getElem?_eq_some_iff.1 HYB.out).1; rw [HBL.out] at h9; exact h9)
    clear h hC0
    have D18 := qh (show 0 < j by have := hj.out; have := ECL.out; omega)
    obtain ⟨q, hq⟩ : ∃ q, q = j - 1 := ⟨_, rfl⟩
    have EQ := qh hq
    clear hq
    have WQ := qh (show IntKind.i64.wrap ((j : Int) - 1) = (q : Int) by rw [wr64 (by have := HLI.out; have := hj.out; have := ECL.out; have := hlt.out; have := HN20.out; omega)]; have := EQ.out; have := hj.out; have := ECL.out; omega)
    have QE := qh (show q = C1.length by have := EQ.out; have := hj.out; have := ECL.out; omega)
    exact absurd HLI.out (by have := H0.out; omega)
   ·have EC := qh hC0
    have ECL := qh (show C.length = C1.length + 1 by rw [hC0]; simp)
    have HYB := qh (show (isort (ltz cz) (X.take i))[C1.length]? = some y by rw [HCD.out, hC0, List.append_assoc, List.getElem?_append_right (Nat.le_refl _), Nat.sub_self]; rfl)
    have HLT := qh h
    have HLI := qh (show C1.length < i by have h9 := (List.getElem?_eq_some_iff.1 HYB.out).1; rw [HBL.out] at h9; exact h9)
    clear h hC0
    have D18 := qh (show 0 < j by have := hj.out; have := ECL.out; omega)
    obtain ⟨q, hq⟩ : ∃ q, q = j - 1 := ⟨_, rfl⟩
    have EQ := qh hq
    clear hq
    have WQ := qh (show IntKind.i64.wrap ((j : Int) - 1) = (q : Int) by rw [wr64 (by have := HLI.out; have := hj.out; have := ECL.out; have := hlt.out; have := HN20.out; omega)]; have := EQ.out; have := hj.out; have := ECL.out; omega)
    have QE := qh (show q = C1.length by have := EQ.out; have := hj.out; have := ECL.out; omega)
    exact absurd HLI.out (by have := H0.out; omega)
  rintro a_ w12 ⟨j, C, D, ha_, C0, SL, OT, HCD, HFIN, hj⟩
  obtain ⟨us, hus_⟩ : ∃ us, us = uo a_ := ⟨_, rfl⟩; try rw [← hus_] at ha_
  subst ha_; clear hus_
  skip
  ·have HTK := qh (show C = (isort (ltz cz) (X.take i)).take j by rw [HCD.out, hj.out.1, List.take_left])
   have HDR := qh (show D = (isort (ltz cz) (X.take i)).drop j by rw [HCD.out, hj.out.1, List.drop_left])
   have HJ0 := qh (show j = 0 by have := hj.out.2; have := H0.out; omega)
   refine sq_ (fun K20 hK20 => ?_)
   refine startk_ (S := fun W => SrcIs W (.slice (some a) X.length c) (X.length) (X.flatMap candC) 11 ∧ True) (ds := []) (msk 10 0) (by kernel_rfl) rfl (by kernel_rfl) (fun W c => ⟨SL.out.chx c xnin_nil, trivial⟩) (fun w21 C22 hS23 => ?_)
   replace C0 := qh (C0.out.trans' C22 inw_nil)
   replace SL := qh (SL.out.chx C22 xnin_nil)
   replace OT := qh (OT.out.ch C22 (fun k hk => absurd hk (by simp [rl])))
   clear C22
   refine pureh_ (i := 0) (N := some 33) (v := .slice (some a) X.length c) (msk 10 1) rfl rfl (by kernel_rfl) hP (y_move rfl (by rfl) (by rfl)) rfl ?_
   try simp only [zP,zN,zA,zB,zC]
   refine pureh_ (i := 1) (N := some 34) (v := .int .i64 i) (msk 10 3) rfl rfl (by kernel_rfl) hP (y_move rfl (by rfl) (by rfl)) rfl ?_
   try simp only [zP,zN,zA,zB,zC]
   refine pureh_ (i := 2) (N := some 35) (v := .pointer (some (a.add (i * 11)))) (msk 10 7) rfl rfl (by kernel_rfl) hP (y_run (by rfl) (fun W => by have d := D12.out; go_simp)) rfl ?_
   try simp only [zP,zN,zA,zB,zC]
   refine takeh_ (i := 3) (N := some 36) (v := .agg #[.int .i64 u, s0, s1, s2, s3, s4, s5, s6, .int .i64 cu, .int .i64 m, .int .i64 p]) (msk 10 15) rfl rfl (by kernel_rfl) hP (y_load (p := (a.add (i * 11))) rfl (by rfl) (by rfl) (fun W hS => run_loadVar_at (by have h := src_at candC_len hS.1 he.out; rw [HLE.out] at h; exact h) Try.underlying42 rfl (by kernel_rfl))) hS23 rfl ?_
   try simp only [zP,zN,zA,zB,zC]
   refine pureh_ (i := 5) (N := some 38) (v := .slice none 0 0) (msk 10 47) rfl rfl (by kernel_rfl) hP (y_move rfl (by rfl) (by rfl)) rfl ?_
   try simp only [zP,zN,zA,zB,zC]
   refine pureh_ (i := 6) (N := some 39) (v := .int .i64 j) (msk 10 111) rfl rfl (by kernel_rfl) hP (y_move rfl (by rfl) (by rfl)) rfl ?_
   try simp only [zP,zN,zA,zB,zC]
   refine pureh_ (i := 7) (N := some 40) (v := .slice none 0 0) (msk 10 239) rfl rfl (by kernel_rfl) hP (y_run (by rfl) (fun W => by have d := HJ0.out; rw [show ((j : Nat) : Int) = 0 by omega]; go_simp)) rfl ?_
   try simp only [zP,zN,zA,zB,zC]
   refine one_ (i := 4) (N := some 37) (msk 10 255) rfl rfl (by kernel_rfl) (by simp) (fun K24 hK24 => ?_)
   refine e_buildS (parts := #[(0, .agg #[.int .i64 u, s0, s1, s2, s3, s4, s5, s6, .int .i64 cu, .int .i64 m, .int .i64 p])]) (cells := #[.int .i64 u, s0, s1, s2, s3, s4, s5, s6, .int .i64 cu, .int .i64 m, .int .i64 p]) (by rfl) rfl rfl (by first | rfl | (simp only [List.map_toArray, List.map_cons, List.map_nil]; first | done | rfl)) Try.underlying34 I42.hi I42.hz I42.hs (by decide) (by decide) (by kernel_rfl) ?_
   rintro g25 w26 HG27 B28 C29
   have nw30 := qh (show w.heap.size ≤ g25 by have := C0.out.size; have := HG27.out; omega)
   have nx31 := qh (SL.out.ne_new (by decide) HG27)
   have nr32 := qh (OT.out.ne_new HG27)
   replace C0 := qh (C0.out.trans' C29 inw_nil)
   replace SL := qh (SL.out.chx C29 xnin_nil)
   replace OT := qh (OT.out.ch C29 (fun k hk => absurd hk (by simp [rl])))
   have Fg25 := qh (show Blk w26 g25 (#[.int .i64 u, s0, s1, s2, s3, s4, s5, s6, .int .i64 cu, .int .i64 m, .int .i64 p]) 42 from B28); clear B28 C29
   refine hK24.out _ _ ⟨SL.out, trivial⟩ (fun hS33 => ?_); clear hK24 K24
   try simp only [zP,zN,zA,zB,zC]
   refine one_ (i := 8) (N := some 41) (msk 10 511) rfl rfl (by kernel_rfl) (by simp) (fun K34 hK34 => ?_)
   have OE := qh (show OwnS w26 w.heap.size 42 11 (.slice (some ⟨g25, 0, none⟩) 1 1) 1 [.int .i64 u, s0, s1, s2, s3, s4, s5, s6, .int .i64 cu, .int .i64 m, .int .i64 p] from OwnS.of_blk Fg25.out nw30.out (by decide) rfl rfl); clear Fg25
   have rlE := qh (rl_some g25 1 1 (by decide))
   have xr35 := qh (show ∀ k, k ∈ xb (.slice (some a) X.length c) → k ∉ rl (.slice (some ⟨g25, 0, none⟩) 1 1) from fun k hk hm => by rw [rlE.out, List.mem_singleton] at hm; subst hm; exact nx31.out hk)
   have rr36 := qh (show ∀ k, k ∈ rl (.slice none 0 0) → k ∉ rl (.slice (some ⟨g25, 0, none⟩) 1 1) from fun k hk hm => by rw [rlE.out, List.mem_singleton] at hm; subst hm; exact nr32.out hk)
   refine e_append (by rfl) rfl rfl (w.heap.size) 42 _ _ 11 144 Try.underlying34 I42.hi I42.hz I42.hs I42.hb rfl (by decide) (.slice (some ⟨g25, 0, none⟩) 1 1) (1) ([.int .i64 u, s0, s1, s2, s3, s4, s5, s6, .int .i64 cu, .int .i64 m, .int .i64 p]) (by rfl) OE.out (.slice none 0 0) 0 ([]) (by rfl) ⟨rfl, .inl ⟨rfl, rfl⟩⟩ ones_nil (by unfold maxLen; have := hlt.out; have := hj.out; have := HN20.out; omega) (by have := hlt.out; have := hj.out; have := HN20.out; omega) C0.out.size ?_
   rintro v37 w38 O39 C40 R41 -
   have xr43 := qh (show ∀ k, k ∈ xb (.slice (some a) X.length c) → k ∉ rl v37 from fun k hk hm => (R41 k hm).elim (fun h => xr35.out k hk h) (fun h => by have := SL.out.lt (by decide) k hk; omega))
   have rr44 := qh (show ∀ k, k ∈ rl (.slice none 0 0) → k ∉ rl v37 from fun k hk hm => (R41 k hm).elim (fun h => rr36.out k hk h) (fun h => by have := (OT.out.lt k hk).2; omega))
   replace C0 := qh (C0.out.trans' C40 (fun x hx => .inr (OE.out.lt x hx).1))
   replace SL := qh (SL.out.chx C40 xr35.out)
   replace OT := qh (OT.out.ch C40 (fun k hk => absurd hk (by simp [rl])))
   clear OE
   have OE := qh (show OwnS w38 w.heap.size 42 11 (v37) (1 + 0) ([.int .i64 u, s0, s1, s2, s3, s4, s5, s6, .int .i64 cu, .int .i64 m, .int .i64 p] ++ []) from O39); clear O39 C40
   refine hK34.out _ _ ⟨SL.out, trivial⟩ (fun hS45 => ?_); clear hK34 K34
   try simp only [zP,zN,zA,zB,zC]
   refine pureh_ (i := 9) (N := some 6) (v := v37) (msk 10 1023) rfl rfl (by kernel_rfl) hP (y_assign rfl (by rfl) (by rfl)) rfl ?_
   try simp only [zP,zN,zA,zB,zC]
   refine done_ (by kernel_rfl) (th_norm (hK20 _ _ ?_)); clear hK20 K20
   refine r_ ?_
   refine ef_ (fun K46 hK46 => ?_)
   refine e_buildS0 (by rfl) rfl rfl Try.underlying34 I42.hi ?_
   rintro g47 w48 HG49 C51
   replace C0 := qh (C0.out.trans' C51 inw_nil)
   replace SL := qh (SL.out.chx C51 xnin_nil)
   replace OT := qh (OT.out.ch C51 (fun k hk => absurd hk (by simp [rl])))
   replace OE := qh (OE.out.ch C51 rnin_nil)
   clear C51
   have Z52 := qh (show OwnS w48 w.heap.size 42 11 (.slice (some ⟨g47, 0, none⟩) 0 0) (0) ([]) from OwnS.nil _ _ _ _ _)
   refine hK46 _ _ ?_; clear hK46 K46
   try simp only [zP,zN,zA,zB,zC]
   refine pu_ (v := .slice none 0 0) (y_move rfl (by rfl) (by rfl)) ?_
   try simp only [zP,zN,zA,zB,zC]
   refine pu_ (v := .int .i64 j) (y_move rfl (by rfl) (by rfl)) ?_
   try simp only [zP,zN,zA,zB,zC]
   refine pu_ (v := .slice none 0 0) (y_run (by rfl) (fun W => by have d := HJ0.out; rw [show ((j : Nat) : Int) = 0 by omega]; go_simp)) ?_
   try simp only [zP,zN,zA,zB,zC]
   refine ef_ (fun K53 hK53 => ?_)
   refine e_append (by rfl) rfl rfl (w.heap.size) 42 _ _ 11 144 Try.underlying34 I42.hi I42.hz I42.hs I42.hb rfl (by decide) (.slice (some ⟨g47, 0, none⟩) 0 0) (0) ([]) (by rfl) Z52.out (.slice none 0 0) 0 ([]) (by rfl) ⟨rfl, .inl ⟨rfl, rfl⟩⟩ ones_nil (by unfold maxLen; have := hlt.out; have := hj.out; have := HN20.out; omega) (by have := hlt.out; have := hj.out; have := HN20.out; omega) C0.out.size ?_
   rintro v54 w55 O56 C57 R58 -
   replace C57 : Ch [] _ _ := C57
   replace R58 : ∀ k, k ∈ rl v54 → w48.heap.size ≤ k := fun k hk => (R58 k hk).elim (fun h => absurd h (by simp [rl])) (fun h => h)
   have rw59 := qh (show ∀ z_, z_ ∈ rl v54 → z_ ∈ [] ∨ w.heap.size ≤ z_ from fun x hx => .inr (by have := R58 x hx; have := C0.out.size; omega))
   have xr60 := qh (show ∀ k, k ∈ xb (.slice (some a) X.length c) → k ∉ rl v54 from fun k hk hm => by have := R58 k hm; have := SL.out.lt (by decide) k hk; omega)
   have rr61 := qh (show ∀ k, k ∈ rl (.slice none 0 0) → k ∉ rl v54 from fun k hk hm => by have := R58 k hm; have := (OT.out.lt k hk).2; omega)
   have rr62 := qh (show ∀ k, k ∈ rl (v37) → k ∉ rl v54 from fun k hk hm => by have := R58 k hm; have := (OE.out.lt k hk).2; omega)
   replace C0 := qh (C0.out.trans' C57 inw_nil)
   replace SL := qh (SL.out.chx C57 xnin_nil)
   replace OT := qh (OT.out.ch C57 (fun k hk => absurd hk (by simp [rl])))
   replace OE := qh (OE.out.ch C57 rnin_nil)
   clear Z52
   have Z52 := qh (show OwnS w55 w.heap.size 42 11 (v54) (0) ([]) from (by simpa using O56)); clear O56 C57
   refine hK53 _ _ ?_; clear hK53 K53
   try simp only [zP,zN,zA,zB,zC]
   refine pu_ (v := v37) (y_move rfl (by rfl) (by rfl)) ?_
   try simp only [zP,zN,zA,zB,zC]
   refine ef_ (fun K63 hK63 => ?_)
   obtain ⟨Ae, ze, hve, -, -⟩ := OE.out.slice
   subst hve
   refine e_append (by rfl) rfl rfl (w.heap.size) 42 _ _ 11 144 Try.underlying34 I42.hi I42.hz I42.hs I42.hb rfl (by decide) (v54) (0) ([]) (by rfl) Z52.out (.slice Ae (1 + 0) ze) (1 + 0) (([.int .i64 u, s0, s1, s2, s3, s4, s5, s6, .int .i64 cu, .int .i64 m, .int .i64 p] ++ [])) (by rfl) OE.out.src (by rw [← HLE.out]; exact ones_app (candC_one e) ones_nil) (by unfold maxLen; have := hlt.out; have := hj.out; have := HN20.out; omega) (by have := hlt.out; have := hj.out; have := HN20.out; omega) C0.out.size ?_
   rintro v64 w65 O66 C67 R68 -
   have rw69 := qh (show ∀ z_, z_ ∈ rl v64 → z_ ∈ [] ∨ w.heap.size ≤ z_ from fun x hx => (R68 x hx).elim (fun h => rw59.out _ h) (fun h => .inr (by have := C0.out.size; omega)))
   have xr70 := qh (show ∀ k, k ∈ xb (.slice (some a) X.length c) → k ∉ rl v64 from fun k hk hm => (R68 k hm).elim (fun h => xr60.out k hk h) (fun h => by have := SL.out.lt (by decide) k hk; omega))
   have rr71 := qh (show ∀ k, k ∈ rl (.slice none 0 0) → k ∉ rl v64 from fun k hk hm => (R68 k hm).elim (fun h => rr61.out k hk h) (fun h => by have := (OT.out.lt k hk).2; omega))
   have rr72 := qh (show ∀ k, k ∈ rl (.slice Ae (1 + 0) ze) → k ∉ rl v64 from fun k hk hm => (R68 k hm).elim (fun h => rr62.out k hk h) (fun h => by have := (OE.out.lt k hk).2; omega))
   replace C0 := qh (C0.out.trans' C67 (fun x hx => .inr (Z52.out.lt x hx).1))
   replace SL := qh (SL.out.chx C67 xr60.out)
   replace OT := qh (OT.out.ch C67 (fun k hk => absurd hk (by simp [rl])))
   replace OE := qh (OE.out.ch C67 rr62.out)
   clear Z52
   have Z52 := qh (show OwnS w65 w.heap.size 42 11 (v64) (0 + (1 + 0)) ([] ++ ([.int .i64 u, s0, s1, s2, s3, s4, s5, s6, .int .i64 cu, .int .i64 m, .int .i64 p] ++ [])) from O66); clear O66 C67
   refine hK63 _ _ ?_; clear hK63 K63
   try simp only [zP,zN,zA,zB,zC]
   refine pu_ (v := v64) (y_assign rfl (by rfl) (by rfl)) ?_
   try simp only [zP,zN,zA,zB,zC]
   refine nl_ ?_
   refine ib_norm ?_
   refine th_norm (hK9 _ _ ?_); try clear hK9 K9
   refine r_ ?_
   refine pu_ (v := .int .i64 i) (y_move rfl (by rfl) (by rfl)) ?_
   try simp only [zP,zN,zA,zB,zC]
   refine pu_ (v := .int .i64 (i + 1 : Nat)) (y_run (by rfl) (fun W => by have d := Wi.out; go_simp)) ?_
   try simp only [zP,zN,zA,zB,zC]
   refine pu_ (v := .int .i64 (i + 1 : Nat)) (y_assign rfl (by rfl) (by rfl)) ?_
   try simp only [zP,zN,zA,zB,zC]
   refine nl_ ?_
   exact th_norm (hK6 (kq - 1) _ _ (by have := hlt.out; have := hi.out; omega) ⟨i + 1, _, rfl, C0, SL, qh (by have h9 := Z52.out; rw [isort_snoc _ he.out, HFIN.out]; rw [HTK.out, HDR.out, HB0.out, List.take_nil, List.drop_nil, List.nil_append, List.flatMap_cons, List.flatMap_nil, HLE.out]; rw [show i + 1 = 0 + (1 + 0) by have := H0.out; omega]; exact h9), qh ⟨by have := hlt.out; omega, by have := hlt.out; have := hi.out; omega⟩, qh (xr70.out), qh (fun h => absurd h (by omega))⟩)
 ·have hlt := qh hlt0
  have he := qh ho0
  clear hlt0 ho0
  obtain ⟨a, hsm_a⟩ := src_some SL.out (by have := hlt.out; omega)
  subst hsm_a
  have D12 := qh (show (i : Int) < (X.length : Int) by have := hlt.out; omega)
  have Wi := qh (show IntKind.i64.wrap ((i : Int) + 1) = ((i + 1 : Nat) : Int) by rw [wr64 (by have := hlt.out; have h7 := HN20.out; omega)]; omega)
  have HBL := qh (show (isort (ltz cz) (X.take i)).length = i by rw [isort_len, List.length_take]; have := hlt.out; omega)
  obtain ⟨u, s0, s1, s2, s3, s4, s5, s6, cu, m, p, hlc, -, -, -, -, -, hone⟩ := cand_lits e
  have HLE := qh hlc
  have HO1 := qh hone
  clear hlc hone
  have HP := qh (Nat.pos_of_ne_zero h)
  clear h
  obtain ⟨Av, cv, hv, hn9, hm9⟩ := OT.out.slice
  subst hv
  have HCV := qh (And.intro hn9 hm9)
  clear hn9 hm9
  obtain ⟨gv, cv2, hv2, -, -, -, -, -⟩ := OT.out.some_ HP.out
  injection hv2 with hv1 _ hv3
  subst hv1 hv3
  refine s_ (fun K73 hK73 => ?_)
  refine pu_ (v := .int .i64 i) (y_move rfl (by rfl) (by rfl)) ?_
  try simp only [zP,zN,zA,zB,zC]
  refine pu_ (v := .slice (some a) X.length c) (y_move rfl (by rfl) (by rfl)) ?_
  try simp only [zP,zN,zA,zB,zC]
  refine pu_ (v := .int .i64 X.length) (y_run (by rfl) (fun W => by go_simp)) ?_
  try simp only [zP,zN,zA,zB,zC]
  refine pu_ (v := .bool true) (y_run (by rfl) (fun W => by have d := D12.out; go_simp)) ?_
  try simp only [zP,zN,zA,zB,zC]
  refine nl_ (hK73 _ _ ?_); clear hK73 K73
  refine wp_cond_true rfl ?_
  refine wp_skip ?_
  refine th_norm (hK7 _ _ ?_); try clear hK7 K7
  refine sq_ (fun K74 hK74 => ?_)
  refine wp_block ?_
  refine s_ (fun K75 hK75 => ?_)
  refine pu_ (v := .slice (some ⟨gv, 0, none⟩) i cv) (y_move rfl (by rfl) (by rfl)) ?_
  try simp only [zP,zN,zA,zB,zC]
  refine pu_ (v := .int .i64 i) (y_run (by rfl) (fun W => by go_simp)) ?_
  try simp only [zP,zN,zA,zB,zC]
  refine pu_ (v := .int .i64 i) (y_assign rfl (by rfl) (by rfl)) ?_
  try simp only [zP,zN,zA,zB,zC]
  refine nl_ (hK75 _ _ ?_); clear hK75 K75
  refine cutk_ (fun (a' : Act) (w' : World) => ∃ (j : Nat), ∃ (C : List HC), ∃ (D : List HC), a' = ⟨#[.slice (some a) X.length c, uo a' 1, .slice none 0 0, .slice (some ⟨gv, 0, none⟩) i cv, .int .i64 i, .int .i64 j, uo a' 6, uo a' 7, uo a' 8, uo a' 9, uo a' 10, uo a' 11, uo a' 12, uo a' 13, uo a' 14, uo a' 15, uo a' 16, uo a' 17, uo a' 18, uo a' 19, uo a' 20, uo a' 21, uo a' 22, uo a' 23, uo a' 24, uo a' 25, uo a' 26, uo a' 27, uo a' 28, uo a' 29, uo a' 30, uo a' 31, uo a' 32, uo a' 33, uo a' 34, uo a' 35, uo a' 36, uo a' 37, uo a' 38, uo a' 39, uo a' 40, uo a' 41, uo a' 42, uo a' 43, uo a' 44, uo a' 45, uo a' 46, uo a' 47, uo a' 48, uo a' 49, uo a' 50, uo a' 51, uo a' 52, uo a' 53, uo a' 54, uo a' 55, uo a' 56, uo a' 57, uo a' 58, uo a' 59, uo a' 60, uo a' 61, uo a' 62, uo a' 63], []⟩ ∧ Hid (Ch [] w w') ∧ Hid (SrcIs w' (.slice (some a) X.length c) (X.length) (X.flatMap candC) 11) ∧ Hid (OwnS w' w.heap.size 42 11 (.slice (some ⟨gv, 0, none⟩) i cv) (i) (((isort (ltz cz) (X.take i))).flatMap candC)) ∧ Hid ((isort (ltz cz) (X.take i)) = C ++ D) ∧ Hid ((rins (ltz cz) e (isort (ltz cz) (X.take i)).reverse).reverse = C ++ e :: D) ∧ Hid (j = C.length ∧ j ≤ i)) (fun K76 hK76 => ?_) ?_
  ·refine wp_block ?_
   refine loopk_ (fun (jq : Nat) (a' : Act) (w' : World) => ∃ (j : Nat), ∃ (C : List HC), ∃ (D : List HC), a' = ⟨#[.slice (some a) X.length c, uo a' 1, .slice none 0 0, .slice (some ⟨gv, 0, none⟩) i cv, .int .i64 i, .int .i64 j, uo a' 6, uo a' 7, uo a' 8, uo a' 9, uo a' 10, uo a' 11, uo a' 12, uo a' 13, uo a' 14, uo a' 15, uo a' 16, uo a' 17, uo a' 18, uo a' 19, uo a' 20, uo a' 21, uo a' 22, uo a' 23, uo a' 24, uo a' 25, uo a' 26, uo a' 27, uo a' 28, uo a' 29, uo a' 30, uo a' 31, uo a' 32, uo a' 33, uo a' 34, uo a' 35, uo a' 36, uo a' 37, uo a' 38, uo a' 39, uo a' 40, uo a' 41, uo a' 42, uo a' 43, uo a' 44, uo a' 45, uo a' 46, uo a' 47, uo a' 48, uo a' 49, uo a' 50, uo a' 51, uo a' 52, uo a' 53, uo a' 54, uo a' 55, uo a' 56, uo a' 57, uo a' 58, uo a' 59, uo a' 60, uo a' 61, uo a' 62, uo a' 63], []⟩ ∧ Hid (Ch [] w w') ∧ Hid (SrcIs w' (.slice (some a) X.length c) (X.length) (X.flatMap candC) 11) ∧ Hid (OwnS w' w.heap.size 42 11 (.slice (some ⟨gv, 0, none⟩) i cv) (i) (((isort (ltz cz) (X.take i))).flatMap candC)) ∧ Hid ((isort (ltz cz) (X.take i)) = C ++ D) ∧ Hid (rins (ltz cz) e (isort (ltz cz) (X.take i)).reverse = D.reverse ++ rins (ltz cz) e C.reverse) ∧ Hid (j = C.length ∧ jq = C.length)) (i) (⟨i, (isort (ltz cz) (X.take i)), [], rfl, C0, SL, OT, qh (List.append_nil _).symm, qh rfl, qh ⟨HBL.out.symm, HBL.out.symm⟩⟩) ?_
   rintro jq a_ w78 ⟨j, C, D, ha_, C0, SL, OT, HCD, HRI, hj⟩ K79 hK79
   obtain ⟨us, hus_⟩ : ∃ us, us = uo a_ := ⟨_, rfl⟩; try rw [← hus_] at ha_
   subst ha_; clear hus_
   refine sq_ (fun K80 hK80 => ?_)
   rcases ins_ways (ltz cz) C e with h | ⟨C1, y, hC0, h⟩ | ⟨C1, y, hC0, h⟩
   ·have HFIN := qh (show (rins (ltz cz) e (isort (ltz cz) (X.take i)).reverse).reverse = C ++ e :: D from by rw [h]; exact rins_nil (by have h9 := HRI.out; rw [h] at h9; exact h9))
    have D18 := qh (show ¬ 0 < j by have := hj.out; rw [h] at this; simp at this; omega)
    clear h
    refine sq_ (fun K81 hK81 => ?_)
    refine startk_ (S := fun W => True) (ds := []) (msk 14 0) (by kernel_rfl) rfl (by kernel_rfl) (fun W c => trivial) (fun w82 C83 hS84 => ?_)
    replace C0 := qh (C0.out.trans' C83 inw_nil)
    replace SL := qh (SL.out.chx C83 xnin_nil)
    replace OT := qh (OT.out.ch C83 rnin_nil)
    clear C83
    refine pureh_ (i := 0) (N := some 17) (v := .int .i64 j) (msk 14 1) rfl rfl (by kernel_rfl) hP (y_move rfl (by rfl) (by rfl)) rfl ?_
    try simp only [zP,zN,zA,zB,zC]
    refine pureh_ (i := 1) (N := some 18) (v := .bool false) (msk 14 3) rfl rfl (by kernel_rfl) hP (y_run (by rfl) (fun W => by have d := D18.out; go_simp)) rfl ?_
    try simp only [zP,zN,zA,zB,zC]
    refine pureh_ (i := 2) (N := some 19) (v := .bool false) (msk 14 7) rfl rfl (by kernel_rfl) hP (y_move rfl (by rfl) (by rfl)) rfl ?_
    try simp only [zP,zN,zA,zB,zC]
    refine pureh_ (i := 3) (N := some 20) (v := undef) (msk 14 15) rfl rfl (by kernel_rfl) hP (y_off (by rfl)) rfl ?_
    try simp only [zP,zN,zA,zB,zC]
    refine pureh_ (i := 4) (N := some 21) (v := undef) (msk 14 31) rfl rfl (by kernel_rfl) hP (y_off (by rfl)) rfl ?_
    try simp only [zP,zN,zA,zB,zC]
    refine pureh_ (i := 5) (N := some 22) (v := undef) (msk 14 63) rfl rfl (by kernel_rfl) hP (y_off (by rfl)) rfl ?_
    try simp only [zP,zN,zA,zB,zC]
    refine pureh_ (i := 6) (N := some 23) (v := undef) (msk 14 127) rfl rfl (by kernel_rfl) hP (y_off (by rfl)) rfl ?_
    try simp only [zP,zN,zA,zB,zC]
    refine pureh_ (i := 7) (N := some 24) (v := undef) (msk 14 255) rfl rfl (by kernel_rfl) hP (y_off (by rfl)) rfl ?_
    try simp only [zP,zN,zA,zB,zC]
    refine pureh_ (i := 8) (N := some 25) (v := undef) (msk 14 511) rfl rfl (by kernel_rfl) hP (y_off (by rfl)) rfl ?_
    try simp only [zP,zN,zA,zB,zC]
    refine pureh_ (i := 9) (N := some 26) (v := undef) (msk 14 1023) rfl rfl (by kernel_rfl) hP (y_off (by rfl)) rfl ?_
    try simp only [zP,zN,zA,zB,zC]
    refine pureh_ (i := 10) (N := some 27) (v := undef) (msk 14 2047) rfl rfl (by kernel_rfl) hP (y_off (by rfl)) rfl ?_
    try simp only [zP,zN,zA,zB,zC]
    refine pureh_ (i := 11) (N := some 28) (v := undef) (msk 14 4095) rfl rfl (by kernel_rfl) hP (y_off (by rfl)) rfl ?_
    try simp only [zP,zN,zA,zB,zC]
    refine pureh_ (i := 12) (N := some 29) (v := undef) (msk 14 8191) rfl rfl (by kernel_rfl) hP (y_off (by rfl)) rfl ?_
    try simp only [zP,zN,zA,zB,zC]
    refine pureh_ (i := 13) (N := some 30) (v := .bool false) (msk 14 16383) rfl rfl (by kernel_rfl) hP (y_pick (t := false) (by rfl) rfl (by rfl) (by rfl)) rfl ?_
    try simp only [zP,zN,zA,zB,zC]
    refine done_ (by kernel_rfl) (th_norm (hK81 _ _ ?_)); clear hK81 K81
    refine wp_cond_false rfl ?_
    refine wp_exit ?_
    refine th_exit ?_
    refine th_exit ?_
    refine ib_exit ?_
    exact th_norm (hK76 _ _ ⟨j, C, D, rfl, C0, SL, OT, HCD, HFIN, qh ⟨hj.out.1, by have h9 := congrArg List.length HCD.out; rw [HBL.out, List.length_append] at h9; have := hj.out; omega⟩⟩)
   ·have EC := qh hC0
    have ECL := qh (show C.length = C1.length + 1 by rw [hC0]; simp)
    have HYB := qh (show (isort (ltz cz) (X.take i))[C1.length]? = some y by rw [HCD.out, hC0, List.append_assoc, List.getElem?_append_right (Nat.le_refl _), Nat.sub_self]; rfl)
    have HLT := qh h
    have HLI := qh (show C1.length < i by have h9 := (List.getElem?_eq_some_iff.1 HYB.out).1; rw [HBL.out] at h9; exact h9)
    clear h hC0
    have D18 := qh (show 0 < j by have := hj.out; have := ECL.out; omega)
    obtain ⟨q, hq⟩ : ∃ q, q = j - 1 := ⟨_, rfl⟩
    have EQ := qh hq
    clear hq
    have WQ := qh (show IntKind.i64.wrap ((j : Int) - 1) = (q : Int) by rw [wr64 (by have := HLI.out; have := hj.out; have := ECL.out; have := hlt.out; have := HN20.out; omega)]; have := EQ.out; have := hj.out; have := ECL.out; omega)
    have QE := qh (show q = C1.length by have := EQ.out; have := hj.out; have := ECL.out; omega)
    have D27 := qh (show (q : Int) < (i : Int) by have := QE.out; have := HLI.out; omega)
    refine sq_ (fun K85 hK85 => ?_)
    refine startk_ (S := fun W => SrcIs W (.slice (some a) X.length c) (X.length) (X.flatMap candC) 11 ∧ OwnS W w.heap.size 42 11 (.slice (some ⟨gv, 0, none⟩) i cv) (i) (((isort (ltz cz) (X.take i))).flatMap candC) ∧ True) (ds := []) (msk 14 0) (by kernel_rfl) rfl (by kernel_rfl) (fun W c => ⟨SL.out.chx c xnin_nil, OT.out.ch c rnin_nil, trivial⟩) (fun w86 C87 hS88 => ?_)
    replace C0 := qh (C0.out.trans' C87 inw_nil)
    replace SL := qh (SL.out.chx C87 xnin_nil)
    replace OT := qh (OT.out.ch C87 rnin_nil)
    clear C87
    refine pureh_ (i := 0) (N := some 17) (v := .int .i64 j) (msk 14 1) rfl rfl (by kernel_rfl) hP (y_move rfl (by rfl) (by rfl)) rfl ?_
    try simp only [zP,zN,zA,zB,zC]
    refine pureh_ (i := 1) (N := some 18) (v := .bool true) (msk 14 3) rfl rfl (by kernel_rfl) hP (y_run (by rfl) (fun W => by have d := D18.out; go_simp)) rfl ?_
    try simp only [zP,zN,zA,zB,zC]
    refine pureh_ (i := 2) (N := some 19) (v := .bool true) (msk 14 7) rfl rfl (by kernel_rfl) hP (y_move rfl (by rfl) (by rfl)) rfl ?_
    try simp only [zP,zN,zA,zB,zC]
    refine pureh_ (i := 3) (N := some 20) (v := .slice (some a) X.length c) (msk 14 15) rfl rfl (by kernel_rfl) hP (y_move rfl (by rfl) (by rfl)) rfl ?_
    try simp only [zP,zN,zA,zB,zC]
    refine pureh_ (i := 4) (N := some 21) (v := .int .i64 i) (msk 14 31) rfl rfl (by kernel_rfl) hP (y_move rfl (by rfl) (by rfl)) rfl ?_
    try simp only [zP,zN,zA,zB,zC]
    refine pureh_ (i := 5) (N := some 22) (v := .pointer (some (a.add (i * 11)))) (msk 14 63) rfl rfl (by kernel_rfl) hP (y_run (by rfl) (fun W => by have d := D12.out; go_simp)) rfl ?_
    try simp only [zP,zN,zA,zB,zC]
    refine takeh_ (i := 6) (N := some 23) (v := .agg (candC e).toArray) (msk 14 127) rfl rfl (by kernel_rfl) hP (y_load (p := (a.add (i * 11))) rfl (by rfl) (by rfl) (fun W hS => run_loadVar_at (src_at candC_len hS.1 he.out) Try.underlying42 rfl (by rw [candC_len]; kernel_rfl))) hS88 rfl ?_
    try simp only [zP,zN,zA,zB,zC]
    refine pureh_ (i := 7) (N := some 24) (v := .slice (some ⟨gv, 0, none⟩) i cv) (msk 14 255) rfl rfl (by kernel_rfl) hP (y_move rfl (by rfl) (by rfl)) rfl ?_
    try simp only [zP,zN,zA,zB,zC]
    refine pureh_ (i := 8) (N := some 25) (v := .int .i64 j) (msk 14 511) rfl rfl (by kernel_rfl) hP (y_move rfl (by rfl) (by rfl)) rfl ?_
    try simp only [zP,zN,zA,zB,zC]
    refine pureh_ (i := 9) (N := some 26) (v := .int .i64 q) (msk 14 1023) rfl rfl (by kernel_rfl) hP (y_run (by rfl) (fun W => by have d := WQ.out; go_simp)) rfl ?_
    try simp only [zP,zN,zA,zB,zC]
    refine pureh_ (i := 10) (N := some 27) (v := .pointer (some ⟨gv, q * 11, none⟩)) (msk 14 2047) rfl rfl (by kernel_rfl) hP (y_run (by rfl) (fun W => by have d := D27.out; go_simp)) rfl ?_
    try simp only [zP,zN,zA,zB,zC]
    refine takeh_ (i := 11) (N := some 28) (v := .agg (candC y).toArray) (msk 14 4095) rfl rfl (by kernel_rfl) hP (y_load (p := ⟨gv, q * 11, none⟩) rfl (by rfl) (by rfl) (fun W hS => run_loadVar_at (own_at candC_len hS.2.1 (by rw [QE.out]; exact HYB.out)) Try.underlying42 rfl (by rw [candC_len]; kernel_rfl))) hS88 rfl ?_
    try simp only [zP,zN,zA,zB,zC]
    refine one_ (i := 12) (N := some 29) (msk 14 8191) rfl rfl (by kernel_rfl) (by simp) (fun K89 hK89 => ?_)
    refine e_call Try.func31 (by kernel_rfl) rfl #[.agg (candC e).toArray, .agg (candC y).toArray] (by rfl) rfl rfl (mp2 rfl rfl) ((by have h9 := HCM.out e y (List.mem_of_getElem? he.out) (List.mem_of_mem_take (isort_mem (List.mem_of_getElem? HYB.out))) w86 (HWB.out.trans (C0.out.below0.mono HWB.out.size)); rw [HLT.out] at h9; exact h9)) ?_
    rintro en w91 ⟨rfl, cc90⟩
    refine ⟨_, rfl, ?_⟩
    replace C0 := qh (C0.out.trans' cc90 inw_nil)
    replace SL := qh (SL.out.chx cc90 xnin_nil)
    replace OT := qh (OT.out.ch cc90 rnin_nil)
    clear cc90
    refine hK89.out _ _ ⟨SL.out, OT.out, trivial⟩ (fun hS92 => ?_); clear hK89 K89
    try simp only [zP,zN,zA,zB,zC]
    refine pureh_ (i := 13) (N := some 30) (v := .bool true) (msk 14 16383) rfl rfl (by kernel_rfl) hP (y_pick (t := true) (by rfl) rfl (by rfl) (by rfl)) rfl ?_
    try simp only [zP,zN,zA,zB,zC]
    refine done_ (by kernel_rfl) (th_norm (hK85 _ _ ?_)); clear hK85 K85
    refine wp_cond_true rfl ?_
    refine wp_skip ?_
    refine th_norm (hK80 _ _ ?_); try clear hK80 K80
    refine wp_block ?_
    refine r_ ?_
    refine pu_ (v := .int .i64 j) (y_move rfl (by rfl) (by rfl)) ?_
    try simp only [zP,zN,zA,zB,zC]
    refine pu_ (v := .int .i64 q) (y_run (by rfl) (fun W => by have d := WQ.out; go_simp)) ?_
    try simp only [zP,zN,zA,zB,zC]
    refine pu_ (v := .int .i64 q) (y_assign rfl (by rfl) (by rfl)) ?_
    try simp only [zP,zN,zA,zB,zC]
    refine nl_ ?_
    refine ib_norm ?_
    exact th_norm (hK79 (jq - 1) _ _ (by have := hj.out; have := ECL.out; omega) ⟨q, C1, y :: D, rfl, C0, SL, OT, qh (by rw [HCD.out, EC.out]; simp), qh (rins_step (by have h := HRI.out; rw [EC.out] at h; exact h) HLT.out), qh (by have := hj.out; have := ECL.out; have := EQ.out; omega)⟩)
   ·have EC := qh hC0
    have ECL := qh (show C.length = C1.length + 1 by rw [hC0]; simp)
    have HYB := qh (show (isort (ltz cz) (X.take i))[C1.length]? = some y by rw [HCD.out, hC0, List.append_assoc, List.getElem?_append_right (Nat.le_refl _), Nat.sub_self]; rfl)
    have HLT := qh h
    have HLI := qh (show C1.length < i by have h9 := (List.getElem?_eq_some_iff.1 HYB.out).1; rw [HBL.out] at h9; exact h9)
    clear h hC0
    have D18 := qh (show 0 < j by have := hj.out; have := ECL.out; omega)
    obtain ⟨q, hq⟩ : ∃ q, q = j - 1 := ⟨_, rfl⟩
    have EQ := qh hq
    clear hq
    have WQ := qh (show IntKind.i64.wrap ((j : Int) - 1) = (q : Int) by rw [wr64 (by have := HLI.out; have := hj.out; have := ECL.out; have := hlt.out; have := HN20.out; omega)]; have := EQ.out; have := hj.out; have := ECL.out; omega)
    have QE := qh (show q = C1.length by have := EQ.out; have := hj.out; have := ECL.out; omega)
    have D27 := qh (show (q : Int) < (i : Int) by have := QE.out; have := HLI.out; omega)
    have HFIN := qh (show (rins (ltz cz) e (isort (ltz cz) (X.take i)).reverse).reverse = C ++ e :: D from by rw [EC.out]; exact rins_stop (by have h9 := HRI.out; rw [EC.out] at h9; exact h9) HLT.out)
    refine sq_ (fun K93 hK93 => ?_)
    refine startk_ (S := fun W => SrcIs W (.slice (some a) X.length c) (X.length) (X.flatMap candC) 11 ∧ OwnS W w.heap.size 42 11 (.slice (some ⟨gv, 0, none⟩) i cv) (i) (((isort (ltz cz) (X.take i))).flatMap candC) ∧ True) (ds := []) (msk 14 0) (by kernel_rfl) rfl (by kernel_rfl) (fun W c => ⟨SL.out.chx c xnin_nil, OT.out.ch c rnin_nil, trivial⟩) (fun w94 C95 hS96 => ?_)
    replace C0 := qh (C0.out.trans' C95 inw_nil)
    replace SL := qh (SL.out.chx C95 xnin_nil)
    replace OT := qh (OT.out.ch C95 rnin_nil)
    clear C95
    refine pureh_ (i := 0) (N := some 17) (v := .int .i64 j) (msk 14 1) rfl rfl (by kernel_rfl) hP (y_move rfl (by rfl) (by rfl)) rfl ?_
    try simp only [zP,zN,zA,zB,zC]
    refine pureh_ (i := 1) (N := some 18) (v := .bool true) (msk 14 3) rfl rfl (by kernel_rfl) hP (y_run (by rfl) (fun W => by have d := D18.out; go_simp)) rfl ?_
    try simp only [zP,zN,zA,zB,zC]
    refine pureh_ (i := 2) (N := some 19) (v := .bool true) (msk 14 7) rfl rfl (by kernel_rfl) hP (y_move rfl (by rfl) (by rfl)) rfl ?_
    try simp only [zP,zN,zA,zB,zC]
    refine pureh_ (i := 3) (N := some 20) (v := .slice (some a) X.length c) (msk 14 15) rfl rfl (by kernel_rfl) hP (y_move rfl (by rfl) (by rfl)) rfl ?_
    try simp only [zP,zN,zA,zB,zC]
    refine pureh_ (i := 4) (N := some 21) (v := .int .i64 i) (msk 14 31) rfl rfl (by kernel_rfl) hP (y_move rfl (by rfl) (by rfl)) rfl ?_
    try simp only [zP,zN,zA,zB,zC]
    refine pureh_ (i := 5) (N := some 22) (v := .pointer (some (a.add (i * 11)))) (msk 14 63) rfl rfl (by kernel_rfl) hP (y_run (by rfl) (fun W => by have d := D12.out; go_simp)) rfl ?_
    try simp only [zP,zN,zA,zB,zC]
    refine takeh_ (i := 6) (N := some 23) (v := .agg (candC e).toArray) (msk 14 127) rfl rfl (by kernel_rfl) hP (y_load (p := (a.add (i * 11))) rfl (by rfl) (by rfl) (fun W hS => run_loadVar_at (src_at candC_len hS.1 he.out) Try.underlying42 rfl (by rw [candC_len]; kernel_rfl))) hS96 rfl ?_
    try simp only [zP,zN,zA,zB,zC]
    refine pureh_ (i := 7) (N := some 24) (v := .slice (some ⟨gv, 0, none⟩) i cv) (msk 14 255) rfl rfl (by kernel_rfl) hP (y_move rfl (by rfl) (by rfl)) rfl ?_
    try simp only [zP,zN,zA,zB,zC]
    refine pureh_ (i := 8) (N := some 25) (v := .int .i64 j) (msk 14 511) rfl rfl (by kernel_rfl) hP (y_move rfl (by rfl) (by rfl)) rfl ?_
    try simp only [zP,zN,zA,zB,zC]
    refine pureh_ (i := 9) (N := some 26) (v := .int .i64 q) (msk 14 1023) rfl rfl (by kernel_rfl) hP (y_run (by rfl) (fun W => by have d := WQ.out; go_simp)) rfl ?_
    try simp only [zP,zN,zA,zB,zC]
    refine pureh_ (i := 10) (N := some 27) (v := .pointer (some ⟨gv, q * 11, none⟩)) (msk 14 2047) rfl rfl (by kernel_rfl) hP (y_run (by rfl) (fun W => by have d := D27.out; go_simp)) rfl ?_
    try simp only [zP,zN,zA,zB,zC]
    refine takeh_ (i := 11) (N := some 28) (v := .agg (candC y).toArray) (msk 14 4095) rfl rfl (by kernel_rfl) hP (y_load (p := ⟨gv, q * 11, none⟩) rfl (by rfl) (by rfl) (fun W hS => run_loadVar_at (own_at candC_len hS.2.1 (by rw [QE.out]; exact HYB.out)) Try.underlying42 rfl (by rw [candC_len]; kernel_rfl))) hS96 rfl ?_
    try simp only [zP,zN,zA,zB,zC]
    refine one_ (i := 12) (N := some 29) (msk 14 8191) rfl rfl (by kernel_rfl) (by simp) (fun K97 hK97 => ?_)
    refine e_call Try.func31 (by kernel_rfl) rfl #[.agg (candC e).toArray, .agg (candC y).toArray] (by rfl) rfl rfl (mp2 rfl rfl) ((by have h9 := HCM.out e y (List.mem_of_getElem? he.out) (List.mem_of_mem_take (isort_mem (List.mem_of_getElem? HYB.out))) w94 (HWB.out.trans (C0.out.below0.mono HWB.out.size)); rw [HLT.out] at h9; exact h9)) ?_
    rintro en w99 ⟨rfl, cc98⟩
    refine ⟨_, rfl, ?_⟩
    replace C0 := qh (C0.out.trans' cc98 inw_nil)
    replace SL := qh (SL.out.chx cc98 xnin_nil)
    replace OT := qh (OT.out.ch cc98 rnin_nil)
    clear cc98
    refine hK97.out _ _ ⟨SL.out, OT.out, trivial⟩ (fun hS100 => ?_); clear hK97 K97
    try simp only [zP,zN,zA,zB,zC]
    refine pureh_ (i := 13) (N := some 30) (v := .bool false) (msk 14 16383) rfl rfl (by kernel_rfl) hP (y_pick (t := true) (by rfl) rfl (by rfl) (by rfl)) rfl ?_
    try simp only [zP,zN,zA,zB,zC]
    refine done_ (by kernel_rfl) (th_norm (hK93 _ _ ?_)); clear hK93 K93
    refine wp_cond_false rfl ?_
    refine wp_exit ?_
    refine th_exit ?_
    refine th_exit ?_
    refine ib_exit ?_
    exact th_norm (hK76 _ _ ⟨j, C, D, rfl, C0, SL, OT, HCD, HFIN, qh ⟨hj.out.1, by have h9 := congrArg List.length HCD.out; rw [HBL.out, List.length_append] at h9; have := hj.out; omega⟩⟩)
  rintro a_ w77 ⟨j, C, D, ha_, C0, SL, OT, HCD, HFIN, hj⟩
  obtain ⟨us, hus_⟩ : ∃ us, us = uo a_ := ⟨_, rfl⟩; try rw [← hus_] at ha_
  subst ha_; clear hus_
  skip
  ·have HTK := qh (show C = (isort (ltz cz) (X.take i)).take j by rw [HCD.out, hj.out.1, List.take_left])
   have HDR := qh (show D = (isort (ltz cz) (X.take i)).drop j by rw [HCD.out, hj.out.1, List.drop_left])
   obtain ⟨A2, hA2⟩ : ∃ A2, A2 = (if cv = j then (⟨gv, 0, none⟩ : Addr) else (⟨gv, 0, none⟩ : Addr).add (j * 11)) := ⟨_, rfl⟩
   have HA2 := qh hA2
   clear hA2
   have SL1 := qh (fun W => run_slice_upto (P := Try.prog) (W := W) Try.underlying34 (by kernel_rfl) (sz := 11) ⟨gv, 0, none⟩ j i cv (j : Int) rfl (by have := hj.out; have := HCV.out; omega))
   have SL2 := qh (fun W => run_slice_from (P := Try.prog) (W := W) Try.underlying34 (by kernel_rfl) (sz := 11) ⟨gv, 0, none⟩ j i cv (j : Int) rfl hj.out.2 HCV.out.1 HCV.out.2)
   rw [← HA2.out] at SL2
   refine sq_ (fun K101 hK101 => ?_)
   refine startk_ (S := fun W => SrcIs W (.slice (some a) X.length c) (X.length) (X.flatMap candC) 11 ∧ True) (ds := []) (msk 10 0) (by kernel_rfl) rfl (by kernel_rfl) (fun W c => ⟨SL.out.chx c xnin_nil, trivial⟩) (fun w102 C103 hS104 => ?_)
   replace C0 := qh (C0.out.trans' C103 inw_nil)
   replace SL := qh (SL.out.chx C103 xnin_nil)
   replace OT := qh (OT.out.ch C103 rnin_nil)
   clear C103
   refine pureh_ (i := 0) (N := some 33) (v := .slice (some a) X.length c) (msk 10 1) rfl rfl (by kernel_rfl) hP (y_move rfl (by rfl) (by rfl)) rfl ?_
   try simp only [zP,zN,zA,zB,zC]
   refine pureh_ (i := 1) (N := some 34) (v := .int .i64 i) (msk 10 3) rfl rfl (by kernel_rfl) hP (y_move rfl (by rfl) (by rfl)) rfl ?_
   try simp only [zP,zN,zA,zB,zC]
   refine pureh_ (i := 2) (N := some 35) (v := .pointer (some (a.add (i * 11)))) (msk 10 7) rfl rfl (by kernel_rfl) hP (y_run (by rfl) (fun W => by have d := D12.out; go_simp)) rfl ?_
   try simp only [zP,zN,zA,zB,zC]
   refine takeh_ (i := 3) (N := some 36) (v := .agg #[.int .i64 u, s0, s1, s2, s3, s4, s5, s6, .int .i64 cu, .int .i64 m, .int .i64 p]) (msk 10 15) rfl rfl (by kernel_rfl) hP (y_load (p := (a.add (i * 11))) rfl (by rfl) (by rfl) (fun W hS => run_loadVar_at (by have h := src_at candC_len hS.1 he.out; rw [HLE.out] at h; exact h) Try.underlying42 rfl (by kernel_rfl))) hS104 rfl ?_
   try simp only [zP,zN,zA,zB,zC]
   refine pureh_ (i := 5) (N := some 38) (v := .slice (some ⟨gv, 0, none⟩) i cv) (msk 10 47) rfl rfl (by kernel_rfl) hP (y_move rfl (by rfl) (by rfl)) rfl ?_
   try simp only [zP,zN,zA,zB,zC]
   refine pureh_ (i := 6) (N := some 39) (v := .int .i64 j) (msk 10 111) rfl rfl (by kernel_rfl) hP (y_move rfl (by rfl) (by rfl)) rfl ?_
   try simp only [zP,zN,zA,zB,zC]
   refine pureh_ (i := 7) (N := some 40) (v := .slice (some A2) (i - j) (cv - j)) (msk 10 239) rfl rfl (by kernel_rfl) hP (y_slice (by rfl) rfl (by rfl) (by rfl) (by rfl) (by rfl) SL2.out) rfl ?_
   try simp only [zP,zN,zA,zB,zC]
   refine one_ (i := 4) (N := some 37) (msk 10 255) rfl rfl (by kernel_rfl) (by simp) (fun K105 hK105 => ?_)
   refine e_buildS (parts := #[(0, .agg #[.int .i64 u, s0, s1, s2, s3, s4, s5, s6, .int .i64 cu, .int .i64 m, .int .i64 p])]) (cells := #[.int .i64 u, s0, s1, s2, s3, s4, s5, s6, .int .i64 cu, .int .i64 m, .int .i64 p]) (by rfl) rfl rfl (by first | rfl | (simp only [List.map_toArray, List.map_cons, List.map_nil]; first | done | rfl)) Try.underlying34 I42.hi I42.hz I42.hs (by decide) (by decide) (by kernel_rfl) ?_
   rintro g106 w107 HG108 B109 C110
   have nw111 := qh (show w.heap.size ≤ g106 by have := C0.out.size; have := HG108.out; omega)
   have nx112 := qh (SL.out.ne_new (by decide) HG108)
   have nr113 := qh (OT.out.ne_new HG108)
   replace C0 := qh (C0.out.trans' C110 inw_nil)
   replace SL := qh (SL.out.chx C110 xnin_nil)
   replace OT := qh (OT.out.ch C110 rnin_nil)
   have Fg106 := qh (show Blk w107 g106 (#[.int .i64 u, s0, s1, s2, s3, s4, s5, s6, .int .i64 cu, .int .i64 m, .int .i64 p]) 42 from B109); clear B109 C110
   refine hK105.out _ _ ⟨SL.out, trivial⟩ (fun hS114 => ?_); clear hK105 K105
   try simp only [zP,zN,zA,zB,zC]
   refine one_ (i := 8) (N := some 41) (msk 10 511) rfl rfl (by kernel_rfl) (by simp) (fun K115 hK115 => ?_)
   have OE := qh (show OwnS w107 w.heap.size 42 11 (.slice (some ⟨g106, 0, none⟩) 1 1) 1 [.int .i64 u, s0, s1, s2, s3, s4, s5, s6, .int .i64 cu, .int .i64 m, .int .i64 p] from OwnS.of_blk Fg106.out nw111.out (by decide) rfl rfl); clear Fg106
   have rlE := qh (rl_some g106 1 1 (by decide))
   have xr116 := qh (show ∀ k, k ∈ xb (.slice (some a) X.length c) → k ∉ rl (.slice (some ⟨g106, 0, none⟩) 1 1) from fun k hk hm => by rw [rlE.out, List.mem_singleton] at hm; subst hm; exact nx112.out hk)
   have rr117 := qh (show ∀ k, k ∈ rl (.slice (some ⟨gv, 0, none⟩) i cv) → k ∉ rl (.slice (some ⟨g106, 0, none⟩) 1 1) from fun k hk hm => by rw [rlE.out, List.mem_singleton] at hm; subst hm; exact nr113.out hk)
   refine e_append (by rfl) rfl rfl (w.heap.size) 42 _ _ 11 144 Try.underlying34 I42.hi I42.hz I42.hs I42.hb rfl (by decide) (.slice (some ⟨g106, 0, none⟩) 1 1) (1) ([.int .i64 u, s0, s1, s2, s3, s4, s5, s6, .int .i64 cu, .int .i64 m, .int .i64 p]) (by rfl) OE.out (.slice (some A2) (i - j) (cv - j)) (i - j) (((isort (ltz cz) (X.take i)).drop j).flatMap candC) (by rfl) (csrc_drop OT.out.src hj.out.2 HCV.out.1 (fun h9 => by rw [HA2.out, if_neg (by have := HCV.out; omega)])) (flat_one candC_one _) (by unfold maxLen; have := hlt.out; have := hj.out; have := HN20.out; omega) (by have := hlt.out; have := hj.out; have := HN20.out; omega) C0.out.size ?_
   rintro v118 w119 O120 C121 R122 -
   have xr124 := qh (show ∀ k, k ∈ xb (.slice (some a) X.length c) → k ∉ rl v118 from fun k hk hm => (R122 k hm).elim (fun h => xr116.out k hk h) (fun h => by have := SL.out.lt (by decide) k hk; omega))
   have rr125 := qh (show ∀ k, k ∈ rl (.slice (some ⟨gv, 0, none⟩) i cv) → k ∉ rl v118 from fun k hk hm => (R122 k hm).elim (fun h => rr117.out k hk h) (fun h => by have := (OT.out.lt k hk).2; omega))
   replace C0 := qh (C0.out.trans' C121 (fun x hx => .inr (OE.out.lt x hx).1))
   replace SL := qh (SL.out.chx C121 xr116.out)
   replace OT := qh (OT.out.ch C121 rr117.out)
   clear OE
   have OE := qh (show OwnS w119 w.heap.size 42 11 (v118) (1 + (i - j)) ([.int .i64 u, s0, s1, s2, s3, s4, s5, s6, .int .i64 cu, .int .i64 m, .int .i64 p] ++ ((isort (ltz cz) (X.take i)).drop j).flatMap candC) from O120); clear O120 C121
   refine hK115.out _ _ ⟨SL.out, trivial⟩ (fun hS126 => ?_); clear hK115 K115
   try simp only [zP,zN,zA,zB,zC]
   refine pureh_ (i := 9) (N := some 6) (v := v118) (msk 10 1023) rfl rfl (by kernel_rfl) hP (y_assign rfl (by rfl) (by rfl)) rfl ?_
   try simp only [zP,zN,zA,zB,zC]
   refine done_ (by kernel_rfl) (th_norm (hK101 _ _ ?_)); clear hK101 K101
   refine r_ ?_
   refine ef_ (fun K127 hK127 => ?_)
   refine e_buildS0 (by rfl) rfl rfl Try.underlying34 I42.hi ?_
   rintro g128 w129 HG130 C132
   replace C0 := qh (C0.out.trans' C132 inw_nil)
   replace SL := qh (SL.out.chx C132 xnin_nil)
   replace OT := qh (OT.out.ch C132 rnin_nil)
   replace OE := qh (OE.out.ch C132 rnin_nil)
   clear C132
   have Z133 := qh (show OwnS w129 w.heap.size 42 11 (.slice (some ⟨g128, 0, none⟩) 0 0) (0) ([]) from OwnS.nil _ _ _ _ _)
   refine hK127 _ _ ?_; clear hK127 K127
   try simp only [zP,zN,zA,zB,zC]
   refine pu_ (v := .slice (some ⟨gv, 0, none⟩) i cv) (y_move rfl (by rfl) (by rfl)) ?_
   try simp only [zP,zN,zA,zB,zC]
   refine pu_ (v := .int .i64 j) (y_move rfl (by rfl) (by rfl)) ?_
   try simp only [zP,zN,zA,zB,zC]
   refine pu_ (v := .slice (some ⟨gv, 0, none⟩) j cv) (y_slice (by rfl) rfl (by rfl) (by rfl) (by rfl) (by rfl) SL1.out) ?_
   try simp only [zP,zN,zA,zB,zC]
   refine ef_ (fun K134 hK134 => ?_)
   refine e_append (by rfl) rfl rfl (w.heap.size) 42 _ _ 11 144 Try.underlying34 I42.hi I42.hz I42.hs I42.hb rfl (by decide) (.slice (some ⟨g128, 0, none⟩) 0 0) (0) ([]) (by rfl) Z133.out (.slice (some ⟨gv, 0, none⟩) j cv) j (((isort (ltz cz) (X.take i)).take j).flatMap candC) (by rfl) (csrc_take OT.out.src hj.out.2) (flat_one candC_one _) (by unfold maxLen; have := hlt.out; have := hj.out; have := HN20.out; omega) (by have := hlt.out; have := hj.out; have := HN20.out; omega) C0.out.size ?_
   rintro v135 w136 O137 C138 R139 -
   replace C138 : Ch [] _ _ := C138
   replace R139 : ∀ k, k ∈ rl v135 → w129.heap.size ≤ k := fun k hk => (R139 k hk).elim (fun h => absurd h (by simp [rl])) (fun h => h)
   have rw140 := qh (show ∀ z_, z_ ∈ rl v135 → z_ ∈ [] ∨ w.heap.size ≤ z_ from fun x hx => .inr (by have := R139 x hx; have := C0.out.size; omega))
   have xr141 := qh (show ∀ k, k ∈ xb (.slice (some a) X.length c) → k ∉ rl v135 from fun k hk hm => by have := R139 k hm; have := SL.out.lt (by decide) k hk; omega)
   have rr142 := qh (show ∀ k, k ∈ rl (.slice (some ⟨gv, 0, none⟩) i cv) → k ∉ rl v135 from fun k hk hm => by have := R139 k hm; have := (OT.out.lt k hk).2; omega)
   have rr143 := qh (show ∀ k, k ∈ rl (v118) → k ∉ rl v135 from fun k hk hm => by have := R139 k hm; have := (OE.out.lt k hk).2; omega)
   replace C0 := qh (C0.out.trans' C138 inw_nil)
   replace SL := qh (SL.out.chx C138 xnin_nil)
   replace OT := qh (OT.out.ch C138 rnin_nil)
   replace OE := qh (OE.out.ch C138 rnin_nil)
   clear Z133
   have Z133 := qh (show OwnS w136 w.heap.size 42 11 (v135) (j) (((isort (ltz cz) (X.take i)).take j).flatMap candC) from (by simpa using O137)); clear O137 C138
   refine hK134 _ _ ?_; clear hK134 K134
   try simp only [zP,zN,zA,zB,zC]
   refine pu_ (v := v118) (y_move rfl (by rfl) (by rfl)) ?_
   try simp only [zP,zN,zA,zB,zC]
   refine ef_ (fun K144 hK144 => ?_)
   obtain ⟨Ae, ze, hve, -, -⟩ := OE.out.slice
   subst hve
   refine e_append (by rfl) rfl rfl (w.heap.size) 42 _ _ 11 144 Try.underlying34 I42.hi I42.hz I42.hs I42.hb rfl (by decide) (v135) (j) (((isort (ltz cz) (X.take i)).take j).flatMap candC) (by rfl) Z133.out (.slice Ae (1 + (i - j)) ze) (1 + (i - j)) (([.int .i64 u, s0, s1, s2, s3, s4, s5, s6, .int .i64 cu, .int .i64 m, .int .i64 p] ++ ((isort (ltz cz) (X.take i)).drop j).flatMap candC)) (by rfl) OE.out.src (by rw [← HLE.out]; exact ones_app (candC_one e) (flat_one candC_one _)) (by unfold maxLen; have := hlt.out; have := hj.out; have := HN20.out; omega) (by have := hlt.out; have := hj.out; have := HN20.out; omega) C0.out.size ?_
   rintro v145 w146 O147 C148 R149 -
   have rw150 := qh (show ∀ z_, z_ ∈ rl v145 → z_ ∈ [] ∨ w.heap.size ≤ z_ from fun x hx => (R149 x hx).elim (fun h => rw140.out _ h) (fun h => .inr (by have := C0.out.size; omega)))
   have xr151 := qh (show ∀ k, k ∈ xb (.slice (some a) X.length c) → k ∉ rl v145 from fun k hk hm => (R149 k hm).elim (fun h => xr141.out k hk h) (fun h => by have := SL.out.lt (by decide) k hk; omega))
   have rr152 := qh (show ∀ k, k ∈ rl (.slice (some ⟨gv, 0, none⟩) i cv) → k ∉ rl v145 from fun k hk hm => (R149 k hm).elim (fun h => rr142.out k hk h) (fun h => by have := (OT.out.lt k hk).2; omega))
   have rr153 := qh (show ∀ k, k ∈ rl (.slice Ae (1 + (i - j)) ze) → k ∉ rl v145 from fun k hk hm => (R149 k hm).elim (fun h => rr143.out k hk h) (fun h => by have := (OE.out.lt k hk).2; omega))
   replace C0 := qh (C0.out.trans' C148 (fun x hx => .inr (Z133.out.lt x hx).1))
   replace SL := qh (SL.out.chx C148 xr141.out)
   replace OT := qh (OT.out.ch C148 rr142.out)
   replace OE := qh (OE.out.ch C148 rr143.out)
   clear Z133
   have Z133 := qh (show OwnS w146 w.heap.size 42 11 (v145) (j + (1 + (i - j))) (((isort (ltz cz) (X.take i)).take j).flatMap candC ++ ([.int .i64 u, s0, s1, s2, s3, s4, s5, s6, .int .i64 cu, .int .i64 m, .int .i64 p] ++ ((isort (ltz cz) (X.take i)).drop j).flatMap candC)) from O147); clear O147 C148
   refine hK144 _ _ ?_; clear hK144 K144
   try simp only [zP,zN,zA,zB,zC]
   refine pu_ (v := v145) (y_assign rfl (by rfl) (by rfl)) ?_
   try simp only [zP,zN,zA,zB,zC]
   refine nl_ ?_
   refine ib_norm ?_
   refine th_norm (hK74 _ _ ?_); try clear hK74 K74
   refine r_ ?_
   refine pu_ (v := .int .i64 i) (y_move rfl (by rfl) (by rfl)) ?_
   try simp only [zP,zN,zA,zB,zC]
   refine pu_ (v := .int .i64 (i + 1 : Nat)) (y_run (by rfl) (fun W => by have d := Wi.out; go_simp)) ?_
   try simp only [zP,zN,zA,zB,zC]
   refine pu_ (v := .int .i64 (i + 1 : Nat)) (y_assign rfl (by rfl) (by rfl)) ?_
   try simp only [zP,zN,zA,zB,zC]
   refine nl_ ?_
   exact th_norm (hK6 (kq - 1) _ _ (by have := hlt.out; have := hi.out; omega) ⟨i + 1, _, rfl, C0, SL, qh (by have h9 := Z133.out; rw [isort_snoc _ he.out, HFIN.out]; rw [HTK.out, HDR.out, List.flatMap_append, List.flatMap_cons, HLE.out, show i + 1 = j + (1 + (i - j)) by have := hj.out; omega]; exact h9), qh ⟨by have := hlt.out; omega, by have := hlt.out; have := hi.out; omega⟩, qh (xr151.out), qh (fun h => absurd h (by omega))⟩)
 ·have D12 := qh (show ¬ i < X.length by have := hi.out; omega)
  have HE := qh h
  clear h
  refine s_ (fun K154 hK154 => ?_)
  refine pu_ (v := .int .i64 i) (y_move rfl (by rfl) (by rfl)) ?_
  try simp only [zP,zN,zA,zB,zC]
  refine pu_ (v := .slice A X.length c) (y_move rfl (by rfl) (by rfl)) ?_
  try simp only [zP,zN,zA,zB,zC]
  refine pu_ (v := .int .i64 X.length) (y_run (by rfl) (fun W => by go_simp)) ?_
  try simp only [zP,zN,zA,zB,zC]
  refine pu_ (v := .bool false) (y_run (by rfl) (fun W => by have d := D12.out; go_simp)) ?_
  try simp only [zP,zN,zA,zB,zC]
  refine nl_ (hK154 _ _ ?_); clear hK154 K154
  refine wp_cond_false rfl ?_
  refine wp_exit ?_
  refine th_exit ?_
  refine th_exit ?_
  refine ib_exit ?_
  refine th_norm (hK3 _ _ ?_); try clear hK3 K3
  refine s_ (fun K155 hK155 => ?_)
  refine pu_ (v := .slice none 0 0) (y_assign rfl (by rfl) (by rfl)) ?_
  try simp only [zP,zN,zA,zB,zC]
  refine nl_ (hK155 _ _ ?_); clear hK155 K155
  refine sq_ (fun K156 hK156 => ?_)
  refine s_ (fun K157 hK157 => ?_)
  refine pu_ (v := .int .i64 0) (y_assign rfl (by rfl) (by rfl)) ?_
  try simp only [zP,zN,zA,zB,zC]
  refine nl_ (hK157 _ _ ?_); clear hK157 K157
  refine wp_block ?_
  have OS := qh (show OwnS w5 w.heap.size 42 11 vt X.length ((isort (ltz cz) X).flatMap candC) from by have h9 := OT.out; rw [HE.out, List.take_length] at h9; exact h9); clear OT
  obtain ⟨Ao, co, hvo, -, -⟩ := OS.out.slice
  subst hvo
  have OU0 := qh (show OwnS w5 w.heap.size 3 1 (.slice none 0 0) 0 (((isort (ltz cz) X).take 0).map uidV) from OwnS.nil _ _ _ _ _)
  refine loopk_ (fun (kq : Nat) (a' : Act) (w' : World) => ∃ (k : Nat), ∃ (vu : Value), a' = ⟨#[uo a' 0, uo a' 1, .slice none 0 0, .slice Ao X.length co, uo a' 4, uo a' 5, uo a' 6, vu, .int .i64 k, uo a' 9, uo a' 10, uo a' 11, uo a' 12, uo a' 13, uo a' 14, uo a' 15, uo a' 16, uo a' 17, uo a' 18, uo a' 19, uo a' 20, uo a' 21, uo a' 22, uo a' 23, uo a' 24, uo a' 25, uo a' 26, uo a' 27, uo a' 28, uo a' 29, uo a' 30, uo a' 31, uo a' 32, uo a' 33, uo a' 34, uo a' 35, uo a' 36, uo a' 37, uo a' 38, uo a' 39, uo a' 40, uo a' 41, uo a' 42, uo a' 43, uo a' 44, uo a' 45, uo a' 46, uo a' 47, uo a' 48, uo a' 49, uo a' 50, uo a' 51, uo a' 52, uo a' 53, uo a' 54, uo a' 55, uo a' 56, uo a' 57, uo a' 58, uo a' 59, uo a' 60, uo a' 61, uo a' 62, uo a' 63], []⟩ ∧ Hid (Ch [] w w') ∧ Hid (OwnS w' w.heap.size 42 11 (.slice Ao X.length co) (X.length) ((isort (ltz cz) X).flatMap candC)) ∧ Hid (OwnS w' w.heap.size 3 1 (vu) (k) (((isort (ltz cz) X).take k).map uidV)) ∧ Hid (k ≤ X.length ∧ kq + k = X.length)) (X.length) (⟨0, _, rfl, C0, OS, OU0, qh ⟨by omega, by omega⟩⟩) ?_
  rintro kq a_ w158 ⟨k, vu, ha_, C0, OS, OU, hk⟩ K159 hK159
  obtain ⟨us, hus_⟩ : ∃ us, us = uo a_ := ⟨_, rfl⟩; try rw [← hus_] at ha_
  subst ha_; clear hus_
  refine sq_ (fun K160 hK160 => ?_)
  rcases at_ways' (L := (isort (ltz cz) X)) (k := k) (by rw [isort_len]; exact hk.out.1) with ⟨x, ho0, hlt0⟩ | h
  ·have hlt := qh (show k < X.length by rw [isort_len] at hlt0; exact hlt0)
   have ho := qh ho0
   clear hlt0 ho0
   obtain ⟨go, co2, hv, -, -, -, -, -⟩ := OS.out.some_ (by have := hlt.out; omega)
   injection hv with hv1 _ hv3
   subst hv1 hv3
   have D52 := qh (show (k : Int) < (X.length : Int) by have := hlt.out; omega)
   have Wk := qh (show IntKind.i64.wrap ((k : Int) + 1) = ((k + 1 : Nat) : Int) by rw [wr64 (by have := hlt.out; have h7 := HN20.out; omega)]; omega)
   refine s_ (fun K161 hK161 => ?_)
   refine pu_ (v := .int .i64 k) (y_move rfl (by rfl) (by rfl)) ?_
   try simp only [zP,zN,zA,zB,zC]
   refine pu_ (v := .slice (some ⟨go, 0, none⟩) X.length co) (y_move rfl (by rfl) (by rfl)) ?_
   try simp only [zP,zN,zA,zB,zC]
   refine pu_ (v := .int .i64 X.length) (y_run (by rfl) (fun W => by go_simp)) ?_
   try simp only [zP,zN,zA,zB,zC]
   refine pu_ (v := .bool true) (y_run (by rfl) (fun W => by have d := D52.out; go_simp)) ?_
   try simp only [zP,zN,zA,zB,zC]
   refine nl_ (hK161 _ _ ?_); clear hK161 K161
   refine wp_cond_true rfl ?_
   refine wp_skip ?_
   refine th_norm (hK160 _ _ ?_); try clear hK160 K160
   refine sq_ (fun K162 hK162 => ?_)
   refine wp_block ?_
   refine r_ ?_
   refine pu_ (v := vu) (y_move rfl (by rfl) (by rfl)) ?_
   try simp only [zP,zN,zA,zB,zC]
   refine pu_ (v := .slice (some ⟨go, 0, none⟩) X.length co) (y_move rfl (by rfl) (by rfl)) ?_
   try simp only [zP,zN,zA,zB,zC]
   refine pu_ (v := .int .i64 k) (y_move rfl (by rfl) (by rfl)) ?_
   try simp only [zP,zN,zA,zB,zC]
   refine pu_ (v := .pointer (some ⟨go, k * 11, none⟩)) (y_run (by rfl) (fun W => by have d := D52.out; go_simp)) ?_
   try simp only [zP,zN,zA,zB,zC]
   refine pu_ (v := .pointer (some ⟨go, k * 11, none⟩)) (y_run (by rfl) (fun W => by go_simp)) ?_
   try simp only [zP,zN,zA,zB,zC]
   refine ld_ (v := .int .i64 x.uid) rfl (by rfl) (by rfl) (run_load_one (by have h9 := own_at candC_len OS.out ho.out 0 (.int .i64 x.uid) (by simp [candC]); rw [add_plain, Nat.add_zero] at h9; exact h9) Try.underlying3 rfl) ?_
   try simp only [zP,zN,zA,zB,zC]
   refine ef_ (fun K163 hK163 => ?_)
   refine e_buildS (parts := #[(0, .int .i64 x.uid)]) (cells := #[.int .i64 x.uid]) (by rfl) rfl rfl (by first | rfl | (simp only [List.map_toArray, List.map_cons, List.map_nil]; first | done | rfl)) Try.underlying51 I3.hi I3.hz I3.hs (by decide) (by decide) (by kernel_rfl) ?_
   rintro g164 w165 HG166 B167 C168
   have nw169 := qh (show w.heap.size ≤ g164 by have := C0.out.size; have := HG166.out; omega)
   have nr170 := qh (OU.out.ne_new HG166)
   replace C0 := qh (C0.out.trans' C168 inw_nil)
   replace OS := qh (OS.out.ch C168 rnin_nil)
   replace OU := qh (OU.out.ch C168 rnin_nil)
   have Fg164 := qh (show Blk w165 g164 (#[.int .i64 x.uid]) 3 from B167); clear B167 C168
   refine hK163 _ _ ?_; clear hK163 K163
   try simp only [zP,zN,zA,zB,zC]
   refine ef_ (fun K171 hK171 => ?_)
   refine e_append (by rfl) rfl rfl (w.heap.size) 3 _ _ 1 8 Try.underlying51 I3.hi I3.hz I3.hs I3.hb rfl (by decide) (vu) (k) (((isort (ltz cz) X).take k).map uidV) (by rfl) OU.out (.slice (some ⟨g164, 0, none⟩) 1 1) 1 ([uidV x]) (by rfl) ⟨rfl, .inr ⟨_, _, rfl, CellsAt.blk Fg164.out 0⟩⟩ (ones_cons rfl ones_nil) (by unfold maxLen; have := hlt.out; have := HN20.out; omega) (by have := hlt.out; have := HN20.out; omega) C0.out.size ?_
   rintro v172 w173 O174 C175 R176 -
   have nr178 := qh (show g164 ∉ rl v172 from fun hk => (R176 _ hk).elim nr170.out (fun h => by have := Fg164.out.lt; omega))
   replace C0 := qh (C0.out.trans' C175 (fun x hx => .inr (OU.out.lt x hx).1))
   replace OS := qh (OS.out.ch C175 (OwnS.rne OS.out OU.out (by decide)))
   replace Fg164 := qh (C175.blk Fg164.out nr170.out)
   clear OU
   have OU := qh (show OwnS w173 w.heap.size 3 1 (v172) (k + 1) (((isort (ltz cz) X).take k).map uidV ++ [uidV x]) from O174); clear O174 C175
   refine hK171 _ _ ?_; clear hK171 K171
   try simp only [zP,zN,zA,zB,zC]
   refine pu_ (v := v172) (y_assign rfl (by rfl) (by rfl)) ?_
   try simp only [zP,zN,zA,zB,zC]
   refine nl_ ?_
   refine ib_norm ?_
   refine th_norm (hK162 _ _ ?_); try clear hK162 K162
   refine r_ ?_
   refine pu_ (v := .int .i64 k) (y_move rfl (by rfl) (by rfl)) ?_
   try simp only [zP,zN,zA,zB,zC]
   refine pu_ (v := .int .i64 (k + 1 : Nat)) (y_run (by rfl) (fun W => by have d := Wk.out; go_simp)) ?_
   try simp only [zP,zN,zA,zB,zC]
   refine pu_ (v := .int .i64 (k + 1 : Nat)) (y_assign rfl (by rfl) (by rfl)) ?_
   try simp only [zP,zN,zA,zB,zC]
   refine nl_ ?_
   exact th_norm (hK159 (kq - 1) _ _ (by have := hlt.out; have := hk.out; omega) ⟨k + 1, _, rfl, C0, OS, qh (by have h9 := OU.out; rw [take_snoc ho.out, List.map_append, List.map_cons, List.map_nil]; exact h9), qh ⟨by have := hlt.out; omega, by have := hlt.out; have := hk.out; omega⟩⟩)
  ·rw [isort_len] at h
   have D52 := qh (show ¬ k < X.length by have := hk.out; omega)
   have HE2 := qh h
   clear h
   refine s_ (fun K179 hK179 => ?_)
   refine pu_ (v := .int .i64 k) (y_move rfl (by rfl) (by rfl)) ?_
   try simp only [zP,zN,zA,zB,zC]
   refine pu_ (v := .slice Ao X.length co) (y_move rfl (by rfl) (by rfl)) ?_
   try simp only [zP,zN,zA,zB,zC]
   refine pu_ (v := .int .i64 X.length) (y_run (by rfl) (fun W => by go_simp)) ?_
   try simp only [zP,zN,zA,zB,zC]
   refine pu_ (v := .bool false) (y_run (by rfl) (fun W => by have d := D52.out; go_simp)) ?_
   try simp only [zP,zN,zA,zB,zC]
   refine nl_ (hK179 _ _ ?_); clear hK179 K179
   refine wp_cond_false rfl ?_
   refine wp_exit ?_
   refine th_exit ?_
   refine th_exit ?_
   refine ib_exit ?_
   refine th_norm (hK156 _ _ ?_); try clear hK156 K156
   refine s_ (fun K180 hK180 => ?_)
   refine pu_ (v := vu) (y_move rfl (by rfl) (by rfl)) ?_
   try simp only [zP,zN,zA,zB,zC]
   refine pu_ (v := vu) (y_assign rfl (by rfl) (by rfl)) ?_
   try simp only [zP,zN,zA,zB,zC]
   refine nl_ (hK180 _ _ ?_); clear hK180 K180
   refine wp_ret ?_
   refine hQ _ _ _ ?_
   refine bodyPost_ret (res1 rfl (rdv_tmp (v := vu) (by rfl))) rfl ?_
   exact ⟨_, rfl, by have h9 := OU.out; rw [HE2.out, List.take_of_length_le (by rw [isort_len]; exact Nat.le_refl _)] at h9; exact h9, C0.out⟩
end
end Go.Proofs.Ytmoelehhofmhcaa.V
