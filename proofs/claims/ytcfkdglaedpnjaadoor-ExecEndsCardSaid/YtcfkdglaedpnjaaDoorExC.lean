/- The walks of package exec: a text as a program writes it. -/
import Derived.Test.YtcfkdglaedpnjaaDoorExT
namespace Go.Proofs.YtcfkdglaedpnjaaDoor.V
open Go Go.RowKit Go.Proofs.YtcfkdglaedpnjaaDoor.K Go.Proofs.YtcfkdglaedpnjaaDoor.R Go.Proofs.YtcfkdglaedpnjaaDoorW.PrintLast
set_option linter.unusedVariables false
set_option linter.unusedSimpArgs false
set_option maxRecDepth 100000
set_option maxHeartbeats 1600000
section
variable {w : World}
theorem at_up {l : List UInt8} {k : Nat} {c : UInt8} (h : l[k]? = some c) : ((l.take k).map upB ++ l.drop k)[k]? = some c := by
  have hk : k < l.length := (List.getElem?_eq_some_iff.1 h).1
  rw [List.getElem?_append_right (by rw [List.length_map, List.length_take]; omega), List.length_map, List.length_take, List.getElem?_drop, show k + (k - min k l.length) = k by omega, h]
theorem up_set {l : List UInt8} {k : Nat} {c : UInt8} (h : l[k]? = some c) : ((l.take k).map upB ++ l.drop k).set k (upB c) = (l.take (k + 1)).map upB ++ l.drop (k + 1) := by
  obtain ⟨hk, rfl⟩ := List.getElem?_eq_some_iff.1 h
  rw [List.set_append_right _ _ (by rw [List.length_map, List.length_take]; omega), List.length_map, List.length_take, show k - min k l.length = 0 by omega, List.drop_eq_getElem_cons hk, List.set_cons_zero, take_snoc h, List.map_append, List.map_cons, List.map_nil, List.append_assoc]
  rfl
theorem up_keep {l : List UInt8} {k : Nat} {c : UInt8} (h : l[k]? = some c) (hc : upB c = c) : (l.take k).map upB ++ l.drop k = (l.take (k + 1)).map upB ++ l.drop (k + 1) := by
  rw [← up_set h, hc]
  apply List.ext_getElem?
  intro i
  by_cases hi : k = i
  · subst hi
    rw [at_up h, List.getElem?_set_self (by have := at_up h; exact (List.getElem?_eq_some_iff.1 this).1)]
  · rw [List.getElem?_set_ne hi]
theorem up_all (l : List UInt8) : (l.take l.length).map upB ++ l.drop l.length = l.map upB := by rw [List.take_length, List.drop_length, List.append_nil]
theorem up_yes {c : UInt8} (h : 97 ≤ c.toNat ∧ c.toNat ≤ 122) : upB c = c - 32 ∧ (c - 32).toNat = c.toNat - 32 := by
  have h1 : (97 : UInt8) ≤ c := UInt8.le_iff_toNat_le.2 h.1
  have h2 : c ≤ (122 : UInt8) := UInt8.le_iff_toNat_le.2 h.2
  refine ⟨if_pos ⟨h1, h2⟩, UInt8.toNat_sub_of_le _ _ (UInt8.le_iff_toNat_le.2 (by show 32 ≤ c.toNat; omega))⟩
theorem up_no {c : UInt8} (h : ¬ (97 ≤ c.toNat ∧ c.toNat ≤ 122)) : upB c = c := by
  refine if_neg fun ⟨h1, h2⟩ => h ⟨UInt8.le_iff_toNat_le.1 h1, UInt8.le_iff_toNat_le.1 h2⟩
theorem wr8 {n : Int} (h : 0 ≤ n ∧ n < 256) : IntKind.u8.wrap n = n := by rw [IntKind.wrap_u8]; omega
theorem at_byte {t : ByteArray} {k : Nat} {c : UInt8} (h : t.data.toList[k]? = some c) : ∀ hk : k < t.size, t[k]'hk = c := fun hk => by
  obtain ⟨h1, h2⟩ := List.getElem?_eq_some_iff.1 h
  rw [← h2]
  rfl
theorem tl_len (t : ByteArray) : t.data.toList.length = t.size := by rw [Array.length_toList]; rfl
theorem plain_ {t : ByteArray} (HN : Hid (t.size ≤ 100000))  :
    Calls Tryd.prog 41 #[.string t] w fun en w' => en = .returned (.bool (t.data.toList.all fun c => decide (c.toNat < 128))) ∧ Ch [] w w' := by
  have C0 := Lib.hid (Ch.refl [] w)
  go_enter Tryd.func41, Tryd.ntmps41
  refine q_ (fun Q hQ hP => ?_)
  refine s_ (fun K1 hK1 => ?_)
  refine pu_ (v := .bool false) (y_assign rfl (by rfl) (by rfl)) ?_
  (try simp only [zP, zN, zA, zB, zC])
  refine nl_ (hK1 _ _ ?_); clear hK1 K1
  refine sq_ (fun K2 hK2 => ?_)
  refine s_ (fun K3 hK3 => ?_)
  refine pu_ (v := .string t) (y_move rfl (by rfl) (by rfl)) ?_
  (try simp only [zP, zN, zA, zB, zC])
  refine pu_ (v := .int .i64 t.size) (y_run (by rfl) (fun W => by go_simp)) ?_
  (try simp only [zP, zN, zA, zB, zC])
  refine pu_ (v := .int .i64 0) (y_move rfl (by rfl) (by rfl)) ?_
  (try simp only [zP, zN, zA, zB, zC])
  refine nl_ (hK3 _ _ ?_); clear hK3 K3
  refine wp_block ?_
  refine loopk_ (fun (kq : Nat) (a' : Act) (w' : World) => ∃ (k : Nat), ∃ (us : Nat → Value), a' = ⟨#[.string t, us 1, us 2, us 3, us 4, .int .i64 t.size, .int .i64 k, us 7, us 8, us 9, us 10, us 11, us 12, us 13], []⟩ ∧ Hid (Ch [] w w') ∧ Hid (k ≤ t.data.toList.length ∧ kq + k = t.data.toList.length) ∧ Hid (∀ (i : Nat) (c : UInt8), i < k → t.data.toList[i]? = some c → c.toNat < 128)) (t.data.toList.length) (⟨0, fun us_ => (#[.string t, undef, .bool false, undef, .string t, .int .i64 t.size, .int .i64 0, undef, undef, undef, undef, undef, undef, undef] : Array Value).getD us_ undef, rfl, C0, Lib.hid ⟨by omega, by omega⟩, Lib.hid (fun i _ hi => absurd hi (Nat.not_lt_zero i))⟩) ?_
  rintro kq _ w4 ⟨k, us, rfl, C0, hk, hb⟩ K5 hK5
  rcases at_ways' hk.out.1 with ⟨c, ho0, hlt0⟩ | h; rcases (show 128 ≤ c.toNat ∨ c.toNat < 128 by omega) with hc | hc
  · have hlt := Lib.hid hlt0
    have ho := Lib.hid ho0
    have H128 := Lib.hid hc
    clear hlt0 ho0 hc
    have D7 := Lib.hid (show (k : Int) < (t.size : Int) by have := hlt.out; have := tl_len t; omega)
    have Wk := Lib.hid (show IntKind.i64.wrap ((k : Int) + 1) = ((k + 1 : Nat) : Int) by rw [wr64 (by have := hlt.out; have h7 := HN.out; have := tl_len t; omega)]; omega)
    have HBY := Lib.hid (at_byte ho.out)
    have D11 := Lib.hid (show k < t.size by have := hlt.out; have := tl_len t; omega)
    have D12 := Lib.hid (show (128 : Int) ≤ (c.toNat : Int) by have := H128.out; omega)
    refine s_ (fun K6 hK6 => ?_)
    refine pu_ (v := .bool true) (y_run (by rfl) (fun W => by have d := D7.out; go_simp)) ?_
    (try simp only [zP, zN, zA, zB, zC])
    refine nl_ (hK6 _ _ ?_); clear hK6 K6
    refine sq_ (fun K7 hK7 => ?_)
    refine wp_cond_true rfl ?_
    refine wp_skip ?_
    refine th_norm (hK7 _ _ ?_); try clear hK7 K7
    refine sq_ (fun K8 hK8 => ?_)
    refine wp_block ?_
    refine s_ (fun K9 hK9 => ?_)
    refine pu_ (v := .int .i64 k) (y_move rfl (by rfl) (by rfl)) ?_
    (try simp only [zP, zN, zA, zB, zC])
    refine pu_ (v := .int .i64 k) (y_assign rfl (by rfl) (by rfl)) ?_
    (try simp only [zP, zN, zA, zB, zC])
    refine nl_ (hK9 _ _ ?_); clear hK9 K9
    refine s_ (fun K10 hK10 => ?_)
    refine pu_ (v := .string t) (y_move rfl (by rfl) (by rfl)) ?_
    (try simp only [zP, zN, zA, zB, zC])
    refine pu_ (v := .int .i64 k) (y_move rfl (by rfl) (by rfl)) ?_
    (try simp only [zP, zN, zA, zB, zC])
    refine pu_ (v := .int .u8 c.toNat) (y_run (by rfl) (fun W => by have d := D11.out; have e := HBY.out; go_simp)) ?_
    (try simp only [zP, zN, zA, zB, zC])
    refine pu_ (v := .bool true) (y_run (by rfl) (fun W => by have d := D12.out; go_simp)) ?_
    (try simp only [zP, zN, zA, zB, zC])
    refine nl_ (hK10 _ _ ?_); clear hK10 K10
    refine wp_cond_true rfl ?_
    refine s_ (fun K11 hK11 => ?_)
    refine pu_ (v := .bool false) (y_assign rfl (by rfl) (by rfl)) ?_
    (try simp only [zP, zN, zA, zB, zC])
    refine nl_ (hK11 _ _ ?_); clear hK11 K11
    refine wp_ret ?_
    refine ib_ret ?_
    refine th_ret ?_
    refine th_ret ?_
    refine ib_ret ?_
    refine th_ret ?_
    refine hQ _ _ _ ?_
    refine bodyPost_ret (res1 rfl (rdv_tmp (v := .bool false) (by rfl))) rfl ?_
    exact ⟨by rw [show (t.data.toList.all fun c => decide (c.toNat < 128)) = false from List.all_eq_false.2 ⟨c, List.mem_of_getElem? ho.out, by have := H128.out; simp; omega⟩], C0.out⟩
  · have hlt := Lib.hid hlt0
    have ho := Lib.hid ho0
    have H128 := Lib.hid hc
    clear hlt0 ho0 hc
    have D7 := Lib.hid (show (k : Int) < (t.size : Int) by have := hlt.out; have := tl_len t; omega)
    have Wk := Lib.hid (show IntKind.i64.wrap ((k : Int) + 1) = ((k + 1 : Nat) : Int) by rw [wr64 (by have := hlt.out; have h7 := HN.out; have := tl_len t; omega)]; omega)
    have HBY := Lib.hid (at_byte ho.out)
    have D11 := Lib.hid (show k < t.size by have := hlt.out; have := tl_len t; omega)
    have D12 := Lib.hid (show ¬ (128 : Int) ≤ (c.toNat : Int) by have := H128.out; omega)
    refine s_ (fun K12 hK12 => ?_)
    refine pu_ (v := .bool true) (y_run (by rfl) (fun W => by have d := D7.out; go_simp)) ?_
    (try simp only [zP, zN, zA, zB, zC])
    refine nl_ (hK12 _ _ ?_); clear hK12 K12
    refine sq_ (fun K13 hK13 => ?_)
    refine wp_cond_true rfl ?_
    refine wp_skip ?_
    refine th_norm (hK13 _ _ ?_); try clear hK13 K13
    refine sq_ (fun K14 hK14 => ?_)
    refine wp_block ?_
    refine s_ (fun K15 hK15 => ?_)
    refine pu_ (v := .int .i64 k) (y_move rfl (by rfl) (by rfl)) ?_
    (try simp only [zP, zN, zA, zB, zC])
    refine pu_ (v := .int .i64 k) (y_assign rfl (by rfl) (by rfl)) ?_
    (try simp only [zP, zN, zA, zB, zC])
    refine nl_ (hK15 _ _ ?_); clear hK15 K15
    refine s_ (fun K16 hK16 => ?_)
    refine pu_ (v := .string t) (y_move rfl (by rfl) (by rfl)) ?_
    (try simp only [zP, zN, zA, zB, zC])
    refine pu_ (v := .int .i64 k) (y_move rfl (by rfl) (by rfl)) ?_
    (try simp only [zP, zN, zA, zB, zC])
    refine pu_ (v := .int .u8 c.toNat) (y_run (by rfl) (fun W => by have d := D11.out; have e := HBY.out; go_simp)) ?_
    (try simp only [zP, zN, zA, zB, zC])
    refine pu_ (v := .bool false) (y_run (by rfl) (fun W => by have d := D12.out; go_simp)) ?_
    (try simp only [zP, zN, zA, zB, zC])
    refine nl_ (hK16 _ _ ?_); clear hK16 K16
    refine wp_cond_false rfl ?_
    refine wp_skip ?_
    refine ib_norm ?_
    refine th_norm (hK14 _ _ ?_); try clear hK14 K14
    refine r_ ?_
    refine pu_ (v := .int .i64 (k + 1 : Nat)) (y_run (by rfl) (fun W => by have d := Wk.out; go_simp)) ?_
    (try simp only [zP, zN, zA, zB, zC])
    refine pu_ (v := .int .i64 (k + 1 : Nat)) (y_move rfl (by rfl) (by rfl)) ?_
    (try simp only [zP, zN, zA, zB, zC])
    refine nl_ ?_
    exact th_norm (hK5 (kq - 1) _ _ (by have := hlt.out; have := hk.out; omega) ⟨k + 1, fun us_ => (#[.string t, us 1, us 2, .int .i64 k, us 4, .int .i64 t.size, .int .i64 (k + 1 : Nat), .bool true, .int .i64 k, .string t, .int .i64 k, .int .u8 c.toNat, .bool false, .int .i64 (k + 1 : Nat)] : Array Value).getD us_ undef, rfl, C0, Lib.hid ⟨by have := hlt.out; omega, by have := hlt.out; have := hk.out; omega⟩, Lib.hid (fun i c' hi hc' => by rcases (show i < k ∨ i = k by omega) with h9 | h9; exact hb.out i c' h9 hc'; subst h9; rw [ho.out] at hc'; injection hc' with h8; rw [← h8]; have := H128.out; omega)⟩)
  · have D7 := Lib.hid (show ¬ k < t.size by have := hk.out; have := tl_len t; omega)
    have HE := Lib.hid h
    clear h
    refine s_ (fun K17 hK17 => ?_)
    refine pu_ (v := .bool false) (y_run (by rfl) (fun W => by have d := D7.out; go_simp)) ?_
    (try simp only [zP, zN, zA, zB, zC])
    refine nl_ (hK17 _ _ ?_); clear hK17 K17
    refine sq_ (fun K18 hK18 => ?_)
    refine wp_cond_false rfl ?_
    refine wp_exit ?_
    refine th_exit ?_
    refine th_exit ?_
    refine ib_exit ?_
    refine th_norm (hK2 _ _ ?_); try clear hK2 K2
    refine s_ (fun K19 hK19 => ?_)
    refine pu_ (v := .bool true) (y_assign rfl (by rfl) (by rfl)) ?_
    (try simp only [zP, zN, zA, zB, zC])
    refine nl_ (hK19 _ _ ?_); clear hK19 K19
    refine wp_ret ?_
    refine hQ _ _ _ ?_
    refine bodyPost_ret (res1 rfl (rdv_tmp (v := .bool true) (by rfl))) rfl ?_
    exact ⟨by rw [show (t.data.toList.all fun c => decide (c.toNat < 128)) = true from List.all_eq_true.2 fun c hc => by obtain ⟨i, hi⟩ := List.mem_iff_getElem?.1 hc; exact decide_eq_true (hb.out i c (by have h9 := (List.getElem?_eq_some_iff.1 hi).1; have := HE.out; omega) hi)], C0.out⟩
theorem turned_ {t : ByteArray} (HN : Hid (t.size ≤ 100000)) (HCP : Hid ((t.data.toList.all fun c => decide (c.toNat < 128)) = true → ∀ W, Ch [] w W → Calls Tryd.prog 42 #[.string t] W fun en w' => en = .returned (.string (str (t.data.toList.map upB))) ∧ Ch [] W w'))  :
    Calls Tryd.prog 27 #[.string t] w fun en w' => en = .returned (.string (str (t.data.toList.map upB))) ∧ Ch [] w w' := by
  have C0 := Lib.hid (Ch.refl [] w)
  go_enter Tryd.func27, Tryd.ntmps27
  refine q_ (fun Q hQ hP => ?_)
  refine s_ (fun K1 hK1 => ?_)
  refine pu_ (v := .string {data := #[]}) (y_assign rfl (by rfl) (by rfl)) ?_
  (try simp only [zP, zN, zA, zB, zC])
  refine nl_ (hK1 _ _ ?_); clear hK1 K1
  refine sq_ (fun K2 hK2 => ?_)
  rcases Bool.eq_false_or_eq_true (t.data.toList.all fun c => decide (c.toNat < 128)) with h | h
  · have HP := Lib.hid h
    clear h
    refine s_ (fun K3 hK3 => ?_)
    refine pu_ (v := .string t) (y_move rfl (by rfl) (by rfl)) ?_
    (try simp only [zP, zN, zA, zB, zC])
    refine ef_ (fun K4 hK4 => ?_)
    refine e_call Tryd.func41 (by kernel_rfl) rfl #[.string t] (by rfl) rfl rfl (by first | rfl | (simp only [List.map_toArray, List.map_cons, List.map_nil]; first | done | rfl)) ((plain_ HN)) ?_
    rintro en w6 ⟨rfl, cc5⟩
    refine ⟨_, rfl, ?_⟩
    rw [HP.out]
    have C0' := Lib.hid (show Ch [] w w6 from C0.out.trans' cc5 (fun x hx => absurd hx (by simp)))
    clear C0
    have C0 := C0'; clear C0'
    clear cc5
    refine hK4 _ _ ?_; clear hK4 K4
    (try simp only [zP, zN, zA, zB, zC])
    refine nl_ (hK3 _ _ ?_); clear hK3 K3
    refine wp_cond_true rfl ?_
    refine s_ (fun K7 hK7 => ?_)
    refine pu_ (v := .string t) (y_move rfl (by rfl) (by rfl)) ?_
    (try simp only [zP, zN, zA, zB, zC])
    refine ef_ (fun K8 hK8 => ?_)
    refine e_call Tryd.func42 (by kernel_rfl) rfl #[.string t] (by rfl) rfl rfl (by first | rfl | (simp only [List.map_toArray, List.map_cons, List.map_nil]; first | done | rfl)) ((HCP.out HP.out _ C0.out)) ?_
    rintro en w10 ⟨rfl, cc9⟩
    refine ⟨_, rfl, ?_⟩
    have C0' := Lib.hid (show Ch [] w w10 from C0.out.trans' cc9 (fun x hx => absurd hx (by simp)))
    clear C0
    have C0 := C0'; clear C0'
    clear cc9
    refine hK8 _ _ ?_; clear hK8 K8
    (try simp only [zP, zN, zA, zB, zC])
    refine pu_ (v := .string (str (t.data.toList.map upB))) (y_assign rfl (by rfl) (by rfl)) ?_
    (try simp only [zP, zN, zA, zB, zC])
    refine nl_ (hK7 _ _ ?_); clear hK7 K7
    refine wp_ret ?_
    refine th_ret ?_
    refine hQ _ _ _ ?_
    refine bodyPost_ret (res1 rfl (rdv_tmp (v := .string (str (t.data.toList.map upB))) (by rfl))) rfl ?_
    exact ⟨rfl, C0.out⟩
  · have HP := Lib.hid h
    clear h
    refine s_ (fun K11 hK11 => ?_)
    refine pu_ (v := .string t) (y_move rfl (by rfl) (by rfl)) ?_
    (try simp only [zP, zN, zA, zB, zC])
    refine ef_ (fun K12 hK12 => ?_)
    refine e_call Tryd.func41 (by kernel_rfl) rfl #[.string t] (by rfl) rfl rfl (by first | rfl | (simp only [List.map_toArray, List.map_cons, List.map_nil]; first | done | rfl)) ((plain_ HN)) ?_
    rintro en w14 ⟨rfl, cc13⟩
    refine ⟨_, rfl, ?_⟩
    rw [HP.out]
    have C0' := Lib.hid (show Ch [] w w14 from C0.out.trans' cc13 (fun x hx => absurd hx (by simp)))
    clear C0
    have C0 := C0'; clear C0'
    clear cc13
    refine hK12 _ _ ?_; clear hK12 K12
    (try simp only [zP, zN, zA, zB, zC])
    refine nl_ (hK11 _ _ ?_); clear hK11 K11
    refine wp_cond_false rfl ?_
    refine wp_skip ?_
    refine th_norm (hK2 _ _ ?_); try clear hK2 K2
    refine s_ (fun K15 hK15 => ?_)
    refine pu_ (v := .string t) (y_move rfl (by rfl) (by rfl)) ?_
    (try simp only [zP, zN, zA, zB, zC])
    refine ef_ (fun K16 hK16 => ?_)
    refine e_bytes (by rfl) rfl rfl (s := t) (by rfl) Tryd.underlying9 Tryd.underlying72 Tryd.underlying5 ?_
    rintro g cap w17 HG18 B19 C20
    have hgN := Lib.hid (show w.heap.size ≤ g by have := C0.out.size; have := HG18.out; omega)
    have C0' := Lib.hid (show Ch [] w w17 from C0.out.trans' C20 (fun x hx => absurd hx (by simp)))
    clear C0
    have C0 := C0'; clear C0'
    have BR := Lib.hid (show ByR w17 g t.data.toList from B19); clear B19 C20
    refine hK16 _ _ ?_; clear hK16 K16
    (try simp only [zP, zN, zA, zB, zC])
    refine pu_ (v := .slice (some ⟨g, 0, none⟩) t.size cap) (y_assign rfl (by rfl) (by rfl)) ?_
    (try simp only [zP, zN, zA, zB, zC])
    refine nl_ (hK15 _ _ ?_); clear hK15 K15
    refine sq_ (fun K21 hK21 => ?_)
    refine s_ (fun K22 hK22 => ?_)
    refine pu_ (v := .slice (some ⟨g, 0, none⟩) t.size cap) (y_move rfl (by rfl) (by rfl)) ?_
    (try simp only [zP, zN, zA, zB, zC])
    refine pu_ (v := .int .i64 t.size) (y_run (by rfl) (fun W => by go_simp)) ?_
    (try simp only [zP, zN, zA, zB, zC])
    refine pu_ (v := .int .i64 0) (y_move rfl (by rfl) (by rfl)) ?_
    (try simp only [zP, zN, zA, zB, zC])
    refine nl_ (hK22 _ _ ?_); clear hK22 K22
    refine wp_block ?_
    have BR0 := Lib.hid (show ByR w17 g ((t.data.toList.take 0).map upB ++ t.data.toList.drop 0) from by rw [List.take_zero, List.drop_zero]; exact BR.out)
    refine loopk_ (fun (kq : Nat) (a' : Act) (w' : World) => ∃ (k : Nat), ∃ (us : Nat → Value), a' = ⟨#[.string t, us 1, us 2, .slice (some ⟨g, 0, none⟩) t.size cap, us 4, us 5, us 6, us 7, us 8, us 9, us 10, us 11, .slice (some ⟨g, 0, none⟩) t.size cap, .int .i64 t.size, .int .i64 k, us 15, us 16, us 17, us 18, us 19, us 20, us 21, us 22, us 23, us 24, us 25, us 26, us 27, us 28, us 29, us 30, us 31, us 32, us 33], []⟩ ∧ Hid (Ch [] w w') ∧ Hid (ByR w' g ((t.data.toList.take k).map upB ++ t.data.toList.drop k)) ∧ Hid (k ≤ t.data.toList.length ∧ kq + k = t.data.toList.length)) (t.data.toList.length) (⟨0, fun us_ => (#[.string t, undef, .string {data := #[]}, .slice (some ⟨g, 0, none⟩) t.size cap, undef, undef, .string t, .bool false, undef, undef, .string t, .slice (some ⟨g, 0, none⟩) t.size cap, .slice (some ⟨g, 0, none⟩) t.size cap, .int .i64 t.size, .int .i64 0, undef, undef, undef, undef, undef, undef, undef, undef, undef, undef, undef, undef, undef, undef, undef, undef, undef, undef, undef] : Array Value).getD us_ undef, rfl, C0, BR0, Lib.hid ⟨by omega, by omega⟩⟩) ?_
    rintro kq _ w23 ⟨k, us, rfl, C0, BR, hk⟩ K24 hK24
    rcases at_ways' hk.out.1 with ⟨c, ho0, hlt0⟩ | h; rcases (show c.toNat < 97 ∨ (97 ≤ c.toNat ∧ c.toNat ≤ 122) ∨ 122 < c.toNat by omega) with hc | hc | hc
    · have hlt := Lib.hid hlt0
      have ho := Lib.hid ho0
      have HCC := Lib.hid hc
      clear hlt0 ho0 hc
      have D15 := Lib.hid (show (k : Int) < (t.size : Int) by have := hlt.out; have := tl_len t; omega)
      have Wk := Lib.hid (show IntKind.i64.wrap ((k : Int) + 1) = ((k + 1 : Nat) : Int) by rw [wr64 (by have := hlt.out; have h7 := HN.out; have := tl_len t; omega)]; omega)
      have D20 := Lib.hid (show ¬ (97 : Int) ≤ (c.toNat : Int) by have := HCC.out; omega)
      skip
      have HUP := Lib.hid (up_no (show ¬ (97 ≤ c.toNat ∧ c.toNat ≤ 122) by have := HCC.out; omega))
      refine s_ (fun K25 hK25 => ?_)
      refine pu_ (v := .bool true) (y_run (by rfl) (fun W => by have d := D15.out; go_simp)) ?_
      (try simp only [zP, zN, zA, zB, zC])
      refine nl_ (hK25 _ _ ?_); clear hK25 K25
      refine sq_ (fun K26 hK26 => ?_)
      refine wp_cond_true rfl ?_
      refine wp_skip ?_
      refine th_norm (hK26 _ _ ?_); try clear hK26 K26
      refine sq_ (fun K27 hK27 => ?_)
      refine wp_block ?_
      refine s_ (fun K28 hK28 => ?_)
      refine pu_ (v := .int .i64 k) (y_move rfl (by rfl) (by rfl)) ?_
      (try simp only [zP, zN, zA, zB, zC])
      refine pu_ (v := .pointer (some ⟨g, k, none⟩)) (y_run (by rfl) (fun W => by have d := D15.out; go_simp)) ?_
      (try simp only [zP, zN, zA, zB, zC])
      refine ld_ (v := .int .u8 c.toNat) rfl (by rfl) (by rfl) (run_load_one (BR.out.cell (at_up ho.out)) Tryd.underlying5 rfl) ?_
      (try simp only [zP, zN, zA, zB, zC])
      refine pu_ (v := .int .i64 k) (y_assign rfl (by rfl) (by rfl)) ?_
      (try simp only [zP, zN, zA, zB, zC])
      refine pu_ (v := .int .u8 c.toNat) (y_assign rfl (by rfl) (by rfl)) ?_
      (try simp only [zP, zN, zA, zB, zC])
      refine nl_ (hK28 _ _ ?_); clear hK28 K28
      refine s_ (fun K29 hK29 => ?_)
      refine pu_ (v := .int .u8 c.toNat) (y_move rfl (by rfl) (by rfl)) ?_
      (try simp only [zP, zN, zA, zB, zC])
      refine pu_ (v := .bool false) (y_run (by rfl) (fun W => by have d := D20.out; go_simp)) ?_
      (try simp only [zP, zN, zA, zB, zC])
      refine pu_ (v := .bool false) (y_move rfl (by rfl) (by rfl)) ?_
      (try simp only [zP, zN, zA, zB, zC])
      refine pu_ (y_off (by rfl)) ?_
      (try simp only [zP, zN, zA, zB, zC])
      refine pu_ (y_off (by rfl)) ?_
      (try simp only [zP, zN, zA, zB, zC])
      refine pu_ (v := .bool false) (y_pick (t := false) (by rfl) rfl (by rfl) (by rfl)) ?_
      (try simp only [zP, zN, zA, zB, zC])
      refine nl_ (hK29 _ _ ?_); clear hK29 K29
      refine wp_cond_false rfl ?_
      refine wp_skip ?_
      refine ib_norm ?_
      refine th_norm (hK27 _ _ ?_); try clear hK27 K27
      refine r_ ?_
      refine pu_ (v := .int .i64 (k + 1 : Nat)) (y_run (by rfl) (fun W => by have d := Wk.out; go_simp)) ?_
      (try simp only [zP, zN, zA, zB, zC])
      refine pu_ (v := .int .i64 (k + 1 : Nat)) (y_move rfl (by rfl) (by rfl)) ?_
      (try simp only [zP, zN, zA, zB, zC])
      refine nl_ ?_
      exact th_norm (hK24 (kq - 1) _ _ (by have := hlt.out; have := hk.out; omega) ⟨k + 1, fun us_ => (#[.string t, us 1, us 2, .slice (some ⟨g, 0, none⟩) t.size cap, .int .i64 k, .int .u8 c.toNat, us 6, us 7, us 8, us 9, us 10, us 11, .slice (some ⟨g, 0, none⟩) t.size cap, .int .i64 t.size, .int .i64 (k + 1 : Nat), .bool true, .int .i64 k, .pointer (some ⟨g, k, none⟩), .int .u8 c.toNat, .int .u8 c.toNat, .bool false, .bool false, undef, undef, .bool false, us 25, us 26, us 27, us 28, us 29, us 30, .int .i64 (k + 1 : Nat), us 32, us 33] : Array Value).getD us_ undef, rfl, C0, Lib.hid (by have h9 := BR.out; rw [up_keep ho.out HUP.out] at h9; exact h9), Lib.hid ⟨by have := hlt.out; omega, by have := hlt.out; have := hk.out; omega⟩⟩)
    · have hlt := Lib.hid hlt0
      have ho := Lib.hid ho0
      have HCC := Lib.hid hc
      clear hlt0 ho0 hc
      have D15 := Lib.hid (show (k : Int) < (t.size : Int) by have := hlt.out; have := tl_len t; omega)
      have Wk := Lib.hid (show IntKind.i64.wrap ((k : Int) + 1) = ((k + 1 : Nat) : Int) by rw [wr64 (by have := hlt.out; have h7 := HN.out; have := tl_len t; omega)]; omega)
      have D20 := Lib.hid (show (97 : Int) ≤ (c.toNat : Int) by have := HCC.out; omega)
      have D23 := Lib.hid (show (c.toNat : Int) ≤ 122 by have := HCC.out; omega)
      have HUP := Lib.hid (up_yes HCC.out).1
      have HSU := Lib.hid (up_yes HCC.out).2
      have W28 := Lib.hid (show IntKind.u8.wrap ((c.toNat : Int) - 97) = (c.toNat : Int) - 97 from wr8 (by have := HCC.out; omega))
      have W29 := Lib.hid (show IntKind.u8.wrap ((c.toNat : Int) - 97 + 65) = (c.toNat : Int) - 97 + 65 from wr8 (by have := HCC.out; omega))
      refine s_ (fun K30 hK30 => ?_)
      refine pu_ (v := .bool true) (y_run (by rfl) (fun W => by have d := D15.out; go_simp)) ?_
      (try simp only [zP, zN, zA, zB, zC])
      refine nl_ (hK30 _ _ ?_); clear hK30 K30
      refine sq_ (fun K31 hK31 => ?_)
      refine wp_cond_true rfl ?_
      refine wp_skip ?_
      refine th_norm (hK31 _ _ ?_); try clear hK31 K31
      refine sq_ (fun K32 hK32 => ?_)
      refine wp_block ?_
      refine s_ (fun K33 hK33 => ?_)
      refine pu_ (v := .int .i64 k) (y_move rfl (by rfl) (by rfl)) ?_
      (try simp only [zP, zN, zA, zB, zC])
      refine pu_ (v := .pointer (some ⟨g, k, none⟩)) (y_run (by rfl) (fun W => by have d := D15.out; go_simp)) ?_
      (try simp only [zP, zN, zA, zB, zC])
      refine ld_ (v := .int .u8 c.toNat) rfl (by rfl) (by rfl) (run_load_one (BR.out.cell (at_up ho.out)) Tryd.underlying5 rfl) ?_
      (try simp only [zP, zN, zA, zB, zC])
      refine pu_ (v := .int .i64 k) (y_assign rfl (by rfl) (by rfl)) ?_
      (try simp only [zP, zN, zA, zB, zC])
      refine pu_ (v := .int .u8 c.toNat) (y_assign rfl (by rfl) (by rfl)) ?_
      (try simp only [zP, zN, zA, zB, zC])
      refine nl_ (hK33 _ _ ?_); clear hK33 K33
      refine s_ (fun K34 hK34 => ?_)
      refine pu_ (v := .int .u8 c.toNat) (y_move rfl (by rfl) (by rfl)) ?_
      (try simp only [zP, zN, zA, zB, zC])
      refine pu_ (v := .bool true) (y_run (by rfl) (fun W => by have d := D20.out; go_simp)) ?_
      (try simp only [zP, zN, zA, zB, zC])
      refine pu_ (v := .bool true) (y_move rfl (by rfl) (by rfl)) ?_
      (try simp only [zP, zN, zA, zB, zC])
      refine pu_ (v := .int .u8 c.toNat) (y_move rfl (by rfl) (by rfl)) ?_
      (try simp only [zP, zN, zA, zB, zC])
      refine pu_ (v := .bool true) (y_run (by rfl) (fun W => by have d := D23.out; go_simp)) ?_
      (try simp only [zP, zN, zA, zB, zC])
      refine pu_ (v := .bool true) (y_pick (t := true) (by rfl) rfl (by rfl) (by rfl)) ?_
      (try simp only [zP, zN, zA, zB, zC])
      refine nl_ (hK34 _ _ ?_); clear hK34 K34
      refine wp_cond_true rfl ?_
      skip
      · refine r_ ?_
        refine pu_ (v := .slice (some ⟨g, 0, none⟩) t.size cap) (y_move rfl (by rfl) (by rfl)) ?_
        (try simp only [zP, zN, zA, zB, zC])
        refine pu_ (v := .int .i64 k) (y_move rfl (by rfl) (by rfl)) ?_
        (try simp only [zP, zN, zA, zB, zC])
        refine pu_ (v := .int .u8 c.toNat) (y_move rfl (by rfl) (by rfl)) ?_
        (try simp only [zP, zN, zA, zB, zC])
        refine pu_ (v := .int .u8 ((c.toNat : Int) - 97)) (y_run (by rfl) (fun W => by have d := W28.out; have e := HSU.out; have f := HCC.out; go_simp)) ?_
        (try simp only [zP, zN, zA, zB, zC])
        refine pu_ (v := .int .u8 (c - 32).toNat) (y_run (by rfl) (fun W => by have d := W29.out; have e := HSU.out; have f := HCC.out; go_simp; omega)) ?_
        (try simp only [zP, zN, zA, zB, zC])
        refine pu_ (v := .pointer (some ⟨g, k, none⟩)) (y_run (by rfl) (fun W => by have d := D15.out; go_simp)) ?_
        (try simp only [zP, zN, zA, zB, zC])
        refine ef_ (fun K35 hK35 => ?_)
        refine e_storeB (by rfl) rfl rfl BR.out k (c - 32) (by rfl) (by rfl) (by kernel_rfl) (by have := (List.getElem?_eq_some_iff.1 (at_up ho.out)).1; exact this) ?_
        rintro w36 B37 C38
        have C0' := Lib.hid (show Ch [] w w36 from C0.out.trans' C38 (inw_cons (.inr hgN.out) inw_nil))
        clear C0
        have C0 := C0'; clear C0'
        clear BR; have BR := Lib.hid (show ByR w36 g ((t.data.toList.take (k + 1)).map upB ++ t.data.toList.drop (k + 1)) from by have h9 := B37; rw [← HUP.out, up_set ho.out] at h9; exact h9); clear B37 C38
        refine hK35 _ _ ?_; clear hK35 K35
        (try simp only [zP, zN, zA, zB, zC])
        refine nl_ ?_
        refine ib_norm ?_
        refine th_norm (hK32 _ _ ?_); try clear hK32 K32
        refine r_ ?_
        refine pu_ (v := .int .i64 (k + 1 : Nat)) (y_run (by rfl) (fun W => by have d := Wk.out; go_simp)) ?_
        (try simp only [zP, zN, zA, zB, zC])
        refine pu_ (v := .int .i64 (k + 1 : Nat)) (y_move rfl (by rfl) (by rfl)) ?_
        (try simp only [zP, zN, zA, zB, zC])
        refine nl_ ?_
        exact th_norm (hK24 (kq - 1) _ _ (by have := hlt.out; have := hk.out; omega) ⟨k + 1, fun us_ => (#[.string t, us 1, us 2, .slice (some ⟨g, 0, none⟩) t.size cap, .int .i64 k, .int .u8 c.toNat, us 6, us 7, us 8, us 9, us 10, us 11, .slice (some ⟨g, 0, none⟩) t.size cap, .int .i64 t.size, .int .i64 (k + 1 : Nat), .bool true, .int .i64 k, .pointer (some ⟨g, k, none⟩), .int .u8 c.toNat, .int .u8 c.toNat, .bool true, .bool true, .int .u8 c.toNat, .bool true, .bool true, .slice (some ⟨g, 0, none⟩) t.size cap, .int .i64 k, .int .u8 c.toNat, .int .u8 ((c.toNat : Int) - 97), .int .u8 (c - 32).toNat, .pointer (some ⟨g, k, none⟩), .int .i64 (k + 1 : Nat), us 32, us 33] : Array Value).getD us_ undef, rfl, C0, BR, Lib.hid ⟨by have := hlt.out; omega, by have := hlt.out; have := hk.out; omega⟩⟩)
    · have hlt := Lib.hid hlt0
      have ho := Lib.hid ho0
      have HCC := Lib.hid hc
      clear hlt0 ho0 hc
      have D15 := Lib.hid (show (k : Int) < (t.size : Int) by have := hlt.out; have := tl_len t; omega)
      have Wk := Lib.hid (show IntKind.i64.wrap ((k : Int) + 1) = ((k + 1 : Nat) : Int) by rw [wr64 (by have := hlt.out; have h7 := HN.out; have := tl_len t; omega)]; omega)
      have D20 := Lib.hid (show (97 : Int) ≤ (c.toNat : Int) by have := HCC.out; omega)
      have D23 := Lib.hid (show ¬ (c.toNat : Int) ≤ 122 by have := HCC.out; omega)
      have HUP := Lib.hid (up_no (show ¬ (97 ≤ c.toNat ∧ c.toNat ≤ 122) by have := HCC.out; omega))
      refine s_ (fun K39 hK39 => ?_)
      refine pu_ (v := .bool true) (y_run (by rfl) (fun W => by have d := D15.out; go_simp)) ?_
      (try simp only [zP, zN, zA, zB, zC])
      refine nl_ (hK39 _ _ ?_); clear hK39 K39
      refine sq_ (fun K40 hK40 => ?_)
      refine wp_cond_true rfl ?_
      refine wp_skip ?_
      refine th_norm (hK40 _ _ ?_); try clear hK40 K40
      refine sq_ (fun K41 hK41 => ?_)
      refine wp_block ?_
      refine s_ (fun K42 hK42 => ?_)
      refine pu_ (v := .int .i64 k) (y_move rfl (by rfl) (by rfl)) ?_
      (try simp only [zP, zN, zA, zB, zC])
      refine pu_ (v := .pointer (some ⟨g, k, none⟩)) (y_run (by rfl) (fun W => by have d := D15.out; go_simp)) ?_
      (try simp only [zP, zN, zA, zB, zC])
      refine ld_ (v := .int .u8 c.toNat) rfl (by rfl) (by rfl) (run_load_one (BR.out.cell (at_up ho.out)) Tryd.underlying5 rfl) ?_
      (try simp only [zP, zN, zA, zB, zC])
      refine pu_ (v := .int .i64 k) (y_assign rfl (by rfl) (by rfl)) ?_
      (try simp only [zP, zN, zA, zB, zC])
      refine pu_ (v := .int .u8 c.toNat) (y_assign rfl (by rfl) (by rfl)) ?_
      (try simp only [zP, zN, zA, zB, zC])
      refine nl_ (hK42 _ _ ?_); clear hK42 K42
      refine s_ (fun K43 hK43 => ?_)
      refine pu_ (v := .int .u8 c.toNat) (y_move rfl (by rfl) (by rfl)) ?_
      (try simp only [zP, zN, zA, zB, zC])
      refine pu_ (v := .bool true) (y_run (by rfl) (fun W => by have d := D20.out; go_simp)) ?_
      (try simp only [zP, zN, zA, zB, zC])
      refine pu_ (v := .bool true) (y_move rfl (by rfl) (by rfl)) ?_
      (try simp only [zP, zN, zA, zB, zC])
      refine pu_ (v := .int .u8 c.toNat) (y_move rfl (by rfl) (by rfl)) ?_
      (try simp only [zP, zN, zA, zB, zC])
      refine pu_ (v := .bool false) (y_run (by rfl) (fun W => by have d := D23.out; go_simp)) ?_
      (try simp only [zP, zN, zA, zB, zC])
      refine pu_ (v := .bool false) (y_pick (t := true) (by rfl) rfl (by rfl) (by rfl)) ?_
      (try simp only [zP, zN, zA, zB, zC])
      refine nl_ (hK43 _ _ ?_); clear hK43 K43
      refine wp_cond_false rfl ?_
      refine wp_skip ?_
      refine ib_norm ?_
      refine th_norm (hK41 _ _ ?_); try clear hK41 K41
      refine r_ ?_
      refine pu_ (v := .int .i64 (k + 1 : Nat)) (y_run (by rfl) (fun W => by have d := Wk.out; go_simp)) ?_
      (try simp only [zP, zN, zA, zB, zC])
      refine pu_ (v := .int .i64 (k + 1 : Nat)) (y_move rfl (by rfl) (by rfl)) ?_
      (try simp only [zP, zN, zA, zB, zC])
      refine nl_ ?_
      exact th_norm (hK24 (kq - 1) _ _ (by have := hlt.out; have := hk.out; omega) ⟨k + 1, fun us_ => (#[.string t, us 1, us 2, .slice (some ⟨g, 0, none⟩) t.size cap, .int .i64 k, .int .u8 c.toNat, us 6, us 7, us 8, us 9, us 10, us 11, .slice (some ⟨g, 0, none⟩) t.size cap, .int .i64 t.size, .int .i64 (k + 1 : Nat), .bool true, .int .i64 k, .pointer (some ⟨g, k, none⟩), .int .u8 c.toNat, .int .u8 c.toNat, .bool true, .bool true, .int .u8 c.toNat, .bool false, .bool false, us 25, us 26, us 27, us 28, us 29, us 30, .int .i64 (k + 1 : Nat), us 32, us 33] : Array Value).getD us_ undef, rfl, C0, Lib.hid (by have h9 := BR.out; rw [up_keep ho.out HUP.out] at h9; exact h9), Lib.hid ⟨by have := hlt.out; omega, by have := hlt.out; have := hk.out; omega⟩⟩)
    · have D15 := Lib.hid (show ¬ k < t.size by have := hk.out; have := tl_len t; omega)
      have HE := Lib.hid h
      clear h
      have HFB := Lib.hid (show ByR w23 g (t.data.toList.map upB) from by have h9 := BR.out; rw [HE.out, up_all] at h9; exact h9)
      refine s_ (fun K44 hK44 => ?_)
      refine pu_ (v := .bool false) (y_run (by rfl) (fun W => by have d := D15.out; go_simp)) ?_
      (try simp only [zP, zN, zA, zB, zC])
      refine nl_ (hK44 _ _ ?_); clear hK44 K44
      refine sq_ (fun K45 hK45 => ?_)
      refine wp_cond_false rfl ?_
      refine wp_exit ?_
      refine th_exit ?_
      refine th_exit ?_
      refine ib_exit ?_
      refine th_norm (hK21 _ _ ?_); try clear hK21 K21
      refine s_ (fun K46 hK46 => ?_)
      refine pu_ (v := .slice (some ⟨g, 0, none⟩) t.size cap) (y_move rfl (by rfl) (by rfl)) ?_
      (try simp only [zP, zN, zA, zB, zC])
      refine an_ (v := .string (str (t.data.toList.map upB))) (by rfl) (by have d := run_back HFB.out (n := t.size) (cap := cap) (by rw [List.length_map, tl_len]) Tryd.underlying72 Tryd.underlying5 Tryd.underlying9; go_simp) ?_
      (try simp only [zP, zN, zA, zB, zC])
      refine pu_ (v := .string (str (t.data.toList.map upB))) (y_assign rfl (by rfl) (by rfl)) ?_
      (try simp only [zP, zN, zA, zB, zC])
      refine nl_ (hK46 _ _ ?_); clear hK46 K46
      refine wp_ret ?_
      refine hQ _ _ _ ?_
      refine bodyPost_ret (res1 rfl (rdv_tmp (v := .string (str (t.data.toList.map upB))) (by rfl))) rfl ?_
      exact ⟨rfl, C0.out⟩
theorem capital_ {t : ByteArray} (HN : Hid (t.size ≤ 100000))  :
    Calls Tryd.prog 14 #[.string t] w fun en w' => en = .returned (.string (str (t.data.toList.map upB))) ∧ Ch [] w w' := by
  have C0 := Lib.hid (Ch.refl [] w)
  go_enter Tryd.func14, Tryd.ntmps14
  refine q_ (fun Q hQ hP => ?_)
  refine s_ (fun K1 hK1 => ?_)
  refine pu_ (v := .string {data := #[]}) (y_assign rfl (by rfl) (by rfl)) ?_
  (try simp only [zP, zN, zA, zB, zC])
  refine nl_ (hK1 _ _ ?_); clear hK1 K1
  refine s_ (fun K2 hK2 => ?_)
  refine pu_ (v := .string t) (y_move rfl (by rfl) (by rfl)) ?_
  (try simp only [zP, zN, zA, zB, zC])
  refine ef_ (fun K3 hK3 => ?_)
  refine e_bytes (by rfl) rfl rfl (s := t) (by rfl) Tryd.underlying9 Tryd.underlying72 Tryd.underlying5 ?_
  rintro g cap w4 HG5 B6 C7
  have hgN := Lib.hid (show w.heap.size ≤ g by have := C0.out.size; have := HG5.out; omega)
  have C0' := Lib.hid (show Ch [] w w4 from C0.out.trans' C7 (fun x hx => absurd hx (by simp)))
  clear C0
  have C0 := C0'; clear C0'
  have BR := Lib.hid (show ByR w4 g t.data.toList from B6); clear B6 C7
  refine hK3 _ _ ?_; clear hK3 K3
  (try simp only [zP, zN, zA, zB, zC])
  refine pu_ (v := .slice (some ⟨g, 0, none⟩) t.size cap) (y_assign rfl (by rfl) (by rfl)) ?_
  (try simp only [zP, zN, zA, zB, zC])
  refine nl_ (hK2 _ _ ?_); clear hK2 K2
  refine sq_ (fun K8 hK8 => ?_)
  refine s_ (fun K9 hK9 => ?_)
  refine pu_ (v := .int .i64 0) (y_assign rfl (by rfl) (by rfl)) ?_
  (try simp only [zP, zN, zA, zB, zC])
  refine nl_ (hK9 _ _ ?_); clear hK9 K9
  refine wp_block ?_
  have BR0 := Lib.hid (show ByR w4 g ((t.data.toList.take 0).map upB ++ t.data.toList.drop 0) from by rw [List.take_zero, List.drop_zero]; exact BR.out)
  refine loopk_ (fun (kq : Nat) (a' : Act) (w' : World) => ∃ (k : Nat), ∃ (us : Nat → Value), a' = ⟨#[.string t, us 1, us 2, .slice (some ⟨g, 0, none⟩) t.size cap, .int .i64 k, us 5, us 6, us 7, us 8, us 9, us 10, us 11, us 12, us 13, us 14, us 15, us 16, us 17, us 18, us 19, us 20, us 21, us 22, us 23, us 24, us 25, us 26, us 27, us 28, us 29, us 30, us 31, us 32, us 33, us 34], []⟩ ∧ Hid (Ch [] w w') ∧ Hid (ByR w' g ((t.data.toList.take k).map upB ++ t.data.toList.drop k)) ∧ Hid (k ≤ t.data.toList.length ∧ kq + k = t.data.toList.length)) (t.data.toList.length) (⟨0, fun us_ => (#[.string t, undef, .string {data := #[]}, .slice (some ⟨g, 0, none⟩) t.size cap, .int .i64 0, .string t, .slice (some ⟨g, 0, none⟩) t.size cap, undef, undef, undef, undef, undef, undef, undef, undef, undef, undef, undef, undef, undef, undef, undef, undef, undef, undef, undef, undef, undef, undef, undef, undef, undef, undef, undef, undef] : Array Value).getD us_ undef, rfl, C0, BR0, Lib.hid ⟨by omega, by omega⟩⟩) ?_
  rintro kq _ w10 ⟨k, us, rfl, C0, BR, hk⟩ K11 hK11
  refine sq_ (fun K12 hK12 => ?_)
  rcases at_ways' hk.out.1 with ⟨c, ho0, hlt0⟩ | h; rcases (show c.toNat < 97 ∨ (97 ≤ c.toNat ∧ c.toNat ≤ 122) ∨ 122 < c.toNat by omega) with hc | hc | hc
  · have hlt := Lib.hid hlt0
    have ho := Lib.hid ho0
    have HCC := Lib.hid hc
    clear hlt0 ho0 hc
    have D10 := Lib.hid (show (k : Int) < (t.size : Int) by have := hlt.out; have := tl_len t; omega)
    have Wk := Lib.hid (show IntKind.i64.wrap ((k : Int) + 1) = ((k + 1 : Nat) : Int) by rw [wr64 (by have := hlt.out; have h7 := HN.out; have := tl_len t; omega)]; omega)
    have D17 := Lib.hid (show ¬ (96 : Int) < (c.toNat : Int) by have := HCC.out; omega)
    skip
    have HUP := Lib.hid (up_no (show ¬ (97 ≤ c.toNat ∧ c.toNat ≤ 122) by have := HCC.out; omega))
    refine s_ (fun K13 hK13 => ?_)
    refine pu_ (v := .int .i64 k) (y_move rfl (by rfl) (by rfl)) ?_
    (try simp only [zP, zN, zA, zB, zC])
    refine pu_ (v := .slice (some ⟨g, 0, none⟩) t.size cap) (y_move rfl (by rfl) (by rfl)) ?_
    (try simp only [zP, zN, zA, zB, zC])
    refine pu_ (v := .int .i64 t.size) (y_run (by rfl) (fun W => by go_simp)) ?_
    (try simp only [zP, zN, zA, zB, zC])
    refine pu_ (v := .bool true) (y_run (by rfl) (fun W => by have d := D10.out; go_simp)) ?_
    (try simp only [zP, zN, zA, zB, zC])
    refine nl_ (hK13 _ _ ?_); clear hK13 K13
    refine wp_cond_true rfl ?_
    refine wp_skip ?_
    refine th_norm (hK12 _ _ ?_); try clear hK12 K12
    refine sq_ (fun K14 hK14 => ?_)
    refine wp_block ?_
    refine s_ (fun K15 hK15 => ?_)
    refine pu_ (v := .slice (some ⟨g, 0, none⟩) t.size cap) (y_move rfl (by rfl) (by rfl)) ?_
    (try simp only [zP, zN, zA, zB, zC])
    refine pu_ (v := .int .i64 k) (y_move rfl (by rfl) (by rfl)) ?_
    (try simp only [zP, zN, zA, zB, zC])
    refine pu_ (v := .pointer (some ⟨g, k, none⟩)) (y_run (by rfl) (fun W => by have d := D10.out; go_simp)) ?_
    (try simp only [zP, zN, zA, zB, zC])
    refine ld_ (v := .int .u8 c.toNat) rfl (by rfl) (by rfl) (run_load_one (BR.out.cell (at_up ho.out)) Tryd.underlying5 rfl) ?_
    (try simp only [zP, zN, zA, zB, zC])
    refine pu_ (v := .bool false) (y_run (by rfl) (fun W => by have d := D17.out; go_simp)) ?_
    (try simp only [zP, zN, zA, zB, zC])
    refine pu_ (v := .bool false) (y_move rfl (by rfl) (by rfl)) ?_
    (try simp only [zP, zN, zA, zB, zC])
    refine pu_ (y_off (by rfl)) ?_
    (try simp only [zP, zN, zA, zB, zC])
    refine pu_ (y_off (by rfl)) ?_
    (try simp only [zP, zN, zA, zB, zC])
    refine pu_ (y_off (by rfl)) ?_
    (try simp only [zP, zN, zA, zB, zC])
    refine pu_ (y_off (by rfl)) ?_
    (try simp only [zP, zN, zA, zB, zC])
    refine pu_ (y_off (by rfl)) ?_
    (try simp only [zP, zN, zA, zB, zC])
    refine pu_ (v := .bool false) (y_pick (t := false) (by rfl) rfl (by rfl) (by rfl)) ?_
    (try simp only [zP, zN, zA, zB, zC])
    refine nl_ (hK15 _ _ ?_); clear hK15 K15
    refine wp_cond_false rfl ?_
    refine wp_skip ?_
    refine ib_norm ?_
    refine th_norm (hK14 _ _ ?_); try clear hK14 K14
    refine r_ ?_
    refine pu_ (v := .int .i64 k) (y_move rfl (by rfl) (by rfl)) ?_
    (try simp only [zP, zN, zA, zB, zC])
    refine pu_ (v := .int .i64 (k + 1 : Nat)) (y_run (by rfl) (fun W => by have d := Wk.out; go_simp)) ?_
    (try simp only [zP, zN, zA, zB, zC])
    refine pu_ (v := .int .i64 (k + 1 : Nat)) (y_assign rfl (by rfl) (by rfl)) ?_
    (try simp only [zP, zN, zA, zB, zC])
    refine nl_ ?_
    exact th_norm (hK11 (kq - 1) _ _ (by have := hlt.out; have := hk.out; omega) ⟨k + 1, fun us_ => (#[.string t, us 1, us 2, .slice (some ⟨g, 0, none⟩) t.size cap, .int .i64 (k + 1 : Nat), us 5, us 6, .int .i64 k, .slice (some ⟨g, 0, none⟩) t.size cap, .int .i64 t.size, .bool true, .int .i64 k, .int .i64 (k + 1 : Nat), .slice (some ⟨g, 0, none⟩) t.size cap, .int .i64 k, .pointer (some ⟨g, k, none⟩), .int .u8 c.toNat, .bool false, .bool false, undef, undef, undef, undef, undef, .bool false, us 25, us 26, us 27, us 28, us 29, us 30, us 31, us 32, us 33, us 34] : Array Value).getD us_ undef, rfl, C0, Lib.hid (by have h9 := BR.out; rw [up_keep ho.out HUP.out] at h9; exact h9), Lib.hid ⟨by have := hlt.out; omega, by have := hlt.out; have := hk.out; omega⟩⟩)
  · have hlt := Lib.hid hlt0
    have ho := Lib.hid ho0
    have HCC := Lib.hid hc
    clear hlt0 ho0 hc
    have D10 := Lib.hid (show (k : Int) < (t.size : Int) by have := hlt.out; have := tl_len t; omega)
    have Wk := Lib.hid (show IntKind.i64.wrap ((k : Int) + 1) = ((k + 1 : Nat) : Int) by rw [wr64 (by have := hlt.out; have h7 := HN.out; have := tl_len t; omega)]; omega)
    have D17 := Lib.hid (show (96 : Int) < (c.toNat : Int) by have := HCC.out; omega)
    have D23 := Lib.hid (show (c.toNat : Int) < 123 by have := HCC.out; omega)
    have HUP := Lib.hid (up_yes HCC.out).1
    have HSU := Lib.hid (up_yes HCC.out).2
    have W31 := Lib.hid (show IntKind.u8.wrap ((c.toNat : Int) - 32) = (c.toNat : Int) - 32 from wr8 (by have := HCC.out; omega))
    refine s_ (fun K16 hK16 => ?_)
    refine pu_ (v := .int .i64 k) (y_move rfl (by rfl) (by rfl)) ?_
    (try simp only [zP, zN, zA, zB, zC])
    refine pu_ (v := .slice (some ⟨g, 0, none⟩) t.size cap) (y_move rfl (by rfl) (by rfl)) ?_
    (try simp only [zP, zN, zA, zB, zC])
    refine pu_ (v := .int .i64 t.size) (y_run (by rfl) (fun W => by go_simp)) ?_
    (try simp only [zP, zN, zA, zB, zC])
    refine pu_ (v := .bool true) (y_run (by rfl) (fun W => by have d := D10.out; go_simp)) ?_
    (try simp only [zP, zN, zA, zB, zC])
    refine nl_ (hK16 _ _ ?_); clear hK16 K16
    refine wp_cond_true rfl ?_
    refine wp_skip ?_
    refine th_norm (hK12 _ _ ?_); try clear hK12 K12
    refine sq_ (fun K17 hK17 => ?_)
    refine wp_block ?_
    refine s_ (fun K18 hK18 => ?_)
    refine pu_ (v := .slice (some ⟨g, 0, none⟩) t.size cap) (y_move rfl (by rfl) (by rfl)) ?_
    (try simp only [zP, zN, zA, zB, zC])
    refine pu_ (v := .int .i64 k) (y_move rfl (by rfl) (by rfl)) ?_
    (try simp only [zP, zN, zA, zB, zC])
    refine pu_ (v := .pointer (some ⟨g, k, none⟩)) (y_run (by rfl) (fun W => by have d := D10.out; go_simp)) ?_
    (try simp only [zP, zN, zA, zB, zC])
    refine ld_ (v := .int .u8 c.toNat) rfl (by rfl) (by rfl) (run_load_one (BR.out.cell (at_up ho.out)) Tryd.underlying5 rfl) ?_
    (try simp only [zP, zN, zA, zB, zC])
    refine pu_ (v := .bool true) (y_run (by rfl) (fun W => by have d := D17.out; go_simp)) ?_
    (try simp only [zP, zN, zA, zB, zC])
    refine pu_ (v := .bool true) (y_move rfl (by rfl) (by rfl)) ?_
    (try simp only [zP, zN, zA, zB, zC])
    refine pu_ (v := .slice (some ⟨g, 0, none⟩) t.size cap) (y_move rfl (by rfl) (by rfl)) ?_
    (try simp only [zP, zN, zA, zB, zC])
    refine pu_ (v := .int .i64 k) (y_move rfl (by rfl) (by rfl)) ?_
    (try simp only [zP, zN, zA, zB, zC])
    refine pu_ (v := .pointer (some ⟨g, k, none⟩)) (y_run (by rfl) (fun W => by have d := D10.out; go_simp)) ?_
    (try simp only [zP, zN, zA, zB, zC])
    refine ld_ (v := .int .u8 c.toNat) rfl (by rfl) (by rfl) (run_load_one (BR.out.cell (at_up ho.out)) Tryd.underlying5 rfl) ?_
    (try simp only [zP, zN, zA, zB, zC])
    refine pu_ (v := .bool true) (y_run (by rfl) (fun W => by have d := D23.out; go_simp)) ?_
    (try simp only [zP, zN, zA, zB, zC])
    refine pu_ (v := .bool true) (y_pick (t := true) (by rfl) rfl (by rfl) (by rfl)) ?_
    (try simp only [zP, zN, zA, zB, zC])
    refine nl_ (hK18 _ _ ?_); clear hK18 K18
    refine wp_cond_true rfl ?_
    skip
    · refine r_ ?_
      refine pu_ (v := .slice (some ⟨g, 0, none⟩) t.size cap) (y_move rfl (by rfl) (by rfl)) ?_
      (try simp only [zP, zN, zA, zB, zC])
      refine pu_ (v := .int .i64 k) (y_move rfl (by rfl) (by rfl)) ?_
      (try simp only [zP, zN, zA, zB, zC])
      refine pu_ (v := .slice (some ⟨g, 0, none⟩) t.size cap) (y_move rfl (by rfl) (by rfl)) ?_
      (try simp only [zP, zN, zA, zB, zC])
      refine pu_ (v := .int .i64 k) (y_move rfl (by rfl) (by rfl)) ?_
      (try simp only [zP, zN, zA, zB, zC])
      refine pu_ (v := .pointer (some ⟨g, k, none⟩)) (y_run (by rfl) (fun W => by have d := D10.out; go_simp)) ?_
      (try simp only [zP, zN, zA, zB, zC])
      refine ld_ (v := .int .u8 c.toNat) rfl (by rfl) (by rfl) (run_load_one (BR.out.cell (at_up ho.out)) Tryd.underlying5 rfl) ?_
      (try simp only [zP, zN, zA, zB, zC])
      refine pu_ (v := .int .u8 (c - 32).toNat) (y_run (by rfl) (fun W => by have d := W31.out; have e := HSU.out; have f := HCC.out; go_simp; omega)) ?_
      (try simp only [zP, zN, zA, zB, zC])
      refine pu_ (v := .pointer (some ⟨g, k, none⟩)) (y_run (by rfl) (fun W => by have d := D10.out; go_simp)) ?_
      (try simp only [zP, zN, zA, zB, zC])
      refine ef_ (fun K19 hK19 => ?_)
      refine e_storeB (by rfl) rfl rfl BR.out k (c - 32) (by rfl) (by rfl) (by kernel_rfl) (by have := (List.getElem?_eq_some_iff.1 (at_up ho.out)).1; exact this) ?_
      rintro w20 B21 C22
      have C0' := Lib.hid (show Ch [] w w20 from C0.out.trans' C22 (inw_cons (.inr hgN.out) inw_nil))
      clear C0
      have C0 := C0'; clear C0'
      clear BR; have BR := Lib.hid (show ByR w20 g ((t.data.toList.take (k + 1)).map upB ++ t.data.toList.drop (k + 1)) from by have h9 := B21; rw [← HUP.out, up_set ho.out] at h9; exact h9); clear B21 C22
      refine hK19 _ _ ?_; clear hK19 K19
      (try simp only [zP, zN, zA, zB, zC])
      refine nl_ ?_
      refine ib_norm ?_
      refine th_norm (hK17 _ _ ?_); try clear hK17 K17
      refine r_ ?_
      refine pu_ (v := .int .i64 k) (y_move rfl (by rfl) (by rfl)) ?_
      (try simp only [zP, zN, zA, zB, zC])
      refine pu_ (v := .int .i64 (k + 1 : Nat)) (y_run (by rfl) (fun W => by have d := Wk.out; go_simp)) ?_
      (try simp only [zP, zN, zA, zB, zC])
      refine pu_ (v := .int .i64 (k + 1 : Nat)) (y_assign rfl (by rfl) (by rfl)) ?_
      (try simp only [zP, zN, zA, zB, zC])
      refine nl_ ?_
      exact th_norm (hK11 (kq - 1) _ _ (by have := hlt.out; have := hk.out; omega) ⟨k + 1, fun us_ => (#[.string t, us 1, us 2, .slice (some ⟨g, 0, none⟩) t.size cap, .int .i64 (k + 1 : Nat), us 5, us 6, .int .i64 k, .slice (some ⟨g, 0, none⟩) t.size cap, .int .i64 t.size, .bool true, .int .i64 k, .int .i64 (k + 1 : Nat), .slice (some ⟨g, 0, none⟩) t.size cap, .int .i64 k, .pointer (some ⟨g, k, none⟩), .int .u8 c.toNat, .bool true, .bool true, .slice (some ⟨g, 0, none⟩) t.size cap, .int .i64 k, .pointer (some ⟨g, k, none⟩), .int .u8 c.toNat, .bool true, .bool true, .slice (some ⟨g, 0, none⟩) t.size cap, .int .i64 k, .slice (some ⟨g, 0, none⟩) t.size cap, .int .i64 k, .pointer (some ⟨g, k, none⟩), .int .u8 c.toNat, .int .u8 (c - 32).toNat, .pointer (some ⟨g, k, none⟩), us 33, us 34] : Array Value).getD us_ undef, rfl, C0, BR, Lib.hid ⟨by have := hlt.out; omega, by have := hlt.out; have := hk.out; omega⟩⟩)
  · have hlt := Lib.hid hlt0
    have ho := Lib.hid ho0
    have HCC := Lib.hid hc
    clear hlt0 ho0 hc
    have D10 := Lib.hid (show (k : Int) < (t.size : Int) by have := hlt.out; have := tl_len t; omega)
    have Wk := Lib.hid (show IntKind.i64.wrap ((k : Int) + 1) = ((k + 1 : Nat) : Int) by rw [wr64 (by have := hlt.out; have h7 := HN.out; have := tl_len t; omega)]; omega)
    have D17 := Lib.hid (show (96 : Int) < (c.toNat : Int) by have := HCC.out; omega)
    have D23 := Lib.hid (show ¬ (c.toNat : Int) < 123 by have := HCC.out; omega)
    have HUP := Lib.hid (up_no (show ¬ (97 ≤ c.toNat ∧ c.toNat ≤ 122) by have := HCC.out; omega))
    refine s_ (fun K23 hK23 => ?_)
    refine pu_ (v := .int .i64 k) (y_move rfl (by rfl) (by rfl)) ?_
    (try simp only [zP, zN, zA, zB, zC])
    refine pu_ (v := .slice (some ⟨g, 0, none⟩) t.size cap) (y_move rfl (by rfl) (by rfl)) ?_
    (try simp only [zP, zN, zA, zB, zC])
    refine pu_ (v := .int .i64 t.size) (y_run (by rfl) (fun W => by go_simp)) ?_
    (try simp only [zP, zN, zA, zB, zC])
    refine pu_ (v := .bool true) (y_run (by rfl) (fun W => by have d := D10.out; go_simp)) ?_
    (try simp only [zP, zN, zA, zB, zC])
    refine nl_ (hK23 _ _ ?_); clear hK23 K23
    refine wp_cond_true rfl ?_
    refine wp_skip ?_
    refine th_norm (hK12 _ _ ?_); try clear hK12 K12
    refine sq_ (fun K24 hK24 => ?_)
    refine wp_block ?_
    refine s_ (fun K25 hK25 => ?_)
    refine pu_ (v := .slice (some ⟨g, 0, none⟩) t.size cap) (y_move rfl (by rfl) (by rfl)) ?_
    (try simp only [zP, zN, zA, zB, zC])
    refine pu_ (v := .int .i64 k) (y_move rfl (by rfl) (by rfl)) ?_
    (try simp only [zP, zN, zA, zB, zC])
    refine pu_ (v := .pointer (some ⟨g, k, none⟩)) (y_run (by rfl) (fun W => by have d := D10.out; go_simp)) ?_
    (try simp only [zP, zN, zA, zB, zC])
    refine ld_ (v := .int .u8 c.toNat) rfl (by rfl) (by rfl) (run_load_one (BR.out.cell (at_up ho.out)) Tryd.underlying5 rfl) ?_
    (try simp only [zP, zN, zA, zB, zC])
    refine pu_ (v := .bool true) (y_run (by rfl) (fun W => by have d := D17.out; go_simp)) ?_
    (try simp only [zP, zN, zA, zB, zC])
    refine pu_ (v := .bool true) (y_move rfl (by rfl) (by rfl)) ?_
    (try simp only [zP, zN, zA, zB, zC])
    refine pu_ (v := .slice (some ⟨g, 0, none⟩) t.size cap) (y_move rfl (by rfl) (by rfl)) ?_
    (try simp only [zP, zN, zA, zB, zC])
    refine pu_ (v := .int .i64 k) (y_move rfl (by rfl) (by rfl)) ?_
    (try simp only [zP, zN, zA, zB, zC])
    refine pu_ (v := .pointer (some ⟨g, k, none⟩)) (y_run (by rfl) (fun W => by have d := D10.out; go_simp)) ?_
    (try simp only [zP, zN, zA, zB, zC])
    refine ld_ (v := .int .u8 c.toNat) rfl (by rfl) (by rfl) (run_load_one (BR.out.cell (at_up ho.out)) Tryd.underlying5 rfl) ?_
    (try simp only [zP, zN, zA, zB, zC])
    refine pu_ (v := .bool false) (y_run (by rfl) (fun W => by have d := D23.out; go_simp)) ?_
    (try simp only [zP, zN, zA, zB, zC])
    refine pu_ (v := .bool false) (y_pick (t := true) (by rfl) rfl (by rfl) (by rfl)) ?_
    (try simp only [zP, zN, zA, zB, zC])
    refine nl_ (hK25 _ _ ?_); clear hK25 K25
    refine wp_cond_false rfl ?_
    refine wp_skip ?_
    refine ib_norm ?_
    refine th_norm (hK24 _ _ ?_); try clear hK24 K24
    refine r_ ?_
    refine pu_ (v := .int .i64 k) (y_move rfl (by rfl) (by rfl)) ?_
    (try simp only [zP, zN, zA, zB, zC])
    refine pu_ (v := .int .i64 (k + 1 : Nat)) (y_run (by rfl) (fun W => by have d := Wk.out; go_simp)) ?_
    (try simp only [zP, zN, zA, zB, zC])
    refine pu_ (v := .int .i64 (k + 1 : Nat)) (y_assign rfl (by rfl) (by rfl)) ?_
    (try simp only [zP, zN, zA, zB, zC])
    refine nl_ ?_
    exact th_norm (hK11 (kq - 1) _ _ (by have := hlt.out; have := hk.out; omega) ⟨k + 1, fun us_ => (#[.string t, us 1, us 2, .slice (some ⟨g, 0, none⟩) t.size cap, .int .i64 (k + 1 : Nat), us 5, us 6, .int .i64 k, .slice (some ⟨g, 0, none⟩) t.size cap, .int .i64 t.size, .bool true, .int .i64 k, .int .i64 (k + 1 : Nat), .slice (some ⟨g, 0, none⟩) t.size cap, .int .i64 k, .pointer (some ⟨g, k, none⟩), .int .u8 c.toNat, .bool true, .bool true, .slice (some ⟨g, 0, none⟩) t.size cap, .int .i64 k, .pointer (some ⟨g, k, none⟩), .int .u8 c.toNat, .bool false, .bool false, us 25, us 26, us 27, us 28, us 29, us 30, us 31, us 32, us 33, us 34] : Array Value).getD us_ undef, rfl, C0, Lib.hid (by have h9 := BR.out; rw [up_keep ho.out HUP.out] at h9; exact h9), Lib.hid ⟨by have := hlt.out; omega, by have := hlt.out; have := hk.out; omega⟩⟩)
  · have D10 := Lib.hid (show ¬ k < t.size by have := hk.out; have := tl_len t; omega)
    have HE := Lib.hid h
    clear h
    have HFB := Lib.hid (show ByR w10 g (t.data.toList.map upB) from by have h9 := BR.out; rw [HE.out, up_all] at h9; exact h9)
    refine s_ (fun K26 hK26 => ?_)
    refine pu_ (v := .int .i64 k) (y_move rfl (by rfl) (by rfl)) ?_
    (try simp only [zP, zN, zA, zB, zC])
    refine pu_ (v := .slice (some ⟨g, 0, none⟩) t.size cap) (y_move rfl (by rfl) (by rfl)) ?_
    (try simp only [zP, zN, zA, zB, zC])
    refine pu_ (v := .int .i64 t.size) (y_run (by rfl) (fun W => by go_simp)) ?_
    (try simp only [zP, zN, zA, zB, zC])
    refine pu_ (v := .bool false) (y_run (by rfl) (fun W => by have d := D10.out; go_simp)) ?_
    (try simp only [zP, zN, zA, zB, zC])
    refine nl_ (hK26 _ _ ?_); clear hK26 K26
    refine wp_cond_false rfl ?_
    refine wp_exit ?_
    refine th_exit ?_
    refine th_exit ?_
    refine ib_exit ?_
    refine th_norm (hK8 _ _ ?_); try clear hK8 K8
    refine s_ (fun K27 hK27 => ?_)
    refine pu_ (v := .slice (some ⟨g, 0, none⟩) t.size cap) (y_move rfl (by rfl) (by rfl)) ?_
    (try simp only [zP, zN, zA, zB, zC])
    refine an_ (v := .string (str (t.data.toList.map upB))) (by rfl) (by have d := run_back HFB.out (n := t.size) (cap := cap) (by rw [List.length_map, tl_len]) Tryd.underlying72 Tryd.underlying5 Tryd.underlying9; go_simp) ?_
    (try simp only [zP, zN, zA, zB, zC])
    refine pu_ (v := .string (str (t.data.toList.map upB))) (y_assign rfl (by rfl) (by rfl)) ?_
    (try simp only [zP, zN, zA, zB, zC])
    refine nl_ (hK27 _ _ ?_); clear hK27 K27
    refine wp_ret ?_
    refine hQ _ _ _ ?_
    refine bodyPost_ret (res1 rfl (rdv_tmp (v := .string (str (t.data.toList.map upB))) (by rfl))) rfl ?_
    exact ⟨rfl, C0.out⟩
end
end Go.Proofs.YtcfkdglaedpnjaaDoor.V
