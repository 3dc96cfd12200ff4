/- The walks of a splitter's iterator and of what collects its texts. -/
import Derived.Test.YtfbecehinloldaaFrB
namespace Go.Proofs.Ytfbecehinloldaa.V
open Go Go.RowKit Go.Proofs.Ytfbecehinloldaa.K Go.Proofs.YtfbecehinloldaaW.PrintLast
set_option linter.unusedVariables false
set_option linter.unusedSimpArgs false
set_option maxRecDepth 100000
set_option maxHeartbeats 1600000
section
variable {w : World}
theorem cut_ {b : ByteArray}  :
    Calls Try.prog 14 #[.string b, .int .i64 400] w fun en w' => en = .returned (.string (cutT b)) ∧ Ch [] w w' := by
  have C0 := Lib.hid (Ch.refl [] w)
  go_enter Try.func14, Try.ntmps14
  refine q_ (fun Q hQ hP => ?_)
  refine s_ (fun K1 hK1 => ?_)
  refine pu_ (v := .string {data := #[]}) (y_assign rfl (by rfl) (by rfl)) ?_
  (try simp only [zP, zN, zA, zB, zC])
  refine nl_ (hK1 _ _ ?_); clear hK1 K1
  refine sq_ (fun K2 hK2 => ?_)
  rcases (show b.size > 400 ∨ ¬ b.size > 400 by omega) with h | h
  · have D8 := Lib.hid (show (400 : Int) < (b.size : Int) by omega)
    have HR := Lib.hid (show cutT b = b.extract 0 400 from if_pos h)
    have D11 := Lib.hid (show (400 : Int) ≤ (b.size : Int) by omega)
    refine s_ (fun K3 hK3 => ?_)
    refine pu_ (v := .string b) (y_move rfl (by rfl) (by rfl)) ?_
    (try simp only [zP, zN, zA, zB, zC])
    refine pu_ (v := .int .i64 b.size) (y_run (by rfl) (fun W => by go_simp)) ?_
    (try simp only [zP, zN, zA, zB, zC])
    refine pu_ (v := .int .i64 400) (y_move rfl (by rfl) (by rfl)) ?_
    (try simp only [zP, zN, zA, zB, zC])
    refine pu_ (v := .bool true) (y_run (by rfl) (fun W => by have d := D8.out; go_simp)) ?_
    (try simp only [zP, zN, zA, zB, zC])
    refine nl_ (hK3 _ _ ?_); clear hK3 K3
    refine wp_cond_true rfl ?_
    refine s_ (fun K4 hK4 => ?_)
    refine pu_ (v := .string b) (y_move rfl (by rfl) (by rfl)) ?_
    (try simp only [zP, zN, zA, zB, zC])
    refine pu_ (v := .int .i64 400) (y_move rfl (by rfl) (by rfl)) ?_
    (try simp only [zP, zN, zA, zB, zC])
    refine pu_ (v := .string (b.extract 0 400)) (y_run (by rfl) (fun W => by have d := D11.out; go_simp)) ?_
    (try simp only [zP, zN, zA, zB, zC])
    refine pu_ (v := .string (b.extract 0 400)) (y_assign rfl (by rfl) (by rfl)) ?_
    (try simp only [zP, zN, zA, zB, zC])
    refine nl_ (hK4 _ _ ?_); clear hK4 K4
    refine wp_ret ?_
    refine th_ret ?_
    refine hQ _ _ _ ?_
    refine bodyPost_ret (res1 rfl (rdv_tmp (v := .string (b.extract 0 400)) (by rfl))) rfl ?_
    exact ⟨by rw [HR.out], C0.out⟩
  · have D8 := Lib.hid (show ¬ (400 : Int) < (b.size : Int) by omega)
    have HR := Lib.hid (show cutT b = b from if_neg h)
    refine s_ (fun K5 hK5 => ?_)
    refine pu_ (v := .string b) (y_move rfl (by rfl) (by rfl)) ?_
    (try simp only [zP, zN, zA, zB, zC])
    refine pu_ (v := .int .i64 b.size) (y_run (by rfl) (fun W => by go_simp)) ?_
    (try simp only [zP, zN, zA, zB, zC])
    refine pu_ (v := .int .i64 400) (y_move rfl (by rfl) (by rfl)) ?_
    (try simp only [zP, zN, zA, zB, zC])
    refine pu_ (v := .bool false) (y_run (by rfl) (fun W => by have d := D8.out; go_simp)) ?_
    (try simp only [zP, zN, zA, zB, zC])
    refine nl_ (hK5 _ _ ?_); clear hK5 K5
    refine wp_cond_false rfl ?_
    refine wp_skip ?_
    refine th_norm (hK2 _ _ ?_); try clear hK2 K2
    refine s_ (fun K6 hK6 => ?_)
    refine pu_ (v := .string b) (y_move rfl (by rfl) (by rfl)) ?_
    (try simp only [zP, zN, zA, zB, zC])
    refine pu_ (v := .string b) (y_assign rfl (by rfl) (by rfl)) ?_
    (try simp only [zP, zN, zA, zB, zC])
    refine nl_ (hK6 _ _ ?_); clear hK6 K6
    refine wp_ret ?_
    refine hQ _ _ _ ?_
    refine bodyPost_ret (res1 rfl (rdv_tmp (v := .string b) (by rfl))) rfl ?_
    exact ⟨by rw [HR.out], C0.out⟩
theorem below_ {b : Int}  :
    Calls Try.prog 15 #[.int .i64 b, .int .i64 50] w fun en w' => ∃ v : Nat, en = .returned (.int .i64 v) ∧ v < 50 ∧ Ch [] w w' := by
  have C0 := Lib.hid (Ch.refl [] w)
  go_enter Try.func15, Try.ntmps15
  refine q_ (fun Q hQ hP => ?_)
  refine s_ (fun K1 hK1 => ?_)
  refine pu_ (v := .int .i64 0) (y_assign rfl (by rfl) (by rfl)) ?_
  (try simp only [zP, zN, zA, zB, zC])
  refine nl_ (hK1 _ _ ?_); clear hK1 K1
  skip
  · have HB := Lib.hid (show -50 < b.tmod 50 ∧ b.tmod 50 < 50 from ⟨Int.lt_tmod_of_pos b (by decide), Int.tmod_lt_of_pos b (by decide)⟩)
    obtain ⟨t, ht⟩ : ∃ t, t = b.tmod 50 := ⟨_, rfl⟩
    have HT := Lib.hid ht
    have HB2 := Lib.hid (show -50 < t ∧ t < 50 by rw [ht]; exact HB.out)
    clear ht
    have X7 := Lib.hid (show IntKind.i64.wrap t = t from wr64 (by have := HB2.out; omega))
    refine s_ (fun K2 hK2 => ?_)
    refine pu_ (v := .int .i64 b) (y_move rfl (by rfl) (by rfl)) ?_
    (try simp only [zP, zN, zA, zB, zC])
    refine pu_ (v := .int .i64 50) (y_move rfl (by rfl) (by rfl)) ?_
    (try simp only [zP, zN, zA, zB, zC])
    refine pu_ (v := .int .i64 t) (y_run (by rfl) (fun W => by have d := HT.out; have d2 := X7.out; rw [d] at d2 ⊢; go_simp)) ?_
    (try simp only [zP, zN, zA, zB, zC])
    refine pu_ (v := .int .i64 t) (y_assign rfl (by rfl) (by rfl)) ?_
    (try simp only [zP, zN, zA, zB, zC])
    refine nl_ (hK2 _ _ ?_); clear hK2 K2
    refine sq_ (fun K3 hK3 => ?_)
    rcases (show t < 0 ∨ ¬ t < 0 by omega) with h | h
    · have D9 := Lib.hid (show t < 0 from h)
      have X12 := Lib.hid (show IntKind.i64.wrap (t + 50) = t + 50 from wr64 (by have := HB2.out; omega))
      have HR := Lib.hid (show 0 ≤ t + 50 ∧ t + 50 < 50 by have := HB2.out; omega)
      refine s_ (fun K4 hK4 => ?_)
      refine pu_ (v := .int .i64 t) (y_move rfl (by rfl) (by rfl)) ?_
      (try simp only [zP, zN, zA, zB, zC])
      refine pu_ (v := .bool true) (y_run (by rfl) (fun W => by have d := D9.out; go_simp)) ?_
      (try simp only [zP, zN, zA, zB, zC])
      refine nl_ (hK4 _ _ ?_); clear hK4 K4
      refine wp_cond_true rfl ?_
      refine r_ ?_
      refine pu_ (v := .int .i64 t) (y_move rfl (by rfl) (by rfl)) ?_
      (try simp only [zP, zN, zA, zB, zC])
      refine pu_ (v := .int .i64 50) (y_move rfl (by rfl) (by rfl)) ?_
      (try simp only [zP, zN, zA, zB, zC])
      refine pu_ (v := .int .i64 (t + 50)) (y_run (by rfl) (fun W => by have d := X12.out; go_simp)) ?_
      (try simp only [zP, zN, zA, zB, zC])
      refine pu_ (v := .int .i64 (t + 50)) (y_assign rfl (by rfl) (by rfl)) ?_
      (try simp only [zP, zN, zA, zB, zC])
      refine nl_ ?_
      refine th_norm (hK3 _ _ ?_); try clear hK3 K3
      refine s_ (fun K5 hK5 => ?_)
      refine pu_ (v := .int .i64 (t + 50)) (y_move rfl (by rfl) (by rfl)) ?_
      (try simp only [zP, zN, zA, zB, zC])
      refine pu_ (v := .int .i64 (t + 50)) (y_assign rfl (by rfl) (by rfl)) ?_
      (try simp only [zP, zN, zA, zB, zC])
      refine nl_ (hK5 _ _ ?_); clear hK5 K5
      refine wp_ret ?_
      refine hQ _ _ _ ?_
      refine bodyPost_ret (res1 rfl (rdv_tmp (v := .int .i64 (t + 50)) (by rfl))) rfl ?_
      exact ⟨((t + 50)).toNat, by rw [Int.toNat_of_nonneg HR.out.1], by have := HR.out; omega, C0.out⟩
    · have D9 := Lib.hid (show ¬ t < 0 from h)
      have HR := Lib.hid (show 0 ≤ t ∧ t < 50 by have := HB2.out; omega)
      refine s_ (fun K6 hK6 => ?_)
      refine pu_ (v := .int .i64 t) (y_move rfl (by rfl) (by rfl)) ?_
      (try simp only [zP, zN, zA, zB, zC])
      refine pu_ (v := .bool false) (y_run (by rfl) (fun W => by have d := D9.out; go_simp)) ?_
      (try simp only [zP, zN, zA, zB, zC])
      refine nl_ (hK6 _ _ ?_); clear hK6 K6
      refine wp_cond_false rfl ?_
      refine wp_skip ?_
      refine th_norm (hK3 _ _ ?_); try clear hK3 K3
      refine s_ (fun K7 hK7 => ?_)
      refine pu_ (v := .int .i64 t) (y_move rfl (by rfl) (by rfl)) ?_
      (try simp only [zP, zN, zA, zB, zC])
      refine pu_ (v := .int .i64 t) (y_assign rfl (by rfl) (by rfl)) ?_
      (try simp only [zP, zN, zA, zB, zC])
      refine nl_ (hK7 _ _ ?_); clear hK7 K7
      refine wp_ret ?_
      refine hQ _ _ _ ?_
      refine bodyPost_ret (res1 rfl (rdv_tmp (v := .int .i64 t) (by rfl))) rfl ?_
      exact ⟨(t).toNat, by rw [Int.toNat_of_nonneg HR.out.1], by have := HR.out; omega, C0.out⟩
theorem all_ {x : Nat}  :
    Calls Try.prog 18 #[.pointer (some ⟨x, 0, none⟩)] w fun en w' => ∃ B, en = .returned (.func (.func 20) #[] #[.pointer (some ⟨B, 0, none⟩)]) ∧ Blk w' B #[.pointer (some ⟨x, 0, none⟩)] 30 ∧ w.heap.size ≤ B ∧ Ch [] w w' := by
  have C0 := Lib.hid (Ch.refl [] w)
  go_enter Try.func18, Try.ntmps18
  refine q_ (fun Q hQ hP => ?_)
  refine s_ (fun K1 hK1 => ?_)
  refine ef_ (fun K2 hK2 => ?_)
  refine e_boxN (by rfl) rfl rfl (cs := #[.pointer (some ⟨x, 0, none⟩)]) (v := .pointer (some ⟨x, 0, none⟩)) (by rfl) rfl ?_
  rintro g3 w4 HG5 B6 C7
  have nw8 := Lib.hid (show w.heap.size ≤ g3 by have := C0.out.size; have := HG5.out; omega)
  have C0' := Lib.hid (show Ch [] w w4 from C0.out.trans' C7 (fun x hx => absurd hx (by simp)))
  clear C0
  have C0 := C0'; clear C0'
  have Fg3 := Lib.hid (show Blk w4 g3 (#[.pointer (some ⟨x, 0, none⟩)]) 30 from B6); clear B6 C7
  refine hK2 _ _ ?_; clear hK2 K2
  (try simp only [zP, zN, zA, zB, zC])
  refine pu_ (v := .nilFunc) (y_assign rfl (by rfl) (by rfl)) ?_
  (try simp only [zP, zN, zA, zB, zC])
  refine nl_ (hK1 _ _ ?_); clear hK1 K1
  refine s_ (fun K9 hK9 => ?_)
  refine pu_ (v := .func (.func 20) #[] #[.pointer (some ⟨g3, 0, none⟩)]) (y_run (by rfl) (fun W => by go_simp)) ?_
  (try simp only [zP, zN, zA, zB, zC])
  refine pu_ (v := .func (.func 20) #[] #[.pointer (some ⟨g3, 0, none⟩)]) (y_assign rfl (by rfl) (by rfl)) ?_
  (try simp only [zP, zN, zA, zB, zC])
  refine nl_ (hK9 _ _ ?_); clear hK9 K9
  refine wp_ret ?_
  refine hQ _ _ _ ?_
  refine bodyPost_ret (res1 rfl (rdv_tmp (v := .func (.func 20) #[] #[.pointer (some ⟨g3, 0, none⟩)]) (by rfl))) rfl ?_
  exact ⟨_, rfl, Fg3.out, nw8.out, C0.out⟩
/-- The splitter behind k of the texts T, r behind them. -/
abbrev SpK (W : World) (x : Nat) (T : List ByteArray) (r : ByteArray) (k : Nat) : Prop := SplB W x (cat (T.drop k) ++ r)
theorem drop_at {T : List ByteArray} {k : Nat} {t : ByteArray} (h : T[k]? = some t) : T.drop k = t :: T.drop (k + 1) := by
  obtain ⟨hk, rfl⟩ := List.getElem?_eq_some_iff.1 h
  exact List.drop_eq_getElem_cons hk
theorem all1_ {L B x : Nat} {J : Nat → World → Prop} {T : List ByteArray} {r : ByteArray} {D : List ByteArray} (HSM : Hid (Smalls T)) (HSH : Hid (Short r D)) (HSZ : Hid (∀ k, (cat (T.drop k) ++ r).size ≤ 7000)) (HJC : Hid (∀ k W W', J k W → Ch [x] W W' → J k W')) (HJB : Hid (∀ k W, J k W → Blk W B #[.pointer (some ⟨x, 0, none⟩)] 30)) (HY : Hid (∀ k t W, T[k]? = some t → J k W → SpK W x T r (k + 1) → YieldS Try.prog L #[.string t] W fun e W' => e = .returned (.bool true) ∧ J (k + 1) W' ∧ SpK W' x T r (k + 1))) (HJ0 : Hid (J 0 w)) (SX : Hid (Blk w x (#[.string (cat (T.drop 0) ++ r), .bool false]) 43)) :
    Calls Try.prog 20 #[.func (.yield L) #[] #[], .pointer (some ⟨B, 0, none⟩)] w fun en w' => (∃ v, en = .returned v) ∧ J T.length w' ∧ SplB w' x r := by
  go_enter Try.func20, Try.ntmps20
  refine q_ (fun Q hQ hP => ?_)
  refine wp_scope_straight ?_
  refine sq_ (fun K1 hK1 => ?_)
  refine wp_label ?_
  refine th_norm (hK1 _ _ ?_); try clear hK1 K1
  refine wp_block ?_
  refine loopk_ (fun (kq : Nat) (a' : Act) (w' : World) => ∃ (k : Nat), ∃ (us : Nat → Value), a' = ⟨#[.func (.yield L) #[] #[], .pointer (some ⟨B, 0, none⟩), us 2, us 3, us 4, us 5, us 6, us 7, us 8, us 9, us 10, us 11, us 12, us 13, us 14, us 15, us 16, us 17], []⟩ ∧ Hid (Blk w' x (#[.string (cat (T.drop k) ++ r), .bool false]) 43) ∧ Hid (k ≤ T.length ∧ kq + k = T.length) ∧ Hid (J k w')) (T.length) (⟨0, fun us_ => (#[.func (.yield L) #[] #[], .pointer (some ⟨B, 0, none⟩), undef, undef, undef, undef, undef, undef, undef, undef, undef, undef, undef, undef, undef, undef, undef, undef] : Array Value).getD us_ undef, rfl, SX, Lib.hid ⟨by omega, by omega⟩, Lib.hid HJ0.out⟩) ?_
  rintro kq _ w2 ⟨k, us, rfl, SX, hk, HJ⟩ K3 hK3
  refine wp_block ?_
  rcases at_ways' hk.out.1 with ⟨t, ho0, hlt0⟩ | h
  · have hlt := Lib.hid hlt0
    have ho := Lib.hid ho0
    clear hlt0 ho0
    have C1 := Lib.hid (Ch.refl [x] w2)
    have FB := Lib.hid (HJB.out k _ HJ.out)
    have HX9 := Lib.hid (show cat (T.drop k) ++ r = frm t ++ (cat (T.drop (k + 1)) ++ r) by rw [drop_at ho.out]; simp only [cat]; rw [ByteArray.append_assoc])
    have HT := Lib.hid (HSM.out t (List.mem_of_getElem? ho.out))
    have HZ := Lib.hid (HSZ.out (k + 1))
    refine s_ (fun K4 hK4 => ?_)
    refine ld_ (v := .pointer (some ⟨x, 0, none⟩)) rfl (by rfl) (by rfl) (run_load_one ((FB.out.cell 0).trans rfl) Try.underlying30 rfl) ?_
    (try simp only [zP, zN, zA, zB, zC])
    refine ef_ (fun K5 hK5 => ?_)
    refine e_call Try.func12 (by kernel_rfl) rfl #[.pointer (some ⟨x, 0, none⟩)] (by rfl) rfl rfl (by first | rfl | (simp only [List.map_toArray, List.map_cons, List.map_nil]; first | done | rfl)) ((next_c (by have h9 := SX.out; rw [HX9.out] at h9; exact h9) (next_full t _ HT.out (by have := HZ.out; have := HT.out; omega)))) ?_
    rintro en w8 ⟨rfl, B7, cc6⟩
    refine ⟨_, rfl, ?_⟩
    have C1' := Lib.hid (show Ch [x] w2 w8 from C1.out.trans' cc6 (inw_cons (.inl List.mem_cons_self) inw_nil))
    have FB' := Lib.hid (show Blk w8 B (#[.pointer (some ⟨x, 0, none⟩)]) 30 from cc6.blk FB.out (nin_cons (Blk.ne_type FB.out SX.out (by decide)) nin_nil))
    clear C1 FB
    have C1 := C1'; clear C1'
    have FB := FB'; clear FB'
    clear SX
    clear cc6
    have SX := Lib.hid (show Blk w8 x (#[.string (cat (T.drop (k + 1)) ++ r), .bool false]) 43 from B7)
    refine hK5 _ _ ?_; clear hK5 K5
    (try simp only [zP, zN, zA, zB, zC])
    refine pu_ (v := .tuple #[.string t, .int .i64 0]) (y_move rfl (by rfl) (by rfl)) ?_
    (try simp only [zP, zN, zA, zB, zC])
    refine pu_ (v := .string t) (y_run (by rfl) (fun W => by go_simp)) ?_
    (try simp only [zP, zN, zA, zB, zC])
    refine pu_ (v := .int .i64 0) (y_run (by rfl) (fun W => by go_simp)) ?_
    (try simp only [zP, zN, zA, zB, zC])
    refine pu_ (v := .string t) (y_assign rfl (by rfl) (by rfl)) ?_
    (try simp only [zP, zN, zA, zB, zC])
    refine pu_ (v := .int .i64 0) (y_assign rfl (by rfl) (by rfl)) ?_
    (try simp only [zP, zN, zA, zB, zC])
    refine nl_ (hK4 _ _ ?_); clear hK4 K4
    refine wp_block ?_
    refine s_ (fun K9 hK9 => ?_)
    refine pu_ (v := .int .i64 0) (y_move rfl (by rfl) (by rfl)) ?_
    (try simp only [zP, zN, zA, zB, zC])
    refine pu_ (v := .bool false) (y_run (by rfl) (fun W => by first | (go_simp; done) | (go_simp; rfl) | (go_simp; decide))) ?_
    (try simp only [zP, zN, zA, zB, zC])
    refine pu_ (v := .bool false) (y_assign rfl (by rfl) (by rfl)) ?_
    (try simp only [zP, zN, zA, zB, zC])
    refine nl_ (hK9 _ _ ?_); clear hK9 K9
    refine wp_cond_false rfl ?_
    refine sq_ (fun K10 hK10 => ?_)
    refine yregk_ 2 rfl rfl ?_
    refine pu_ (v := .func (.yield L) #[] #[]) (y_move rfl (by rfl) (by rfl)) ?_
    (try simp only [zP, zN, zA, zB, zC])
    refine pu_ (v := .string t) (y_move rfl (by rfl) (by rfl)) ?_
    (try simp only [zP, zN, zA, zB, zC])
    refine nl_ (only_ ?_)
    refine ⟨by rfl, _, _, _, _, #[.string t], rfl, by rfl, (by first | rfl | (simp only [List.map_toArray, List.map_cons, List.map_nil]; first | done | rfl)), ?_⟩
    refine (HY.out k t _ ho.out (HJC.out _ _ _ HJ.out C1.out) SX.out).mono ?_
    rintro _ w11 ⟨rfl, hj2, hsp2⟩
    refine ⟨_, rfl, ?_⟩
    have HJ2 := Lib.hid hj2
    clear hj2
    (try simp only [zP, zN, zA, zB, zC])
    refine pu_ (v := .bool false) (y_run (by rfl) (fun W => by go_simp)) ?_
    (try simp only [zP, zN, zA, zB, zC])
    refine pu_ (v := .bool false) (y_assign rfl (by rfl) (by rfl)) ?_
    (try simp only [zP, zN, zA, zB, zC])
    refine nl_ (th_norm (hK10 _ _ ?_)); clear hK10 K10
    refine wp_cond_false rfl ?_
    refine wp_skip ?_
    refine ib_norm ?_
    refine ib_norm ?_
    exact th_norm (hK3 (kq - 1) _ _ (by have := hlt.out; have := hk.out; omega) ⟨k + 1, fun us_ => (#[.func (.yield L) #[] #[], .pointer (some ⟨B, 0, none⟩), us 2, .string t, .int .i64 0, .tuple #[.string t, .int .i64 0], .pointer (some ⟨x, 0, none⟩), .tuple #[.string t, .int .i64 0], .string t, .int .i64 0, .bool false, .int .i64 0, .bool false, .bool false, .func (.yield L) #[] #[], .string t, .bool true, .bool false] : Array Value).getD us_ undef, rfl, Lib.hid hsp2, Lib.hid ⟨by have := hlt.out; omega, by have := hlt.out; have := hk.out; omega⟩, HJ2⟩)
  · have HE := Lib.hid h
    clear h
    have C1 := Lib.hid (Ch.refl [x] w2)
    have FB := Lib.hid (HJB.out k _ HJ.out)
    have HX9 := Lib.hid (show cat (T.drop k) ++ r = r by rw [HE.out, List.drop_length]; exact nil_app r)
    refine s_ (fun K12 hK12 => ?_)
    refine ld_ (v := .pointer (some ⟨x, 0, none⟩)) rfl (by rfl) (by rfl) (run_load_one ((FB.out.cell 0).trans rfl) Try.underlying30 rfl) ?_
    (try simp only [zP, zN, zA, zB, zC])
    refine ef_ (fun K13 hK13 => ?_)
    refine e_call Try.func12 (by kernel_rfl) rfl #[.pointer (some ⟨x, 0, none⟩)] (by rfl) rfl rfl (by first | rfl | (simp only [List.map_toArray, List.map_cons, List.map_nil]; first | done | rfl)) ((next_c (by have h9 := SX.out; rw [HX9.out] at h9; exact h9) (next_short HSH.out))) ?_
    rintro en w16 ⟨rfl, B15, cc14⟩
    refine ⟨_, rfl, ?_⟩
    have C1' := Lib.hid (show Ch [x] w2 w16 from C1.out.trans' cc14 (inw_cons (.inl List.mem_cons_self) inw_nil))
    have FB' := Lib.hid (show Blk w16 B (#[.pointer (some ⟨x, 0, none⟩)]) 30 from cc14.blk FB.out (nin_cons (Blk.ne_type FB.out SX.out (by decide)) nin_nil))
    clear C1 FB
    have C1 := C1'; clear C1'
    have FB := FB'; clear FB'
    clear SX
    clear cc14
    have SX := Lib.hid (show Blk w16 x (#[.string r, .bool false]) 43 from B15)
    refine hK13 _ _ ?_; clear hK13 K13
    (try simp only [zP, zN, zA, zB, zC])
    refine pu_ (v := .tuple #[.string E0, .int .i64 6]) (y_move rfl (by rfl) (by rfl)) ?_
    (try simp only [zP, zN, zA, zB, zC])
    refine pu_ (v := .string E0) (y_run (by rfl) (fun W => by go_simp)) ?_
    (try simp only [zP, zN, zA, zB, zC])
    refine pu_ (v := .int .i64 6) (y_run (by rfl) (fun W => by go_simp)) ?_
    (try simp only [zP, zN, zA, zB, zC])
    refine pu_ (v := .string E0) (y_assign rfl (by rfl) (by rfl)) ?_
    (try simp only [zP, zN, zA, zB, zC])
    refine pu_ (v := .int .i64 6) (y_assign rfl (by rfl) (by rfl)) ?_
    (try simp only [zP, zN, zA, zB, zC])
    refine nl_ (hK12 _ _ ?_); clear hK12 K12
    refine wp_block ?_
    refine s_ (fun K17 hK17 => ?_)
    refine pu_ (v := .int .i64 6) (y_move rfl (by rfl) (by rfl)) ?_
    (try simp only [zP, zN, zA, zB, zC])
    refine pu_ (v := .bool true) (y_run (by rfl) (fun W => by first | (go_simp; done) | (go_simp; rfl) | (go_simp; decide))) ?_
    (try simp only [zP, zN, zA, zB, zC])
    refine pu_ (v := .bool true) (y_assign rfl (by rfl) (by rfl)) ?_
    (try simp only [zP, zN, zA, zB, zC])
    refine nl_ (hK17 _ _ ?_); clear hK17 K17
    refine wp_cond_true rfl ?_
    refine wp_exit ?_
    refine ib_other (by decide) ?_
    refine ib_other (by decide) ?_
    refine th_exit ?_
    refine ib_exit ?_
    refine ng_norm ?_
    refine hQ _ _ _ ?_
    refine bodyPost_end (res0 rfl) rfl ?_
    exact ⟨⟨_, rfl⟩, by have h9 := HJC.out _ _ _ HJ.out C1.out; rw [HE.out] at h9; exact h9, SX.out⟩
theorem run_equalIn_func_nil {P : Program} (W : World) (d : Nat) (t : TypeId) (f : Fn) (a b : Array Value) {ps rs : Array TypeId} {v : Bool} (h : P.underlying t = some (.func ps rs v)) : (Op.equalIn (d + 1) t (.func f a b) .nilFunc).run P W = .ok false W := by
  simp [Op.equalIn, run_underlying h]
theorem run_eql_func_nil {P : Program} (t : TypeId) (f : Fn) (a b : Array Value) {ps rs : Array TypeId} {v : Bool} (h : P.underlying t = some (.func ps rs v)) (W : World) : (binOp .eql t (.func f a b) .nilFunc).run P W = .ok (.bool false) W := by
  simp only [binOp]
  simp [Op.equal, Op.maxDepth, run_equalIn_func_nil W 9999 t f a b h]
/-- What stands between two rounds of texts. -/
def TxJ (wA : World) (T : List ByteArray) (x B gs L D : Nat) (rc : Loop) (k : Nat) (W : World) : Prop := ∃ vt, Blk W gs #[vt] 29 ∧ OwnS W wA.heap.size 9 1 vt k ((T.take k).flatMap strC) ∧ Rec W L rc ∧ Dfr W D ∧ Blk W B #[.pointer (some ⟨x, 0, none⟩)] 30 ∧ Ch [x] wA W ∧ gs ≠ x ∧ L ≠ x ∧ D ≠ x ∧ B ≠ x ∧ x ∉ rl vt
theorem TxJ.ch {wA : World} {T : List ByteArray} {x B gs L D : Nat} {rc : Loop} {k : Nat} {W W' : World} (h : TxJ wA T x B gs L D rc k W) (c : Ch [x] W W') : TxJ wA T x B gs L D rc k W' := by
  obtain ⟨vt, h1, h2, h3, h4, h5, h6, n1, n2, n3, n4, n5⟩ := h
  have hn : ∀ z, z ≠ x → z ∉ [x] := fun z hz hm => hz (List.mem_singleton.1 hm)
  exact ⟨vt, c.blk h1 (hn _ n1), h2.ch c (fun k hk hm => n5 (List.mem_singleton.1 hm ▸ hk)), h3.ch c (hn _ n2), h4.ch c (hn _ n3), c.blk h5 (hn _ n4), h6.trans c, n1, n2, n3, n4, n5⟩
theorem TxJ.b {wA : World} {T : List ByteArray} {x B gs L D : Nat} {rc : Loop} {k : Nat} {W : World} (h : TxJ wA T x B gs L D rc k W) : Blk W B #[.pointer (some ⟨x, 0, none⟩)] 30 := by
  obtain ⟨vt, h1, h2, h3, h4, h5, h6⟩ := h
  exact h5
theorem texts_ {x : Nat} {T : List ByteArray} {r : ByteArray} {D : List ByteArray} (HN : Hid (T.length ≤ 100)) (HSM : Hid (Smalls T)) (HSH : Hid (Short r D)) (HSZ : Hid (∀ k, (cat (T.drop k) ++ r).size ≤ 7000)) (SX : Hid (Blk w x (#[.string (cat (T.drop 0) ++ r), .bool false]) 43)) :
    Calls Try.prog 16 #[.pointer (some ⟨x, 0, none⟩)] w fun en w' => ∃ v', en = .returned v' ∧ OwnS w' w.heap.size 9 1 v' T.length (T.flatMap strC) ∧ SplB w' x r ∧ Ch [x] w w' := by
  have C0 := Lib.hid (Ch.refl [x] w)
  obtain ⟨i9, I9⟩ := Info.of info9
  refine callsM_ Try.func16 rfl ?_
  simp only [Try.ntmps16, List.size_toArray, List.length_cons, List.length_nil, Nat.reduceAdd, Nat.reduceSub, Array.replicate_succ, Array.replicate_zero, List.push_toArray, List.append_toArray, List.nil_append, List.cons_append]
  refine qM_ (fun Q hQ => ?_)
  refine s_ (fun K1 hK1 => ?_)
  refine pu_ (v := .slice none 0 0) (y_assign rfl (by rfl) (by rfl)) ?_
  (try simp only [zP, zN, zA, zB, zC])
  refine nl_ (hK1 _ _ ?_); clear hK1 K1
  refine s_ (fun K2 hK2 => ?_)
  refine ef_ (fun K3 hK3 => ?_)
  refine e_alloc (by rfl) rfl rfl (cs := #[.slice none 0 0]) (by kernel_rfl) ?_
  rintro gs w4 HG5 B6 C7
  have nw8 := Lib.hid (show w.heap.size ≤ gs by have := C0.out.size; have := HG5.out; omega)
  have C0' := Lib.hid (show Ch [x] w w4 from C0.out.trans' C7 (fun x hx => absurd hx (by simp)))
  have SX' := Lib.hid (show Blk w4 x (#[.string (cat (T.drop 0) ++ r), .bool false]) 43 from C7.blk SX.out nin_nil)
  clear C0 SX
  have C0 := C0'; clear C0'
  have SX := SX'; clear SX'
  have Fgs := Lib.hid (show Blk w4 gs (#[.slice none 0 0]) 29 from B6); clear B6 C7
  refine hK3 _ _ ?_; clear hK3 K3
  (try simp only [zP, zN, zA, zB, zC])
  refine nl_ (hK2 _ _ ?_); clear hK2 K2
  refine s_ (fun K9 hK9 => ?_)
  refine pu_ (v := .pointer (some ⟨x, 0, none⟩)) (y_move rfl (by rfl) (by rfl)) ?_
  (try simp only [zP, zN, zA, zB, zC])
  refine ef_ (fun K10 hK10 => ?_)
  refine e_call Try.func18 (by kernel_rfl) rfl #[.pointer (some ⟨x, 0, none⟩)] (by rfl) rfl rfl (by first | rfl | (simp only [List.map_toArray, List.map_cons, List.map_nil]; first | done | rfl)) (all_ (x := x)) ?_
  rintro en w11 ⟨B, rfl, hb, hB0, cc⟩
  refine ⟨_, rfl, ?_⟩
  have hBN := Lib.hid (show w.heap.size ≤ B by have := C0.out.size; omega)
  have C0' := Lib.hid (show Ch [x] w w11 from C0.out.trans' cc (fun x hx => absurd hx (by simp)))
  have SX' := Lib.hid (show Blk w11 x (#[.string (cat (T.drop 0) ++ r), .bool false]) 43 from cc.blk SX.out nin_nil)
  have Fgs' := Lib.hid (show Blk w11 gs (#[.slice none 0 0]) 29 from cc.blk Fgs.out nin_nil)
  clear C0 SX Fgs
  have C0 := C0'; clear C0'
  have SX := SX'; clear SX'
  have Fgs := Fgs'; clear Fgs'
  clear cc
  have FB := Lib.hid hb
  clear hb
  refine hK10 _ _ ?_; clear hK10 K10
  (try simp only [zP, zN, zA, zB, zC])
  refine pu_ (v := .func (.func 20) #[] #[.pointer (some ⟨B, 0, none⟩)]) (y_assign rfl (by rfl) (by rfl)) ?_
  (try simp only [zP, zN, zA, zB, zC])
  refine nl_ (hK9 _ _ ?_); clear hK9 K9
  refine sq_ (fun K12 hK12 => ?_)
  refine s_ (fun K13 hK13 => ?_)
  refine pu_ (v := .func (.func 20) #[] #[.pointer (some ⟨B, 0, none⟩)]) (y_move rfl (by rfl) (by rfl)) ?_
  (try simp only [zP, zN, zA, zB, zC])
  refine pu_ (v := .bool false) (y_run (by rfl) (fun W => by have d := run_eql_func_nil 46 (.func 20) #[] #[.pointer (some ⟨B, 0, none⟩)] Try.underlying46 W; go_simp)) ?_
  (try simp only [zP, zN, zA, zB, zC])
  refine nl_ (hK13 _ _ ?_); clear hK13 K13
  refine wp_cond_false rfl ?_
  refine wp_skip ?_
  refine th_norm (hK12 _ _ ?_); try clear hK12 K12
  refine sq_ (fun K14 hK14 => ?_)
  refine s_ (fun K15 hK15 => ?_)
  refine pu_ (v := .func (.func 20) #[] #[.pointer (some ⟨B, 0, none⟩)]) (y_move rfl (by rfl) (by rfl)) ?_
  (try simp only [zP, zN, zA, zB, zC])
  refine nl_ (hK15 _ _ ?_); clear hK15 K15
  refine wp_block ?_
  refine rfunc_ (gf := 20) (lb := #[.pointer (some ⟨B, 0, none⟩)]) (by rfl) Try.func20 (by kernel_rfl) rfl ?_
  rintro D L rc w5 hD hL cc hDf hRc hr
  have hLn := Lib.hid (show w.heap.size ≤ L by have := hL.out; have := C0.out.size; omega)
  have hDn := Lib.hid (show w.heap.size ≤ D by have := hD.out; have := C0.out.size; omega)
  have C0' := Lib.hid (show Ch [x] w w5 from C0.out.trans' cc (fun x hx => absurd hx (by simp)))
  have SX' := Lib.hid (show Blk w5 x (#[.string (cat (T.drop 0) ++ r), .bool false]) 43 from cc.blk SX.out nin_nil)
  have Fgs' := Lib.hid (show Blk w5 gs (#[.slice none 0 0]) 29 from cc.blk Fgs.out nin_nil)
  have FB' := Lib.hid (show Blk w5 B (#[.pointer (some ⟨x, 0, none⟩)]) 30 from cc.blk FB.out nin_nil)
  clear C0 SX Fgs FB
  have C0 := C0'; clear C0'
  have SX := SX'; clear SX'
  have Fgs := Fgs'; clear Fgs'
  have FB := FB'; clear FB'
  clear cc
  have RF := Lib.hid hRc
  have DF := Lib.hid hDf
  clear hRc hDf
  refine (all1_ (J := TxJ w T x B gs L D rc) HSM HSH HSZ (Lib.hid fun k W W' h c => h.ch c) (Lib.hid fun k W h => h.b) (Lib.hid ?_) (Lib.hid ?_) SX).mono ?_
  · intro k t W hx hJ hsp
    have ho := Lib.hid hx
    obtain ⟨vt, f1, f2, f3, f4, f5, f6, f7⟩ := hJ
    clear C0 RF DF FB SX Fgs hx f7
    have C0 := Lib.hid f6; have RF := Lib.hid f3; have DF := Lib.hid f4; have FS := Lib.hid f1; have OT := Lib.hid f2; have FB := Lib.hid f5; have SX := Lib.hid hsp
    clear f1 f2 f3 f4 f5 f6 hsp
    refine yield_ RF.out (by rw [hr.out.2.2.2.1]; rfl) hr.out.1 hr.out.2.1 hr.out.2.2.2.2.1 hr.out.2.2.2.2.2 (NoDefer.cons rfl NoDefer.nil) (NoDefer.cons rfl (NoDefer.cons rfl (NoDefer.cons rfl (NoDefer.cons rfl (NoDefer.cons rfl NoDefer.nil))))) (by rw [hr.out.2.2.1, hr.out.2.2.2.1]; simp) (tmps := #[.pointer (some ⟨x, 0, none⟩), undef, .slice none 0 0, .pointer (some ⟨gs, 0, none⟩), .func (.func 20) #[] #[.pointer (some ⟨B, 0, none⟩)], undef, .pointer (some ⟨x, 0, none⟩), .func (.func 20) #[] #[.pointer (some ⟨B, 0, none⟩)], .func (.func 20) #[] #[.pointer (some ⟨B, 0, none⟩)], .bool false, .func (.func 20) #[] #[.pointer (some ⟨B, 0, none⟩)], .string t, undef, undef, undef, undef, undef]) (fun (a' : Act) (w' : World) => ∃ (us : Nat → Value), a' = ⟨#[.pointer (some ⟨x, 0, none⟩), us 1, .slice none 0 0, .pointer (some ⟨gs, 0, none⟩), .func (.func 20) #[] #[.pointer (some ⟨B, 0, none⟩)], .string t, .pointer (some ⟨x, 0, none⟩), .func (.func 20) #[] #[.pointer (some ⟨B, 0, none⟩)], .func (.func 20) #[] #[.pointer (some ⟨B, 0, none⟩)], .bool false, .func (.func 20) #[] #[.pointer (some ⟨B, 0, none⟩)], .string t, us 12, us 13, us 14, us 15, us 16], []⟩ ∧ Hid (Ch [x] w w') ∧ Hid (Rec w' L rc) ∧ Hid (Dfr w' D) ∧ Hid (Blk w' gs (#[vt]) 29) ∧ Hid (OwnS w' w.heap.size 9 1 (vt) (k) ((T.take k).flatMap strC)) ∧ Hid (Blk w' B (#[.pointer (some ⟨x, 0, none⟩)]) 30) ∧ Hid (Blk w' x (#[.string (cat (T.drop (k + 1)) ++ r), .bool false]) 43)) (fun (a' : Act) (w' : World) => ∃ (vt : Value), ∃ (us : Nat → Value), a' = ⟨#[.pointer (some ⟨x, 0, none⟩), us 1, .slice none 0 0, .pointer (some ⟨gs, 0, none⟩), .func (.func 20) #[] #[.pointer (some ⟨B, 0, none⟩)], .string t, .pointer (some ⟨x, 0, none⟩), .func (.func 20) #[] #[.pointer (some ⟨B, 0, none⟩)], .func (.func 20) #[] #[.pointer (some ⟨B, 0, none⟩)], .bool false, .func (.func 20) #[] #[.pointer (some ⟨B, 0, none⟩)], .string t, us 12, us 13, us 14, us 15, us 16], []⟩ ∧ Hid (Ch [x] w w') ∧ Hid (Rec w' L { rc with state := .busy }) ∧ Hid (Dfr w' D) ∧ Hid (Blk w' gs (#[vt]) 29) ∧ Hid (OwnS w' w.heap.size 9 1 (vt) (k + 1) ((T.take (k + 1)).flatMap strC)) ∧ Hid (Blk w' B (#[.pointer (some ⟨x, 0, none⟩)]) 30) ∧ Hid (Blk w' x (#[.string (cat (T.drop (k + 1)) ++ r), .bool false]) 43)) ?_ ?_ ?_
    · refine pu_ (v := .string t) (y_assign rfl (by rfl) (by rfl)) ?_
      (try simp only [zP, zN, zA, zB, zC])
      refine nl_ (only_ ?_)
      exact ⟨fun us_ => (#[.pointer (some ⟨x, 0, none⟩), undef, .slice none 0 0, .pointer (some ⟨gs, 0, none⟩), .func (.func 20) #[] #[.pointer (some ⟨B, 0, none⟩)], .string t, .pointer (some ⟨x, 0, none⟩), .func (.func 20) #[] #[.pointer (some ⟨B, 0, none⟩)], .func (.func 20) #[] #[.pointer (some ⟨B, 0, none⟩)], .bool false, .func (.func 20) #[] #[.pointer (some ⟨B, 0, none⟩)], .string t, undef, undef, undef, undef, undef] : Array Value).getD us_ undef, rfl, C0, RF, DF, FS, OT, FB, SX⟩
    · rintro _ w8 ⟨us, rfl, C0, RF, DF, FS, OT, FB, SX⟩
      refine ⟨RF.out, fun w9 c9 hb9 => ?_⟩
      have C0' := Lib.hid (show Ch [x] w w9 from C0.out.trans' c9 (inw_cons (.inr hLn.out) inw_nil))
      have DF' := Lib.hid (show Dfr w9 D from DF.out.ch c9 (nin_cons (DF.out.nl RF.out) nin_nil))
      have FS' := Lib.hid (show Blk w9 gs (#[vt]) 29 from c9.blk FS.out (nin_cons (RF.out.ne FS.out) nin_nil))
      have OT' := Lib.hid (show OwnS w9 w.heap.size 9 1 (vt) (k) ((T.take k).flatMap strC) from OT.out.ch c9 (rnin_cons (RF.out.nr OT.out) rnin_nil))
      have FB' := Lib.hid (show Blk w9 B (#[.pointer (some ⟨x, 0, none⟩)]) 30 from c9.blk FB.out (nin_cons (RF.out.ne FB.out) nin_nil))
      have SX' := Lib.hid (show Blk w9 x (#[.string (cat (T.drop (k + 1)) ++ r), .bool false]) 43 from c9.blk SX.out (nin_cons (RF.out.ne SX.out) nin_nil))
      clear C0 DF FS OT FB SX
      have C0 := C0'; clear C0'
      have DF := DF'; clear DF'
      have FS := FS'; clear FS'
      have OT := OT'; clear OT'
      have FB := FB'; clear FB'
      have SX := SX'; clear SX'
      clear RF c9
      have RF := Lib.hid hb9
      clear hb9
      have HKN := Lib.hid (show k < 1000 by have := HN.out; have := (List.getElem?_eq_some_iff.1 ho.out).1; omega)
      refine ld_ (v := vt) rfl (by rfl) (by rfl) (run_load_one ((FS.out.cell 0).trans rfl) Try.underlying29 rfl) ?_
      (try simp only [zP, zN, zA, zB, zC])
      refine pu_ (v := .string t) (y_move rfl (by rfl) (by rfl)) ?_
      (try simp only [zP, zN, zA, zB, zC])
      refine ef_ (fun K16 hK16 => ?_)
      refine e_buildS (parts := #[(0, .string t)]) (cells := #[.string t]) (by rfl) rfl rfl (by first | rfl | (simp only [List.map_toArray, List.map_cons, List.map_nil]; first | done | rfl)) Try.underlying29 I9.hi I9.hz I9.hs (by decide) (by decide) (by kernel_rfl) ?_
      rintro g17 w18 HG19 B20 C21
      have nw22 := Lib.hid (show w.heap.size ≤ g17 by have := C0.out.size; have := HG19.out; omega)
      have nr23 := Lib.hid (OT.out.ne_new HG19)
      have C0' := Lib.hid (show Ch [x] w w18 from C0.out.trans' C21 (fun x hx => absurd hx (by simp)))
      have RF' := Lib.hid (show Rec w18 L { rc with state := .busy } from RF.out.ch C21 nin_nil)
      have DF' := Lib.hid (show Dfr w18 D from DF.out.ch C21 nin_nil)
      have FS' := Lib.hid (show Blk w18 gs (#[vt]) 29 from C21.blk FS.out nin_nil)
      have OT' := Lib.hid (show OwnS w18 w.heap.size 9 1 (vt) (k) ((T.take k).flatMap strC) from OT.out.ch C21 rnin_nil)
      have FB' := Lib.hid (show Blk w18 B (#[.pointer (some ⟨x, 0, none⟩)]) 30 from C21.blk FB.out nin_nil)
      have SX' := Lib.hid (show Blk w18 x (#[.string (cat (T.drop (k + 1)) ++ r), .bool false]) 43 from C21.blk SX.out nin_nil)
      clear C0 RF DF FS OT FB SX
      have C0 := C0'; clear C0'
      have RF := RF'; clear RF'
      have DF := DF'; clear DF'
      have FS := FS'; clear FS'
      have OT := OT'; clear OT'
      have FB := FB'; clear FB'
      have SX := SX'; clear SX'
      have Fg17 := Lib.hid (show Blk w18 g17 (#[.string t]) 9 from B20); clear B20 C21
      refine hK16 _ _ ?_; clear hK16 K16
      (try simp only [zP, zN, zA, zB, zC])
      refine ef_ (fun K24 hK24 => ?_)
      refine e_append (by rfl) rfl rfl (w.heap.size) 9 _ _ 1 16 Try.underlying29 I9.hi I9.hz I9.hs I9.hb rfl (by decide) (vt) (k) ((T.take k).flatMap strC) (by rfl) OT.out (.slice (some ⟨g17, 0, none⟩) 1 1) 1 (strC t) (by rfl) ⟨rfl, .inr ⟨_, _, rfl, by have h9 := CellsAt.blk Fg17.out 0; exact h9⟩⟩ (strC_one t) (by unfold maxLen; have := HKN.out; omega) (by have := HKN.out; omega) C0.out.size ?_
      rintro v25 w26 O27 C28 R29 -
      have nr31 := Lib.hid (show g17 ∉ rl v25 from fun hk => (R29 _ hk).elim nr23.out (fun h => by have := Fg17.out.lt; omega))
      have C0' := Lib.hid (show Ch [x] w w26 from C0.out.trans' C28 (fun x hx => .inr (OT.out.lt x hx).1))
      have RF' := Lib.hid (show Rec w26 L { rc with state := .busy } from RF.out.ch C28 (RF.out.nr OT.out))
      have DF' := Lib.hid (show Dfr w26 D from DF.out.ch C28 (DF.out.nr OT.out))
      have FS' := Lib.hid (show Blk w26 gs (#[vt]) 29 from C28.blk FS.out (OT.out.ne FS.out (by decide)))
      have FB' := Lib.hid (show Blk w26 B (#[.pointer (some ⟨x, 0, none⟩)]) 30 from C28.blk FB.out (OT.out.ne FB.out (by decide)))
      have SX' := Lib.hid (show Blk w26 x (#[.string (cat (T.drop (k + 1)) ++ r), .bool false]) 43 from C28.blk SX.out (OT.out.ne SX.out (by decide)))
      have Fg17' := Lib.hid (show Blk w26 g17 (#[.string t]) 9 from C28.blk Fg17.out nr23.out)
      clear C0 RF DF FS FB SX Fg17
      have C0 := C0'; clear C0'
      have RF := RF'; clear RF'
      have DF := DF'; clear DF'
      have FS := FS'; clear FS'
      have FB := FB'; clear FB'
      have SX := SX'; clear SX'
      have Fg17 := Fg17'; clear Fg17'
      clear OT
      have OT := Lib.hid (show OwnS w26 w.heap.size 9 1 (v25) (k + 1) ((T.take k).flatMap strC ++ strC t) from O27); clear O27 C28
      refine hK24 _ _ ?_; clear hK24 K24
      (try simp only [zP, zN, zA, zB, zC])
      refine ef_ (fun K32 hK32 => ?_)
      refine e_store1 (b := gs) (j := 0) (v := v25) (by rfl) rfl rfl (by rfl) (by rfl) FS.out (show 0 < 1 by omega) (by kernel_rfl) OT.out.one ?_
      rintro w33 B34 C35
      have C0' := Lib.hid (show Ch [x] w w33 from C0.out.trans' C35 (inw_cons (.inr nw8.out) inw_nil))
      have RF' := Lib.hid (show Rec w33 L { rc with state := .busy } from RF.out.ch C35 (nin_cons (Ne.symm (RF.out.ne FS.out)) nin_nil))
      have DF' := Lib.hid (show Dfr w33 D from DF.out.ch C35 (nin_cons (Ne.symm (DF.out.ne FS.out)) nin_nil))
      have OT' := Lib.hid (show OwnS w33 w.heap.size 9 1 (v25) (k + 1) ((T.take k).flatMap strC ++ strC t) from OT.out.ch C35 (rnin_cons (OT.out.ne FS.out (by decide)) rnin_nil))
      have FB' := Lib.hid (show Blk w33 B (#[.pointer (some ⟨x, 0, none⟩)]) 30 from C35.blk FB.out (nin_cons (Blk.ne_type FB.out FS.out (by decide)) nin_nil))
      have SX' := Lib.hid (show Blk w33 x (#[.string (cat (T.drop (k + 1)) ++ r), .bool false]) 43 from C35.blk SX.out (nin_cons (Blk.ne_type SX.out FS.out (by decide)) nin_nil))
      have Fg17' := Lib.hid (show Blk w33 g17 (#[.string t]) 9 from C35.blk Fg17.out (nin_cons (Blk.ne_type Fg17.out FS.out (by decide)) nin_nil))
      clear C0 RF DF OT FB SX Fg17
      have C0 := C0'; clear C0'
      have RF := RF'; clear RF'
      have DF := DF'; clear DF'
      have OT := OT'; clear OT'
      have FB := FB'; clear FB'
      have SX := SX'; clear SX'
      have Fg17 := Fg17'; clear Fg17'
      clear FS; have FS := Lib.hid (show Blk w33 gs (#[v25]) 29 from B34); clear B34 C35
      refine hK32 _ _ ?_; clear hK32 K32
      (try simp only [zP, zN, zA, zB, zC])
      refine nl_ (only_ ?_)
      exact ⟨_, fun us_ => (#[.pointer (some ⟨x, 0, none⟩), us 1, .slice none 0 0, .pointer (some ⟨gs, 0, none⟩), .func (.func 20) #[] #[.pointer (some ⟨B, 0, none⟩)], .string t, .pointer (some ⟨x, 0, none⟩), .func (.func 20) #[] #[.pointer (some ⟨B, 0, none⟩)], .func (.func 20) #[] #[.pointer (some ⟨B, 0, none⟩)], .bool false, .func (.func 20) #[] #[.pointer (some ⟨B, 0, none⟩)], .string t, vt, .string t, .slice (some ⟨g17, 0, none⟩) 1 1, v25, us 16] : Array Value).getD us_ undef, rfl, C0, RF, DF, FS, Lib.hid (by have h9 := OT.out; rw [take_snoc ho.out, List.flatMap_append, List.flatMap_cons, List.flatMap_nil, List.append_nil]; exact h9), FB, SX⟩
    · rintro _ w8 ⟨vt, us, rfl, C0, RF, DF, FS, OT, FB, SX⟩
      refine ⟨RF.out, fun w9 c9 hb9 => ⟨rfl, ?_⟩⟩
      have C0' := Lib.hid (show Ch [x] w w9 from C0.out.trans' c9 (inw_cons (.inr hLn.out) inw_nil))
      have DF' := Lib.hid (show Dfr w9 D from DF.out.ch c9 (nin_cons (DF.out.nl RF.out) nin_nil))
      have FS' := Lib.hid (show Blk w9 gs (#[vt]) 29 from c9.blk FS.out (nin_cons (RF.out.ne FS.out) nin_nil))
      have OT' := Lib.hid (show OwnS w9 w.heap.size 9 1 (vt) (k + 1) ((T.take (k + 1)).flatMap strC) from OT.out.ch c9 (rnin_cons (RF.out.nr OT.out) rnin_nil))
      have FB' := Lib.hid (show Blk w9 B (#[.pointer (some ⟨x, 0, none⟩)]) 30 from c9.blk FB.out (nin_cons (RF.out.ne FB.out) nin_nil))
      have SX' := Lib.hid (show Blk w9 x (#[.string (cat (T.drop (k + 1)) ++ r), .bool false]) 43 from c9.blk SX.out (nin_cons (RF.out.ne SX.out) nin_nil))
      clear C0 DF FS OT FB SX
      have C0 := C0'; clear C0'
      have DF := DF'; clear DF'
      have FS := FS'; clear FS'
      have OT := OT'; clear OT'
      have FB := FB'; clear FB'
      have SX := SX'; clear SX'
      clear RF
      have RF := Lib.hid hb9
      exact ⟨⟨_, FS.out, OT.out, hb9, DF.out, FB.out, C0.out, (Blk.ne_type FS.out SX.out (by decide)), (Ne.symm (RF.out.ne SX.out)), (Ne.symm (DF.out.ne SX.out)), (Blk.ne_type FB.out SX.out (by decide)), (OT.out.ne SX.out (by decide))⟩, SX.out⟩
  · exact ⟨_, Fgs.out, OwnS.nil _ _ _ _ _, RF.out, DF.out, FB.out, C0.out, (Blk.ne_type Fgs.out SX.out (by decide)), (Ne.symm (RF.out.ne SX.out)), (Ne.symm (DF.out.ne SX.out)), (Blk.ne_type FB.out SX.out (by decide)), (by simp [rl])⟩
  · rintro en w8 ⟨hv, ⟨vt, f1, f2, f3, f4, f5, f6, f7⟩, hsp⟩
    clear C0 RF DF FB SX Fgs f7
    have C0 := Lib.hid f6; have RF := Lib.hid f3; have DF := Lib.hid f4; have FS := Lib.hid f1; have OT := Lib.hid f2; have SX := Lib.hid hsp
    clear f1 f2 f3 f4 f5 f6 hsp
    refine ⟨hv, RF.out, fun w9 c9 => ?_⟩
    have C0' := Lib.hid (show Ch [x] w w9 from C0.out.trans' c9 (inw_cons (.inr hLn.out) inw_nil))
    have DF' := Lib.hid (show Dfr w9 D from DF.out.ch c9 (nin_cons (DF.out.nl RF.out) nin_nil))
    have FS' := Lib.hid (show Blk w9 gs (#[vt]) 29 from c9.blk FS.out (nin_cons (RF.out.ne FS.out) nin_nil))
    have OT' := Lib.hid (show OwnS w9 w.heap.size 9 1 (vt) (T.length) ((T.take T.length).flatMap strC) from OT.out.ch c9 (rnin_cons (RF.out.nr OT.out) rnin_nil))
    have SX' := Lib.hid (show Blk w9 x (#[.string r, .bool false]) 43 from c9.blk SX.out (nin_cons (RF.out.ne SX.out) nin_nil))
    clear C0 DF FS OT SX
    have C0 := C0'; clear C0'
    have DF := DF'; clear DF'
    have FS := FS'; clear FS'
    have OT := OT'; clear OT'
    have SX := SX'; clear SX'
    clear RF c9
    refine ib_norm ?_
    refine th_norm (hK14 _ _ ?_); try clear hK14 K14
    refine s_ (fun K36 hK36 => ?_)
    refine ld_ (v := vt) rfl (by rfl) (by rfl) (run_load_one ((FS.out.cell 0).trans rfl) Try.underlying29 rfl) ?_
    (try simp only [zP, zN, zA, zB, zC])
    refine pu_ (v := vt) (y_assign rfl (by rfl) (by rfl)) ?_
    (try simp only [zP, zN, zA, zB, zC])
    refine nl_ (hK36 _ _ ?_); clear hK36 K36
    refine wp_ret ?_
    refine hQ _ _ _ (retM_ (D := D) (v := vt) rfl DF.out (fun W => res1 rfl (rdv_tmp (v := vt) (by rfl))) (fun w37 cc38 => ?_))
    have C0' := Lib.hid (show Ch [x] w w37 from C0.out.trans' cc38 (inw_cons (.inr hDn.out) inw_nil))
    have FS' := Lib.hid (show Blk w37 gs (#[vt]) 29 from cc38.blk FS.out (nin_cons (DF.out.ne FS.out) nin_nil))
    have OT' := Lib.hid (show OwnS w37 w.heap.size 9 1 (vt) (T.length) ((T.take T.length).flatMap strC) from OT.out.ch cc38 (rnin_cons (DF.out.nr OT.out) rnin_nil))
    have SX' := Lib.hid (show Blk w37 x (#[.string r, .bool false]) 43 from cc38.blk SX.out (nin_cons (DF.out.ne SX.out) nin_nil))
    clear C0 FS OT SX
    have C0 := C0'; clear C0'
    have FS := FS'; clear FS'
    have OT := OT'; clear OT'
    have SX := SX'; clear SX'
    exact ⟨_, rfl, by have h9 := OT.out; rw [List.take_length] at h9; exact h9, SX.out, C0.out⟩
end
end Go.Proofs.Ytfbecehinloldaa.V
