/- The walks of package exec: what is read of a session, a program goes on, a session opens. -/
import Derived.Test.YtcfkdglaedpnjaaDoorExM
import Derived.Test.YtcfkdglaedpnjaaDoorExB
namespace Go.Proofs.YtcfkdglaedpnjaaDoor.V
open Go Go.RowKit Go.Proofs.YtcfkdglaedpnjaaDoor.K Go.Proofs.YtcfkdglaedpnjaaDoor.R Go.Proofs.YtcfkdglaedpnjaaDoorW.PrintLast
set_option linter.unusedVariables false
set_option linter.unusedSimpArgs false
set_option maxRecDepth 100000
set_option maxHeartbeats 1600000
section
variable {w : World}
theorem read_none {A : Option Addr} {z c x la : Nat} {K : List SB} {L : List HS} {id m : Int} (HN : Hid (K.length ≤ 100)) (HA : Hid (AllIs w c K L)) (HF : Hid (fx id L = none)) (SL : Hid (SrcIs w (.slice A K.length z) (K.length) (K.flatMap ptrC) 1)) (FX : Hid (Blk w x (#[.slice A K.length z, .int .i64 la]) 60)) :
    Calls Tryd.prog 10 #[.pointer (some ⟨x, 0, none⟩), .int .i64 id, .int .i64 m] w fun en w' => en = .returned (.tuple #[.string ⟨#[]⟩, .int .i64 6]) ∧ Ch [] w w' := by
  have C0 := Lib.hid (Ch.refl [] w)
  go_enter Tryd.func10, Tryd.ntmps10
  refine q_ (fun Q hQ hP => ?_)
  refine s_ (fun K1 hK1 => ?_)
  refine pu_ (v := .string {data := #[]}) (y_assign rfl (by rfl) (by rfl)) ?_
  (try simp only [zP, zN, zA, zB, zC])
  refine pu_ (v := .int .i64 0) (y_assign rfl (by rfl) (by rfl)) ?_
  (try simp only [zP, zN, zA, zB, zC])
  refine nl_ (hK1 _ _ ?_); clear hK1 K1
  refine s_ (fun K2 hK2 => ?_)
  refine pu_ (v := .pointer (some ⟨x, 0, none⟩)) (y_move rfl (by rfl) (by rfl)) ?_
  (try simp only [zP, zN, zA, zB, zC])
  refine pu_ (v := .int .i64 id) (y_move rfl (by rfl) (by rfl)) ?_
  (try simp only [zP, zN, zA, zB, zC])
  refine ef_ (fun K3 hK3 => ?_)
  refine e_call Tryd.func24 (by kernel_rfl) rfl #[.pointer (some ⟨x, 0, none⟩), .int .i64 id] (by rfl) rfl rfl (by first | rfl | (simp only [List.map_toArray, List.map_cons, List.map_nil]; first | done | rfl)) ((of_none HN (Lib.hid (HA.out.ch C0.out (by simp))) HF SL FX)) ?_
  rintro en w5 ⟨rfl, cc4⟩
  refine ⟨_, rfl, ?_⟩
  have C0' := Lib.hid (show Ch [] w w5 from C0.out.trans' cc4 (fun x hx => absurd hx (by simp)))
  have SL' := Lib.hid (show SrcIs w5 (.slice A K.length z) (K.length) (K.flatMap ptrC) 1 from SL.out.chx cc4 xnin_nil)
  have FX' := Lib.hid (show Blk w5 x (#[.slice A K.length z, .int .i64 la]) 60 from cc4.blk FX.out nin_nil)
  clear C0 SL FX
  have C0 := C0'; clear C0'
  have SL := SL'; clear SL'
  have FX := FX'; clear FX'
  clear cc4
  refine hK3 _ _ ?_; clear hK3 K3
  (try simp only [zP, zN, zA, zB, zC])
  refine pu_ (v := .pointer none) (y_assign rfl (by rfl) (by rfl)) ?_
  (try simp only [zP, zN, zA, zB, zC])
  refine nl_ (hK2 _ _ ?_); clear hK2 K2
  refine sq_ (fun K6 hK6 => ?_)
  refine s_ (fun K7 hK7 => ?_)
  refine pu_ (v := .pointer none) (y_move rfl (by rfl) (by rfl)) ?_
  (try simp only [zP, zN, zA, zB, zC])
  refine pu_ (v := .bool true) (y_run (by rfl) (fun W => by first | (go_simp; done) | (go_simp; rfl) | (go_simp; decide))) ?_
  (try simp only [zP, zN, zA, zB, zC])
  refine nl_ (hK7 _ _ ?_); clear hK7 K7
  refine wp_cond_true rfl ?_
  refine s_ (fun K8 hK8 => ?_)
  refine pu_ (v := .string {data := #[]}) (y_assign rfl (by rfl) (by rfl)) ?_
  (try simp only [zP, zN, zA, zB, zC])
  refine pu_ (v := .int .i64 6) (y_assign rfl (by rfl) (by rfl)) ?_
  (try simp only [zP, zN, zA, zB, zC])
  refine nl_ (hK8 _ _ ?_); clear hK8 K8
  refine wp_ret ?_
  refine th_ret ?_
  refine hQ _ _ _ ?_
  refine bodyPost_ret (res2 rfl (rdv_tmp (v := .string {data := #[]}) (by rfl)) (rdv_tmp (v := .int .i64 6) (by rfl))) rfl ?_
  exact ⟨rfl, C0.out⟩
theorem read_open {A : Option Addr} {z c x la : Nat} {K : List SB} {L : List HS} {id m : Int} (HN : Hid (K.length ≤ 100)) (HA : Hid (AllIs w c K L)) {j : Nat} {k : SB} {s : HS} (HF : Hid (fx id L = some j)) (HK : Hid (K[j]? = some k)) {N : Nat} (HNN : Hid (N = min (max m 0).toNat s.qo.length)) (HC : Hid (c ≤ 100000)) (HM : Hid (-9223372036854775808 ≤ m ∧ m ≤ 9223372036854775807)) (HRO : Hid (k.bo ∉ xb (.slice A K.length z))) (SL : Hid (SrcIs w (.slice A K.length z) (K.length) (K.flatMap ptrC) 1)) (FX : Hid (Blk w x (#[.slice A K.length z, .int .i64 la]) 60)) (FS : Hid (Blk w k.b (#[.int .i64 s.id, .int .i64 s.box, .int .i64 s.ctr, .bool true, .pointer (some ⟨k.bi, 0, none⟩), .pointer (some ⟨k.bo, 0, none⟩)]) 65)) (PO : Hid (PipeC w (c) (k.bo) (s.qo) (false))) :
    Calls Tryd.prog 10 #[.pointer (some ⟨x, 0, none⟩), .int .i64 id, .int .i64 m] w fun en w' => en = .returned (.tuple #[.string (str (s.qo.take N)), .int .i64 0]) ∧ PipeC w' c k.bo (s.qo.drop N) false ∧ Ch [k.bo] w w' := by
  have C0 := Lib.hid (Ch.refl [k.bo] w)
  go_enter Tryd.func10, Tryd.ntmps10
  refine q_ (fun Q hQ hP => ?_)
  refine s_ (fun K1 hK1 => ?_)
  refine pu_ (v := .string {data := #[]}) (y_assign rfl (by rfl) (by rfl)) ?_
  (try simp only [zP, zN, zA, zB, zC])
  refine pu_ (v := .int .i64 0) (y_assign rfl (by rfl) (by rfl)) ?_
  (try simp only [zP, zN, zA, zB, zC])
  refine nl_ (hK1 _ _ ?_); clear hK1 K1
  refine s_ (fun K2 hK2 => ?_)
  refine pu_ (v := .pointer (some ⟨x, 0, none⟩)) (y_move rfl (by rfl) (by rfl)) ?_
  (try simp only [zP, zN, zA, zB, zC])
  refine pu_ (v := .int .i64 id) (y_move rfl (by rfl) (by rfl)) ?_
  (try simp only [zP, zN, zA, zB, zC])
  refine ef_ (fun K3 hK3 => ?_)
  refine e_call Tryd.func24 (by kernel_rfl) rfl #[.pointer (some ⟨x, 0, none⟩), .int .i64 id] (by rfl) rfl rfl (by first | rfl | (simp only [List.map_toArray, List.map_cons, List.map_nil]; first | done | rfl)) ((of_some HN HA HF HK SL FX)) ?_
  rintro en w5 ⟨rfl, cc4⟩
  refine ⟨_, rfl, ?_⟩
  have C0' := Lib.hid (show Ch [k.bo] w w5 from C0.out.trans' cc4 (fun x hx => absurd hx (by simp)))
  have SL' := Lib.hid (show SrcIs w5 (.slice A K.length z) (K.length) (K.flatMap ptrC) 1 from SL.out.chx cc4 xnin_nil)
  have FX' := Lib.hid (show Blk w5 x (#[.slice A K.length z, .int .i64 la]) 60 from cc4.blk FX.out nin_nil)
  have FS' := Lib.hid (show Blk w5 k.b (#[.int .i64 s.id, .int .i64 s.box, .int .i64 s.ctr, .bool true, .pointer (some ⟨k.bi, 0, none⟩), .pointer (some ⟨k.bo, 0, none⟩)]) 65 from cc4.blk FS.out nin_nil)
  have PO' := Lib.hid (show PipeC w5 (c) (k.bo) (s.qo) (false) from PO.out.ch cc4 nin_nil)
  clear C0 SL FX FS PO
  have C0 := C0'; clear C0'
  have SL := SL'; clear SL'
  have FX := FX'; clear FX'
  have FS := FS'; clear FS'
  have PO := PO'; clear PO'
  clear cc4
  refine hK3 _ _ ?_; clear hK3 K3
  (try simp only [zP, zN, zA, zB, zC])
  refine pu_ (v := .pointer (some ⟨k.b, 0, none⟩)) (y_assign rfl (by rfl) (by rfl)) ?_
  (try simp only [zP, zN, zA, zB, zC])
  refine nl_ (hK2 _ _ ?_); clear hK2 K2
  refine sq_ (fun K6 hK6 => ?_)
  refine s_ (fun K7 hK7 => ?_)
  refine pu_ (v := .pointer (some ⟨k.b, 0, none⟩)) (y_move rfl (by rfl) (by rfl)) ?_
  (try simp only [zP, zN, zA, zB, zC])
  refine pu_ (v := .bool false) (y_run (by rfl) (fun W => by first | (go_simp; done) | (go_simp; rfl) | (go_simp; decide))) ?_
  (try simp only [zP, zN, zA, zB, zC])
  refine nl_ (hK7 _ _ ?_); clear hK7 K7
  refine wp_cond_false rfl ?_
  refine wp_skip ?_
  refine th_norm (hK6 _ _ ?_); try clear hK6 K6
  refine s_ (fun K8 hK8 => ?_)
  refine pu_ (v := .pointer (some ⟨k.b, 0, none⟩)) (y_move rfl (by rfl) (by rfl)) ?_
  (try simp only [zP, zN, zA, zB, zC])
  refine pu_ (v := .pointer (some ⟨k.b, 0, none⟩)) (y_nil rfl (by rfl) (by rfl)) ?_
  (try simp only [zP, zN, zA, zB, zC])
  refine pu_ (v := .pointer (some ⟨k.b, 5, none⟩)) (y_run (by rfl) (fun W => by go_simp)) ?_
  (try simp only [zP, zN, zA, zB, zC])
  refine ld_ (v := .pointer (some ⟨k.bo, 0, none⟩)) rfl (by rfl) (by rfl) (run_load_one ((FS.out.cell 5).trans rfl) Tryd.underlying62 rfl) ?_
  (try simp only [zP, zN, zA, zB, zC])
  refine pu_ (v := .int .i64 m) (y_move rfl (by rfl) (by rfl)) ?_
  (try simp only [zP, zN, zA, zB, zC])
  refine ef_ (fun K9 hK9 => ?_)
  refine e_call Tryd.func26 (by kernel_rfl) rfl #[.pointer (some ⟨k.bo, 0, none⟩), .int .i64 m] (by rfl) rfl rfl (by first | rfl | (simp only [List.map_toArray, List.map_cons, List.map_nil]; first | done | rfl)) ((by have h9 := pread_ HC.out HM.out PO.out; rw [← HNN.out] at h9; exact h9)) ?_
  rintro en w12 ⟨rfl, B11, cc10⟩
  refine ⟨_, rfl, ?_⟩
  have C0' := Lib.hid (show Ch [k.bo] w w12 from C0.out.trans' cc10 (inw_cons (.inl List.mem_cons_self) inw_nil))
  have SL' := Lib.hid (show SrcIs w12 (.slice A K.length z) (K.length) (K.flatMap ptrC) 1 from SL.out.chx cc10 (xnin_cons HRO.out xnin_nil))
  have FX' := Lib.hid (show Blk w12 x (#[.slice A K.length z, .int .i64 la]) 60 from cc10.blk FX.out (nin_cons (Blk.ne_type FX.out PO.out.blk.choose_spec (by decide)) nin_nil))
  have FS' := Lib.hid (show Blk w12 k.b (#[.int .i64 s.id, .int .i64 s.box, .int .i64 s.ctr, .bool true, .pointer (some ⟨k.bi, 0, none⟩), .pointer (some ⟨k.bo, 0, none⟩)]) 65 from cc10.blk FS.out (nin_cons (Blk.ne_type FS.out PO.out.blk.choose_spec (by decide)) nin_nil))
  clear C0 SL FX FS
  have C0 := C0'; clear C0'
  have SL := SL'; clear SL'
  have FX := FX'; clear FX'
  have FS := FS'; clear FS'
  clear PO
  clear cc10
  have PO := Lib.hid (show PipeC w12 (c) (k.bo) (s.qo.drop N) (false) from B11)
  refine hK9 _ _ ?_; clear hK9 K9
  (try simp only [zP, zN, zA, zB, zC])
  refine pu_ (v := .string (str (s.qo.take N))) (y_assign rfl (by rfl) (by rfl)) ?_
  (try simp only [zP, zN, zA, zB, zC])
  refine nl_ (hK8 _ _ ?_); clear hK8 K8
  refine sq_ (fun K13 hK13 => ?_)
  rcases (show N = 0 ∨ N ≠ 0 by omega) with h | h
  · have HZ := Lib.hid h
    have HE := Lib.hid (show (str (s.qo.take N)) = ⟨#[]⟩ by rw [h, List.take_zero]; rfl)
    have D22 := Lib.hid (show Value.string (str (s.qo.take N)) = .string ⟨#[]⟩ by rw [HE.out])
    clear h
    refine s_ (fun K14 hK14 => ?_)
    refine pu_ (v := .string (str (s.qo.take N))) (y_move rfl (by rfl) (by rfl)) ?_
    (try simp only [zP, zN, zA, zB, zC])
    refine pu_ (v := .bool true) (y_run (by rfl) (fun W => by rw [D22.out]; go_simp)) ?_
    (try simp only [zP, zN, zA, zB, zC])
    refine pu_ (v := .bool true) (y_move rfl (by rfl) (by rfl)) ?_
    (try simp only [zP, zN, zA, zB, zC])
    refine pu_ (v := .pointer (some ⟨k.b, 0, none⟩)) (y_move rfl (by rfl) (by rfl)) ?_
    (try simp only [zP, zN, zA, zB, zC])
    refine pu_ (v := .pointer (some ⟨k.b, 0, none⟩)) (y_nil rfl (by rfl) (by rfl)) ?_
    (try simp only [zP, zN, zA, zB, zC])
    refine pu_ (v := .pointer (some ⟨k.b, 3, none⟩)) (y_run (by rfl) (fun W => by go_simp)) ?_
    (try simp only [zP, zN, zA, zB, zC])
    refine ld_ (v := .bool true) rfl (by rfl) (by rfl) (run_load_one ((FS.out.cell 3).trans rfl) Tryd.underlying4 rfl) ?_
    (try simp only [zP, zN, zA, zB, zC])
    refine pu_ (v := .bool false) (y_run (by rfl) (fun W => by go_simp)) ?_
    (try simp only [zP, zN, zA, zB, zC])
    refine pu_ (v := .bool false) (y_pick (t := true) (by rfl) rfl (by rfl) (by rfl)) ?_
    (try simp only [zP, zN, zA, zB, zC])
    refine nl_ (hK14 _ _ ?_); clear hK14 K14
    refine wp_cond_false rfl ?_
    refine wp_skip ?_
    refine th_norm (hK13 _ _ ?_); try clear hK13 K13
    refine s_ (fun K15 hK15 => ?_)
    refine pu_ (v := .string (str (s.qo.take N))) (y_move rfl (by rfl) (by rfl)) ?_
    (try simp only [zP, zN, zA, zB, zC])
    refine pu_ (v := .string (str (s.qo.take N))) (y_assign rfl (by rfl) (by rfl)) ?_
    (try simp only [zP, zN, zA, zB, zC])
    refine pu_ (v := .int .i64 0) (y_assign rfl (by rfl) (by rfl)) ?_
    (try simp only [zP, zN, zA, zB, zC])
    refine nl_ (hK15 _ _ ?_); clear hK15 K15
    refine wp_ret ?_
    refine hQ _ _ _ ?_
    refine bodyPost_ret (res2 rfl (rdv_tmp (v := .string (str (s.qo.take N))) (by rfl)) (rdv_tmp (v := .int .i64 0) (by rfl))) rfl ?_
    exact ⟨rfl, PO.out, C0.out⟩
  · have HZ := Lib.hid h
    have D22 := Lib.hid (show ¬ ((str (s.qo.take N))).toList = [] from fun h9 => h (by rw [ByteArray.toList_eq] at h9; have h8 : s.qo.take N = [] := h9; have h7 := congrArg List.length h8; rw [List.length_take, List.length_nil] at h7; have := HNN.out; omega))
    clear h
    refine s_ (fun K16 hK16 => ?_)
    refine pu_ (v := .string (str (s.qo.take N))) (y_move rfl (by rfl) (by rfl)) ?_
    (try simp only [zP, zN, zA, zB, zC])
    refine pu_ (v := .bool false) (y_run (by rfl) (fun W => by have d := D22.out; go_simp)) ?_
    (try simp only [zP, zN, zA, zB, zC])
    refine pu_ (v := .bool false) (y_move rfl (by rfl) (by rfl)) ?_
    (try simp only [zP, zN, zA, zB, zC])
    refine pu_ (y_off (by rfl)) ?_
    (try simp only [zP, zN, zA, zB, zC])
    refine pu_ (y_off (by rfl)) ?_
    (try simp only [zP, zN, zA, zB, zC])
    refine pu_ (y_off (by rfl)) ?_
    (try simp only [zP, zN, zA, zB, zC])
    refine pu_ (y_off (by rfl)) ?_
    (try simp only [zP, zN, zA, zB, zC])
    refine pu_ (y_off (by rfl)) ?_
    (try simp only [zP, zN, zA, zB, zC])
    refine pu_ (v := .bool false) (y_pick (t := false) (by rfl) rfl (by rfl) (by rfl)) ?_
    (try simp only [zP, zN, zA, zB, zC])
    refine nl_ (hK16 _ _ ?_); clear hK16 K16
    refine wp_cond_false rfl ?_
    refine wp_skip ?_
    refine th_norm (hK13 _ _ ?_); try clear hK13 K13
    refine s_ (fun K17 hK17 => ?_)
    refine pu_ (v := .string (str (s.qo.take N))) (y_move rfl (by rfl) (by rfl)) ?_
    (try simp only [zP, zN, zA, zB, zC])
    refine pu_ (v := .string (str (s.qo.take N))) (y_assign rfl (by rfl) (by rfl)) ?_
    (try simp only [zP, zN, zA, zB, zC])
    refine pu_ (v := .int .i64 0) (y_assign rfl (by rfl) (by rfl)) ?_
    (try simp only [zP, zN, zA, zB, zC])
    refine nl_ (hK17 _ _ ?_); clear hK17 K17
    refine wp_ret ?_
    refine hQ _ _ _ ?_
    refine bodyPost_ret (res2 rfl (rdv_tmp (v := .string (str (s.qo.take N))) (by rfl)) (rdv_tmp (v := .int .i64 0) (by rfl))) rfl ?_
    exact ⟨rfl, PO.out, C0.out⟩
theorem read_shut {A : Option Addr} {z c x la : Nat} {K : List SB} {L : List HS} {id m : Int} (HN : Hid (K.length ≤ 100)) (HA : Hid (AllIs w c K L)) {j : Nat} {k : SB} {s : HS} (HF : Hid (fx id L = some j)) (HK : Hid (K[j]? = some k)) {N : Nat} (HNN : Hid (N = min (max m 0).toNat s.qo.length)) (HC : Hid (c ≤ 100000)) (HM : Hid (-9223372036854775808 ≤ m ∧ m ≤ 9223372036854775807)) (HRO : Hid (k.bo ∉ xb (.slice A K.length z))) (SL : Hid (SrcIs w (.slice A K.length z) (K.length) (K.flatMap ptrC) 1)) (FX : Hid (Blk w x (#[.slice A K.length z, .int .i64 la]) 60)) (FS : Hid (Blk w k.b (#[.int .i64 s.id, .int .i64 s.box, .int .i64 s.ctr, .bool false, .pointer (some ⟨k.bi, 0, none⟩), .pointer (some ⟨k.bo, 0, none⟩)]) 65)) (PO : Hid (PipeC w (c) (k.bo) (s.qo) (false))) :
    Calls Tryd.prog 10 #[.pointer (some ⟨x, 0, none⟩), .int .i64 id, .int .i64 m] w fun en w' => en = .returned (if N = 0 then .tuple #[.string ⟨#[]⟩, .int .i64 400] else .tuple #[.string (str (s.qo.take N)), .int .i64 0]) ∧ PipeC w' c k.bo (s.qo.drop N) false ∧ Ch [k.bo] w w' := by
  have C0 := Lib.hid (Ch.refl [k.bo] w)
  go_enter Tryd.func10, Tryd.ntmps10
  refine q_ (fun Q hQ hP => ?_)
  refine s_ (fun K1 hK1 => ?_)
  refine pu_ (v := .string {data := #[]}) (y_assign rfl (by rfl) (by rfl)) ?_
  (try simp only [zP, zN, zA, zB, zC])
  refine pu_ (v := .int .i64 0) (y_assign rfl (by rfl) (by rfl)) ?_
  (try simp only [zP, zN, zA, zB, zC])
  refine nl_ (hK1 _ _ ?_); clear hK1 K1
  refine s_ (fun K2 hK2 => ?_)
  refine pu_ (v := .pointer (some ⟨x, 0, none⟩)) (y_move rfl (by rfl) (by rfl)) ?_
  (try simp only [zP, zN, zA, zB, zC])
  refine pu_ (v := .int .i64 id) (y_move rfl (by rfl) (by rfl)) ?_
  (try simp only [zP, zN, zA, zB, zC])
  refine ef_ (fun K3 hK3 => ?_)
  refine e_call Tryd.func24 (by kernel_rfl) rfl #[.pointer (some ⟨x, 0, none⟩), .int .i64 id] (by rfl) rfl rfl (by first | rfl | (simp only [List.map_toArray, List.map_cons, List.map_nil]; first | done | rfl)) ((of_some HN HA HF HK SL FX)) ?_
  rintro en w5 ⟨rfl, cc4⟩
  refine ⟨_, rfl, ?_⟩
  have C0' := Lib.hid (show Ch [k.bo] w w5 from C0.out.trans' cc4 (fun x hx => absurd hx (by simp)))
  have SL' := Lib.hid (show SrcIs w5 (.slice A K.length z) (K.length) (K.flatMap ptrC) 1 from SL.out.chx cc4 xnin_nil)
  have FX' := Lib.hid (show Blk w5 x (#[.slice A K.length z, .int .i64 la]) 60 from cc4.blk FX.out nin_nil)
  have FS' := Lib.hid (show Blk w5 k.b (#[.int .i64 s.id, .int .i64 s.box, .int .i64 s.ctr, .bool false, .pointer (some ⟨k.bi, 0, none⟩), .pointer (some ⟨k.bo, 0, none⟩)]) 65 from cc4.blk FS.out nin_nil)
  have PO' := Lib.hid (show PipeC w5 (c) (k.bo) (s.qo) (false) from PO.out.ch cc4 nin_nil)
  clear C0 SL FX FS PO
  have C0 := C0'; clear C0'
  have SL := SL'; clear SL'
  have FX := FX'; clear FX'
  have FS := FS'; clear FS'
  have PO := PO'; clear PO'
  clear cc4
  refine hK3 _ _ ?_; clear hK3 K3
  (try simp only [zP, zN, zA, zB, zC])
  refine pu_ (v := .pointer (some ⟨k.b, 0, none⟩)) (y_assign rfl (by rfl) (by rfl)) ?_
  (try simp only [zP, zN, zA, zB, zC])
  refine nl_ (hK2 _ _ ?_); clear hK2 K2
  refine sq_ (fun K6 hK6 => ?_)
  refine s_ (fun K7 hK7 => ?_)
  refine pu_ (v := .pointer (some ⟨k.b, 0, none⟩)) (y_move rfl (by rfl) (by rfl)) ?_
  (try simp only [zP, zN, zA, zB, zC])
  refine pu_ (v := .bool false) (y_run (by rfl) (fun W => by first | (go_simp; done) | (go_simp; rfl) | (go_simp; decide))) ?_
  (try simp only [zP, zN, zA, zB, zC])
  refine nl_ (hK7 _ _ ?_); clear hK7 K7
  refine wp_cond_false rfl ?_
  refine wp_skip ?_
  refine th_norm (hK6 _ _ ?_); try clear hK6 K6
  refine s_ (fun K8 hK8 => ?_)
  refine pu_ (v := .pointer (some ⟨k.b, 0, none⟩)) (y_move rfl (by rfl) (by rfl)) ?_
  (try simp only [zP, zN, zA, zB, zC])
  refine pu_ (v := .pointer (some ⟨k.b, 0, none⟩)) (y_nil rfl (by rfl) (by rfl)) ?_
  (try simp only [zP, zN, zA, zB, zC])
  refine pu_ (v := .pointer (some ⟨k.b, 5, none⟩)) (y_run (by rfl) (fun W => by go_simp)) ?_
  (try simp only [zP, zN, zA, zB, zC])
  refine ld_ (v := .pointer (some ⟨k.bo, 0, none⟩)) rfl (by rfl) (by rfl) (run_load_one ((FS.out.cell 5).trans rfl) Tryd.underlying62 rfl) ?_
  (try simp only [zP, zN, zA, zB, zC])
  refine pu_ (v := .int .i64 m) (y_move rfl (by rfl) (by rfl)) ?_
  (try simp only [zP, zN, zA, zB, zC])
  refine ef_ (fun K9 hK9 => ?_)
  refine e_call Tryd.func26 (by kernel_rfl) rfl #[.pointer (some ⟨k.bo, 0, none⟩), .int .i64 m] (by rfl) rfl rfl (by first | rfl | (simp only [List.map_toArray, List.map_cons, List.map_nil]; first | done | rfl)) ((by have h9 := pread_ HC.out HM.out PO.out; rw [← HNN.out] at h9; exact h9)) ?_
  rintro en w12 ⟨rfl, B11, cc10⟩
  refine ⟨_, rfl, ?_⟩
  have C0' := Lib.hid (show Ch [k.bo] w w12 from C0.out.trans' cc10 (inw_cons (.inl List.mem_cons_self) inw_nil))
  have SL' := Lib.hid (show SrcIs w12 (.slice A K.length z) (K.length) (K.flatMap ptrC) 1 from SL.out.chx cc10 (xnin_cons HRO.out xnin_nil))
  have FX' := Lib.hid (show Blk w12 x (#[.slice A K.length z, .int .i64 la]) 60 from cc10.blk FX.out (nin_cons (Blk.ne_type FX.out PO.out.blk.choose_spec (by decide)) nin_nil))
  have FS' := Lib.hid (show Blk w12 k.b (#[.int .i64 s.id, .int .i64 s.box, .int .i64 s.ctr, .bool false, .pointer (some ⟨k.bi, 0, none⟩), .pointer (some ⟨k.bo, 0, none⟩)]) 65 from cc10.blk FS.out (nin_cons (Blk.ne_type FS.out PO.out.blk.choose_spec (by decide)) nin_nil))
  clear C0 SL FX FS
  have C0 := C0'; clear C0'
  have SL := SL'; clear SL'
  have FX := FX'; clear FX'
  have FS := FS'; clear FS'
  clear PO
  clear cc10
  have PO := Lib.hid (show PipeC w12 (c) (k.bo) (s.qo.drop N) (false) from B11)
  refine hK9 _ _ ?_; clear hK9 K9
  (try simp only [zP, zN, zA, zB, zC])
  refine pu_ (v := .string (str (s.qo.take N))) (y_assign rfl (by rfl) (by rfl)) ?_
  (try simp only [zP, zN, zA, zB, zC])
  refine nl_ (hK8 _ _ ?_); clear hK8 K8
  refine sq_ (fun K13 hK13 => ?_)
  rcases (show N = 0 ∨ N ≠ 0 by omega) with h | h
  · have HZ := Lib.hid h
    have HE := Lib.hid (show (str (s.qo.take N)) = ⟨#[]⟩ by rw [h, List.take_zero]; rfl)
    have D22 := Lib.hid (show Value.string (str (s.qo.take N)) = .string ⟨#[]⟩ by rw [HE.out])
    clear h
    refine s_ (fun K14 hK14 => ?_)
    refine pu_ (v := .string (str (s.qo.take N))) (y_move rfl (by rfl) (by rfl)) ?_
    (try simp only [zP, zN, zA, zB, zC])
    refine pu_ (v := .bool true) (y_run (by rfl) (fun W => by rw [D22.out]; go_simp)) ?_
    (try simp only [zP, zN, zA, zB, zC])
    refine pu_ (v := .bool true) (y_move rfl (by rfl) (by rfl)) ?_
    (try simp only [zP, zN, zA, zB, zC])
    refine pu_ (v := .pointer (some ⟨k.b, 0, none⟩)) (y_move rfl (by rfl) (by rfl)) ?_
    (try simp only [zP, zN, zA, zB, zC])
    refine pu_ (v := .pointer (some ⟨k.b, 0, none⟩)) (y_nil rfl (by rfl) (by rfl)) ?_
    (try simp only [zP, zN, zA, zB, zC])
    refine pu_ (v := .pointer (some ⟨k.b, 3, none⟩)) (y_run (by rfl) (fun W => by go_simp)) ?_
    (try simp only [zP, zN, zA, zB, zC])
    refine ld_ (v := .bool false) rfl (by rfl) (by rfl) (run_load_one ((FS.out.cell 3).trans rfl) Tryd.underlying4 rfl) ?_
    (try simp only [zP, zN, zA, zB, zC])
    refine pu_ (v := .bool true) (y_run (by rfl) (fun W => by go_simp)) ?_
    (try simp only [zP, zN, zA, zB, zC])
    refine pu_ (v := .bool true) (y_pick (t := true) (by rfl) rfl (by rfl) (by rfl)) ?_
    (try simp only [zP, zN, zA, zB, zC])
    refine nl_ (hK14 _ _ ?_); clear hK14 K14
    refine wp_cond_true rfl ?_
    refine s_ (fun K15 hK15 => ?_)
    refine pu_ (v := .string {data := #[]}) (y_assign rfl (by rfl) (by rfl)) ?_
    (try simp only [zP, zN, zA, zB, zC])
    refine pu_ (v := .int .i64 400) (y_assign rfl (by rfl) (by rfl)) ?_
    (try simp only [zP, zN, zA, zB, zC])
    refine nl_ (hK15 _ _ ?_); clear hK15 K15
    refine wp_ret ?_
    refine th_ret ?_
    refine hQ _ _ _ ?_
    refine bodyPost_ret (res2 rfl (rdv_tmp (v := .string {data := #[]}) (by rfl)) (rdv_tmp (v := .int .i64 400) (by rfl))) rfl ?_
    exact ⟨by rw [if_pos HZ.out], PO.out, C0.out⟩
  · have HZ := Lib.hid h
    have D22 := Lib.hid (show ¬ ((str (s.qo.take N))).toList = [] from fun h9 => h (by rw [ByteArray.toList_eq] at h9; have h8 : s.qo.take N = [] := h9; have h7 := congrArg List.length h8; rw [List.length_take, List.length_nil] at h7; have := HNN.out; omega))
    clear h
    refine s_ (fun K16 hK16 => ?_)
    refine pu_ (v := .string (str (s.qo.take N))) (y_move rfl (by rfl) (by rfl)) ?_
    (try simp only [zP, zN, zA, zB, zC])
    refine pu_ (v := .bool false) (y_run (by rfl) (fun W => by have d := D22.out; go_simp)) ?_
    (try simp only [zP, zN, zA, zB, zC])
    refine pu_ (v := .bool false) (y_move rfl (by rfl) (by rfl)) ?_
    (try simp only [zP, zN, zA, zB, zC])
    refine pu_ (y_off (by rfl)) ?_
    (try simp only [zP, zN, zA, zB, zC])
    refine pu_ (y_off (by rfl)) ?_
    (try simp only [zP, zN, zA, zB, zC])
    refine pu_ (y_off (by rfl)) ?_
    (try simp only [zP, zN, zA, zB, zC])
    refine pu_ (y_off (by rfl)) ?_
    (try simp only [zP, zN, zA, zB, zC])
    refine pu_ (y_off (by rfl)) ?_
    (try simp only [zP, zN, zA, zB, zC])
    refine pu_ (v := .bool false) (y_pick (t := false) (by rfl) rfl (by rfl) (by rfl)) ?_
    (try simp only [zP, zN, zA, zB, zC])
    refine nl_ (hK16 _ _ ?_); clear hK16 K16
    refine wp_cond_false rfl ?_
    refine wp_skip ?_
    refine th_norm (hK13 _ _ ?_); try clear hK13 K13
    refine s_ (fun K17 hK17 => ?_)
    refine pu_ (v := .string (str (s.qo.take N))) (y_move rfl (by rfl) (by rfl)) ?_
    (try simp only [zP, zN, zA, zB, zC])
    refine pu_ (v := .string (str (s.qo.take N))) (y_assign rfl (by rfl) (by rfl)) ?_
    (try simp only [zP, zN, zA, zB, zC])
    refine pu_ (v := .int .i64 0) (y_assign rfl (by rfl) (by rfl)) ?_
    (try simp only [zP, zN, zA, zB, zC])
    refine nl_ (hK17 _ _ ?_); clear hK17 K17
    refine wp_ret ?_
    refine hQ _ _ _ ?_
    refine bodyPost_ret (res2 rfl (rdv_tmp (v := .string (str (s.qo.take N))) (by rfl)) (rdv_tmp (v := .int .i64 0) (by rfl))) rfl ?_
    exact ⟨by rw [if_neg HZ.out], PO.out, C0.out⟩
theorem turn_none {A : Option Addr} {z c x la : Nat} {K : List SB} {L : List HS} {id m : Int} (HN : Hid (K.length ≤ 100)) (HA : Hid (AllIs w c K L)) (HF : Hid (fx id L = none)) (SL : Hid (SrcIs w (.slice A K.length z) (K.length) (K.flatMap ptrC) 1)) (FX : Hid (Blk w x (#[.slice A K.length z, .int .i64 la]) 60)) :
    Calls Tryd.prog 11 #[.pointer (some ⟨x, 0, none⟩), .int .i64 id, .int .i64 m] w fun en w' => en = .returned (.int .i64 0) ∧ Ch [] w w' := by
  have C0 := Lib.hid (Ch.refl [] w)
  go_enter Tryd.func11, Tryd.ntmps11
  refine q_ (fun Q hQ hP => ?_)
  refine s_ (fun K1 hK1 => ?_)
  refine pu_ (v := .int .i64 0) (y_assign rfl (by rfl) (by rfl)) ?_
  (try simp only [zP, zN, zA, zB, zC])
  refine nl_ (hK1 _ _ ?_); clear hK1 K1
  refine s_ (fun K2 hK2 => ?_)
  refine pu_ (v := .pointer (some ⟨x, 0, none⟩)) (y_move rfl (by rfl) (by rfl)) ?_
  (try simp only [zP, zN, zA, zB, zC])
  refine pu_ (v := .int .i64 id) (y_move rfl (by rfl) (by rfl)) ?_
  (try simp only [zP, zN, zA, zB, zC])
  refine ef_ (fun K3 hK3 => ?_)
  refine e_call Tryd.func24 (by kernel_rfl) rfl #[.pointer (some ⟨x, 0, none⟩), .int .i64 id] (by rfl) rfl rfl (by first | rfl | (simp only [List.map_toArray, List.map_cons, List.map_nil]; first | done | rfl)) ((of_none HN (Lib.hid (HA.out.ch C0.out (by simp))) HF SL FX)) ?_
  rintro en w5 ⟨rfl, cc4⟩
  refine ⟨_, rfl, ?_⟩
  have C0' := Lib.hid (show Ch [] w w5 from C0.out.trans' cc4 (fun x hx => absurd hx (by simp)))
  have SL' := Lib.hid (show SrcIs w5 (.slice A K.length z) (K.length) (K.flatMap ptrC) 1 from SL.out.chx cc4 xnin_nil)
  have FX' := Lib.hid (show Blk w5 x (#[.slice A K.length z, .int .i64 la]) 60 from cc4.blk FX.out nin_nil)
  clear C0 SL FX
  have C0 := C0'; clear C0'
  have SL := SL'; clear SL'
  have FX := FX'; clear FX'
  clear cc4
  refine hK3 _ _ ?_; clear hK3 K3
  (try simp only [zP, zN, zA, zB, zC])
  refine pu_ (v := .pointer none) (y_assign rfl (by rfl) (by rfl)) ?_
  (try simp only [zP, zN, zA, zB, zC])
  refine nl_ (hK2 _ _ ?_); clear hK2 K2
  refine sq_ (fun K6 hK6 => ?_)
  refine s_ (fun K7 hK7 => ?_)
  refine pu_ (v := .pointer none) (y_move rfl (by rfl) (by rfl)) ?_
  (try simp only [zP, zN, zA, zB, zC])
  refine pu_ (v := .bool true) (y_run (by rfl) (fun W => by first | (go_simp; done) | (go_simp; rfl) | (go_simp; decide))) ?_
  (try simp only [zP, zN, zA, zB, zC])
  refine pu_ (v := .bool true) (y_move rfl (by rfl) (by rfl)) ?_
  (try simp only [zP, zN, zA, zB, zC])
  refine pu_ (y_off (by rfl)) ?_
  (try simp only [zP, zN, zA, zB, zC])
  refine pu_ (y_off (by rfl)) ?_
  (try simp only [zP, zN, zA, zB, zC])
  refine pu_ (y_off (by rfl)) ?_
  (try simp only [zP, zN, zA, zB, zC])
  refine pu_ (y_off (by rfl)) ?_
  (try simp only [zP, zN, zA, zB, zC])
  refine pu_ (y_off (by rfl)) ?_
  (try simp only [zP, zN, zA, zB, zC])
  refine pu_ (v := .bool true) (y_pick (t := true) (by rfl) rfl (by rfl) (by rfl)) ?_
  (try simp only [zP, zN, zA, zB, zC])
  refine nl_ (hK7 _ _ ?_); clear hK7 K7
  refine wp_cond_true rfl ?_
  refine s_ (fun K8 hK8 => ?_)
  refine pu_ (v := .int .i64 0) (y_assign rfl (by rfl) (by rfl)) ?_
  (try simp only [zP, zN, zA, zB, zC])
  refine nl_ (hK8 _ _ ?_); clear hK8 K8
  refine wp_ret ?_
  refine th_ret ?_
  refine hQ _ _ _ ?_
  refine bodyPost_ret (res1 rfl (rdv_tmp (v := .int .i64 0) (by rfl))) rfl ?_
  exact ⟨rfl, C0.out⟩
theorem turn_shut {A : Option Addr} {z c x la : Nat} {K : List SB} {L : List HS} {id m : Int} (HN : Hid (K.length ≤ 100)) (HA : Hid (AllIs w c K L)) {j : Nat} {k : SB} {s : HS} (HF : Hid (fx id L = some j)) (HK : Hid (K[j]? = some k)) (SL : Hid (SrcIs w (.slice A K.length z) (K.length) (K.flatMap ptrC) 1)) (FX : Hid (Blk w x (#[.slice A K.length z, .int .i64 la]) 60)) (FS : Hid (Blk w k.b (#[.int .i64 s.id, .int .i64 s.box, .int .i64 s.ctr, .bool false, .pointer (some ⟨k.bi, 0, none⟩), .pointer (some ⟨k.bo, 0, none⟩)]) 65)) :
    Calls Tryd.prog 11 #[.pointer (some ⟨x, 0, none⟩), .int .i64 id, .int .i64 m] w fun en w' => en = .returned (.int .i64 0) ∧ Ch [] w w' := by
  have C0 := Lib.hid (Ch.refl [] w)
  go_enter Tryd.func11, Tryd.ntmps11
  refine q_ (fun Q hQ hP => ?_)
  refine s_ (fun K1 hK1 => ?_)
  refine pu_ (v := .int .i64 0) (y_assign rfl (by rfl) (by rfl)) ?_
  (try simp only [zP, zN, zA, zB, zC])
  refine nl_ (hK1 _ _ ?_); clear hK1 K1
  refine s_ (fun K2 hK2 => ?_)
  refine pu_ (v := .pointer (some ⟨x, 0, none⟩)) (y_move rfl (by rfl) (by rfl)) ?_
  (try simp only [zP, zN, zA, zB, zC])
  refine pu_ (v := .int .i64 id) (y_move rfl (by rfl) (by rfl)) ?_
  (try simp only [zP, zN, zA, zB, zC])
  refine ef_ (fun K3 hK3 => ?_)
  refine e_call Tryd.func24 (by kernel_rfl) rfl #[.pointer (some ⟨x, 0, none⟩), .int .i64 id] (by rfl) rfl rfl (by first | rfl | (simp only [List.map_toArray, List.map_cons, List.map_nil]; first | done | rfl)) ((of_some HN (Lib.hid (HA.out.ch C0.out (by simp))) HF HK SL FX)) ?_
  rintro en w5 ⟨rfl, cc4⟩
  refine ⟨_, rfl, ?_⟩
  have C0' := Lib.hid (show Ch [] w w5 from C0.out.trans' cc4 (fun x hx => absurd hx (by simp)))
  have SL' := Lib.hid (show SrcIs w5 (.slice A K.length z) (K.length) (K.flatMap ptrC) 1 from SL.out.chx cc4 xnin_nil)
  have FX' := Lib.hid (show Blk w5 x (#[.slice A K.length z, .int .i64 la]) 60 from cc4.blk FX.out nin_nil)
  have FS' := Lib.hid (show Blk w5 k.b (#[.int .i64 s.id, .int .i64 s.box, .int .i64 s.ctr, .bool false, .pointer (some ⟨k.bi, 0, none⟩), .pointer (some ⟨k.bo, 0, none⟩)]) 65 from cc4.blk FS.out nin_nil)
  clear C0 SL FX FS
  have C0 := C0'; clear C0'
  have SL := SL'; clear SL'
  have FX := FX'; clear FX'
  have FS := FS'; clear FS'
  clear cc4
  refine hK3 _ _ ?_; clear hK3 K3
  (try simp only [zP, zN, zA, zB, zC])
  refine pu_ (v := .pointer (some ⟨k.b, 0, none⟩)) (y_assign rfl (by rfl) (by rfl)) ?_
  (try simp only [zP, zN, zA, zB, zC])
  refine nl_ (hK2 _ _ ?_); clear hK2 K2
  refine sq_ (fun K6 hK6 => ?_)
  refine s_ (fun K7 hK7 => ?_)
  refine pu_ (v := .pointer (some ⟨k.b, 0, none⟩)) (y_move rfl (by rfl) (by rfl)) ?_
  (try simp only [zP, zN, zA, zB, zC])
  refine pu_ (v := .bool false) (y_run (by rfl) (fun W => by first | (go_simp; done) | (go_simp; rfl) | (go_simp; decide))) ?_
  (try simp only [zP, zN, zA, zB, zC])
  refine pu_ (v := .bool false) (y_move rfl (by rfl) (by rfl)) ?_
  (try simp only [zP, zN, zA, zB, zC])
  refine pu_ (v := .pointer (some ⟨k.b, 0, none⟩)) (y_move rfl (by rfl) (by rfl)) ?_
  (try simp only [zP, zN, zA, zB, zC])
  refine pu_ (v := .pointer (some ⟨k.b, 0, none⟩)) (y_nil rfl (by rfl) (by rfl)) ?_
  (try simp only [zP, zN, zA, zB, zC])
  refine pu_ (v := .pointer (some ⟨k.b, 3, none⟩)) (y_run (by rfl) (fun W => by go_simp)) ?_
  (try simp only [zP, zN, zA, zB, zC])
  refine ld_ (v := .bool false) rfl (by rfl) (by rfl) (run_load_one ((FS.out.cell 3).trans rfl) Tryd.underlying4 rfl) ?_
  (try simp only [zP, zN, zA, zB, zC])
  refine pu_ (v := .bool true) (y_run (by rfl) (fun W => by go_simp)) ?_
  (try simp only [zP, zN, zA, zB, zC])
  refine pu_ (v := .bool true) (y_pick (t := false) (by rfl) rfl (by rfl) (by rfl)) ?_
  (try simp only [zP, zN, zA, zB, zC])
  refine nl_ (hK7 _ _ ?_); clear hK7 K7
  refine wp_cond_true rfl ?_
  refine s_ (fun K8 hK8 => ?_)
  refine pu_ (v := .int .i64 0) (y_assign rfl (by rfl) (by rfl)) ?_
  (try simp only [zP, zN, zA, zB, zC])
  refine nl_ (hK8 _ _ ?_); clear hK8 K8
  refine wp_ret ?_
  refine th_ret ?_
  refine hQ _ _ _ ?_
  refine bodyPost_ret (res1 rfl (rdv_tmp (v := .int .i64 0) (by rfl))) rfl ?_
  exact ⟨rfl, C0.out⟩
theorem turn_ok {A : Option Addr} {z c x la : Nat} {K : List SB} {L : List HS} {id m mm : Int} {w0 : World} (HN : Hid (K.length ≤ 100)) (HA : Hid (AllIs w c K L)) {j : Nat} {k : SB} {s : HS} (HF : Hid (fx id L = some j)) (HK : Hid (K[j]? = some k)) {N : Nat} (HMM : Hid (mm = min m ((room s.qo false : Nat) : Int))) (HNN : Hid (N = min (max mm 0).toNat s.qi.length)) (HC : Hid (c ≤ 100000)) (HM : Hid (-9223372036854775808 ≤ m ∧ m ≤ 9223372036854775807)) (HQI : Hid (s.qi.length ≤ 64)) (HRI : Hid (k.bi ∉ xb (.slice A K.length z))) (HRO : Hid (k.bo ∉ xb (.slice A K.length z))) (HIO : Hid (k.bi ≠ k.bo)) (HTB : Hid (Tabs w0)) (HB0 : Hid (Below w0.heap.size w0 w)) (HKB : Hid (∀ z, z ∈ [k.bi, k.bo] → w0.heap.size ≤ z)) (SL : Hid (SrcIs w (.slice A K.length z) (K.length) (K.flatMap ptrC) 1)) (FX : Hid (Blk w x (#[.slice A K.length z, .int .i64 la]) 60)) (FS : Hid (Blk w k.b (#[.int .i64 s.id, .int .i64 s.box, .int .i64 s.ctr, .bool true, .pointer (some ⟨k.bi, 0, none⟩), .pointer (some ⟨k.bo, 0, none⟩)]) 65)) (PI : Hid (PipeC w (c) (k.bi) (s.qi) (false))) (PO : Hid (PipeC w (c) (k.bo) (s.qo) (false))) :
    Calls Tryd.prog 11 #[.pointer (some ⟨x, 0, none⟩), .int .i64 id, .int .i64 m] w fun en w' => en = .returned (.int .i64 ((min (str ((s.qi.take N).map upB)).size (room s.qo false)) : Nat)) ∧ PipeC w' c k.bi (s.qi.drop N) false ∧ PipeC w' (c + 64) k.bo (s.qo ++ (str ((s.qi.take N).map upB)).data.toList.take (min (str ((s.qi.take N).map upB)).size (room s.qo false))) false ∧ Ch [k.bi, k.bo] w w' := by
  have C0 := Lib.hid (Ch.refl [k.bi, k.bo] w)
  go_enter Tryd.func11, Tryd.ntmps11
  refine q_ (fun Q hQ hP => ?_)
  refine s_ (fun K1 hK1 => ?_)
  refine pu_ (v := .int .i64 0) (y_assign rfl (by rfl) (by rfl)) ?_
  (try simp only [zP, zN, zA, zB, zC])
  refine nl_ (hK1 _ _ ?_); clear hK1 K1
  refine s_ (fun K2 hK2 => ?_)
  refine pu_ (v := .pointer (some ⟨x, 0, none⟩)) (y_move rfl (by rfl) (by rfl)) ?_
  (try simp only [zP, zN, zA, zB, zC])
  refine pu_ (v := .int .i64 id) (y_move rfl (by rfl) (by rfl)) ?_
  (try simp only [zP, zN, zA, zB, zC])
  refine ef_ (fun K3 hK3 => ?_)
  refine e_call Tryd.func24 (by kernel_rfl) rfl #[.pointer (some ⟨x, 0, none⟩), .int .i64 id] (by rfl) rfl rfl (by first | rfl | (simp only [List.map_toArray, List.map_cons, List.map_nil]; first | done | rfl)) ((of_some HN HA HF HK SL FX)) ?_
  rintro en w5 ⟨rfl, cc4⟩
  refine ⟨_, rfl, ?_⟩
  have C0' := Lib.hid (show Ch [k.bi, k.bo] w w5 from C0.out.trans' cc4 (fun x hx => absurd hx (by simp)))
  have SL' := Lib.hid (show SrcIs w5 (.slice A K.length z) (K.length) (K.flatMap ptrC) 1 from SL.out.chx cc4 xnin_nil)
  have FX' := Lib.hid (show Blk w5 x (#[.slice A K.length z, .int .i64 la]) 60 from cc4.blk FX.out nin_nil)
  have FS' := Lib.hid (show Blk w5 k.b (#[.int .i64 s.id, .int .i64 s.box, .int .i64 s.ctr, .bool true, .pointer (some ⟨k.bi, 0, none⟩), .pointer (some ⟨k.bo, 0, none⟩)]) 65 from cc4.blk FS.out nin_nil)
  have PI' := Lib.hid (show PipeC w5 (c) (k.bi) (s.qi) (false) from PI.out.ch cc4 nin_nil)
  have PO' := Lib.hid (show PipeC w5 (c) (k.bo) (s.qo) (false) from PO.out.ch cc4 nin_nil)
  clear C0 SL FX FS PI PO
  have C0 := C0'; clear C0'
  have SL := SL'; clear SL'
  have FX := FX'; clear FX'
  have FS := FS'; clear FS'
  have PI := PI'; clear PI'
  have PO := PO'; clear PO'
  clear cc4
  refine hK3 _ _ ?_; clear hK3 K3
  (try simp only [zP, zN, zA, zB, zC])
  refine pu_ (v := .pointer (some ⟨k.b, 0, none⟩)) (y_assign rfl (by rfl) (by rfl)) ?_
  (try simp only [zP, zN, zA, zB, zC])
  refine nl_ (hK2 _ _ ?_); clear hK2 K2
  refine sq_ (fun K6 hK6 => ?_)
  refine s_ (fun K7 hK7 => ?_)
  refine pu_ (v := .pointer (some ⟨k.b, 0, none⟩)) (y_move rfl (by rfl) (by rfl)) ?_
  (try simp only [zP, zN, zA, zB, zC])
  refine pu_ (v := .bool false) (y_run (by rfl) (fun W => by first | (go_simp; done) | (go_simp; rfl) | (go_simp; decide))) ?_
  (try simp only [zP, zN, zA, zB, zC])
  refine pu_ (v := .bool false) (y_move rfl (by rfl) (by rfl)) ?_
  (try simp only [zP, zN, zA, zB, zC])
  refine pu_ (v := .pointer (some ⟨k.b, 0, none⟩)) (y_move rfl (by rfl) (by rfl)) ?_
  (try simp only [zP, zN, zA, zB, zC])
  refine pu_ (v := .pointer (some ⟨k.b, 0, none⟩)) (y_nil rfl (by rfl) (by rfl)) ?_
  (try simp only [zP, zN, zA, zB, zC])
  refine pu_ (v := .pointer (some ⟨k.b, 3, none⟩)) (y_run (by rfl) (fun W => by go_simp)) ?_
  (try simp only [zP, zN, zA, zB, zC])
  refine ld_ (v := .bool true) rfl (by rfl) (by rfl) (run_load_one ((FS.out.cell 3).trans rfl) Tryd.underlying4 rfl) ?_
  (try simp only [zP, zN, zA, zB, zC])
  refine pu_ (v := .bool false) (y_run (by rfl) (fun W => by go_simp)) ?_
  (try simp only [zP, zN, zA, zB, zC])
  refine pu_ (v := .bool false) (y_pick (t := false) (by rfl) rfl (by rfl) (by rfl)) ?_
  (try simp only [zP, zN, zA, zB, zC])
  refine nl_ (hK7 _ _ ?_); clear hK7 K7
  refine wp_cond_false rfl ?_
  refine wp_skip ?_
  refine th_norm (hK6 _ _ ?_); try clear hK6 K6
  skip
  · have HRM := Lib.hid (show room s.qo false ≤ 64 by unfold room; split <;> omega)
    have D34 := Lib.hid (show min m ((room s.qo false : Nat) : Int) = mm from HMM.out.symm)
    refine sq_ (fun K8 hK8 => ?_)
    refine startk_ (S := fun W => Blk W k.b (#[.int .i64 s.id, .int .i64 s.box, .int .i64 s.ctr, .bool true, .pointer (some ⟨k.bi, 0, none⟩), .pointer (some ⟨k.bo, 0, none⟩)]) 65 ∧ True) (ds := []) #[false, false, false, false, false, false, false, false, false, false, false, false, false, false, false, false, false, false, false] (by kernel_rfl) rfl rfl (fun W c => ⟨c.blk FS.out nin_nil, trivial⟩) (fun w9 C10 hS11 => ?_)
    have C0' := Lib.hid (show Ch [k.bi, k.bo] w w9 from C0.out.trans' C10 (fun x hx => absurd hx (by simp)))
    have SL' := Lib.hid (show SrcIs w9 (.slice A K.length z) (K.length) (K.flatMap ptrC) 1 from SL.out.chx C10 xnin_nil)
    have FX' := Lib.hid (show Blk w9 x (#[.slice A K.length z, .int .i64 la]) 60 from C10.blk FX.out nin_nil)
    have FS' := Lib.hid (show Blk w9 k.b (#[.int .i64 s.id, .int .i64 s.box, .int .i64 s.ctr, .bool true, .pointer (some ⟨k.bi, 0, none⟩), .pointer (some ⟨k.bo, 0, none⟩)]) 65 from C10.blk FS.out nin_nil)
    have PI' := Lib.hid (show PipeC w9 (c) (k.bi) (s.qi) (false) from PI.out.ch C10 nin_nil)
    have PO' := Lib.hid (show PipeC w9 (c) (k.bo) (s.qo) (false) from PO.out.ch C10 nin_nil)
    clear C0 SL FX FS PI PO
    have C0 := C0'; clear C0'
    have SL := SL'; clear SL'
    have FX := FX'; clear FX'
    have FS := FS'; clear FS'
    have PI := PI'; clear PI'
    have PO := PO'; clear PO'
    clear C10
    refine pure_ (i := 0) (N := some 20) (v := .pointer (some ⟨k.b, 0, none⟩)) #[true, false, false, false, false, false, false, false, false, false, false, false, false, false, false, false, false, false, false] rfl rfl (by kernel_rfl) (fun c a w h => hP c a _ _ w h) (y_move rfl (by rfl) (by rfl)) rfl ?_
    (try simp only [zP, zN, zA, zB, zC])
    refine pure_ (i := 1) (N := some 21) (v := .pointer (some ⟨k.b, 0, none⟩)) #[true, true, false, false, false, false, false, false, false, false, false, false, false, false, false, false, false, false, false] rfl rfl (by kernel_rfl) (fun c a w h => hP c a _ _ w h) (y_nil rfl (by rfl) (by rfl)) rfl ?_
    (try simp only [zP, zN, zA, zB, zC])
    refine pure_ (i := 2) (N := some 22) (v := .pointer (some ⟨k.b, 5, none⟩)) #[true, true, true, false, false, false, false, false, false, false, false, false, false, false, false, false, false, false, false] rfl rfl (by kernel_rfl) (fun c a w h => hP c a _ _ w h) (y_run (by rfl) (fun W => by go_simp)) rfl ?_
    (try simp only [zP, zN, zA, zB, zC])
    refine take_ (i := 3) (N := some 23) (v := .pointer (some ⟨k.bo, 0, none⟩)) #[true, true, true, true, false, false, false, false, false, false, false, false, false, false, false, false, false, false, false] rfl rfl (by kernel_rfl) (fun c a w h => hP c a _ _ w h) (y_load (p := ⟨k.b, 5, none⟩) rfl (by rfl) (by rfl) (fun W hS => run_load_one ((hS.1.cell 5).trans rfl) Tryd.underlying62 rfl)) hS11 rfl ?_
    (try simp only [zP, zN, zA, zB, zC])
    refine pure_ (i := 4) (N := some 24) (v := .pointer (some ⟨k.b, 0, none⟩)) #[true, true, true, true, true, false, false, false, false, false, false, false, false, false, false, false, false, false, false] rfl rfl (by kernel_rfl) (fun c a w h => hP c a _ _ w h) (y_move rfl (by rfl) (by rfl)) rfl ?_
    (try simp only [zP, zN, zA, zB, zC])
    refine pure_ (i := 5) (N := some 25) (v := .pointer (some ⟨k.b, 0, none⟩)) #[true, true, true, true, true, true, false, false, false, false, false, false, false, false, false, false, false, false, false] rfl rfl (by kernel_rfl) (fun c a w h => hP c a _ _ w h) (y_nil rfl (by rfl) (by rfl)) rfl ?_
    (try simp only [zP, zN, zA, zB, zC])
    refine pure_ (i := 6) (N := some 26) (v := .pointer (some ⟨k.b, 4, none⟩)) #[true, true, true, true, true, true, true, false, false, false, false, false, false, false, false, false, false, false, false] rfl rfl (by kernel_rfl) (fun c a w h => hP c a _ _ w h) (y_run (by rfl) (fun W => by go_simp)) rfl ?_
    (try simp only [zP, zN, zA, zB, zC])
    refine take_ (i := 7) (N := some 27) (v := .pointer (some ⟨k.bi, 0, none⟩)) #[true, true, true, true, true, true, true, true, false, false, false, false, false, false, false, false, false, false, false] rfl rfl (by kernel_rfl) (fun c a w h => hP c a _ _ w h) (y_load (p := ⟨k.b, 4, none⟩) rfl (by rfl) (by rfl) (fun W hS => run_load_one ((hS.1.cell 4).trans rfl) Tryd.underlying62 rfl)) hS11 rfl ?_
    (try simp only [zP, zN, zA, zB, zC])
    refine pure_ (i := 8) (N := some 28) (v := .int .i64 m) #[true, true, true, true, true, true, true, true, true, false, false, false, false, false, false, false, false, false, false] rfl rfl (by kernel_rfl) (fun c a w h => hP c a _ _ w h) (y_move rfl (by rfl) (by rfl)) rfl ?_
    (try simp only [zP, zN, zA, zB, zC])
    refine pure_ (i := 9) (N := some 29) (v := .pointer (some ⟨k.b, 0, none⟩)) #[true, true, true, true, true, true, true, true, true, true, false, false, false, false, false, false, false, false, false] rfl rfl (by kernel_rfl) (fun c a w h => hP c a _ _ w h) (y_move rfl (by rfl) (by rfl)) rfl ?_
    (try simp only [zP, zN, zA, zB, zC])
    refine pure_ (i := 10) (N := some 30) (v := .pointer (some ⟨k.b, 0, none⟩)) #[true, true, true, true, true, true, true, true, true, true, true, false, false, false, false, false, false, false, false] rfl rfl (by kernel_rfl) (fun c a w h => hP c a _ _ w h) (y_nil rfl (by rfl) (by rfl)) rfl ?_
    (try simp only [zP, zN, zA, zB, zC])
    refine pure_ (i := 11) (N := some 31) (v := .pointer (some ⟨k.b, 5, none⟩)) #[true, true, true, true, true, true, true, true, true, true, true, true, false, false, false, false, false, false, false] rfl rfl (by kernel_rfl) (fun c a w h => hP c a _ _ w h) (y_run (by rfl) (fun W => by go_simp)) rfl ?_
    (try simp only [zP, zN, zA, zB, zC])
    refine take_ (i := 12) (N := some 32) (v := .pointer (some ⟨k.bo, 0, none⟩)) #[true, true, true, true, true, true, true, true, true, true, true, true, true, false, false, false, false, false, false] rfl rfl (by kernel_rfl) (fun c a w h => hP c a _ _ w h) (y_load (p := ⟨k.b, 5, none⟩) rfl (by rfl) (by rfl) (fun W hS => run_load_one ((hS.1.cell 5).trans rfl) Tryd.underlying62 rfl)) hS11 rfl ?_
    (try simp only [zP, zN, zA, zB, zC])
    refine one_ (i := 13) (N := some 33) #[true, true, true, true, true, true, true, true, true, true, true, true, true, true, false, false, false, false, false] rfl rfl (by kernel_rfl) (by simp) (fun K12 hK12 => ?_)
    refine e_call Tryd.func28 (by kernel_rfl) rfl #[.pointer (some ⟨k.bo, 0, none⟩)] (by rfl) rfl rfl (by first | rfl | (simp only [List.map_toArray, List.map_cons, List.map_nil]; first | done | rfl)) ((proom_ HC.out PO.out)) ?_
    rintro en w14 ⟨rfl, cc13⟩
    refine ⟨_, rfl, ?_⟩
    have C0' := Lib.hid (show Ch [k.bi, k.bo] w w14 from C0.out.trans' cc13 (fun x hx => absurd hx (by simp)))
    have SL' := Lib.hid (show SrcIs w14 (.slice A K.length z) (K.length) (K.flatMap ptrC) 1 from SL.out.chx cc13 xnin_nil)
    have FX' := Lib.hid (show Blk w14 x (#[.slice A K.length z, .int .i64 la]) 60 from cc13.blk FX.out nin_nil)
    have FS' := Lib.hid (show Blk w14 k.b (#[.int .i64 s.id, .int .i64 s.box, .int .i64 s.ctr, .bool true, .pointer (some ⟨k.bi, 0, none⟩), .pointer (some ⟨k.bo, 0, none⟩)]) 65 from cc13.blk FS.out nin_nil)
    have PI' := Lib.hid (show PipeC w14 (c) (k.bi) (s.qi) (false) from PI.out.ch cc13 nin_nil)
    have PO' := Lib.hid (show PipeC w14 (c) (k.bo) (s.qo) (false) from PO.out.ch cc13 nin_nil)
    clear C0 SL FX FS PI PO
    have C0 := C0'; clear C0'
    have SL := SL'; clear SL'
    have FX := FX'; clear FX'
    have FS := FS'; clear FS'
    have PI := PI'; clear PI'
    have PO := PO'; clear PO'
    clear cc13
    refine hK12.out _ _ ⟨FS.out, trivial⟩ (fun hS15 => ?_); clear hK12 K12
    (try simp only [zP, zN, zA, zB, zC])
    refine pure_ (i := 14) (N := some 34) (v := .int .i64 mm) #[true, true, true, true, true, true, true, true, true, true, true, true, true, true, true, false, false, false, false] rfl rfl (by kernel_rfl) (fun c a w h => hP c a _ _ w h) (y_run (by rfl) (fun W => by have d := D34.out; first | (go_simp; done) | (go_simp; split <;> omega))) rfl ?_
    (try simp only [zP, zN, zA, zB, zC])
    refine one_ (i := 15) (N := some 35) #[true, true, true, true, true, true, true, true, true, true, true, true, true, true, true, true, false, false, false] rfl rfl (by kernel_rfl) (by simp) (fun K16 hK16 => ?_)
    refine e_call Tryd.func26 (by kernel_rfl) rfl #[.pointer (some ⟨k.bi, 0, none⟩), .int .i64 mm] (by rfl) rfl rfl (by first | rfl | (simp only [List.map_toArray, List.map_cons, List.map_nil]; first | done | rfl)) ((by have h9 := pread_ (m := mm) HC.out (by have := HMM.out; have := HM.out; have := HRM.out; omega) PI.out; rw [← HNN.out] at h9; exact h9)) ?_
    rintro en w19 ⟨rfl, B18, cc17⟩
    refine ⟨_, rfl, ?_⟩
    have C0' := Lib.hid (show Ch [k.bi, k.bo] w w19 from C0.out.trans' cc17 (inw_cons (.inl List.mem_cons_self) inw_nil))
    have SL' := Lib.hid (show SrcIs w19 (.slice A K.length z) (K.length) (K.flatMap ptrC) 1 from SL.out.chx cc17 (xnin_cons HRI.out xnin_nil))
    have FX' := Lib.hid (show Blk w19 x (#[.slice A K.length z, .int .i64 la]) 60 from cc17.blk FX.out (nin_cons (Blk.ne_type FX.out PI.out.blk.choose_spec (by decide)) nin_nil))
    have FS' := Lib.hid (show Blk w19 k.b (#[.int .i64 s.id, .int .i64 s.box, .int .i64 s.ctr, .bool true, .pointer (some ⟨k.bi, 0, none⟩), .pointer (some ⟨k.bo, 0, none⟩)]) 65 from cc17.blk FS.out (nin_cons (Blk.ne_type FS.out PI.out.blk.choose_spec (by decide)) nin_nil))
    have PO' := Lib.hid (show PipeC w19 (c) (k.bo) (s.qo) (false) from PO.out.ch cc17 (nin_cons (Ne.symm HIO.out) nin_nil))
    clear C0 SL FX FS PO
    have C0 := C0'; clear C0'
    have SL := SL'; clear SL'
    have FX := FX'; clear FX'
    have FS := FS'; clear FS'
    have PO := PO'; clear PO'
    clear PI
    clear cc17
    have PI := Lib.hid (show PipeC w19 (c) (k.bi) (s.qi.drop N) (false) from B18)
    refine hK16.out _ _ ⟨FS.out, trivial⟩ (fun hS20 => ?_); clear hK16 K16
    (try simp only [zP, zN, zA, zB, zC])
    refine one_ (i := 16) (N := some 36) #[true, true, true, true, true, true, true, true, true, true, true, true, true, true, true, true, true, false, false] rfl rfl (by kernel_rfl) (by simp) (fun K21 hK21 => ?_)
    have HBN := Lib.hid (show Below w0.heap.size w0 w19 from HB0.out.trans (C0.out.below HB0.out.size HKB.out))
    refine e_call Tryd.func27 (by kernel_rfl) rfl #[.string (str (s.qi.take N))] (by rfl) rfl rfl (by first | rfl | (simp only [List.map_toArray, List.map_cons, List.map_nil]; first | done | rfl)) ((by have h9 := turned_ (w := w19) (t := str (s.qi.take N)) (Lib.hid (by rw [str_size, List.length_take]; have := HNN.out; have := HQI.out; omega)) (Lib.hid (fun hp W c9 => cap_ (tabs_ch HTB.out (HBN.out.trans (c9.below0.mono HBN.out.size))) (by rw [str_size, List.length_take]; have := HNN.out; have := HQI.out; omega) hp)); exact h9)) ?_
    rintro en w23 ⟨rfl, cc22⟩
    refine ⟨_, rfl, ?_⟩
    have C0' := Lib.hid (show Ch [k.bi, k.bo] w w23 from C0.out.trans' cc22 (fun x hx => absurd hx (by simp)))
    have SL' := Lib.hid (show SrcIs w23 (.slice A K.length z) (K.length) (K.flatMap ptrC) 1 from SL.out.chx cc22 xnin_nil)
    have FX' := Lib.hid (show Blk w23 x (#[.slice A K.length z, .int .i64 la]) 60 from cc22.blk FX.out nin_nil)
    have FS' := Lib.hid (show Blk w23 k.b (#[.int .i64 s.id, .int .i64 s.box, .int .i64 s.ctr, .bool true, .pointer (some ⟨k.bi, 0, none⟩), .pointer (some ⟨k.bo, 0, none⟩)]) 65 from cc22.blk FS.out nin_nil)
    have PO' := Lib.hid (show PipeC w23 (c) (k.bo) (s.qo) (false) from PO.out.ch cc22 nin_nil)
    have PI' := Lib.hid (show PipeC w23 (c) (k.bi) (s.qi.drop N) (false) from PI.out.ch cc22 nin_nil)
    clear C0 SL FX FS PO PI
    have C0 := C0'; clear C0'
    have SL := SL'; clear SL'
    have FX := FX'; clear FX'
    have FS := FS'; clear FS'
    have PO := PO'; clear PO'
    have PI := PI'; clear PI'
    clear cc22
    refine hK21.out _ _ ⟨FS.out, trivial⟩ (fun hS24 => ?_); clear hK21 K21
    (try simp only [zP, zN, zA, zB, zC])
    refine one_ (i := 17) (N := some 37) #[true, true, true, true, true, true, true, true, true, true, true, true, true, true, true, true, true, true, false] rfl rfl (by kernel_rfl) (by simp) (fun K25 hK25 => ?_)
    refine e_call Tryd.func25 (by kernel_rfl) rfl #[.pointer (some ⟨k.bo, 0, none⟩), .string (str ((s.qi.take N).map upB))] (by rfl) rfl rfl (by first | rfl | (simp only [List.map_toArray, List.map_cons, List.map_nil]; first | done | rfl)) ((pwrite_ HC.out (by rw [str_size, List.length_map, List.length_take]; have := HNN.out; have := HQI.out; omega) PO.out)) ?_
    rintro en w28 ⟨rfl, B27, cc26⟩
    refine ⟨_, rfl, ?_⟩
    have C0' := Lib.hid (show Ch [k.bi, k.bo] w w28 from C0.out.trans' cc26 (inw_cons (.inl (List.mem_cons_of_mem _ List.mem_cons_self)) inw_nil))
    have SL' := Lib.hid (show SrcIs w28 (.slice A K.length z) (K.length) (K.flatMap ptrC) 1 from SL.out.chx cc26 (xnin_cons HRO.out xnin_nil))
    have FX' := Lib.hid (show Blk w28 x (#[.slice A K.length z, .int .i64 la]) 60 from cc26.blk FX.out (nin_cons (Blk.ne_type FX.out PO.out.blk.choose_spec (by decide)) nin_nil))
    have FS' := Lib.hid (show Blk w28 k.b (#[.int .i64 s.id, .int .i64 s.box, .int .i64 s.ctr, .bool true, .pointer (some ⟨k.bi, 0, none⟩), .pointer (some ⟨k.bo, 0, none⟩)]) 65 from cc26.blk FS.out (nin_cons (Blk.ne_type FS.out PO.out.blk.choose_spec (by decide)) nin_nil))
    have PI' := Lib.hid (show PipeC w28 (c) (k.bi) (s.qi.drop N) (false) from PI.out.ch cc26 (nin_cons HIO.out nin_nil))
    clear C0 SL FX FS PI
    have C0 := C0'; clear C0'
    have SL := SL'; clear SL'
    have FX := FX'; clear FX'
    have FS := FS'; clear FS'
    have PI := PI'; clear PI'
    clear PO
    clear cc26
    have PO := Lib.hid (show PipeC w28 (c + 64) (k.bo) (s.qo ++ (str ((s.qi.take N).map upB)).data.toList.take (min (str ((s.qi.take N).map upB)).size (room s.qo false))) (false) from B27)
    refine hK25.out _ _ ⟨FS.out, trivial⟩ (fun hS29 => ?_); clear hK25 K25
    (try simp only [zP, zN, zA, zB, zC])
    refine pure_ (i := 18) (N := some 6) (v := .int .i64 ((min (str ((s.qi.take N).map upB)).size (room s.qo false)) : Nat)) #[true, true, true, true, true, true, true, true, true, true, true, true, true, true, true, true, true, true, true] rfl rfl (by kernel_rfl) (fun c a w h => hP c a _ _ w h) (y_assign rfl (by rfl) (by rfl)) rfl ?_
    (try simp only [zP, zN, zA, zB, zC])
    refine done_ (by kernel_rfl) (th_norm (hK8 _ _ ?_)); clear hK8 K8
    refine wp_ret ?_
    refine hQ _ _ _ ?_
    refine bodyPost_ret (res1 rfl (rdv_tmp (v := .int .i64 ((min (str ((s.qi.take N).map upB)).size (room s.qo false)) : Nat)) (by rfl))) rfl ?_
    exact ⟨rfl, PI.out, PO.out, C0.out⟩
theorem open_full {A : Option Addr} {z c x la lo : Nat} {K : List SB} {bx ct : Int} (H8 : Hid (8 ≤ K.length)) (FX : Hid (Blk w x (#[.slice A K.length z, .int .i64 la]) 60)) :
    Calls Tryd.prog 8 #[.pointer (some ⟨x, 0, none⟩), .int .i64 bx, .int .i64 ct] w fun en w' => en = .returned (.tuple #[.int .i64 0, .int .i64 8]) ∧ Ch [] w w' := by
  have C0 := Lib.hid (Ch.refl [] w)
  go_enter Tryd.func8, Tryd.ntmps8
  refine q_ (fun Q hQ hP => ?_)
  refine s_ (fun K1 hK1 => ?_)
  refine pu_ (v := .int .i64 0) (y_assign rfl (by rfl) (by rfl)) ?_
  (try simp only [zP, zN, zA, zB, zC])
  refine pu_ (v := .int .i64 0) (y_assign rfl (by rfl) (by rfl)) ?_
  (try simp only [zP, zN, zA, zB, zC])
  refine nl_ (hK1 _ _ ?_); clear hK1 K1
  refine sq_ (fun K2 hK2 => ?_)
  skip
  · have D13 := Lib.hid (show (8 : Int) ≤ (K.length : Int) by have := H8.out; omega)
    refine s_ (fun K3 hK3 => ?_)
    refine pu_ (v := .pointer (some ⟨x, 0, none⟩)) (y_move rfl (by rfl) (by rfl)) ?_
    (try simp only [zP, zN, zA, zB, zC])
    refine pu_ (v := .pointer (some ⟨x, 0, none⟩)) (y_nil rfl (by rfl) (by rfl)) ?_
    (try simp only [zP, zN, zA, zB, zC])
    refine pu_ (v := .pointer (some ⟨x, 0, none⟩)) (y_run (by rfl) (fun W => by go_simp)) ?_
    (try simp only [zP, zN, zA, zB, zC])
    refine ld_ (v := .slice A K.length z) rfl (by rfl) (by rfl) (run_load_one ((FX.out.cell 0).trans rfl) Tryd.underlying58 rfl) ?_
    (try simp only [zP, zN, zA, zB, zC])
    refine pu_ (v := .int .i64 K.length) (y_run (by rfl) (fun W => by go_simp)) ?_
    (try simp only [zP, zN, zA, zB, zC])
    refine pu_ (v := .bool true) (y_run (by rfl) (fun W => by have d := D13.out; go_simp)) ?_
    (try simp only [zP, zN, zA, zB, zC])
    refine nl_ (hK3 _ _ ?_); clear hK3 K3
    refine wp_cond_true rfl ?_
    refine s_ (fun K4 hK4 => ?_)
    refine pu_ (v := .int .i64 0) (y_assign rfl (by rfl) (by rfl)) ?_
    (try simp only [zP, zN, zA, zB, zC])
    refine pu_ (v := .int .i64 8) (y_assign rfl (by rfl) (by rfl)) ?_
    (try simp only [zP, zN, zA, zB, zC])
    refine nl_ (hK4 _ _ ?_); clear hK4 K4
    refine wp_ret ?_
    refine th_ret ?_
    refine hQ _ _ _ ?_
    refine bodyPost_ret (res2 rfl (rdv_tmp (v := .int .i64 0) (by rfl)) (rdv_tmp (v := .int .i64 8) (by rfl))) rfl ?_
    exact ⟨rfl, C0.out⟩
theorem open_ok {v : Value} {z c x la lo : Nat} {K : List SB} {bx ct : Int} (H8 : Hid (K.length < 8)) (HLA : Hid (la ≤ 100000)) (HLO : Hid (lo ≤ w.heap.size)) (FX : Hid (Blk w x (#[v, .int .i64 la]) 60)) (OV : Hid (OwnS w lo 61 1 (v) (K.length) (K.flatMap ptrC))) :
    Calls Tryd.prog 8 #[.pointer (some ⟨x, 0, none⟩), .int .i64 bx, .int .i64 ct] w fun en w' => ∃ v' k, en = .returned (.tuple #[.int .i64 (la + 1 : Nat), .int .i64 0]) ∧ Blk w' x #[v', .int .i64 (la + 1 : Nat)] 60 ∧ OwnS w' lo 61 1 v' (K.length + 1) ((K ++ [k]).flatMap ptrC) ∧ SessIs w' c k ⟨(la + 1 : Nat), bx, ct, true, [], []⟩ ∧ Ch (x :: rl v) w w' ∧ w.heap.size ≤ k.b ∧ w.heap.size ≤ k.bi ∧ w.heap.size ≤ k.bo ∧ k.b ≠ k.bi ∧ k.b ≠ k.bo ∧ k.bi ≠ k.bo ∧ ∀ z, z ∈ rl v' → z ∈ x :: rl v ∨ w.heap.size ≤ z := by
  have C0 := Lib.hid (Ch.refl (x :: rl v) w)
  obtain ⟨i61, I61⟩ := Info.of info61
  have HOS := Lib.hid OV.out.slice
  go_enter Tryd.func8, Tryd.ntmps8
  refine q_ (fun Q hQ hP => ?_)
  refine s_ (fun K1 hK1 => ?_)
  refine pu_ (v := .int .i64 0) (y_assign rfl (by rfl) (by rfl)) ?_
  (try simp only [zP, zN, zA, zB, zC])
  refine pu_ (v := .int .i64 0) (y_assign rfl (by rfl) (by rfl)) ?_
  (try simp only [zP, zN, zA, zB, zC])
  refine nl_ (hK1 _ _ ?_); clear hK1 K1
  refine sq_ (fun K2 hK2 => ?_)
  skip
  · have D13 := Lib.hid (show ¬ (8 : Int) ≤ (K.length : Int) by have := H8.out; omega)
    have WL := Lib.hid (show IntKind.i64.wrap ((la : Int) + 1) = ((la + 1 : Nat) : Int) by rw [wr64 (by have := HLA.out; omega)]; omega)
    refine s_ (fun K3 hK3 => ?_)
    refine pu_ (v := .pointer (some ⟨x, 0, none⟩)) (y_move rfl (by rfl) (by rfl)) ?_
    (try simp only [zP, zN, zA, zB, zC])
    refine pu_ (v := .pointer (some ⟨x, 0, none⟩)) (y_nil rfl (by rfl) (by rfl)) ?_
    (try simp only [zP, zN, zA, zB, zC])
    refine pu_ (v := .pointer (some ⟨x, 0, none⟩)) (y_run (by rfl) (fun W => by go_simp)) ?_
    (try simp only [zP, zN, zA, zB, zC])
    refine ld_ (v := v) rfl (by rfl) (by rfl) (run_load_one ((FX.out.cell 0).trans rfl) Tryd.underlying58 rfl) ?_
    (try simp only [zP, zN, zA, zB, zC])
    refine pu_ (v := .int .i64 K.length) (y_run (by rfl) (fun W => by obtain ⟨A, cp, hv, -, -⟩ := HOS.out; rw [hv]; go_simp)) ?_
    (try simp only [zP, zN, zA, zB, zC])
    refine pu_ (v := .bool false) (y_run (by rfl) (fun W => by have d := D13.out; go_simp)) ?_
    (try simp only [zP, zN, zA, zB, zC])
    refine nl_ (hK3 _ _ ?_); clear hK3 K3
    refine wp_cond_false rfl ?_
    refine wp_skip ?_
    refine th_norm (hK2 _ _ ?_); try clear hK2 K2
    refine s_ (fun K4 hK4 => ?_)
    refine pu_ (v := .pointer (some ⟨x, 0, none⟩)) (y_move rfl (by rfl) (by rfl)) ?_
    (try simp only [zP, zN, zA, zB, zC])
    refine pu_ (v := .pointer (some ⟨x, 0, none⟩)) (y_nil rfl (by rfl) (by rfl)) ?_
    (try simp only [zP, zN, zA, zB, zC])
    refine pu_ (v := .pointer (some ⟨x, 1, none⟩)) (y_run (by rfl) (fun W => by go_simp)) ?_
    (try simp only [zP, zN, zA, zB, zC])
    refine ld_ (v := .int .i64 la) rfl (by rfl) (by rfl) (run_load_one ((FX.out.cell 1).trans rfl) Tryd.underlying3 rfl) ?_
    (try simp only [zP, zN, zA, zB, zC])
    refine pu_ (v := .int .i64 (la + 1 : Nat)) (y_run (by rfl) (fun W => by have d := WL.out; go_simp)) ?_
    (try simp only [zP, zN, zA, zB, zC])
    refine pu_ (v := .pointer (some ⟨x, 0, none⟩)) (y_nil rfl (by rfl) (by rfl)) ?_
    (try simp only [zP, zN, zA, zB, zC])
    refine pu_ (v := .pointer (some ⟨x, 1, none⟩)) (y_run (by rfl) (fun W => by go_simp)) ?_
    (try simp only [zP, zN, zA, zB, zC])
    refine ef_ (fun K5 hK5 => ?_)
    refine e_store1 (b := x) (j := 1) (v := .int .i64 (la + 1 : Nat)) (by rfl) rfl rfl (by rfl) (by rfl) FX.out (show 1 < 2 by omega) (by kernel_rfl) rfl ?_
    rintro w6 B7 C8
    have C0' := Lib.hid (show Ch (x :: rl v) w w6 from C0.out.trans' C8 (inw_cons (.inl List.mem_cons_self) inw_nil))
    have OV' := Lib.hid (show OwnS w6 lo 61 1 (v) (K.length) (K.flatMap ptrC) from OV.out.ch C8 (rnin_cons (OV.out.ne FX.out (by decide)) rnin_nil))
    clear C0 OV
    have C0 := C0'; clear C0'
    have OV := OV'; clear OV'
    clear FX; have FX := Lib.hid (show Blk w6 x (#[v, .int .i64 (la + 1 : Nat)]) 60 from B7); clear B7 C8
    refine hK5 _ _ ?_; clear hK5 K5
    (try simp only [zP, zN, zA, zB, zC])
    refine nl_ (hK4 _ _ ?_); clear hK4 K4
    refine sq_ (fun K9 hK9 => ?_)
    refine startk_ (S := fun W => Blk W x (#[v, .int .i64 (la + 1 : Nat)]) 60 ∧ True) (ds := [19]) #[false, false, false, false, false, false, false, false, false, false, false, false, false, false, false, false, false, false, false, false] (by kernel_rfl) rfl rfl (fun W c => ⟨c.blk FX.out nin_nil, trivial⟩) (fun w10 C11 hS12 => ?_)
    have C0' := Lib.hid (show Ch (x :: rl v) w w10 from C0.out.trans' C11 (fun x hx => absurd hx (by simp)))
    have FX' := Lib.hid (show Blk w10 x (#[v, .int .i64 (la + 1 : Nat)]) 60 from C11.blk FX.out nin_nil)
    have OV' := Lib.hid (show OwnS w10 lo 61 1 (v) (K.length) (K.flatMap ptrC) from OV.out.ch C11 rnin_nil)
    clear C0 FX OV
    have C0 := C0'; clear C0'
    have FX := FX'; clear FX'
    have OV := OV'; clear OV'
    clear C11
    refine pure_ (i := 0) (N := some 21) (v := .pointer (some ⟨x, 0, none⟩)) #[true, false, false, false, false, false, false, false, false, false, false, false, false, false, false, false, false, false, false, false] rfl rfl (by kernel_rfl) (fun c a w h => hP c a _ _ w h) (y_move rfl (by rfl) (by rfl)) rfl ?_
    (try simp only [zP, zN, zA, zB, zC])
    refine pure_ (i := 1) (N := some 22) (v := .pointer (some ⟨x, 0, none⟩)) #[true, true, false, false, false, false, false, false, false, false, false, false, false, false, false, false, false, false, false, false] rfl rfl (by kernel_rfl) (fun c a w h => hP c a _ _ w h) (y_move rfl (by rfl) (by rfl)) rfl ?_
    (try simp only [zP, zN, zA, zB, zC])
    refine pure_ (i := 2) (N := some 23) (v := .pointer (some ⟨x, 0, none⟩)) #[true, true, true, false, false, false, false, false, false, false, false, false, false, false, false, false, false, false, false, false] rfl rfl (by kernel_rfl) (fun c a w h => hP c a _ _ w h) (y_nil rfl (by rfl) (by rfl)) rfl ?_
    (try simp only [zP, zN, zA, zB, zC])
    refine pure_ (i := 3) (N := some 24) (v := .pointer (some ⟨x, 0, none⟩)) #[true, true, true, true, false, false, false, false, false, false, false, false, false, false, false, false, false, false, false, false] rfl rfl (by kernel_rfl) (fun c a w h => hP c a _ _ w h) (y_run (by rfl) (fun W => by go_simp)) rfl ?_
    (try simp only [zP, zN, zA, zB, zC])
    refine take_ (i := 4) (N := some 25) (v := v) #[true, true, true, true, true, false, false, false, false, false, false, false, false, false, false, false, false, false, false, false] rfl rfl (by kernel_rfl) (fun c a w h => hP c a _ _ w h) (y_load (p := ⟨x, 0, none⟩) rfl (by rfl) (by rfl) (fun W hS => run_load_one ((hS.1.cell 0).trans rfl) Tryd.underlying58 rfl)) hS12 rfl ?_
    (try simp only [zP, zN, zA, zB, zC])
    refine pure_ (i := 5) (N := some 26) (v := .pointer (some ⟨x, 0, none⟩)) #[true, true, true, true, true, true, false, false, false, false, false, false, false, false, false, false, false, false, false, false] rfl rfl (by kernel_rfl) (fun c a w h => hP c a _ _ w h) (y_move rfl (by rfl) (by rfl)) rfl ?_
    (try simp only [zP, zN, zA, zB, zC])
    refine pure_ (i := 6) (N := some 27) (v := .pointer (some ⟨x, 0, none⟩)) #[true, true, true, true, true, true, true, false, false, false, false, false, false, false, false, false, false, false, false, false] rfl rfl (by kernel_rfl) (fun c a w h => hP c a _ _ w h) (y_nil rfl (by rfl) (by rfl)) rfl ?_
    (try simp only [zP, zN, zA, zB, zC])
    refine pure_ (i := 7) (N := some 28) (v := .pointer (some ⟨x, 1, none⟩)) #[true, true, true, true, true, true, true, true, false, false, false, false, false, false, false, false, false, false, false, false] rfl rfl (by kernel_rfl) (fun c a w h => hP c a _ _ w h) (y_run (by rfl) (fun W => by go_simp)) rfl ?_
    (try simp only [zP, zN, zA, zB, zC])
    refine take_ (i := 8) (N := some 29) (v := .int .i64 (la + 1 : Nat)) #[true, true, true, true, true, true, true, true, true, false, false, false, false, false, false, false, false, false, false, false] rfl rfl (by kernel_rfl) (fun c a w h => hP c a _ _ w h) (y_load (p := ⟨x, 1, none⟩) rfl (by rfl) (by rfl) (fun W hS => run_load_one ((hS.1.cell 1).trans rfl) Tryd.underlying3 rfl)) hS12 rfl ?_
    (try simp only [zP, zN, zA, zB, zC])
    refine pure_ (i := 9) (N := some 30) (v := .int .i64 bx) #[true, true, true, true, true, true, true, true, true, true, false, false, false, false, false, false, false, false, false, false] rfl rfl (by kernel_rfl) (fun c a w h => hP c a _ _ w h) (y_move rfl (by rfl) (by rfl)) rfl ?_
    (try simp only [zP, zN, zA, zB, zC])
    refine pure_ (i := 10) (N := some 31) (v := .int .i64 ct) #[true, true, true, true, true, true, true, true, true, true, true, false, false, false, false, false, false, false, false, false] rfl rfl (by kernel_rfl) (fun c a w h => hP c a _ _ w h) (y_move rfl (by rfl) (by rfl)) rfl ?_
    (try simp only [zP, zN, zA, zB, zC])
    refine one_ (i := 11) (N := some 32) #[true, true, true, true, true, true, true, true, true, true, true, true, false, false, false, false, false, false, false, false] rfl rfl (by kernel_rfl) (by simp) (fun K13 hK13 => ?_)
    refine e_call Tryd.func23 (by kernel_rfl) rfl #[] (by rfl) rfl rfl (by first | rfl | (simp only [List.map_toArray, List.map_cons, List.map_nil]; first | done | rfl)) (New_any _) ?_
    rintro en w14 ⟨p1, rfl, hb, hge, cc⟩
    refine ⟨_, rfl, ?_⟩
    have hp1N := Lib.hid (show w.heap.size ≤ p1 by have := C0.out.size; omega)
    have C0' := Lib.hid (show Ch (x :: rl v) w w14 from C0.out.trans' cc (fun x hx => absurd hx (by simp)))
    have FX' := Lib.hid (show Blk w14 x (#[v, .int .i64 (la + 1 : Nat)]) 60 from cc.blk FX.out nin_nil)
    have OV' := Lib.hid (show OwnS w14 lo 61 1 (v) (K.length) (K.flatMap ptrC) from OV.out.ch cc rnin_nil)
    clear C0 FX OV
    have C0 := C0'; clear C0'
    have FX := FX'; clear FX'
    have OV := OV'; clear OV'
    clear cc
    have Qp1 := Lib.hid (show PipeC w14 c p1 [] false from ⟨0, 0, hb, Nat.zero_le _⟩)
    clear hb
    refine hK13.out _ _ ⟨FX.out, trivial⟩ (fun hS15 => ?_); clear hK13 K13
    (try simp only [zP, zN, zA, zB, zC])
    refine one_ (i := 12) (N := some 33) #[true, true, true, true, true, true, true, true, true, true, true, true, true, false, false, false, false, false, false, false] rfl rfl (by kernel_rfl) (by simp) (fun K16 hK16 => ?_)
    refine e_call Tryd.func23 (by kernel_rfl) rfl #[] (by rfl) rfl rfl (by first | rfl | (simp only [List.map_toArray, List.map_cons, List.map_nil]; first | done | rfl)) (New_any _) ?_
    rintro en w17 ⟨p2, rfl, hb, hge, cc⟩
    refine ⟨_, rfl, ?_⟩
    have hp2N := Lib.hid (show w.heap.size ≤ p2 by have := C0.out.size; omega)
    have hp1p2 := Lib.hid (show p1 ≠ p2 from fun e => by have := Qp1.out.lt; omega)
    have C0' := Lib.hid (show Ch (x :: rl v) w w17 from C0.out.trans' cc (fun x hx => absurd hx (by simp)))
    have FX' := Lib.hid (show Blk w17 x (#[v, .int .i64 (la + 1 : Nat)]) 60 from cc.blk FX.out nin_nil)
    have OV' := Lib.hid (show OwnS w17 lo 61 1 (v) (K.length) (K.flatMap ptrC) from OV.out.ch cc rnin_nil)
    have Qp1' := Lib.hid (show PipeC w17 (c) (p1) ([]) (false) from Qp1.out.ch cc nin_nil)
    clear C0 FX OV Qp1
    have C0 := C0'; clear C0'
    have FX := FX'; clear FX'
    have OV := OV'; clear OV'
    have Qp1 := Qp1'; clear Qp1'
    clear cc
    have Qp2 := Lib.hid (show PipeC w17 c p2 [] false from ⟨0, 0, hb, Nat.zero_le _⟩)
    clear hb
    refine hK16.out _ _ ⟨FX.out, trivial⟩ (fun hS18 => ?_); clear hK16 K16
    (try simp only [zP, zN, zA, zB, zC])
    refine pure_ (i := 13) (N := some 34) (v := .agg #[.int .i64 (la + 1 : Nat), .int .i64 bx, .int .i64 ct, .bool true, .pointer (some ⟨p1, 0, none⟩), .pointer (some ⟨p2, 0, none⟩)]) #[true, true, true, true, true, true, true, true, true, true, true, true, true, true, false, false, false, false, false, false] rfl rfl (by kernel_rfl) (fun c a w h => hP c a _ _ w h) (y_build (vs := #[(0, .int .i64 (la + 1 : Nat)), (1, .int .i64 bx), (2, .int .i64 ct), (3, .bool true), (4, .pointer (some ⟨p1, 0, none⟩)), (5, .pointer (some ⟨p2, 0, none⟩))]) (by rfl) rfl (by first | rfl | (simp only [List.map_toArray, List.map_cons, List.map_nil]; first | done | rfl)) (by kernel_rfl)) rfl ?_
    (try simp only [zP, zN, zA, zB, zC])
    refine one_ (i := 14) (N := some 35) #[true, true, true, true, true, true, true, true, true, true, true, true, true, true, true, false, false, false, false, false] rfl rfl (by kernel_rfl) (by simp) (fun K19 hK19 => ?_)
    refine e_boxN (by rfl) rfl rfl (cs := #[.int .i64 (la + 1 : Nat), .int .i64 bx, .int .i64 ct, .bool true, .pointer (some ⟨p1, 0, none⟩), .pointer (some ⟨p2, 0, none⟩)]) (v := .agg #[.int .i64 (la + 1 : Nat), .int .i64 bx, .int .i64 ct, .bool true, .pointer (some ⟨p1, 0, none⟩), .pointer (some ⟨p2, 0, none⟩)]) (by rfl) rfl ?_
    rintro gs w20 HG21 B22 C23
    have nw24 := Lib.hid (show w.heap.size ≤ gs by have := C0.out.size; have := HG21.out; omega)
    have C0' := Lib.hid (show Ch (x :: rl v) w w20 from C0.out.trans' C23 (fun x hx => absurd hx (by simp)))
    have FX' := Lib.hid (show Blk w20 x (#[v, .int .i64 (la + 1 : Nat)]) 60 from C23.blk FX.out nin_nil)
    have OV' := Lib.hid (show OwnS w20 lo 61 1 (v) (K.length) (K.flatMap ptrC) from OV.out.ch C23 rnin_nil)
    have Qp1' := Lib.hid (show PipeC w20 (c) (p1) ([]) (false) from Qp1.out.ch C23 nin_nil)
    have Qp2' := Lib.hid (show PipeC w20 (c) (p2) ([]) (false) from Qp2.out.ch C23 nin_nil)
    clear C0 FX OV Qp1 Qp2
    have C0 := C0'; clear C0'
    have FX := FX'; clear FX'
    have OV := OV'; clear OV'
    have Qp1 := Qp1'; clear Qp1'
    have Qp2 := Qp2'; clear Qp2'
    have Fgs := Lib.hid (show Blk w20 gs (#[.int .i64 (la + 1 : Nat), .int .i64 bx, .int .i64 ct, .bool true, .pointer (some ⟨p1, 0, none⟩), .pointer (some ⟨p2, 0, none⟩)]) 65 from B22); clear B22 C23
    refine hK19.out _ _ ⟨FX.out, trivial⟩ (fun hS25 => ?_); clear hK19 K19
    (try simp only [zP, zN, zA, zB, zC])
    refine one_ (i := 15) (N := some 36) #[true, true, true, true, true, true, true, true, true, true, true, true, true, true, true, true, false, false, false, false] rfl rfl (by kernel_rfl) (by simp) (fun K26 hK26 => ?_)
    refine e_buildS (parts := #[(0, .pointer (some ⟨gs, 0, none⟩))]) (cells := #[.pointer (some ⟨gs, 0, none⟩)]) (by rfl) rfl rfl (by first | rfl | (simp only [List.map_toArray, List.map_cons, List.map_nil]; first | done | rfl)) Tryd.underlying58 I61.hi I61.hz I61.hs (by decide) (by decide) (by kernel_rfl) ?_
    rintro g27 w28 HG29 B30 C31
    have nw32 := Lib.hid (show w.heap.size ≤ g27 by have := C0.out.size; have := HG29.out; omega)
    have nr33 := Lib.hid (OV.out.ne_new HG29)
    have C0' := Lib.hid (show Ch (x :: rl v) w w28 from C0.out.trans' C31 (fun x hx => absurd hx (by simp)))
    have FX' := Lib.hid (show Blk w28 x (#[v, .int .i64 (la + 1 : Nat)]) 60 from C31.blk FX.out nin_nil)
    have OV' := Lib.hid (show OwnS w28 lo 61 1 (v) (K.length) (K.flatMap ptrC) from OV.out.ch C31 rnin_nil)
    have Qp1' := Lib.hid (show PipeC w28 (c) (p1) ([]) (false) from Qp1.out.ch C31 nin_nil)
    have Qp2' := Lib.hid (show PipeC w28 (c) (p2) ([]) (false) from Qp2.out.ch C31 nin_nil)
    have Fgs' := Lib.hid (show Blk w28 gs (#[.int .i64 (la + 1 : Nat), .int .i64 bx, .int .i64 ct, .bool true, .pointer (some ⟨p1, 0, none⟩), .pointer (some ⟨p2, 0, none⟩)]) 65 from C31.blk Fgs.out nin_nil)
    clear C0 FX OV Qp1 Qp2 Fgs
    have C0 := C0'; clear C0'
    have FX := FX'; clear FX'
    have OV := OV'; clear OV'
    have Qp1 := Qp1'; clear Qp1'
    have Qp2 := Qp2'; clear Qp2'
    have Fgs := Fgs'; clear Fgs'
    have Fg27 := Lib.hid (show Blk w28 g27 (#[.pointer (some ⟨gs, 0, none⟩)]) 61 from B30); clear B30 C31
    refine hK26.out _ _ ⟨FX.out, trivial⟩ (fun hS34 => ?_); clear hK26 K26
    (try simp only [zP, zN, zA, zB, zC])
    refine one_ (i := 16) (N := some 37) #[true, true, true, true, true, true, true, true, true, true, true, true, true, true, true, true, true, false, false, false] rfl rfl (by kernel_rfl) (by simp) (fun K35 hK35 => ?_)
    refine e_append (by rfl) rfl rfl (lo) 61 _ _ 1 8 Tryd.underlying58 I61.hi I61.hz I61.hs I61.hb rfl (by decide) (v) (K.length) (K.flatMap ptrC) (by rfl) OV.out (.slice (some ⟨g27, 0, none⟩) 1 1) 1 (ptrC ⟨gs, p1, p2⟩) (by rfl) ⟨rfl, .inr ⟨_, _, rfl, by have h9 := CellsAt.blk Fg27.out 0; exact h9⟩⟩ (ptrC_one ⟨gs, p1, p2⟩) (by unfold maxLen; have := H8.out; omega) (by have := H8.out; omega) (Nat.le_trans HLO.out C0.out.size) ?_
    rintro v36 w37 O38 C39 R40 -
    have rw41 := Lib.hid (show ∀ z_, z_ ∈ rl v36 → z_ ∈ (x :: rl v) ∨ w.heap.size ≤ z_ from fun x hx => (R40 x hx).elim (fun h => .inl (List.mem_cons_of_mem _ h)) (fun h => .inr (by have := C0.out.size; omega)))
    have nr42 := Lib.hid (show g27 ∉ rl v36 from fun hk => (R40 _ hk).elim nr33.out (fun h => by have := Fg27.out.lt; omega))
    have C0' := Lib.hid (show Ch (x :: rl v) w w37 from C0.out.trans' C39 (fun x hx => .inl (List.mem_cons_of_mem _ hx)))
    have FX' := Lib.hid (show Blk w37 x (#[v, .int .i64 (la + 1 : Nat)]) 60 from C39.blk FX.out (OV.out.ne FX.out (by decide)))
    have Qp1' := Lib.hid (show PipeC w37 (c) (p1) ([]) (false) from Qp1.out.ch C39 (OV.out.ne Qp1.out.blk.choose_spec (by decide)))
    have Qp2' := Lib.hid (show PipeC w37 (c) (p2) ([]) (false) from Qp2.out.ch C39 (OV.out.ne Qp2.out.blk.choose_spec (by decide)))
    have Fgs' := Lib.hid (show Blk w37 gs (#[.int .i64 (la + 1 : Nat), .int .i64 bx, .int .i64 ct, .bool true, .pointer (some ⟨p1, 0, none⟩), .pointer (some ⟨p2, 0, none⟩)]) 65 from C39.blk Fgs.out (OV.out.ne Fgs.out (by decide)))
    have Fg27' := Lib.hid (show Blk w37 g27 (#[.pointer (some ⟨gs, 0, none⟩)]) 61 from C39.blk Fg27.out nr33.out)
    clear C0 FX Qp1 Qp2 Fgs Fg27
    have C0 := C0'; clear C0'
    have FX := FX'; clear FX'
    have Qp1 := Qp1'; clear Qp1'
    have Qp2 := Qp2'; clear Qp2'
    have Fgs := Fgs'; clear Fgs'
    have Fg27 := Fg27'; clear Fg27'
    clear OV
    have OV := Lib.hid (show OwnS w37 lo 61 1 (v36) (K.length + 1) (K.flatMap ptrC ++ ptrC ⟨gs, p1, p2⟩) from O38); clear O38 C39
    refine hK35.out _ _ ⟨FX.out, trivial⟩ (fun hS43 => ?_); clear hK35 K35
    (try simp only [zP, zN, zA, zB, zC])
    refine pure_ (i := 17) (N := some 38) (v := .pointer (some ⟨x, 0, none⟩)) #[true, true, true, true, true, true, true, true, true, true, true, true, true, true, true, true, true, true, false, false] rfl rfl (by kernel_rfl) (fun c a w h => hP c a _ _ w h) (y_nil rfl (by rfl) (by rfl)) rfl ?_
    (try simp only [zP, zN, zA, zB, zC])
    refine pure_ (i := 18) (N := some 39) (v := .pointer (some ⟨x, 0, none⟩)) #[true, true, true, true, true, true, true, true, true, true, true, true, true, true, true, true, true, true, true, false] rfl rfl (by kernel_rfl) (fun c a w h => hP c a _ _ w h) (y_run (by rfl) (fun W => by go_simp)) rfl ?_
    (try simp only [zP, zN, zA, zB, zC])
    refine last_ (i := 19) (N := none) #[true, true, true, true, true, true, true, true, true, true, true, true, true, true, true, true, true, true, true, true] rfl rfl (by kernel_rfl) (by simp) (fun K44 hK44 => ?_)
    refine e_store1 (b := x) (j := 0) (v := v36) (by rfl) rfl rfl (by rfl) (by rfl) FX.out (show 0 < 2 by omega) (by kernel_rfl) OV.out.one ?_
    rintro w45 B46 C47
    have C0' := Lib.hid (show Ch (x :: rl v) w w45 from C0.out.trans' C47 (inw_cons (.inl List.mem_cons_self) inw_nil))
    have OV' := Lib.hid (show OwnS w45 lo 61 1 (v36) (K.length + 1) (K.flatMap ptrC ++ ptrC ⟨gs, p1, p2⟩) from OV.out.ch C47 (rnin_cons (OV.out.ne FX.out (by decide)) rnin_nil))
    have Qp1' := Lib.hid (show PipeC w45 (c) (p1) ([]) (false) from Qp1.out.ch C47 (nin_cons (Blk.ne_type Qp1.out.blk.choose_spec FX.out (by decide)) nin_nil))
    have Qp2' := Lib.hid (show PipeC w45 (c) (p2) ([]) (false) from Qp2.out.ch C47 (nin_cons (Blk.ne_type Qp2.out.blk.choose_spec FX.out (by decide)) nin_nil))
    have Fgs' := Lib.hid (show Blk w45 gs (#[.int .i64 (la + 1 : Nat), .int .i64 bx, .int .i64 ct, .bool true, .pointer (some ⟨p1, 0, none⟩), .pointer (some ⟨p2, 0, none⟩)]) 65 from C47.blk Fgs.out (nin_cons (Blk.ne_type Fgs.out FX.out (by decide)) nin_nil))
    have Fg27' := Lib.hid (show Blk w45 g27 (#[.pointer (some ⟨gs, 0, none⟩)]) 61 from C47.blk Fg27.out (nin_cons (Blk.ne_type Fg27.out FX.out (by decide)) nin_nil))
    clear C0 OV Qp1 Qp2 Fgs Fg27
    have C0 := C0'; clear C0'
    have OV := OV'; clear OV'
    have Qp1 := Qp1'; clear Qp1'
    have Qp2 := Qp2'; clear Qp2'
    have Fgs := Fgs'; clear Fgs'
    have Fg27 := Fg27'; clear Fg27'
    clear FX; have FX := Lib.hid (show Blk w45 x (#[v36, .int .i64 (la + 1 : Nat)]) 60 from B46); clear B46 C47
    refine hK44.out _ _ ?_; clear hK44 K44
    (try simp only [zP, zN, zA, zB, zC])
    refine done_ (by kernel_rfl) (th_norm (hK9 _ _ ?_)); clear hK9 K9
    refine s_ (fun K48 hK48 => ?_)
    refine pu_ (v := .pointer (some ⟨x, 0, none⟩)) (y_move rfl (by rfl) (by rfl)) ?_
    (try simp only [zP, zN, zA, zB, zC])
    refine pu_ (v := .pointer (some ⟨x, 0, none⟩)) (y_nil rfl (by rfl) (by rfl)) ?_
    (try simp only [zP, zN, zA, zB, zC])
    refine pu_ (v := .pointer (some ⟨x, 1, none⟩)) (y_run (by rfl) (fun W => by go_simp)) ?_
    (try simp only [zP, zN, zA, zB, zC])
    refine ld_ (v := .int .i64 (la + 1 : Nat)) rfl (by rfl) (by rfl) (run_load_one ((FX.out.cell 1).trans rfl) Tryd.underlying3 rfl) ?_
    (try simp only [zP, zN, zA, zB, zC])
    refine pu_ (v := .int .i64 (la + 1 : Nat)) (y_assign rfl (by rfl) (by rfl)) ?_
    (try simp only [zP, zN, zA, zB, zC])
    refine pu_ (v := .int .i64 0) (y_assign rfl (by rfl) (by rfl)) ?_
    (try simp only [zP, zN, zA, zB, zC])
    refine nl_ (hK48 _ _ ?_); clear hK48 K48
    refine wp_ret ?_
    refine hQ _ _ _ ?_
    refine bodyPost_ret (res2 rfl (rdv_tmp (v := .int .i64 (la + 1 : Nat)) (by rfl)) (rdv_tmp (v := .int .i64 0) (by rfl))) rfl ?_
    exact ⟨v36, ⟨gs, p1, p2⟩, rfl, FX.out, by have h9 := OV.out; rw [List.flatMap_append, List.flatMap_cons, List.flatMap_nil, List.append_nil]; exact h9, ⟨Fgs.out, Qp1.out, Qp2.out⟩, C0.out, nw24.out, hp1N.out, hp2N.out, (Blk.ne_type Fgs.out Qp1.out.blk.choose_spec (by decide)), (Blk.ne_type Fgs.out Qp2.out.blk.choose_spec (by decide)), hp1p2.out, rw41.out⟩
end
end Go.Proofs.YtcfkdglaedpnjaaDoor.V
