/- The walks of package exec: the chapter's example. -/
import Derived.Test.YtcfkdglaedpnjaaDoorExU
namespace Go.Proofs.YtcfkdglaedpnjaaDoor.V
open Go Go.RowKit Go.Proofs.YtcfkdglaedpnjaaDoor.K Go.Proofs.YtcfkdglaedpnjaaDoor.R Go.Proofs.YtcfkdglaedpnjaaDoorW.PrintLast
set_option linter.unusedVariables false
set_option linter.unusedSimpArgs false
set_option maxRecDepth 100000
set_option maxHeartbeats 1600000
section
variable {w : World}
/-- The sessions of the chapter's example. -/
abbrev hiB : ByteArray := ⟨#[104, 105]⟩
def X0 : HX := ⟨[], 0⟩
def X1 : HX := openS X0 1 2
def X2 : HX := writeS X1 1 hiB
def X3 : HX := turnS X2 1 9
def X4 : HX := readS X3 1 9
theorem v1 : openR X0 = (1, 0) := by kernel_rfl
theorem v2 : writeR X1 1 hiB = (2, 0) := by kernel_rfl
theorem v3 : turnR X2 1 9 = 2 := by kernel_rfl
theorem v4 : readR X3 1 9 = (⟨#[72, 73]⟩, 0) := by kernel_rfl
theorem x1 : X1.L.length = 1 := by kernel_rfl
theorem x2 : X2.L.length = 1 := by kernel_rfl
theorem x3 : X3.L.length = 1 := by kernel_rfl
theorem x4 : X4.L.length = 1 := by kernel_rfl
theorem works_ (HTB : Hid (Tabs w))  :
    Calls Tryd.prog 6 #[] w fun en w' => en = .returned (.bool true) ∧ Ch [] w w' := by
  have C0 := Lib.hid (Ch.refl [] w)
  go_enter Tryd.func6, Tryd.ntmps6
  refine q_ (fun Q hQ hP => ?_)
  refine s_ (fun K1 hK1 => ?_)
  refine pu_ (v := .bool false) (y_assign rfl (by rfl) (by rfl)) ?_
  (try simp only [zP, zN, zA, zB, zC])
  refine nl_ (hK1 _ _ ?_); clear hK1 K1
  refine s_ (fun K2 hK2 => ?_)
  refine ef_ (fun K3 hK3 => ?_)
  refine e_call Tryd.func7 (by kernel_rfl) rfl #[] (by rfl) rfl rfl (by first | rfl | (simp only [List.map_toArray, List.map_cons, List.map_nil]; first | done | rfl)) ((new_l (lo := w.heap.size) C0.out.size)) ?_
  rintro en w4 ⟨x, rfl, bk, hge, cc⟩
  refine ⟨_, rfl, ?_⟩
  have C0' := Lib.hid (show Ch [] w w4 from C0.out.trans' cc (fun x hx => absurd hx (by simp)))
  clear C0
  have C0 := C0'; clear C0'
  have EX := Lib.hid (show ExIs w4 w.heap.size [x] x (0) (⟨[], 0⟩) from bk)
  clear bk cc
  refine hK3 _ _ ?_; clear hK3 K3
  (try simp only [zP, zN, zA, zB, zC])
  refine pu_ (v := .pointer (some ⟨x, 0, none⟩)) (y_assign rfl (by rfl) (by rfl)) ?_
  (try simp only [zP, zN, zA, zB, zC])
  refine nl_ (hK2 _ _ ?_); clear hK2 K2
  refine sq_ (fun K5 hK5 => ?_)
  refine s_ (fun K6 hK6 => ?_)
  refine pu_ (v := .pointer (some ⟨x, 0, none⟩)) (y_move rfl (by rfl) (by rfl)) ?_
  (try simp only [zP, zN, zA, zB, zC])
  refine pu_ (v := .bool false) (y_run (by rfl) (fun W => by first | (go_simp; done) | (go_simp; rfl) | (go_simp; decide))) ?_
  (try simp only [zP, zN, zA, zB, zC])
  refine nl_ (hK6 _ _ ?_); clear hK6 K6
  refine wp_cond_false rfl ?_
  refine wp_skip ?_
  refine th_norm (hK5 _ _ ?_); try clear hK5 K5
  refine s_ (fun K7 hK7 => ?_)
  refine pu_ (v := .pointer (some ⟨x, 0, none⟩)) (y_move rfl (by rfl) (by rfl)) ?_
  (try simp only [zP, zN, zA, zB, zC])
  refine ef_ (fun K8 hK8 => ?_)
  refine e_call Tryd.func8 (by kernel_rfl) rfl #[.pointer (some ⟨x, 0, none⟩), .int .i64 1, .int .i64 2] (by rfl) rfl rfl (by first | rfl | (simp only [List.map_toArray, List.map_cons, List.map_nil]; first | done | rfl)) ((by have h9 := open_l (bx := 1) (ct := 2) EX.out (by show 0 ≤ 100; omega) (by show 0 ≤ 100000; omega) C0.out.size; rw [show openR ⟨[], 0⟩ = (1, 0) from v1] at h9; exact h9)) ?_
  rintro en w10 ⟨rfl, Bs9, bk, cc, bel⟩
  refine ⟨_, rfl, ?_⟩
  have C0' := Lib.hid (show Ch [] w w10 from C0.out.trans' cc (fun x hx => .inr (EX.out.lt x hx).1))
  clear C0
  have C0 := C0'; clear C0'
  clear EX cc bel
  have EX := Lib.hid (show ExIs w10 w.heap.size Bs9 x (0) (X1) from bk)
  clear bk
  refine hK8 _ _ ?_; clear hK8 K8
  (try simp only [zP, zN, zA, zB, zC])
  refine pu_ (v := .tuple #[.int .i64 1, .int .i64 0]) (y_move rfl (by rfl) (by rfl)) ?_
  (try simp only [zP, zN, zA, zB, zC])
  refine pu_ (v := .int .i64 1) (y_run (by rfl) (fun W => by go_simp)) ?_
  (try simp only [zP, zN, zA, zB, zC])
  refine pu_ (v := .int .i64 0) (y_run (by rfl) (fun W => by go_simp)) ?_
  (try simp only [zP, zN, zA, zB, zC])
  refine pu_ (v := .int .i64 1) (y_assign rfl (by rfl) (by rfl)) ?_
  (try simp only [zP, zN, zA, zB, zC])
  refine pu_ (v := .int .i64 0) (y_assign rfl (by rfl) (by rfl)) ?_
  (try simp only [zP, zN, zA, zB, zC])
  refine nl_ (hK7 _ _ ?_); clear hK7 K7
  refine s_ (fun K11 hK11 => ?_)
  refine pu_ (v := .pointer (some ⟨x, 0, none⟩)) (y_move rfl (by rfl) (by rfl)) ?_
  (try simp only [zP, zN, zA, zB, zC])
  refine pu_ (v := .int .i64 1) (y_move rfl (by rfl) (by rfl)) ?_
  (try simp only [zP, zN, zA, zB, zC])
  refine ef_ (fun K12 hK12 => ?_)
  refine e_call Tryd.func9 (by kernel_rfl) rfl #[.pointer (some ⟨x, 0, none⟩), .int .i64 1, .string {data := #[104, 105]}] (by rfl) rfl rfl (by first | rfl | (simp only [List.map_toArray, List.map_cons, List.map_nil]; first | done | rfl)) ((by have h9 := write_l (id := 1) (t := hiB) EX.out (by rw [x1]; omega) (by omega) (by show 2 ≤ 100000; omega); rw [v2] at h9; exact h9)) ?_
  rintro en w14 ⟨rfl, Bs13, bk, cc, bel⟩
  refine ⟨_, rfl, ?_⟩
  have C0' := Lib.hid (show Ch [] w w14 from C0.out.trans' cc (fun x hx => .inr (EX.out.lt x hx).1))
  clear C0
  have C0 := C0'; clear C0'
  clear EX cc bel
  have EX := Lib.hid (show ExIs w14 w.heap.size Bs13 x (0 + 64) (X2) from bk)
  clear bk
  refine hK12 _ _ ?_; clear hK12 K12
  (try simp only [zP, zN, zA, zB, zC])
  refine pu_ (v := .tuple #[.int .i64 2, .int .i64 0]) (y_move rfl (by rfl) (by rfl)) ?_
  (try simp only [zP, zN, zA, zB, zC])
  refine pu_ (v := .int .i64 2) (y_run (by rfl) (fun W => by go_simp)) ?_
  (try simp only [zP, zN, zA, zB, zC])
  refine pu_ (v := .int .i64 0) (y_run (by rfl) (fun W => by go_simp)) ?_
  (try simp only [zP, zN, zA, zB, zC])
  refine pu_ (v := .int .i64 2) (y_assign rfl (by rfl) (by rfl)) ?_
  (try simp only [zP, zN, zA, zB, zC])
  refine pu_ (v := .int .i64 0) (y_assign rfl (by rfl) (by rfl)) ?_
  (try simp only [zP, zN, zA, zB, zC])
  refine nl_ (hK11 _ _ ?_); clear hK11 K11
  refine s_ (fun K15 hK15 => ?_)
  refine pu_ (v := .pointer (some ⟨x, 0, none⟩)) (y_move rfl (by rfl) (by rfl)) ?_
  (try simp only [zP, zN, zA, zB, zC])
  refine pu_ (v := .int .i64 1) (y_move rfl (by rfl) (by rfl)) ?_
  (try simp only [zP, zN, zA, zB, zC])
  refine ef_ (fun K16 hK16 => ?_)
  refine e_call Tryd.func11 (by kernel_rfl) rfl #[.pointer (some ⟨x, 0, none⟩), .int .i64 1, .int .i64 9] (by rfl) rfl rfl (by first | rfl | (simp only [List.map_toArray, List.map_cons, List.map_nil]; first | done | rfl)) ((by have h9 := turn_l (w0 := w) (id := 1) (m := 9) EX.out (by rw [x2]; omega) (by omega) (by omega) HTB.out rfl C0.out.below0; rw [v3] at h9; exact h9)) ?_
  rintro en w18 ⟨rfl, Bs17, bk, cc, bel⟩
  refine ⟨_, rfl, ?_⟩
  have C0' := Lib.hid (show Ch [] w w18 from C0.out.trans' cc (fun x hx => .inr (EX.out.lt x hx).1))
  clear C0
  have C0 := C0'; clear C0'
  clear EX cc bel
  have EX := Lib.hid (show ExIs w18 w.heap.size Bs17 x (0 + 64 + 64) (X3) from bk)
  clear bk
  refine hK16 _ _ ?_; clear hK16 K16
  (try simp only [zP, zN, zA, zB, zC])
  refine pu_ (v := .int .i64 2) (y_assign rfl (by rfl) (by rfl)) ?_
  (try simp only [zP, zN, zA, zB, zC])
  refine nl_ (hK15 _ _ ?_); clear hK15 K15
  refine s_ (fun K19 hK19 => ?_)
  refine pu_ (v := .pointer (some ⟨x, 0, none⟩)) (y_move rfl (by rfl) (by rfl)) ?_
  (try simp only [zP, zN, zA, zB, zC])
  refine pu_ (v := .int .i64 1) (y_move rfl (by rfl) (by rfl)) ?_
  (try simp only [zP, zN, zA, zB, zC])
  refine ef_ (fun K20 hK20 => ?_)
  refine e_call Tryd.func10 (by kernel_rfl) rfl #[.pointer (some ⟨x, 0, none⟩), .int .i64 1, .int .i64 9] (by rfl) rfl rfl (by first | rfl | (simp only [List.map_toArray, List.map_cons, List.map_nil]; first | done | rfl)) ((by have h9 := read_l (id := 1) (m := 9) EX.out (by rw [x3]; omega) (by omega) (by omega); rw [v4] at h9; exact h9)) ?_
  rintro en w22 ⟨rfl, Bs21, bk, cc, bel⟩
  refine ⟨_, rfl, ?_⟩
  have C0' := Lib.hid (show Ch [] w w22 from C0.out.trans' cc (fun x hx => .inr (EX.out.lt x hx).1))
  clear C0
  have C0 := C0'; clear C0'
  clear EX cc bel
  have EX := Lib.hid (show ExIs w22 w.heap.size Bs21 x (0 + 64 + 64) (X4) from bk)
  clear bk
  refine hK20 _ _ ?_; clear hK20 K20
  (try simp only [zP, zN, zA, zB, zC])
  refine pu_ (v := .tuple #[.string ⟨#[72, 73]⟩, .int .i64 0]) (y_move rfl (by rfl) (by rfl)) ?_
  (try simp only [zP, zN, zA, zB, zC])
  refine pu_ (v := .string ⟨#[72, 73]⟩) (y_run (by rfl) (fun W => by go_simp)) ?_
  (try simp only [zP, zN, zA, zB, zC])
  refine pu_ (v := .int .i64 0) (y_run (by rfl) (fun W => by go_simp)) ?_
  (try simp only [zP, zN, zA, zB, zC])
  refine pu_ (v := .string ⟨#[72, 73]⟩) (y_assign rfl (by rfl) (by rfl)) ?_
  (try simp only [zP, zN, zA, zB, zC])
  refine pu_ (v := .int .i64 0) (y_assign rfl (by rfl) (by rfl)) ?_
  (try simp only [zP, zN, zA, zB, zC])
  refine nl_ (hK19 _ _ ?_); clear hK19 K19
  refine s_ (fun K23 hK23 => ?_)
  refine pu_ (v := .int .i64 1) (y_move rfl (by rfl) (by rfl)) ?_
  (try simp only [zP, zN, zA, zB, zC])
  refine pu_ (v := .bool true) (y_run (by rfl) (fun W => by first | (go_simp; done) | (go_simp; rfl) | (go_simp; decide))) ?_
  (try simp only [zP, zN, zA, zB, zC])
  refine pu_ (v := .bool true) (y_move rfl (by rfl) (by rfl)) ?_
  (try simp only [zP, zN, zA, zB, zC])
  refine pu_ (v := .int .i64 0) (y_move rfl (by rfl) (by rfl)) ?_
  (try simp only [zP, zN, zA, zB, zC])
  refine pu_ (v := .bool true) (y_run (by rfl) (fun W => by first | (go_simp; done) | (go_simp; rfl) | (go_simp; decide))) ?_
  (try simp only [zP, zN, zA, zB, zC])
  refine pu_ (v := .bool true) (y_pick (t := true) (by rfl) rfl (by rfl) (by rfl)) ?_
  (try simp only [zP, zN, zA, zB, zC])
  refine pu_ (v := .bool true) (y_move rfl (by rfl) (by rfl)) ?_
  (try simp only [zP, zN, zA, zB, zC])
  refine pu_ (v := .int .i64 2) (y_move rfl (by rfl) (by rfl)) ?_
  (try simp only [zP, zN, zA, zB, zC])
  refine pu_ (v := .bool true) (y_run (by rfl) (fun W => by first | (go_simp; done) | (go_simp; rfl) | (go_simp; decide))) ?_
  (try simp only [zP, zN, zA, zB, zC])
  refine pu_ (v := .bool true) (y_pick (t := true) (by rfl) rfl (by rfl) (by rfl)) ?_
  (try simp only [zP, zN, zA, zB, zC])
  refine pu_ (v := .bool true) (y_move rfl (by rfl) (by rfl)) ?_
  (try simp only [zP, zN, zA, zB, zC])
  refine pu_ (v := .int .i64 0) (y_move rfl (by rfl) (by rfl)) ?_
  (try simp only [zP, zN, zA, zB, zC])
  refine pu_ (v := .bool true) (y_run (by rfl) (fun W => by first | (go_simp; done) | (go_simp; rfl) | (go_simp; decide))) ?_
  (try simp only [zP, zN, zA, zB, zC])
  refine pu_ (v := .bool true) (y_pick (t := true) (by rfl) rfl (by rfl) (by rfl)) ?_
  (try simp only [zP, zN, zA, zB, zC])
  refine pu_ (v := .bool true) (y_move rfl (by rfl) (by rfl)) ?_
  (try simp only [zP, zN, zA, zB, zC])
  refine pu_ (v := .int .i64 2) (y_move rfl (by rfl) (by rfl)) ?_
  (try simp only [zP, zN, zA, zB, zC])
  refine pu_ (v := .bool true) (y_run (by rfl) (fun W => by first | (go_simp; done) | (go_simp; rfl) | (go_simp; decide))) ?_
  (try simp only [zP, zN, zA, zB, zC])
  refine pu_ (v := .bool true) (y_pick (t := true) (by rfl) rfl (by rfl) (by rfl)) ?_
  (try simp only [zP, zN, zA, zB, zC])
  refine pu_ (v := .bool true) (y_move rfl (by rfl) (by rfl)) ?_
  (try simp only [zP, zN, zA, zB, zC])
  refine pu_ (v := .string ⟨#[72, 73]⟩) (y_move rfl (by rfl) (by rfl)) ?_
  (try simp only [zP, zN, zA, zB, zC])
  refine pu_ (v := .bool true) (y_run (by rfl) (fun W => by first | (go_simp; done) | (go_simp; rfl) | (go_simp; decide))) ?_
  (try simp only [zP, zN, zA, zB, zC])
  refine pu_ (v := .bool true) (y_pick (t := true) (by rfl) rfl (by rfl) (by rfl)) ?_
  (try simp only [zP, zN, zA, zB, zC])
  refine pu_ (v := .bool true) (y_move rfl (by rfl) (by rfl)) ?_
  (try simp only [zP, zN, zA, zB, zC])
  refine pu_ (v := .int .i64 0) (y_move rfl (by rfl) (by rfl)) ?_
  (try simp only [zP, zN, zA, zB, zC])
  refine pu_ (v := .bool true) (y_run (by rfl) (fun W => by first | (go_simp; done) | (go_simp; rfl) | (go_simp; decide))) ?_
  (try simp only [zP, zN, zA, zB, zC])
  refine pu_ (v := .bool true) (y_pick (t := true) (by rfl) rfl (by rfl) (by rfl)) ?_
  (try simp only [zP, zN, zA, zB, zC])
  refine pu_ (v := .bool true) (y_move rfl (by rfl) (by rfl)) ?_
  (try simp only [zP, zN, zA, zB, zC])
  refine pu_ (v := .pointer (some ⟨x, 0, none⟩)) (y_move rfl (by rfl) (by rfl)) ?_
  (try simp only [zP, zN, zA, zB, zC])
  refine ef_ (fun K24 hK24 => ?_)
  refine e_call Tryd.func19 (by kernel_rfl) rfl #[.pointer (some ⟨x, 0, none⟩)] (by rfl) rfl rfl (by first | rfl | (simp only [List.map_toArray, List.map_cons, List.map_nil]; first | done | rfl)) ((by have h9 := len_l EX.out (by rw [x4]; omega); rw [x4] at h9; exact h9)) ?_
  rintro en w26 ⟨rfl, Bs25, bk, cc, bel⟩
  refine ⟨_, rfl, ?_⟩
  have C0' := Lib.hid (show Ch [] w w26 from C0.out.trans' cc (fun x hx => .inr (EX.out.lt x hx).1))
  clear C0
  have C0 := C0'; clear C0'
  clear EX cc bel
  have EX := Lib.hid (show ExIs w26 w.heap.size Bs25 x (0 + 64 + 64) (X4) from bk)
  clear bk
  refine hK24 _ _ ?_; clear hK24 K24
  (try simp only [zP, zN, zA, zB, zC])
  refine pu_ (v := .bool true) (y_run (by rfl) (fun W => by first | (go_simp; done) | (go_simp; rfl) | (go_simp; decide))) ?_
  (try simp only [zP, zN, zA, zB, zC])
  refine pu_ (v := .bool true) (y_pick (t := true) (by rfl) rfl (by rfl) (by rfl)) ?_
  (try simp only [zP, zN, zA, zB, zC])
  refine pu_ (v := .bool true) (y_assign rfl (by rfl) (by rfl)) ?_
  (try simp only [zP, zN, zA, zB, zC])
  refine nl_ (hK23 _ _ ?_); clear hK23 K23
  refine wp_ret ?_
  refine hQ _ _ _ ?_
  refine bodyPost_ret (res1 rfl (rdv_tmp (v := .bool true) (by rfl))) rfl ?_
  exact ⟨rfl, C0.out⟩
/-- k times: what is there is read, then the program goes on. -/
def rsN (id : Int) (E : HX) : Nat → ByteArray × HX
  | 0 => (⟨#[]⟩, E)
  | k + 1 => ((rsN id E k).1 ++ (readR (rsN id E k).2 id 1000).1, turnS (readS (rsN id E k).2 id 1000) id 1000)
theorem readS_len (E : HX) (id m : Int) : (readS E id m).L.length = E.L.length := by
  unfold readS setE
  split
  · rfl
  · split
    · rfl
    · exact List.length_set
theorem turnS_len (E : HX) (id m : Int) : (turnS E id m).L.length = E.L.length := by
  unfold turnS setE
  split
  · rfl
  · split
    · rfl
    · split
      · exact List.length_set
      · rfl
theorem rsN_len (id : Int) (E : HX) : ∀ k, (rsN id E k).2.L.length = E.L.length
  | 0 => rfl
  | k + 1 => by
    show (turnS (readS (rsN id E k).2 id 1000) id 1000).L.length = _
    rw [turnS_len, readS_len, rsN_len id E k]
theorem ExIs.qs {lo x c : Nat} {Bs : List Nat} {E : HX} (h : ExIs w lo Bs x c E) : ∀ (j : Nat) (s : HS), E.L[j]? = some s → s.qi.length ≤ 64 ∧ s.qo.length ≤ 64 := by
  obtain ⟨v, K, _, _, _, _, _, h5⟩ := h
  intro j s hs
  obtain ⟨k, _, hsi⟩ := h5.at hs
  obtain ⟨i, o, hp, _⟩ := hsi.pin
  obtain ⟨i2, o2, hp2, _⟩ := hsi.pout
  exact ⟨hp.len.2, hp2.len.2⟩
theorem read_size {E : HX} {id m : Int} (h : ∀ (j : Nat) (s : HS), E.L[j]? = some s → s.qi.length ≤ 64 ∧ s.qo.length ≤ 64) : (readR E id m).1.size ≤ 64 := by
  unfold readR
  split
  · exact Nat.zero_le _
  · split
    · exact Nat.zero_le _
    · rename_i s hs
      split
      · exact Nat.zero_le _
      · show (str (s.qo.take (rdN s.qo m))).size ≤ 64
        rw [str_size, List.length_take]
        have := (h _ s hs).2
        omega
theorem rest_ {lo x c : Nat} {Bs0 : List Nat} {E : HX} {id : Int} {w0 : World} (HN : Hid (E.L.length ≤ 100)) (HC : Hid (c ≤ 90000)) (HTB : Hid (Tabs w0)) (HLO : Hid (lo = w0.heap.size)) (HB0 : Hid (Below w0.heap.size w0 w)) (EX : Hid (ExIs w lo Bs0 x ((c + 64 * 0)) ((rsN id E 0).2))) :
    Calls Tryd.prog 16 #[.pointer (some ⟨x, 0, none⟩), .int .i64 id] w fun en w' => en = .returned (.string (rsN id E 5).1) ∧ Step w w' lo Bs0 x (c + 64 * 5) (rsN id E 5).2 := by
  have C0 := Lib.hid (Ch.refl (Bs0) w)
  have HL0 := Lib.hid (show ∀ y, y ∈ Bs0 → w0.heap.size ≤ y from fun y hy => by rw [← HLO.out]; exact (EX.out.lt y hy).1)
  go_enter Tryd.func16, Tryd.ntmps16
  refine q_ (fun Q hQ hP => ?_)
  refine s_ (fun K1 hK1 => ?_)
  refine pu_ (v := .string {data := #[]}) (y_assign rfl (by rfl) (by rfl)) ?_
  (try simp only [zP, zN, zA, zB, zC])
  refine nl_ (hK1 _ _ ?_); clear hK1 K1
  refine s_ (fun K2 hK2 => ?_)
  refine pu_ (v := .string {data := #[]}) (y_assign rfl (by rfl) (by rfl)) ?_
  (try simp only [zP, zN, zA, zB, zC])
  refine nl_ (hK2 _ _ ?_); clear hK2 K2
  refine sq_ (fun K3 hK3 => ?_)
  refine s_ (fun K4 hK4 => ?_)
  refine pu_ (v := .int .i64 0) (y_assign rfl (by rfl) (by rfl)) ?_
  (try simp only [zP, zN, zA, zB, zC])
  refine nl_ (hK4 _ _ ?_); clear hK4 K4
  refine wp_block ?_
  refine loopk_ (fun (kq : Nat) (a' : Act) (w' : World) => ∃ (k : Nat), ∃ (Bs : List Nat), ∃ (us : Nat → Value), a' = ⟨#[.pointer (some ⟨x, 0, none⟩), .int .i64 id, us 2, us 3, us 4, .string (rsN id E k).1, .int .i64 k, us 7, us 8, us 9, us 10, us 11, us 12, us 13, us 14, us 15, us 16, us 17, us 18, us 19, us 20, us 21, us 22, us 23, us 24, us 25], []⟩ ∧ Hid (Ch (Bs0) w w') ∧ Hid (ExIs w' lo Bs x ((c + 64 * k)) ((rsN id E k).2)) ∧ Hid (k ≤ 5 ∧ kq + k = 5) ∧ Hid ((rsN id E k).1.size ≤ 64 * k) ∧ Hid (∀ k_, k_ ∈ Bs → k_ ∈ Bs0 ∨ w.heap.size ≤ k_)) (5) (⟨0, Bs0, fun us_ => (#[.pointer (some ⟨x, 0, none⟩), .int .i64 id, undef, undef, .string {data := #[]}, .string {data := #[]}, .int .i64 0, undef, undef, undef, undef, undef, undef, undef, undef, undef, undef, undef, undef, undef, undef, undef, undef, undef, undef, undef] : Array Value).getD us_ undef, rfl, C0, EX, Lib.hid ⟨by omega, by omega⟩, Lib.hid (Nat.zero_le _), Lib.hid (fun k_ hk_ => .inl hk_)⟩) ?_
  rintro kq _ w5 ⟨k, Bs, us, rfl, C0, EX, hk, hsz, hbel⟩ K6 hK6
  refine sq_ (fun K7 hK7 => ?_)
  rcases (show k < 5 ∨ ¬ k < 5 by omega) with h | h
  · have hlt := Lib.hid h
    clear h
    have D10 := Lib.hid (show (k : Int) < 5 by have := hlt.out; omega)
    have Wk := Lib.hid (show IntKind.i64.wrap ((k : Int) + 1) = ((k + 1 : Nat) : Int) by rw [wr64 (by have := hlt.out; omega)]; omega)
    have HRZ := Lib.hid (read_size (id := id) (m := 1000) EX.out.qs)
    have D21 := Lib.hid (show (rsN id E k).1.size + (readR (rsN id E k).2 id 1000).1.size ≤ 9223372036854775807 by have := HRZ.out; have := hsz.out; have := hlt.out; omega)
    refine s_ (fun K8 hK8 => ?_)
    refine pu_ (v := .int .i64 k) (y_move rfl (by rfl) (by rfl)) ?_
    (try simp only [zP, zN, zA, zB, zC])
    refine pu_ (v := .bool true) (y_run (by rfl) (fun W => by have d := D10.out; go_simp)) ?_
    (try simp only [zP, zN, zA, zB, zC])
    refine nl_ (hK8 _ _ ?_); clear hK8 K8
    refine wp_cond_true rfl ?_
    refine wp_skip ?_
    refine th_norm (hK7 _ _ ?_); try clear hK7 K7
    refine sq_ (fun K9 hK9 => ?_)
    refine wp_block ?_
    refine s_ (fun K10 hK10 => ?_)
    refine pu_ (v := .pointer (some ⟨x, 0, none⟩)) (y_move rfl (by rfl) (by rfl)) ?_
    (try simp only [zP, zN, zA, zB, zC])
    refine pu_ (v := .int .i64 id) (y_move rfl (by rfl) (by rfl)) ?_
    (try simp only [zP, zN, zA, zB, zC])
    refine ef_ (fun K11 hK11 => ?_)
    refine e_call Tryd.func10 (by kernel_rfl) rfl #[.pointer (some ⟨x, 0, none⟩), .int .i64 id, .int .i64 1000] (by rfl) rfl rfl (by first | rfl | (simp only [List.map_toArray, List.map_cons, List.map_nil]; first | done | rfl)) ((read_l (id := id) (m := 1000) EX.out (by rw [rsN_len]; exact HN.out) (by have := HC.out; have := hlt.out; omega) (by omega))) ?_
    rintro en w13 ⟨rfl, Bs12, bk, cc, bel⟩
    refine ⟨_, rfl, ?_⟩
    have hb14 := Lib.hid (show ∀ k_, k_ ∈ Bs12 → k_ ∈ Bs0 ∨ w.heap.size ≤ k_ from fun k_ hk_ => (bel k_ hk_).elim (hbel.out k_) (fun h_ => .inr (Nat.le_trans C0.out.size h_)))
    have C0' := Lib.hid (show Ch (Bs0) w w13 from C0.out.trans' cc hbel.out)
    clear C0
    have C0 := C0'; clear C0'
    clear EX cc bel
    have EX := Lib.hid (show ExIs w13 lo Bs12 x ((c + 64 * k)) (readS (rsN id E k).2 id 1000) from bk)
    clear bk
    refine hK11 _ _ ?_; clear hK11 K11
    (try simp only [zP, zN, zA, zB, zC])
    refine pu_ (v := .tuple #[.string (readR (rsN id E k).2 id 1000).1, .int .i64 (readR (rsN id E k).2 id 1000).2]) (y_move rfl (by rfl) (by rfl)) ?_
    (try simp only [zP, zN, zA, zB, zC])
    refine pu_ (v := .string (readR (rsN id E k).2 id 1000).1) (y_run (by rfl) (fun W => by go_simp)) ?_
    (try simp only [zP, zN, zA, zB, zC])
    refine pu_ (v := .int .i64 (readR (rsN id E k).2 id 1000).2) (y_run (by rfl) (fun W => by go_simp)) ?_
    (try simp only [zP, zN, zA, zB, zC])
    refine pu_ (v := .string (readR (rsN id E k).2 id 1000).1) (y_assign rfl (by rfl) (by rfl)) ?_
    (try simp only [zP, zN, zA, zB, zC])
    refine pu_ (v := .int .i64 (readR (rsN id E k).2 id 1000).2) (y_assign rfl (by rfl) (by rfl)) ?_
    (try simp only [zP, zN, zA, zB, zC])
    refine nl_ (hK10 _ _ ?_); clear hK10 K10
    refine s_ (fun K15 hK15 => ?_)
    refine pu_ (v := .string (rsN id E k).1) (y_move rfl (by rfl) (by rfl)) ?_
    (try simp only [zP, zN, zA, zB, zC])
    refine pu_ (v := .string (readR (rsN id E k).2 id 1000).1) (y_move rfl (by rfl) (by rfl)) ?_
    (try simp only [zP, zN, zA, zB, zC])
    refine pu_ (v := .string ((rsN id E k).1 ++ (readR (rsN id E k).2 id 1000).1)) (y_run (by rfl) (fun W => by have d := D21.out; go_simp)) ?_
    (try simp only [zP, zN, zA, zB, zC])
    refine pu_ (v := .string ((rsN id E k).1 ++ (readR (rsN id E k).2 id 1000).1)) (y_assign rfl (by rfl) (by rfl)) ?_
    (try simp only [zP, zN, zA, zB, zC])
    refine nl_ (hK15 _ _ ?_); clear hK15 K15
    refine r_ ?_
    refine pu_ (v := .pointer (some ⟨x, 0, none⟩)) (y_move rfl (by rfl) (by rfl)) ?_
    (try simp only [zP, zN, zA, zB, zC])
    refine pu_ (v := .int .i64 id) (y_move rfl (by rfl) (by rfl)) ?_
    (try simp only [zP, zN, zA, zB, zC])
    refine ef_ (fun K16 hK16 => ?_)
    refine e_call Tryd.func11 (by kernel_rfl) rfl #[.pointer (some ⟨x, 0, none⟩), .int .i64 id, .int .i64 1000] (by rfl) rfl rfl (by first | rfl | (simp only [List.map_toArray, List.map_cons, List.map_nil]; first | done | rfl)) ((turn_l (w0 := w0) (id := id) (m := 1000) EX.out (by rw [readS_len, rsN_len]; exact HN.out) (by have := HC.out; have := hlt.out; omega) (by omega) HTB.out HLO.out (HB0.out.trans (C0.out.below HB0.out.size HL0.out)))) ?_
    rintro en w18 ⟨rfl, Bs17, bk, cc, bel⟩
    refine ⟨_, rfl, ?_⟩
    have hb19 := Lib.hid (show ∀ k_, k_ ∈ Bs17 → k_ ∈ Bs0 ∨ w.heap.size ≤ k_ from fun k_ hk_ => (bel k_ hk_).elim (hb14.out k_) (fun h_ => .inr (Nat.le_trans C0.out.size h_)))
    have C0' := Lib.hid (show Ch (Bs0) w w18 from C0.out.trans' cc hb14.out)
    clear C0
    have C0 := C0'; clear C0'
    clear EX cc bel
    have EX := Lib.hid (show ExIs w18 lo Bs17 x (((c + 64 * k) + 64)) (turnS (readS (rsN id E k).2 id 1000) id 1000) from bk)
    clear bk
    refine hK16 _ _ ?_; clear hK16 K16
    (try simp only [zP, zN, zA, zB, zC])
    refine nl_ ?_
    refine ib_norm ?_
    refine th_norm (hK9 _ _ ?_); try clear hK9 K9
    refine r_ ?_
    refine pu_ (v := .int .i64 k) (y_move rfl (by rfl) (by rfl)) ?_
    (try simp only [zP, zN, zA, zB, zC])
    refine pu_ (v := .int .i64 (k + 1 : Nat)) (y_run (by rfl) (fun W => by have d := Wk.out; go_simp)) ?_
    (try simp only [zP, zN, zA, zB, zC])
    refine pu_ (v := .int .i64 (k + 1 : Nat)) (y_assign rfl (by rfl) (by rfl)) ?_
    (try simp only [zP, zN, zA, zB, zC])
    refine nl_ ?_
    exact th_norm (hK6 (kq - 1) _ _ (by have := hlt.out; have := hk.out; omega) ⟨k + 1, Bs17, fun us_ => (#[.pointer (some ⟨x, 0, none⟩), .int .i64 id, us 2, us 3, us 4, .string ((rsN id E k).1 ++ (readR (rsN id E k).2 id 1000).1), .int .i64 (k + 1 : Nat), .string (readR (rsN id E k).2 id 1000).1, .int .i64 (readR (rsN id E k).2 id 1000).2, .int .i64 k, .bool true, .int .i64 k, .int .i64 (k + 1 : Nat), .tuple #[.string (readR (rsN id E k).2 id 1000).1, .int .i64 (readR (rsN id E k).2 id 1000).2], .pointer (some ⟨x, 0, none⟩), .int .i64 id, .tuple #[.string (readR (rsN id E k).2 id 1000).1, .int .i64 (readR (rsN id E k).2 id 1000).2], .string (readR (rsN id E k).2 id 1000).1, .int .i64 (readR (rsN id E k).2 id 1000).2, .string (rsN id E k).1, .string (readR (rsN id E k).2 id 1000).1, .string ((rsN id E k).1 ++ (readR (rsN id E k).2 id 1000).1), .pointer (some ⟨x, 0, none⟩), .int .i64 id, .int .i64 (turnR (readS (rsN id E k).2 id 1000) id 1000), us 25] : Array Value).getD us_ undef, rfl, C0, Lib.hid (show ExIs w18 lo Bs17 x (c + 64 * (k + 1)) (rsN id E (k + 1)).2 from EX.out), Lib.hid ⟨by have := hlt.out; omega, by have := hlt.out; have := hk.out; omega⟩, Lib.hid (by show ((rsN id E k).1 ++ (readR (rsN id E k).2 id 1000).1).size ≤ 64 * (k + 1); rw [ByteArray.size_append]; have := hsz.out; have := HRZ.out; omega), hb19⟩)
  · have D10 := Lib.hid (show ¬ (k : Int) < 5 by omega)
    have HE := Lib.hid h
    clear h
    refine s_ (fun K20 hK20 => ?_)
    refine pu_ (v := .int .i64 k) (y_move rfl (by rfl) (by rfl)) ?_
    (try simp only [zP, zN, zA, zB, zC])
    refine pu_ (v := .bool false) (y_run (by rfl) (fun W => by have d := D10.out; go_simp)) ?_
    (try simp only [zP, zN, zA, zB, zC])
    refine nl_ (hK20 _ _ ?_); clear hK20 K20
    refine wp_cond_false rfl ?_
    refine wp_exit ?_
    refine th_exit ?_
    refine th_exit ?_
    refine ib_exit ?_
    refine th_norm (hK3 _ _ ?_); try clear hK3 K3
    refine s_ (fun K21 hK21 => ?_)
    refine pu_ (v := .string (rsN id E k).1) (y_move rfl (by rfl) (by rfl)) ?_
    (try simp only [zP, zN, zA, zB, zC])
    refine pu_ (v := .string (rsN id E k).1) (y_assign rfl (by rfl) (by rfl)) ?_
    (try simp only [zP, zN, zA, zB, zC])
    refine nl_ (hK21 _ _ ?_); clear hK21 K21
    refine wp_ret ?_
    refine hQ _ _ _ ?_
    refine bodyPost_ret (res1 rfl (rdv_tmp (v := .string (rsN id E k).1) (by rfl))) rfl ?_
    exact ⟨by rw [show k = 5 by have := HE.out; have := hk.out; omega], _, by have h9 := EX.out; rw [show k = 5 by have := HE.out; have := hk.out; omega] at h9; exact h9, C0.out, hbel.out⟩
end
end Go.Proofs.YtcfkdglaedpnjaaDoor.V
