/- The walk of the law OrphanGoes: step by step all orphans go, in as many steps as is told, and no other sandbox is touched. -/
import Derived.Test.YtanlbnipbbjheaaOrphB
namespace Go.Proofs.Ytanlbnipbbjheaa.O
open Go Go.RowKit Go.Proofs.Ytanlbnipbbjheaa.K Go.Proofs.YtanlbnipbbjheaaW.PrintWords Go.Proofs.YtanlbnipbbjheaaW.PrintLast Go.Proofs.Ytanlbnipbbjheaa.POrphanFinds Go.Proofs.Ytanlbnipbbjheaa.R
set_option linter.unusedVariables false
set_option linter.unusedSimpArgs false
set_option maxRecDepth 100000
set_option maxHeartbeats 1600000
theorem at_step {p j : Nat} {m : Int} (h1 : m = if p < j then (p : Int) else -1) (h2 : j ≠ p) : m = if p < j + 1 then (p : Int) else -1 := by
  rw [h1]
  rcases Nat.lt_or_ge p j with h3 | h3
  · rw [if_pos h3, if_pos (by omega)]
  · rw [if_neg (by omega), if_neg (by omega)]
theorem goes (w : World) (a0 : Option Addr) (n0 c0 : Nat) (B0 : List Bx) (A1 : Option Addr) (n1 c1 : Nat) (l1 : List Int) (RS : Hid (SrcIs w (.slice a0 n0 c0) n0 (B0.flatMap bxC) 4)) (HL0 : Hid (n0 = B0.length)) (HK0 : Hid (∀ b ∈ B0, okB w b)) (HU0 : Hid (n1 = l1.length ∧ Kd.C (Kd.int .i64) w A1 l1.length l1 ∧ l1.length ≤ c1)) :
    Calls Try.prog 4 #[.slice a0 n0 c0, .slice A1 n1 c1] w fun en w' => en = .returned (.bool true) ∧ Ch [] w w' := by
  have C0 := Lib.hid (Ch.refl [] w)
  obtain ⟨i28, I28⟩ := Info.of info28
  go_enter Try.func4, Try.ntmps4
  refine q_ (fun Q hQ hP => ?_)
  refine s_ (fun K1 hK1 => ?_)
  refine pu_ (v := .bool false) (y_assign rfl (by rfl) (by rfl)) ?_
  (try simp only [zP, zN, zA, zB, zC])
  refine nl_ (hK1 _ _ ?_); clear hK1 K1
  refine sq_ (fun K2 hK2 => ?_)
  refine s_ (fun K3 hK3 => ?_)
  refine ef_ (fun K4 hK4 => ?_)
  refine e_call Try.func7 (by kernel_rfl) rfl #[] (by rfl) rfl rfl (by first | rfl | (simp only [List.map_toArray, List.map_cons, List.map_nil]; first | done | rfl)) (works7 _) ?_
  rintro en w6 ⟨rfl, cc5⟩
  refine ⟨_, rfl, ?_⟩
  have C0' := Lib.hid (show Ch [] w w6 from C0.out.trans' cc5 (fun x hx => absurd hx (by simp)))
  have RS' := Lib.hid (show SrcIs w6 (.slice a0 n0 c0) (n0) (B0.flatMap bxC) 4 from RS.out.chx cc5 xnin_nil)
  clear C0 RS
  have C0 := C0'; clear C0'
  have RS := RS'; clear RS'
  clear cc5
  refine hK4 _ _ ?_; clear hK4 K4
  (try simp only [zP, zN, zA, zB, zC])
  refine pu_ (v := .bool false) (y_run (by rfl) (fun W => by go_simp)) ?_
  (try simp only [zP, zN, zA, zB, zC])
  refine nl_ (hK3 _ _ ?_); clear hK3 K3
  refine wp_cond_false rfl ?_
  refine wp_skip ?_
  refine th_norm (hK2 _ _ ?_); try clear hK2 K2
  refine sq_ (fun K7 hK7 => ?_)
  rcases (show 100 < n0 ∨ (n0 ≤ 100 ∧ 100 < n1) ∨ (n0 ≤ 100 ∧ n1 ≤ 100) by omega) with h | h | h
  · have D19 := Lib.hid (show decide ((100 : Int) < (n0 : Int)) = true from decide_eq_true (by omega))
    clear h
    refine s_ (fun K8 hK8 => ?_)
    refine pu_ (v := .slice a0 n0 c0) (y_move rfl (by rfl) (by rfl)) ?_
    (try simp only [zP, zN, zA, zB, zC])
    refine pu_ (v := .int .i64 n0) (y_run (by rfl) (fun W => by go_simp)) ?_
    (try simp only [zP, zN, zA, zB, zC])
    refine pu_ (v := .bool true) (y_run (by rfl) (fun W => by have d := D19.out; go_simp)) ?_
    (try simp only [zP, zN, zA, zB, zC])
    refine pu_ (v := .bool true) (y_move rfl (by rfl) (by rfl)) ?_
    (try simp only [zP, zN, zA, zB, zC])
    refine pu_ (y_off (by rfl)) ?_
    (try simp only [zP, zN, zA, zB, zC])
    refine pu_ (y_off (by rfl)) ?_
    (try simp only [zP, zN, zA, zB, zC])
    refine pu_ (y_off (by rfl)) ?_
    (try simp only [zP, zN, zA, zB, zC])
    refine pu_ (v := .bool true) (y_pick (t := true) (by rfl) rfl (by rfl) (by rfl)) ?_
    (try simp only [zP, zN, zA, zB, zC])
    refine nl_ (hK8 _ _ ?_); clear hK8 K8
    refine wp_cond_true rfl ?_
    refine s_ (fun K9 hK9 => ?_)
    refine pu_ (v := .bool true) (y_assign rfl (by rfl) (by rfl)) ?_
    (try simp only [zP, zN, zA, zB, zC])
    refine nl_ (hK9 _ _ ?_); clear hK9 K9
    refine wp_ret ?_
    refine th_ret ?_
    refine hQ _ _ _ ?_
    refine bodyPost_ret (res1 rfl (rdv_tmp (v := .bool true) (by rfl))) rfl ?_
    exact ⟨rfl, C0.out⟩
  · have D19 := Lib.hid (show decide ((100 : Int) < (n0 : Int)) = false from decide_eq_false (by omega))
    have D23 := Lib.hid (show decide ((100 : Int) < (n1 : Int)) = true from decide_eq_true (by omega))
    clear h
    refine s_ (fun K10 hK10 => ?_)
    refine pu_ (v := .slice a0 n0 c0) (y_move rfl (by rfl) (by rfl)) ?_
    (try simp only [zP, zN, zA, zB, zC])
    refine pu_ (v := .int .i64 n0) (y_run (by rfl) (fun W => by go_simp)) ?_
    (try simp only [zP, zN, zA, zB, zC])
    refine pu_ (v := .bool false) (y_run (by rfl) (fun W => by have d := D19.out; go_simp)) ?_
    (try simp only [zP, zN, zA, zB, zC])
    refine pu_ (v := .bool false) (y_move rfl (by rfl) (by rfl)) ?_
    (try simp only [zP, zN, zA, zB, zC])
    refine pu_ (v := .slice A1 n1 c1) (y_move rfl (by rfl) (by rfl)) ?_
    (try simp only [zP, zN, zA, zB, zC])
    refine pu_ (v := .int .i64 n1) (y_run (by rfl) (fun W => by go_simp)) ?_
    (try simp only [zP, zN, zA, zB, zC])
    refine pu_ (v := .bool true) (y_run (by rfl) (fun W => by have d := D23.out; go_simp)) ?_
    (try simp only [zP, zN, zA, zB, zC])
    refine pu_ (v := .bool true) (y_pick (t := false) (by rfl) rfl (by rfl) (by rfl)) ?_
    (try simp only [zP, zN, zA, zB, zC])
    refine nl_ (hK10 _ _ ?_); clear hK10 K10
    refine wp_cond_true rfl ?_
    refine s_ (fun K11 hK11 => ?_)
    refine pu_ (v := .bool true) (y_assign rfl (by rfl) (by rfl)) ?_
    (try simp only [zP, zN, zA, zB, zC])
    refine nl_ (hK11 _ _ ?_); clear hK11 K11
    refine wp_ret ?_
    refine th_ret ?_
    refine hQ _ _ _ ?_
    refine bodyPost_ret (res1 rfl (rdv_tmp (v := .bool true) (by rfl))) rfl ?_
    exact ⟨rfl, C0.out⟩
  · have D19 := Lib.hid (show decide ((100 : Int) < (n0 : Int)) = false from decide_eq_false (by omega))
    have D23 := Lib.hid (show decide ((100 : Int) < (n1 : Int)) = false from decide_eq_false (by omega))
    have HN0 := Lib.hid h.1
    have HU := Lib.hid (show Nums w A1 n1 c1 l1 from ⟨HU0.out.1, h.2, HU0.out.2.1, HU0.out.2.2⟩)
    clear h
    refine s_ (fun K12 hK12 => ?_)
    refine pu_ (v := .slice a0 n0 c0) (y_move rfl (by rfl) (by rfl)) ?_
    (try simp only [zP, zN, zA, zB, zC])
    refine pu_ (v := .int .i64 n0) (y_run (by rfl) (fun W => by go_simp)) ?_
    (try simp only [zP, zN, zA, zB, zC])
    refine pu_ (v := .bool false) (y_run (by rfl) (fun W => by have d := D19.out; go_simp)) ?_
    (try simp only [zP, zN, zA, zB, zC])
    refine pu_ (v := .bool false) (y_move rfl (by rfl) (by rfl)) ?_
    (try simp only [zP, zN, zA, zB, zC])
    refine pu_ (v := .slice A1 n1 c1) (y_move rfl (by rfl) (by rfl)) ?_
    (try simp only [zP, zN, zA, zB, zC])
    refine pu_ (v := .int .i64 n1) (y_run (by rfl) (fun W => by go_simp)) ?_
    (try simp only [zP, zN, zA, zB, zC])
    refine pu_ (v := .bool false) (y_run (by rfl) (fun W => by have d := D23.out; go_simp)) ?_
    (try simp only [zP, zN, zA, zB, zC])
    refine pu_ (v := .bool false) (y_pick (t := false) (by rfl) rfl (by rfl) (by rfl)) ?_
    (try simp only [zP, zN, zA, zB, zC])
    refine nl_ (hK12 _ _ ?_); clear hK12 K12
    refine wp_cond_false rfl ?_
    refine wp_skip ?_
    refine th_norm (hK7 _ _ ?_); try clear hK7 K7
    refine s_ (fun K13 hK13 => ?_)
    refine ef_ (fun K14 hK14 => ?_)
    refine e_buildS0 (by rfl) rfl rfl Try.underlying22 I28.hi ?_
    rintro g15 w16 HG17 C19
    have C0' := Lib.hid (show Ch [] w w16 from C0.out.trans' C19 (fun x hx => absurd hx (by simp)))
    have RS' := Lib.hid (show SrcIs w16 (.slice a0 n0 c0) (n0) (B0.flatMap bxC) 4 from RS.out.chx C19 xnin_nil)
    clear C0 RS
    have C0 := C0'; clear C0'
    have RS := RS'; clear RS'
    clear C19
    have Z20 := Lib.hid (show OwnS w16 w.heap.size 28 4 (.slice (some ⟨g15, 0, none⟩) 0 0) (0) ([]) from OwnS.nil _ _ _ _ _)
    refine hK14 _ _ ?_; clear hK14 K14
    (try simp only [zP, zN, zA, zB, zC])
    refine pu_ (v := .slice a0 n0 c0) (y_move rfl (by rfl) (by rfl)) ?_
    (try simp only [zP, zN, zA, zB, zC])
    refine ef_ (fun K21 hK21 => ?_)
    refine e_append (by rfl) rfl rfl (w.heap.size) 28 _ _ 4 48 Try.underlying22 I28.hi I28.hz I28.hs I28.hb rfl (by decide) (.slice (some ⟨g15, 0, none⟩) 0 0) (0) ([]) (by rfl) Z20.out (.slice a0 n0 c0) n0 (B0.flatMap bxC) (by rfl) RS.out (okB_ones HK0.out) (by have := HN0.out; unfold maxLen; omega) (by have := HN0.out; omega) C0.out.size ?_
    rintro v22 w23 O24 C25 R26 -
    replace C25 : Ch [] _ _ := C25
    replace R26 : ∀ k, k ∈ rl v22 → w16.heap.size ≤ k := fun k hk => (R26 k hk).elim (fun h => absurd h (by simp [rl])) id
    have rw27 := Lib.hid (show ∀ x, x ∈ rl v22 → x ∈ [] ∨ w.heap.size ≤ x from fun x hx => .inr (by have := R26 x hx; have := C0.out.size; omega))
    have xr28 := Lib.hid (show ∀ k, k ∈ xb (.slice a0 n0 c0) → k ∉ rl v22 from fun k hk hm => by have := R26 k hm; have := RS.out.lt (by decide) k hk; omega)
    have C0' := Lib.hid (show Ch [] w w23 from C0.out.trans' C25 (fun x hx => absurd hx (by simp)))
    have RS' := Lib.hid (show SrcIs w23 (.slice a0 n0 c0) (n0) (B0.flatMap bxC) 4 from RS.out.chx C25 xnin_nil)
    clear C0 RS
    have C0 := C0'; clear C0'
    have RS := RS'; clear RS'
    clear Z20
    have Z20 := Lib.hid (show OwnS w23 w.heap.size 28 4 (v22) (n0) (B0.flatMap bxC) from (by simpa using O24)); clear O24 C25
    obtain ⟨Av, cv, hv, -, -⟩ := Z20.out.slice
    subst hv
    have OL := Z20; clear Z20
    refine hK21 _ _ ?_; clear hK21 K21
    (try simp only [zP, zN, zA, zB, zC])
    refine pu_ (v := .slice Av n0 cv) (y_assign rfl (by rfl) (by rfl)) ?_
    (try simp only [zP, zN, zA, zB, zC])
    refine nl_ (hK13 _ _ ?_); clear hK13 K13
    refine sq_ (fun K29 hK29 => ?_)
    refine s_ (fun K30 hK30 => ?_)
    refine pu_ (v := .slice Av n0 cv) (y_move rfl (by rfl) (by rfl)) ?_
    (try simp only [zP, zN, zA, zB, zC])
    refine pu_ (v := .int .i64 n0) (y_run (by rfl) (fun W => by go_simp)) ?_
    (try simp only [zP, zN, zA, zB, zC])
    refine pu_ (v := .int .i64 0) (y_move rfl (by rfl) (by rfl)) ?_
    (try simp only [zP, zN, zA, zB, zC])
    refine nl_ (hK30 _ _ ?_); clear hK30 K30
    refine wp_block ?_
    refine loopk_ (fun (kq : Nat) (a' : Act) (w' : World) => ∃ (k : Nat), ∃ (B : List Bx), ∃ (us : Nat → Value), a' = ⟨#[us 0, .slice A1 n1 c1, us 2, us 3, .bool false, .slice Av n0 cv, us 6, us 7, us 8, us 9, us 10, us 11, us 12, us 13, us 14, us 15, us 16, us 17, us 18, us 19, us 20, us 21, us 22, us 23, us 24, us 25, us 26, us 27, us 28, .int .i64 n0, .int .i64 k, us 31, us 32, us 33, us 34, us 35, us 36, us 37, us 38, us 39, us 40, us 41, us 42, us 43, us 44, us 45, us 46, us 47, us 48, us 49, us 50, us 51, us 52, us 53, us 54, us 55, us 56, us 57, us 58, us 59, us 60, us 61, us 62, us 63, us 64, us 65, us 66, us 67, us 68, us 69, us 70, us 71, us 72, us 73, us 74, us 75, us 76, us 77, us 78, us 79, us 80, us 81, us 82, us 83, us 84, us 85, us 86, us 87, us 88, us 89, us 90, us 91, us 92, us 93, us 94, us 95, us 96, us 97, us 98, us 99, us 100, us 101, us 102, us 103, us 104, us 105, us 106, us 107, us 108, us 109, us 110, us 111, us 112, us 113, us 114, us 115, us 116, us 117, us 118, us 119, us 120, us 121, us 122, us 123, us 124, us 125, us 126, us 127, us 128, us 129, us 130, us 131, us 132, us 133, us 134, us 135, us 136, us 137, us 138, us 139], []⟩ ∧ Hid (Ch [] w w') ∧ Hid (OwnS w' w.heap.size 28 4 (.slice Av n0 cv) (n0) ((B).flatMap bxC)) ∧ Hid (k ≤ n0 ∧ kq + k = n0) ∧ Hid (B.length = n0 ∧ numB B k) ∧ Hid (∀ b ∈ B, okB w b)) (n0) (⟨0, B0, fun us_ => (#[.slice a0 n0 c0, .slice A1 n1 c1, undef, undef, .bool false, .slice Av n0 cv, undef, undef, undef, undef, undef, undef, undef, undef, undef, .bool true, .bool false, .slice a0 n0 c0, .int .i64 n0, .bool false, .bool false, .slice A1 n1 c1, .int .i64 n1, .bool false, .bool false, .slice (some ⟨g15, 0, none⟩) 0 0, .slice a0 n0 c0, .slice Av n0 cv, .slice Av n0 cv, .int .i64 n0, .int .i64 0, undef, undef, undef, undef, undef, undef, undef, undef, undef, undef, undef, undef, undef, undef, undef, undef, undef, undef, undef, undef, undef, undef, undef, undef, undef, undef, undef, undef, undef, undef, undef, undef, undef, undef, undef, undef, undef, undef, undef, undef, undef, undef, undef, undef, undef, undef, undef, undef, undef, undef, undef, undef, undef, undef, undef, undef, undef, undef, undef, undef, undef, undef, undef, undef, undef, undef, undef, undef, undef, undef, undef, undef, undef, undef, undef, undef, undef, undef, undef, undef, undef, undef, undef, undef, undef, undef, undef, undef, undef, undef, undef, undef, undef, undef, undef, undef, undef, undef, undef, undef, undef, undef, undef, undef, undef, undef, undef, undef, undef] : Array Value).getD us_ undef, rfl, C0, OL, Lib.hid ⟨by omega, rfl⟩, Lib.hid ⟨HL0.out.symm, fun i hi => absurd hi (by omega)⟩, HK0⟩) ?_
    rintro kq _ w31 ⟨k, B, us, rfl, C0, OL, hk, hB, hKB⟩ K32 hK32
    rcases (show k < n0 ∨ k = n0 by have := hk.out; omega) with h | h
    · have hlt := Lib.hid h
      have D31 := Lib.hid h
      have WA := Lib.hid (show IntKind.i64.wrap ((k : Int) + 1) = ((k + 1 : Nat) : Int) by rw [wr64 (by have := HN0.out; omega)]; omega)
      have D37 := Lib.hid (show (k : Int) < (n0 : Int) by omega)
      obtain ⟨gv, cv0, hv, hcv, -, -, -, -⟩ := OL.out.some_ (by omega)
      injection hv with hv1 _ hv3
      subst hv1 hv3
      have hcv0 := Lib.hid (show 0 < cv by omega)
      obtain ⟨bk, hbk0⟩ : ∃ b, B[k]? = some b := ⟨_, List.getElem?_eq_getElem (by rw [hB.out.1]; exact h)⟩
      have hbk := Lib.hid hbk0
      clear h hcv hbk0
      refine s_ (fun K33 hK33 => ?_)
      refine pu_ (v := .bool true) (y_run (by rfl) (fun W => by have d := D31.out; go_simp)) ?_
      (try simp only [zP, zN, zA, zB, zC])
      refine nl_ (hK33 _ _ ?_); clear hK33 K33
      refine sq_ (fun K34 hK34 => ?_)
      refine wp_cond_true rfl ?_
      refine wp_skip ?_
      refine th_norm (hK34 _ _ ?_); try clear hK34 K34
      refine sq_ (fun K35 hK35 => ?_)
      refine wp_block ?_
      refine s_ (fun K36 hK36 => ?_)
      refine pu_ (v := .int .i64 k) (y_move rfl (by rfl) (by rfl)) ?_
      (try simp only [zP, zN, zA, zB, zC])
      refine pu_ (v := .int .i64 k) (y_assign rfl (by rfl) (by rfl)) ?_
      (try simp only [zP, zN, zA, zB, zC])
      refine nl_ (hK36 _ _ ?_); clear hK36 K36
      refine r_ ?_
      refine pu_ (v := .slice (some ⟨gv, 0, none⟩) n0 cv) (y_move rfl (by rfl) (by rfl)) ?_
      (try simp only [zP, zN, zA, zB, zC])
      refine pu_ (v := .int .i64 k) (y_move rfl (by rfl) (by rfl)) ?_
      (try simp only [zP, zN, zA, zB, zC])
      refine pu_ (v := .int .i64 k) (y_move rfl (by rfl) (by rfl)) ?_
      (try simp only [zP, zN, zA, zB, zC])
      refine pu_ (v := .int .i64 (k + 1 : Nat)) (y_run (by rfl) (fun W => by have d := WA.out; go_simp)) ?_
      (try simp only [zP, zN, zA, zB, zC])
      refine pu_ (v := .pointer (some ⟨gv, k * 4, none⟩)) (y_run (by rfl) (fun W => by have d := D37.out; go_simp)) ?_
      (try simp only [zP, zN, zA, zB, zC])
      refine pu_ (v := .pointer (some ⟨gv, k * 4, none⟩)) (y_run (by rfl) (fun W => by go_simp)) ?_
      (try simp only [zP, zN, zA, zB, zC])
      refine ef_ (fun K37 hK37 => ?_)
      refine e_storeS1 (by rfl) rfl rfl OL.out (k * 4) (.int .i64 ((k + 1 : Nat) : Int)) (by rfl) (by rfl) (by kernel_rfl) (by have := D31.out; omega) rfl ?_
      rintro w38 O39 C40
      have RC40 := Lib.hid (show Ch (rl (.slice (some ⟨gv, 0, none⟩) n0 cv)) w31 w38 from by rw [rl_some _ _ _ hcv0.out]; exact C40)
      have C0' := Lib.hid (show Ch [] w w38 from C0.out.trans' RC40.out (fun x hx => .inr (OL.out.lt x hx).1))
      clear C0
      have C0 := C0'; clear C0'
      clear OL
      have OL := Lib.hid (show OwnS w38 w.heap.size 28 4 (.slice (some ⟨gv, 0, none⟩) n0 cv) (n0) ((B.set k (setId bk ((k + 1 : Nat) : Int))).flatMap bxC) from by rw [← bx_set0 hbk.out]; exact O39); clear O39 C40 RC40
      refine hK37 _ _ ?_; clear hK37 K37
      (try simp only [zP, zN, zA, zB, zC])
      refine nl_ ?_
      refine ib_norm ?_
      refine th_norm (hK35 _ _ ?_); try clear hK35 K35
      refine r_ ?_
      refine pu_ (v := .int .i64 (k + 1 : Nat)) (y_run (by rfl) (fun W => by have d := WA.out; go_simp)) ?_
      (try simp only [zP, zN, zA, zB, zC])
      refine pu_ (v := .int .i64 (k + 1 : Nat)) (y_move rfl (by rfl) (by rfl)) ?_
      (try simp only [zP, zN, zA, zB, zC])
      refine nl_ ?_
      exact th_norm (hK32 (kq - 1) _ _ (by have := hlt.out; have := hk.out; omega) ⟨k + 1, B.set k (setId bk ((k + 1 : Nat) : Int)), fun us_ => (#[us 0, .slice A1 n1 c1, us 2, us 3, .bool false, .slice (some ⟨gv, 0, none⟩) n0 cv, .int .i64 k, us 7, us 8, us 9, us 10, us 11, us 12, us 13, us 14, us 15, us 16, us 17, us 18, us 19, us 20, us 21, us 22, us 23, us 24, us 25, us 26, us 27, us 28, .int .i64 n0, .int .i64 (k + 1 : Nat), .bool true, .int .i64 k, .slice (some ⟨gv, 0, none⟩) n0 cv, .int .i64 k, .int .i64 k, .int .i64 (k + 1 : Nat), .pointer (some ⟨gv, k * 4, none⟩), .pointer (some ⟨gv, k * 4, none⟩), .int .i64 (k + 1 : Nat), us 40, us 41, us 42, us 43, us 44, us 45, us 46, us 47, us 48, us 49, us 50, us 51, us 52, us 53, us 54, us 55, us 56, us 57, us 58, us 59, us 60, us 61, us 62, us 63, us 64, us 65, us 66, us 67, us 68, us 69, us 70, us 71, us 72, us 73, us 74, us 75, us 76, us 77, us 78, us 79, us 80, us 81, us 82, us 83, us 84, us 85, us 86, us 87, us 88, us 89, us 90, us 91, us 92, us 93, us 94, us 95, us 96, us 97, us 98, us 99, us 100, us 101, us 102, us 103, us 104, us 105, us 106, us 107, us 108, us 109, us 110, us 111, us 112, us 113, us 114, us 115, us 116, us 117, us 118, us 119, us 120, us 121, us 122, us 123, us 124, us 125, us 126, us 127, us 128, us 129, us 130, us 131, us 132, us 133, us 134, us 135, us 136, us 137, us 138, us 139] : Array Value).getD us_ undef, rfl, C0, OL, Lib.hid ⟨by have := hlt.out; omega, by have := hlt.out; have := hk.out; omega⟩, Lib.hid ⟨by rw [List.length_set]; exact hB.out.1, num_succ hB.out.2 hbk.out⟩, Lib.hid (okB_set hKB.out _ (okB_id (hKB.out _ (List.mem_of_getElem? hbk.out)) _))⟩)
    · have D31 := Lib.hid (show ¬ k < n0 by omega)
      have hkn := Lib.hid h
      clear h
      refine s_ (fun K41 hK41 => ?_)
      refine pu_ (v := .bool false) (y_run (by rfl) (fun W => by have d := D31.out; go_simp)) ?_
      (try simp only [zP, zN, zA, zB, zC])
      refine nl_ (hK41 _ _ ?_); clear hK41 K41
      refine sq_ (fun K42 hK42 => ?_)
      refine wp_cond_false rfl ?_
      refine wp_exit ?_
      refine th_exit ?_
      refine th_exit ?_
      refine ib_exit ?_
      refine th_norm (hK29 _ _ ?_); try clear hK29 K29
      refine s_ (fun K43 hK43 => ?_)
      refine pu_ (v := .slice Av n0 cv) (y_move rfl (by rfl) (by rfl)) ?_
      (try simp only [zP, zN, zA, zB, zC])
      refine pu_ (v := .slice A1 n1 c1) (y_move rfl (by rfl) (by rfl)) ?_
      (try simp only [zP, zN, zA, zB, zC])
      refine ef_ (fun K44 hK44 => ?_)
      obtain ⟨M, hM⟩ : ∃ M : Int, Lf B l1 = M := ⟨_, rfl⟩
      have HM := Lib.hid hM
      have HM2 := Lib.hid (show 0 ≤ M ∧ M ≤ 200 by have h1 := lf_nonneg B l1; have h2 := lf_le B l1; have := hB.out.1; have := HN0.out; rw [hM] at h1 h2; omega)
      clear hM
      refine e_call Try.func12 (by kernel_rfl) rfl #[.slice Av n0 cv, .slice A1 n1 c1] (by rfl) rfl rfl (by first | rfl | (simp only [List.map_toArray, List.map_cons, List.map_nil]; first | done | rfl)) ((by have h := left12 (w0 := w) OL.out hB.out.1.symm HN0.out hKB.out C0.out HU.out; rw [show twos (Fo (B.map (·.x)) l1) = M from HM.out] at h; exact h)) ?_
      rintro en w46 ⟨rfl, cc45⟩
      refine ⟨_, rfl, ?_⟩
      have C0' := Lib.hid (show Ch [] w w46 from C0.out.trans' cc45 (fun x hx => absurd hx (by simp)))
      have OL' := Lib.hid (show OwnS w46 w.heap.size 28 4 (.slice Av n0 cv) (n0) ((B).flatMap bxC) from OL.out.ch cc45 rnin_nil)
      clear C0 OL
      have C0 := C0'; clear C0'
      have OL := OL'; clear OL'
      clear cc45
      refine hK44 _ _ ?_; clear hK44 K44
      (try simp only [zP, zN, zA, zB, zC])
      refine pu_ (v := .int .i64 M) (y_assign rfl (by rfl) (by rfl)) ?_
      (try simp only [zP, zN, zA, zB, zC])
      refine nl_ (hK43 _ _ ?_); clear hK43 K43
      refine sq_ (fun K47 hK47 => ?_)
      refine s_ (fun K48 hK48 => ?_)
      refine pu_ (v := .int .i64 0) (y_assign rfl (by rfl) (by rfl)) ?_
      (try simp only [zP, zN, zA, zB, zC])
      refine nl_ (hK48 _ _ ?_); clear hK48 K48
      refine wp_block ?_
      refine loopk_ (fun (kq : Nat) (a' : Act) (w' : World) => ∃ (k : Nat), ∃ (B : List Bx), ∃ (v : Value), ∃ (n : Nat), ∃ (us : Nat → Value), a' = ⟨#[us 0, .slice A1 n1 c1, us 2, us 3, .bool false, v, us 6, .int .i64 M, .int .i64 k, us 9, us 10, us 11, us 12, us 13, us 14, us 15, us 16, us 17, us 18, us 19, us 20, us 21, us 22, us 23, us 24, us 25, us 26, us 27, us 28, us 29, us 30, us 31, us 32, us 33, us 34, us 35, us 36, us 37, us 38, us 39, us 40, us 41, us 42, us 43, us 44, us 45, us 46, us 47, us 48, us 49, us 50, us 51, us 52, us 53, us 54, us 55, us 56, us 57, us 58, us 59, us 60, us 61, us 62, us 63, us 64, us 65, us 66, us 67, us 68, us 69, us 70, us 71, us 72, us 73, us 74, us 75, us 76, us 77, us 78, us 79, us 80, us 81, us 82, us 83, us 84, us 85, us 86, us 87, us 88, us 89, us 90, us 91, us 92, us 93, us 94, us 95, us 96, us 97, us 98, us 99, us 100, us 101, us 102, us 103, us 104, us 105, us 106, us 107, us 108, us 109, us 110, us 111, us 112, us 113, us 114, us 115, us 116, us 117, us 118, us 119, us 120, us 121, us 122, us 123, us 124, us 125, us 126, us 127, us 128, us 129, us 130, us 131, us 132, us 133, us 134, us 135, us 136, us 137, us 138, us 139], []⟩ ∧ Hid (Ch [] w w') ∧ Hid (OwnS w' w.heap.size 28 4 (v) (n) ((B).flatMap bxC)) ∧ Hid ((k : Int) + Lf B l1 = M ∧ kq + k = 300) ∧ Hid (n = B.length ∧ n ≤ 100) ∧ Hid (nodupId B) ∧ Hid (∀ b ∈ B, okB w b)) (300) (⟨0, B, _, n0, fun us_ => (#[us 0, .slice A1 n1 c1, us 2, us 3, .bool false, .slice Av n0 cv, us 6, .int .i64 M, .int .i64 0, us 9, us 10, us 11, us 12, us 13, us 14, us 15, us 16, us 17, us 18, us 19, us 20, us 21, us 22, us 23, us 24, us 25, us 26, us 27, us 28, .int .i64 n0, .int .i64 k, .bool false, us 32, us 33, us 34, us 35, us 36, us 37, us 38, us 39, .slice Av n0 cv, .slice A1 n1 c1, .int .i64 M, us 43, us 44, us 45, us 46, us 47, us 48, us 49, us 50, us 51, us 52, us 53, us 54, us 55, us 56, us 57, us 58, us 59, us 60, us 61, us 62, us 63, us 64, us 65, us 66, us 67, us 68, us 69, us 70, us 71, us 72, us 73, us 74, us 75, us 76, us 77, us 78, us 79, us 80, us 81, us 82, us 83, us 84, us 85, us 86, us 87, us 88, us 89, us 90, us 91, us 92, us 93, us 94, us 95, us 96, us 97, us 98, us 99, us 100, us 101, us 102, us 103, us 104, us 105, us 106, us 107, us 108, us 109, us 110, us 111, us 112, us 113, us 114, us 115, us 116, us 117, us 118, us 119, us 120, us 121, us 122, us 123, us 124, us 125, us 126, us 127, us 128, us 129, us 130, us 131, us 132, us 133, us 134, us 135, us 136, us 137, us 138, us 139] : Array Value).getD us_ undef, rfl, C0, OL, Lib.hid ⟨by have := HM.out; omega, rfl⟩, Lib.hid ⟨hB.out.1.symm, HN0.out⟩, Lib.hid (num_nodup (by have h := hB.out; rw [h.1, ← hkn.out]; exact h.2)), hKB⟩) ?_
      rintro kq _ w49 ⟨k, B, v, n, us, rfl, C0, OL, hk, hn, hnd, hKB⟩ K50 hK50
      refine sq_ (fun K51 hK51 => ?_)
      rcases (show (k : Int) < M ∨ (k : Int) = M by have h := lf_nonneg B l1; have := hk.out; omega) with h | h
      · have hlt := Lib.hid (show (k : Int) < M ∧ (k : Int) < 300 by have := HM2.out; omega)
        have D45 := Lib.hid (show decide ((k : Int) < M) = true from decide_eq_true h)
        have D48 := Lib.hid (show decide ((k : Int) < 300) = true from decide_eq_true (by have := HM2.out; omega))
        have WA := Lib.hid (show IntKind.i64.wrap ((k : Int) + 1) = ((k + 1 : Nat) : Int) by rw [wr64 (by have := HM2.out; omega)]; omega)
        have W1 := Lib.hid (show IntKind.i64.wrap (M - (k : Int)) = M - k from wr64 (by have := HM2.out; omega))
        have W2 := Lib.hid (show IntKind.i64.wrap (M - (k : Int) - 1) = M - k - 1 from wr64 (by have := HM2.out; omega))
        obtain ⟨pre, b, post, hBe, hpre0, hbo0, hF0⟩ := next_of (B := B) (l1 := l1) (by have := hk.out; omega)
        have hF := Lib.hid hF0
        subst hBe
        have hpre := Lib.hid hpre0
        have hbo := Lib.hid hbo0
        have hp := Lib.hid (show pre.length < n by rw [hn.out.1]; simp)
        have hbp := Lib.hid (show (pre ++ b :: post)[pre.length]? = some b by simp)
        obtain ⟨gv, cv, hv, hcv, -, -, -, -⟩ := OL.out.some_ (by have := hp.out; omega)
        subst hv
        have hcv0 := Lib.hid (show 0 < cv by have := hp.out; omega)
        have hcvn := Lib.hid hcv
        clear h hcv hpre0 hbo0 hF0
        refine s_ (fun K52 hK52 => ?_)
        refine pu_ (v := .int .i64 k) (y_move rfl (by rfl) (by rfl)) ?_
        (try simp only [zP, zN, zA, zB, zC])
        refine pu_ (v := .int .i64 M) (y_move rfl (by rfl) (by rfl)) ?_
        (try simp only [zP, zN, zA, zB, zC])
        refine pu_ (v := .bool true) (y_run (by rfl) (fun W => by have d := D45.out; go_simp)) ?_
        (try simp only [zP, zN, zA, zB, zC])
        refine pu_ (v := .bool true) (y_move rfl (by rfl) (by rfl)) ?_
        (try simp only [zP, zN, zA, zB, zC])
        refine pu_ (v := .int .i64 k) (y_move rfl (by rfl) (by rfl)) ?_
        (try simp only [zP, zN, zA, zB, zC])
        refine pu_ (v := .bool true) (y_run (by rfl) (fun W => by have d := D48.out; go_simp)) ?_
        (try simp only [zP, zN, zA, zB, zC])
        refine pu_ (v := .bool true) (y_pick (t := true) (by rfl) rfl (by rfl) (by rfl)) ?_
        (try simp only [zP, zN, zA, zB, zC])
        refine nl_ (hK52 _ _ ?_); clear hK52 K52
        refine wp_cond_true rfl ?_
        refine wp_skip ?_
        refine th_norm (hK51 _ _ ?_); try clear hK51 K51
        refine sq_ (fun K53 hK53 => ?_)
        refine wp_block ?_
        by_cases hs : b.x.f2 = 1
        · have hst := Lib.hid hs
          have HS := Lib.hid (show stepOf (Fo ((pre ++ b :: post).map (·.x)) l1) = (10, b.x.f0, true) by rw [hF.out]; simp [stepOf, hs])
          have D97 := Lib.hid (show (b.x.f2 == 1) = true from beq_iff_eq.2 hs)
          clear hs
          refine s_ (fun K54 hK54 => ?_)
          refine pu_ (v := .slice (some ⟨gv, 0, none⟩) n cv) (y_move rfl (by rfl) (by rfl)) ?_
          (try simp only [zP, zN, zA, zB, zC])
          refine pu_ (v := .slice A1 n1 c1) (y_move rfl (by rfl) (by rfl)) ?_
          (try simp only [zP, zN, zA, zB, zC])
          refine ef_ (fun K55 hK55 => ?_)
          refine e_call Try.func9 (by kernel_rfl) rfl #[.slice (some ⟨gv, 0, none⟩) n cv, .slice A1 n1 c1] (by rfl) rfl rfl (by first | rfl | (simp only [List.map_toArray, List.map_cons, List.map_nil]; first | done | rfl)) (next9 (w0 := w) OL.out hn.out.1 hn.out.2 hKB.out C0.out HU.out HS.out) ?_
          rintro en w57 ⟨rfl, cc56⟩
          refine ⟨_, rfl, ?_⟩
          have C0' := Lib.hid (show Ch [] w w57 from C0.out.trans' cc56 (fun x hx => absurd hx (by simp)))
          have OL' := Lib.hid (show OwnS w57 w.heap.size 28 4 (.slice (some ⟨gv, 0, none⟩) n cv) (n) ((pre ++ b :: post).flatMap bxC) from OL.out.ch cc56 rnin_nil)
          clear C0 OL
          have C0 := C0'; clear C0'
          have OL := OL'; clear OL'
          clear cc56
          refine hK55 _ _ ?_; clear hK55 K55
          (try simp only [zP, zN, zA, zB, zC])
          refine pu_ (v := .tuple #[.agg #[.int .i64 10, .int .i64 b.x.f0, .int .i64 0, .int .i64 0, .int .i64 0, .int .i64 0, .string ⟨#[]⟩, .string ⟨#[]⟩], .bool true]) (y_move rfl (by rfl) (by rfl)) ?_
          (try simp only [zP, zN, zA, zB, zC])
          refine pu_ (v := .agg #[.int .i64 10, .int .i64 b.x.f0, .int .i64 0, .int .i64 0, .int .i64 0, .int .i64 0, .string ⟨#[]⟩, .string ⟨#[]⟩]) (y_run (by rfl) (fun W => by go_simp)) ?_
          (try simp only [zP, zN, zA, zB, zC])
          refine pu_ (v := .bool true) (y_run (by rfl) (fun W => by go_simp)) ?_
          (try simp only [zP, zN, zA, zB, zC])
          refine ef_ (fun K58 hK58 => ?_)
          refine e_alloc (by rfl) rfl rfl (cs := #[.int .i64 0, .int .i64 0, .int .i64 0, .int .i64 0, .int .i64 0, .int .i64 0, .string ⟨#[]⟩, .string ⟨#[]⟩]) (by kernel_rfl) ?_
          rintro g9 w59 HG60 B61 C62
          have nw63 := Lib.hid (show w.heap.size ≤ g9 by have := C0.out.size; have := HG60.out; omega)
          have C0' := Lib.hid (show Ch [] w w59 from C0.out.trans' C62 (fun x hx => absurd hx (by simp)))
          have OL' := Lib.hid (show OwnS w59 w.heap.size 28 4 (.slice (some ⟨gv, 0, none⟩) n cv) (n) ((pre ++ b :: post).flatMap bxC) from OL.out.ch C62 rnin_nil)
          clear C0 OL
          have C0 := C0'; clear C0'
          have OL := OL'; clear OL'
          have Fg9 := Lib.hid (show Blk w59 g9 (#[.int .i64 0, .int .i64 0, .int .i64 0, .int .i64 0, .int .i64 0, .int .i64 0, .string ⟨#[]⟩, .string ⟨#[]⟩]) 30 from B61); clear B61 C62
          refine hK58 _ _ ?_; clear hK58 K58
          (try simp only [zP, zN, zA, zB, zC])
          refine ef_ (fun K64 hK64 => ?_)
          refine e_storeN (cells := #[.int .i64 10, .int .i64 b.x.f0, .int .i64 0, .int .i64 0, .int .i64 0, .int .i64 0, .string ⟨#[]⟩, .string ⟨#[]⟩]) (by rfl) rfl rfl (by rfl) (by rfl) Fg9.out (by kernel_rfl) (by rfl) (ones_cons rfl (ones_cons rfl (ones_cons rfl (ones_cons rfl (ones_cons rfl (ones_cons rfl (ones_cons rfl (ones_cons rfl ones_nil)))))))) ?_
          rintro w65 B66 C67
          have C0' := Lib.hid (show Ch [] w w65 from C0.out.trans' C67 (inw_cons (.inr nw63.out) inw_nil))
          have OL' := Lib.hid (show OwnS w65 w.heap.size 28 4 (.slice (some ⟨gv, 0, none⟩) n cv) (n) ((pre ++ b :: post).flatMap bxC) from OL.out.ch C67 (rnin_cons (OL.out.ne Fg9.out (by decide)) rnin_nil))
          clear C0 OL
          have C0 := C0'; clear C0'
          have OL := OL'; clear OL'
          clear Fg9; have Fg9 := Lib.hid (show Blk w65 g9 (#[.int .i64 10, .int .i64 b.x.f0, .int .i64 0, .int .i64 0, .int .i64 0, .int .i64 0, .string ⟨#[]⟩, .string ⟨#[]⟩]) 30 from B66); clear B66 C67
          refine hK64 _ _ ?_; clear hK64 K64
          (try simp only [zP, zN, zA, zB, zC])
          refine pu_ (v := .bool true) (y_assign rfl (by rfl) (by rfl)) ?_
          (try simp only [zP, zN, zA, zB, zC])
          refine nl_ (hK54 _ _ ?_); clear hK54 K54
          refine s_ (fun K68 hK68 => ?_)
          refine pu_ (v := .int .i64 (-1)) (y_assign rfl (by rfl) (by rfl)) ?_
          (try simp only [zP, zN, zA, zB, zC])
          refine nl_ (hK68 _ _ ?_); clear hK68 K68
          refine sq_ (fun K69 hK69 => ?_)
          refine s_ (fun K70 hK70 => ?_)
          refine pu_ (v := .slice (some ⟨gv, 0, none⟩) n cv) (y_move rfl (by rfl) (by rfl)) ?_
          (try simp only [zP, zN, zA, zB, zC])
          refine pu_ (v := .int .i64 n) (y_run (by rfl) (fun W => by go_simp)) ?_
          (try simp only [zP, zN, zA, zB, zC])
          refine pu_ (v := .int .i64 0) (y_move rfl (by rfl) (by rfl)) ?_
          (try simp only [zP, zN, zA, zB, zC])
          refine nl_ (hK70 _ _ ?_); clear hK70 K70
          refine wp_block ?_
          refine loopk_ (fun (jq : Nat) (a' : Act) (w' : World) => ∃ (j : Nat), ∃ (m : Int), ∃ (us : Nat → Value), a' = ⟨#[us 0, .slice A1 n1 c1, us 2, us 3, .bool false, .slice (some ⟨gv, 0, none⟩) n cv, us 6, .int .i64 M, .int .i64 k, .pointer (some ⟨g9, 0, none⟩), .bool true, .int .i64 m, us 12, us 13, us 14, us 15, us 16, us 17, us 18, us 19, us 20, us 21, us 22, us 23, us 24, us 25, us 26, us 27, us 28, us 29, us 30, us 31, us 32, us 33, us 34, us 35, us 36, us 37, us 38, us 39, us 40, us 41, us 42, us 43, us 44, us 45, us 46, us 47, us 48, us 49, us 50, us 51, us 52, us 53, us 54, us 55, us 56, us 57, us 58, .int .i64 n, .int .i64 j, us 61, us 62, us 63, us 64, us 65, us 66, us 67, us 68, us 69, us 70, us 71, us 72, us 73, us 74, us 75, us 76, us 77, us 78, us 79, us 80, us 81, us 82, us 83, us 84, us 85, us 86, us 87, us 88, us 89, us 90, us 91, us 92, us 93, us 94, us 95, us 96, us 97, us 98, us 99, us 100, us 101, us 102, us 103, us 104, us 105, us 106, us 107, us 108, us 109, us 110, us 111, us 112, us 113, us 114, us 115, us 116, us 117, us 118, us 119, us 120, us 121, us 122, us 123, us 124, us 125, us 126, us 127, us 128, us 129, us 130, us 131, us 132, us 133, us 134, us 135, us 136, us 137, us 138, us 139], []⟩ ∧ Hid (Ch [] w w') ∧ Hid (OwnS w' w.heap.size 28 4 (.slice (some ⟨gv, 0, none⟩) n cv) (n) ((pre ++ b :: post).flatMap bxC)) ∧ Hid (Blk w' g9 (#[.int .i64 10, .int .i64 b.x.f0, .int .i64 0, .int .i64 0, .int .i64 0, .int .i64 0, .string ⟨#[]⟩, .string ⟨#[]⟩]) 30) ∧ Hid (j ≤ n ∧ jq + j = n) ∧ Hid (m = if pre.length < j then (pre.length : Int) else -1)) (n) (⟨0, -1, fun us_ => (#[us 0, .slice A1 n1 c1, us 2, us 3, .bool false, .slice (some ⟨gv, 0, none⟩) n cv, us 6, .int .i64 M, .int .i64 k, .pointer (some ⟨g9, 0, none⟩), .bool true, .int .i64 (-1), us 12, us 13, us 14, us 15, us 16, us 17, us 18, us 19, us 20, us 21, us 22, us 23, us 24, us 25, us 26, us 27, us 28, us 29, us 30, us 31, us 32, us 33, us 34, us 35, us 36, us 37, us 38, us 39, us 40, us 41, us 42, .int .i64 k, .int .i64 M, .bool true, .bool true, .int .i64 k, .bool true, .bool true, us 50, us 51, .tuple #[.agg #[.int .i64 10, .int .i64 b.x.f0, .int .i64 0, .int .i64 0, .int .i64 0, .int .i64 0, .string ⟨#[]⟩, .string ⟨#[]⟩], .bool true], .slice (some ⟨gv, 0, none⟩) n cv, .slice A1 n1 c1, .tuple #[.agg #[.int .i64 10, .int .i64 b.x.f0, .int .i64 0, .int .i64 0, .int .i64 0, .int .i64 0, .string ⟨#[]⟩, .string ⟨#[]⟩], .bool true], .agg #[.int .i64 10, .int .i64 b.x.f0, .int .i64 0, .int .i64 0, .int .i64 0, .int .i64 0, .string ⟨#[]⟩, .string ⟨#[]⟩], .bool true, .slice (some ⟨gv, 0, none⟩) n cv, .int .i64 n, .int .i64 0, us 61, us 62, us 63, us 64, us 65, us 66, us 67, us 68, us 69, us 70, us 71, us 72, us 73, us 74, us 75, us 76, us 77, us 78, us 79, us 80, us 81, us 82, us 83, us 84, us 85, us 86, us 87, us 88, us 89, us 90, us 91, us 92, us 93, us 94, us 95, us 96, us 97, us 98, us 99, us 100, us 101, us 102, us 103, us 104, us 105, us 106, us 107, us 108, us 109, us 110, us 111, us 112, us 113, us 114, us 115, us 116, us 117, us 118, us 119, us 120, us 121, us 122, us 123, us 124, us 125, us 126, us 127, us 128, us 129, us 130, us 131, us 132, us 133, us 134, us 135, us 136, us 137, us 138, us 139] : Array Value).getD us_ undef, rfl, C0, OL, Fg9, Lib.hid ⟨by omega, by omega⟩, Lib.hid (by rw [if_neg (by omega)])⟩) ?_
          rintro jq _ w71 ⟨j, m, us, rfl, C0, OL, Fg9, hj, hm⟩ K72 hK72
          rcases (show (j < n ∧ j = pre.length) ∨ (j < n ∧ j ≠ pre.length) ∨ j = n by have := hj.out; omega) with h | h | h
          · have hjl := Lib.hid (show j < n by omega)
            have hjp := Lib.hid h.2
            have D61 := Lib.hid (show j < n by omega)
            have WJ := Lib.hid (show IntKind.i64.wrap ((j : Int) + 1) = ((j + 1 : Nat) : Int) by rw [wr64 (by have := hn.out.2; omega)]; omega)
            have D65 := Lib.hid (show (j : Int) < (n : Int) by omega)
            obtain ⟨bj, hbj0⟩ : ∃ c, (pre ++ b :: post)[j]? = some c := ⟨_, List.getElem?_eq_getElem (by rw [← hn.out.1]; omega)⟩
            have hbj := Lib.hid hbj0
            have D70 := Lib.hid (show (bj.x.f0 == b.x.f0) = true by rw [h.2, hbp.out] at hbj0; injection hbj0 with e; rw [e]; exact beq_self_eq_true _)
            clear h hbj0
            refine s_ (fun K73 hK73 => ?_)
            refine pu_ (v := .bool true) (y_run (by rfl) (fun W => by have d := D61.out; go_simp)) ?_
            (try simp only [zP, zN, zA, zB, zC])
            refine nl_ (hK73 _ _ ?_); clear hK73 K73
            refine sq_ (fun K74 hK74 => ?_)
            refine wp_cond_true rfl ?_
            refine wp_skip ?_
            refine th_norm (hK74 _ _ ?_); try clear hK74 K74
            refine sq_ (fun K75 hK75 => ?_)
            refine wp_block ?_
            refine s_ (fun K76 hK76 => ?_)
            refine pu_ (v := .int .i64 j) (y_move rfl (by rfl) (by rfl)) ?_
            (try simp only [zP, zN, zA, zB, zC])
            refine pu_ (v := .int .i64 j) (y_assign rfl (by rfl) (by rfl)) ?_
            (try simp only [zP, zN, zA, zB, zC])
            refine nl_ (hK76 _ _ ?_); clear hK76 K76
            refine sq_ (fun K77 hK77 => ?_)
            refine startk_ (S := fun W => OwnS W w.heap.size 28 4 (.slice (some ⟨gv, 0, none⟩) n cv) (n) ((pre ++ b :: post).flatMap bxC) ∧ Blk W g9 (#[.int .i64 10, .int .i64 b.x.f0, .int .i64 0, .int .i64 0, .int .i64 0, .int .i64 0, .string ⟨#[]⟩, .string ⟨#[]⟩]) 30 ∧ True) (ds := []) #[false, false, false, false, false, false, false, false] (by kernel_rfl) rfl rfl (fun W c => ⟨OL.out.ch c rnin_nil, c.blk Fg9.out nin_nil, trivial⟩) (fun w78 C79 hS80 => ?_)
            have C0' := Lib.hid (show Ch [] w w78 from C0.out.trans' C79 (fun x hx => absurd hx (by simp)))
            have OL' := Lib.hid (show OwnS w78 w.heap.size 28 4 (.slice (some ⟨gv, 0, none⟩) n cv) (n) ((pre ++ b :: post).flatMap bxC) from OL.out.ch C79 rnin_nil)
            have Fg9' := Lib.hid (show Blk w78 g9 (#[.int .i64 10, .int .i64 b.x.f0, .int .i64 0, .int .i64 0, .int .i64 0, .int .i64 0, .string ⟨#[]⟩, .string ⟨#[]⟩]) 30 from C79.blk Fg9.out nin_nil)
            clear C0 OL Fg9
            have C0 := C0'; clear C0'
            have OL := OL'; clear OL'
            have Fg9 := Fg9'; clear Fg9'
            clear C79
            refine pure_ (i := 0) (N := some 63) (v := .slice (some ⟨gv, 0, none⟩) n cv) #[true, false, false, false, false, false, false, false] rfl rfl (by kernel_rfl) (fun c a w h => hP c a _ _ w h) (y_move rfl (by rfl) (by rfl)) rfl ?_
            (try simp only [zP, zN, zA, zB, zC])
            refine pure_ (i := 1) (N := some 64) (v := .int .i64 j) #[true, true, false, false, false, false, false, false] rfl rfl (by kernel_rfl) (fun c a w h => hP c a _ _ w h) (y_move rfl (by rfl) (by rfl)) rfl ?_
            (try simp only [zP, zN, zA, zB, zC])
            refine pure_ (i := 2) (N := some 65) (v := .pointer (some ⟨gv, j * 4, none⟩)) #[true, true, true, false, false, false, false, false] rfl rfl (by kernel_rfl) (fun c a w h => hP c a _ _ w h) (y_run (by rfl) (fun W => by have d := D65.out; go_simp)) rfl ?_
            (try simp only [zP, zN, zA, zB, zC])
            refine pure_ (i := 3) (N := some 66) (v := .pointer (some ⟨gv, j * 4, none⟩)) #[true, true, true, true, false, false, false, false] rfl rfl (by kernel_rfl) (fun c a w h => hP c a _ _ w h) (y_run (by rfl) (fun W => by go_simp)) rfl ?_
            (try simp only [zP, zN, zA, zB, zC])
            refine take_ (i := 4) (N := some 67) (v := .int .i64 bj.x.f0) #[true, true, true, true, true, false, false, false] rfl rfl (by kernel_rfl) (fun c a w h => hP c a _ _ w h) (y_load (p := ⟨gv, j * 4, none⟩) rfl (by rfl) (by rfl) (fun W hS => run_load_one (bx_at hbj.out hS.1 0 rfl) Try.underlying3 rfl)) hS80 rfl ?_
            (try simp only [zP, zN, zA, zB, zC])
            refine pure_ (i := 5) (N := some 68) (v := .pointer (some ⟨g9, 1, none⟩)) #[true, true, true, true, true, true, false, false] rfl rfl (by kernel_rfl) (fun c a w h => hP c a _ _ w h) (y_run (by rfl) (fun W => by go_simp)) rfl ?_
            (try simp only [zP, zN, zA, zB, zC])
            refine take_ (i := 6) (N := some 69) (v := .int .i64 b.x.f0) #[true, true, true, true, true, true, true, false] rfl rfl (by kernel_rfl) (fun c a w h => hP c a _ _ w h) (y_load (p := ⟨g9, 1, none⟩) rfl (by rfl) (by rfl) (fun W hS => run_load_one ((hS.2.1.cell 1).trans rfl) Try.underlying3 rfl)) hS80 rfl ?_
            (try simp only [zP, zN, zA, zB, zC])
            refine pure_ (i := 7) (N := some 70) (v := .bool true) #[true, true, true, true, true, true, true, true] rfl rfl (by kernel_rfl) (fun c a w h => hP c a _ _ w h) (y_run (by rfl) (fun W => by have d := D70.out; go_simp)) rfl ?_
            (try simp only [zP, zN, zA, zB, zC])
            refine done_ (by kernel_rfl) (th_norm (hK77 _ _ ?_)); clear hK77 K77
            refine wp_cond_true rfl ?_
            refine r_ ?_
            refine pu_ (v := .int .i64 j) (y_move rfl (by rfl) (by rfl)) ?_
            (try simp only [zP, zN, zA, zB, zC])
            refine pu_ (v := .int .i64 j) (y_assign rfl (by rfl) (by rfl)) ?_
            (try simp only [zP, zN, zA, zB, zC])
            refine nl_ ?_
            refine ib_norm ?_
            refine th_norm (hK75 _ _ ?_); try clear hK75 K75
            refine r_ ?_
            refine pu_ (v := .int .i64 (j + 1 : Nat)) (y_run (by rfl) (fun W => by have d := WJ.out; go_simp)) ?_
            (try simp only [zP, zN, zA, zB, zC])
            refine pu_ (v := .int .i64 (j + 1 : Nat)) (y_move rfl (by rfl) (by rfl)) ?_
            (try simp only [zP, zN, zA, zB, zC])
            refine nl_ ?_
            exact th_norm (hK72 (jq - 1) _ _ (by have := hjl.out; have := hj.out; omega) ⟨j + 1, j, fun us_ => (#[us 0, .slice A1 n1 c1, us 2, us 3, .bool false, .slice (some ⟨gv, 0, none⟩) n cv, us 6, .int .i64 M, .int .i64 k, .pointer (some ⟨g9, 0, none⟩), .bool true, .int .i64 j, .int .i64 j, us 13, us 14, us 15, us 16, us 17, us 18, us 19, us 20, us 21, us 22, us 23, us 24, us 25, us 26, us 27, us 28, us 29, us 30, us 31, us 32, us 33, us 34, us 35, us 36, us 37, us 38, us 39, us 40, us 41, us 42, us 43, us 44, us 45, us 46, us 47, us 48, us 49, us 50, us 51, us 52, us 53, us 54, us 55, us 56, us 57, us 58, .int .i64 n, .int .i64 (j + 1 : Nat), .bool true, .int .i64 j, .slice (some ⟨gv, 0, none⟩) n cv, .int .i64 j, .pointer (some ⟨gv, j * 4, none⟩), .pointer (some ⟨gv, j * 4, none⟩), .int .i64 bj.x.f0, .pointer (some ⟨g9, 1, none⟩), .int .i64 b.x.f0, .bool true, .int .i64 j, .int .i64 (j + 1 : Nat), us 73, us 74, us 75, us 76, us 77, us 78, us 79, us 80, us 81, us 82, us 83, us 84, us 85, us 86, us 87, us 88, us 89, us 90, us 91, us 92, us 93, us 94, us 95, us 96, us 97, us 98, us 99, us 100, us 101, us 102, us 103, us 104, us 105, us 106, us 107, us 108, us 109, us 110, us 111, us 112, us 113, us 114, us 115, us 116, us 117, us 118, us 119, us 120, us 121, us 122, us 123, us 124, us 125, us 126, us 127, us 128, us 129, us 130, us 131, us 132, us 133, us 134, us 135, us 136, us 137, us 138, us 139] : Array Value).getD us_ undef, rfl, C0, OL, Fg9, Lib.hid ⟨by have := hjl.out; omega, by have := hjl.out; have := hj.out; omega⟩, Lib.hid (by have := hjp.out; rw [if_pos (by omega)]; omega)⟩)
          · have hjl := Lib.hid (show j < n by omega)
            have hjp := Lib.hid h.2
            have D61 := Lib.hid (show j < n by omega)
            have WJ := Lib.hid (show IntKind.i64.wrap ((j : Int) + 1) = ((j + 1 : Nat) : Int) by rw [wr64 (by have := hn.out.2; omega)]; omega)
            have D65 := Lib.hid (show (j : Int) < (n : Int) by omega)
            obtain ⟨bj, hbj0⟩ : ∃ c, (pre ++ b :: post)[j]? = some c := ⟨_, List.getElem?_eq_getElem (by rw [← hn.out.1]; omega)⟩
            have hbj := Lib.hid hbj0
            have D70 := Lib.hid (show (bj.x.f0 == b.x.f0) = false from beq_eq_false_iff_ne.2 fun e => h.2 (nodup_at hnd.out hbj0 e))
            clear h hbj0
            refine s_ (fun K81 hK81 => ?_)
            refine pu_ (v := .bool true) (y_run (by rfl) (fun W => by have d := D61.out; go_simp)) ?_
            (try simp only [zP, zN, zA, zB, zC])
            refine nl_ (hK81 _ _ ?_); clear hK81 K81
            refine sq_ (fun K82 hK82 => ?_)
            refine wp_cond_true rfl ?_
            refine wp_skip ?_
            refine th_norm (hK82 _ _ ?_); try clear hK82 K82
            refine sq_ (fun K83 hK83 => ?_)
            refine wp_block ?_
            refine s_ (fun K84 hK84 => ?_)
            refine pu_ (v := .int .i64 j) (y_move rfl (by rfl) (by rfl)) ?_
            (try simp only [zP, zN, zA, zB, zC])
            refine pu_ (v := .int .i64 j) (y_assign rfl (by rfl) (by rfl)) ?_
            (try simp only [zP, zN, zA, zB, zC])
            refine nl_ (hK84 _ _ ?_); clear hK84 K84
            refine sq_ (fun K85 hK85 => ?_)
            refine startk_ (S := fun W => OwnS W w.heap.size 28 4 (.slice (some ⟨gv, 0, none⟩) n cv) (n) ((pre ++ b :: post).flatMap bxC) ∧ Blk W g9 (#[.int .i64 10, .int .i64 b.x.f0, .int .i64 0, .int .i64 0, .int .i64 0, .int .i64 0, .string ⟨#[]⟩, .string ⟨#[]⟩]) 30 ∧ True) (ds := []) #[false, false, false, false, false, false, false, false] (by kernel_rfl) rfl rfl (fun W c => ⟨OL.out.ch c rnin_nil, c.blk Fg9.out nin_nil, trivial⟩) (fun w86 C87 hS88 => ?_)
            have C0' := Lib.hid (show Ch [] w w86 from C0.out.trans' C87 (fun x hx => absurd hx (by simp)))
            have OL' := Lib.hid (show OwnS w86 w.heap.size 28 4 (.slice (some ⟨gv, 0, none⟩) n cv) (n) ((pre ++ b :: post).flatMap bxC) from OL.out.ch C87 rnin_nil)
            have Fg9' := Lib.hid (show Blk w86 g9 (#[.int .i64 10, .int .i64 b.x.f0, .int .i64 0, .int .i64 0, .int .i64 0, .int .i64 0, .string ⟨#[]⟩, .string ⟨#[]⟩]) 30 from C87.blk Fg9.out nin_nil)
            clear C0 OL Fg9
            have C0 := C0'; clear C0'
            have OL := OL'; clear OL'
            have Fg9 := Fg9'; clear Fg9'
            clear C87
            refine pure_ (i := 0) (N := some 63) (v := .slice (some ⟨gv, 0, none⟩) n cv) #[true, false, false, false, false, false, false, false] rfl rfl (by kernel_rfl) (fun c a w h => hP c a _ _ w h) (y_move rfl (by rfl) (by rfl)) rfl ?_
            (try simp only [zP, zN, zA, zB, zC])
            refine pure_ (i := 1) (N := some 64) (v := .int .i64 j) #[true, true, false, false, false, false, false, false] rfl rfl (by kernel_rfl) (fun c a w h => hP c a _ _ w h) (y_move rfl (by rfl) (by rfl)) rfl ?_
            (try simp only [zP, zN, zA, zB, zC])
            refine pure_ (i := 2) (N := some 65) (v := .pointer (some ⟨gv, j * 4, none⟩)) #[true, true, true, false, false, false, false, false] rfl rfl (by kernel_rfl) (fun c a w h => hP c a _ _ w h) (y_run (by rfl) (fun W => by have d := D65.out; go_simp)) rfl ?_
            (try simp only [zP, zN, zA, zB, zC])
            refine pure_ (i := 3) (N := some 66) (v := .pointer (some ⟨gv, j * 4, none⟩)) #[true, true, true, true, false, false, false, false] rfl rfl (by kernel_rfl) (fun c a w h => hP c a _ _ w h) (y_run (by rfl) (fun W => by go_simp)) rfl ?_
            (try simp only [zP, zN, zA, zB, zC])
            refine take_ (i := 4) (N := some 67) (v := .int .i64 bj.x.f0) #[true, true, true, true, true, false, false, false] rfl rfl (by kernel_rfl) (fun c a w h => hP c a _ _ w h) (y_load (p := ⟨gv, j * 4, none⟩) rfl (by rfl) (by rfl) (fun W hS => run_load_one (bx_at hbj.out hS.1 0 rfl) Try.underlying3 rfl)) hS88 rfl ?_
            (try simp only [zP, zN, zA, zB, zC])
            refine pure_ (i := 5) (N := some 68) (v := .pointer (some ⟨g9, 1, none⟩)) #[true, true, true, true, true, true, false, false] rfl rfl (by kernel_rfl) (fun c a w h => hP c a _ _ w h) (y_run (by rfl) (fun W => by go_simp)) rfl ?_
            (try simp only [zP, zN, zA, zB, zC])
            refine take_ (i := 6) (N := some 69) (v := .int .i64 b.x.f0) #[true, true, true, true, true, true, true, false] rfl rfl (by kernel_rfl) (fun c a w h => hP c a _ _ w h) (y_load (p := ⟨g9, 1, none⟩) rfl (by rfl) (by rfl) (fun W hS => run_load_one ((hS.2.1.cell 1).trans rfl) Try.underlying3 rfl)) hS88 rfl ?_
            (try simp only [zP, zN, zA, zB, zC])
            refine pure_ (i := 7) (N := some 70) (v := .bool false) #[true, true, true, true, true, true, true, true] rfl rfl (by kernel_rfl) (fun c a w h => hP c a _ _ w h) (y_run (by rfl) (fun W => by have d := D70.out; go_simp)) rfl ?_
            (try simp only [zP, zN, zA, zB, zC])
            refine done_ (by kernel_rfl) (th_norm (hK85 _ _ ?_)); clear hK85 K85
            refine wp_cond_false rfl ?_
            refine wp_skip ?_
            refine ib_norm ?_
            refine th_norm (hK83 _ _ ?_); try clear hK83 K83
            refine r_ ?_
            refine pu_ (v := .int .i64 (j + 1 : Nat)) (y_run (by rfl) (fun W => by have d := WJ.out; go_simp)) ?_
            (try simp only [zP, zN, zA, zB, zC])
            refine pu_ (v := .int .i64 (j + 1 : Nat)) (y_move rfl (by rfl) (by rfl)) ?_
            (try simp only [zP, zN, zA, zB, zC])
            refine nl_ ?_
            exact th_norm (hK72 (jq - 1) _ _ (by have := hjl.out; have := hj.out; omega) ⟨j + 1, m, fun us_ => (#[us 0, .slice A1 n1 c1, us 2, us 3, .bool false, .slice (some ⟨gv, 0, none⟩) n cv, us 6, .int .i64 M, .int .i64 k, .pointer (some ⟨g9, 0, none⟩), .bool true, .int .i64 m, .int .i64 j, us 13, us 14, us 15, us 16, us 17, us 18, us 19, us 20, us 21, us 22, us 23, us 24, us 25, us 26, us 27, us 28, us 29, us 30, us 31, us 32, us 33, us 34, us 35, us 36, us 37, us 38, us 39, us 40, us 41, us 42, us 43, us 44, us 45, us 46, us 47, us 48, us 49, us 50, us 51, us 52, us 53, us 54, us 55, us 56, us 57, us 58, .int .i64 n, .int .i64 (j + 1 : Nat), .bool true, .int .i64 j, .slice (some ⟨gv, 0, none⟩) n cv, .int .i64 j, .pointer (some ⟨gv, j * 4, none⟩), .pointer (some ⟨gv, j * 4, none⟩), .int .i64 bj.x.f0, .pointer (some ⟨g9, 1, none⟩), .int .i64 b.x.f0, .bool false, us 71, .int .i64 (j + 1 : Nat), us 73, us 74, us 75, us 76, us 77, us 78, us 79, us 80, us 81, us 82, us 83, us 84, us 85, us 86, us 87, us 88, us 89, us 90, us 91, us 92, us 93, us 94, us 95, us 96, us 97, us 98, us 99, us 100, us 101, us 102, us 103, us 104, us 105, us 106, us 107, us 108, us 109, us 110, us 111, us 112, us 113, us 114, us 115, us 116, us 117, us 118, us 119, us 120, us 121, us 122, us 123, us 124, us 125, us 126, us 127, us 128, us 129, us 130, us 131, us 132, us 133, us 134, us 135, us 136, us 137, us 138, us 139] : Array Value).getD us_ undef, rfl, C0, OL, Fg9, Lib.hid ⟨by have := hjl.out; omega, by have := hjl.out; have := hj.out; omega⟩, Lib.hid (at_step hm.out hjp.out)⟩)
          · have D61 := Lib.hid (show ¬ j < n by omega)
            have hm2 : m = (pre.length : Int) := by have h1 := hm.out; have h2 := hp.out; rw [if_pos (by omega)] at h1; exact h1
            subst hm2
            clear h
            have D77 := Lib.hid (show ¬ (pre.length : Int) < 0 by omega)
            have D83 := Lib.hid (show (pre.length : Int) < (n : Int) by have := hp.out; omega)
            have HH := Lib.hid (show decide (b.x.f1 ∈ l1) = false by have := hbo.out; unfold isO at this; simpa using this)
            have WP := Lib.hid (show IntKind.i64.wrap ((pre.length : Int) + 1) = ((pre.length + 1 : Nat) : Int) by rw [wr64 (by have := hp.out; have := hn.out.2; omega)]; omega)
            have HKB2 := Lib.hid (show ∀ c ∈ pre ++ setSt b 2 :: post, okB w c from fun c hc => by
                rcases List.mem_append.1 hc with hc | hc
                · exact hKB.out c (List.mem_append_left _ hc)
                · rcases List.mem_cons.1 hc with rfl | hc
                  · exact okB_st (hKB.out b (by simp)) 2
                  · exact hKB.out c (by simp [hc]))
            have hLf := lf_halt (post := post) hpre.out hbo.out hst.out
            have hk2 := hk.out.1
            have HL2 : Hid (twos (Fo ((pre ++ setSt b 2 :: post).map (·.x)) l1) = M - k - 1) := Lib.hid (by change Lf _ _ = _; omega)
            clear hLf hk2
            refine s_ (fun K89 hK89 => ?_)
            refine pu_ (v := .bool false) (y_run (by rfl) (fun W => by have d := D61.out; go_simp)) ?_
            (try simp only [zP, zN, zA, zB, zC])
            refine nl_ (hK89 _ _ ?_); clear hK89 K89
            refine sq_ (fun K90 hK90 => ?_)
            refine wp_cond_false rfl ?_
            refine wp_exit ?_
            refine th_exit ?_
            refine th_exit ?_
            refine ib_exit ?_
            refine th_norm (hK69 _ _ ?_); try clear hK69 K69
            refine sq_ (fun K91 hK91 => ?_)
            refine sq_ (fun K92 hK92 => ?_)
            refine startk_ (S := fun W => OwnS W w.heap.size 28 4 (.slice (some ⟨gv, 0, none⟩) n cv) (n) ((pre ++ b :: post).flatMap bxC) ∧ Blk W g9 (#[.int .i64 10, .int .i64 b.x.f0, .int .i64 0, .int .i64 0, .int .i64 0, .int .i64 0, .string ⟨#[]⟩, .string ⟨#[]⟩]) 30 ∧ True) (ds := []) #[false, false, false, false, false, false, false, false, false, false, false, false, false, false, false, false, false, false, false, false, false, false, false, false, false, false, false] (by kernel_rfl) rfl rfl (fun W c => ⟨OL.out.ch c rnin_nil, c.blk Fg9.out nin_nil, trivial⟩) (fun w93 C94 hS95 => ?_)
            have C0' := Lib.hid (show Ch [] w w93 from C0.out.trans' C94 (fun x hx => absurd hx (by simp)))
            have OL' := Lib.hid (show OwnS w93 w.heap.size 28 4 (.slice (some ⟨gv, 0, none⟩) n cv) (n) ((pre ++ b :: post).flatMap bxC) from OL.out.ch C94 rnin_nil)
            have Fg9' := Lib.hid (show Blk w93 g9 (#[.int .i64 10, .int .i64 b.x.f0, .int .i64 0, .int .i64 0, .int .i64 0, .int .i64 0, .string ⟨#[]⟩, .string ⟨#[]⟩]) 30 from C94.blk Fg9.out nin_nil)
            clear C0 OL Fg9
            have C0 := C0'; clear C0'
            have OL := OL'; clear OL'
            have Fg9 := Fg9'; clear Fg9'
            clear C94
            refine pure_ (i := 0) (N := some 73) (v := .bool true) #[true, false, false, false, false, false, false, false, false, false, false, false, false, false, false, false, false, false, false, false, false, false, false, false, false, false, false] rfl rfl (by kernel_rfl) (fun c a w h => hP c a _ _ w h) (y_move rfl (by rfl) (by rfl)) rfl ?_
            (try simp only [zP, zN, zA, zB, zC])
            refine pure_ (i := 1) (N := some 74) (v := .bool false) #[true, true, false, false, false, false, false, false, false, false, false, false, false, false, false, false, false, false, false, false, false, false, false, false, false, false, false] rfl rfl (by kernel_rfl) (fun c a w h => hP c a _ _ w h) (y_run (by rfl) (fun W => by go_simp)) rfl ?_
            (try simp only [zP, zN, zA, zB, zC])
            refine pure_ (i := 2) (N := some 75) (v := .bool false) #[true, true, true, false, false, false, false, false, false, false, false, false, false, false, false, false, false, false, false, false, false, false, false, false, false, false, false] rfl rfl (by kernel_rfl) (fun c a w h => hP c a _ _ w h) (y_move rfl (by rfl) (by rfl)) rfl ?_
            (try simp only [zP, zN, zA, zB, zC])
            refine pure_ (i := 3) (N := some 76) (v := .int .i64 pre.length) #[true, true, true, true, false, false, false, false, false, false, false, false, false, false, false, false, false, false, false, false, false, false, false, false, false, false, false] rfl rfl (by kernel_rfl) (fun c a w h => hP c a _ _ w h) (y_move rfl (by rfl) (by rfl)) rfl ?_
            (try simp only [zP, zN, zA, zB, zC])
            refine pure_ (i := 4) (N := some 77) (v := .bool false) #[true, true, true, true, true, false, false, false, false, false, false, false, false, false, false, false, false, false, false, false, false, false, false, false, false, false, false] rfl rfl (by kernel_rfl) (fun c a w h => hP c a _ _ w h) (y_run (by rfl) (fun W => by have d := D77.out; go_simp)) rfl ?_
            (try simp only [zP, zN, zA, zB, zC])
            refine pure_ (i := 5) (N := some 78) (v := .bool false) #[true, true, true, true, true, true, false, false, false, false, false, false, false, false, false, false, false, false, false, false, false, false, false, false, false, false, false] rfl rfl (by kernel_rfl) (fun c a w h => hP c a _ _ w h) (y_pick (t := false) (by rfl) rfl (by rfl) (by rfl)) rfl ?_
            (try simp only [zP, zN, zA, zB, zC])
            refine pure_ (i := 6) (N := some 79) (v := .bool false) #[true, true, true, true, true, true, true, false, false, false, false, false, false, false, false, false, false, false, false, false, false, false, false, false, false, false, false] rfl rfl (by kernel_rfl) (fun c a w h => hP c a _ _ w h) (y_move rfl (by rfl) (by rfl)) rfl ?_
            (try simp only [zP, zN, zA, zB, zC])
            refine pure_ (i := 7) (N := some 80) (v := .slice A1 n1 c1) #[true, true, true, true, true, true, true, true, false, false, false, false, false, false, false, false, false, false, false, false, false, false, false, false, false, false, false] rfl rfl (by kernel_rfl) (fun c a w h => hP c a _ _ w h) (y_move rfl (by rfl) (by rfl)) rfl ?_
            (try simp only [zP, zN, zA, zB, zC])
            refine pure_ (i := 8) (N := some 81) (v := .slice (some ⟨gv, 0, none⟩) n cv) #[true, true, true, true, true, true, true, true, true, false, false, false, false, false, false, false, false, false, false, false, false, false, false, false, false, false, false] rfl rfl (by kernel_rfl) (fun c a w h => hP c a _ _ w h) (y_move rfl (by rfl) (by rfl)) rfl ?_
            (try simp only [zP, zN, zA, zB, zC])
            refine pure_ (i := 9) (N := some 82) (v := .int .i64 pre.length) #[true, true, true, true, true, true, true, true, true, true, false, false, false, false, false, false, false, false, false, false, false, false, false, false, false, false, false] rfl rfl (by kernel_rfl) (fun c a w h => hP c a _ _ w h) (y_move rfl (by rfl) (by rfl)) rfl ?_
            (try simp only [zP, zN, zA, zB, zC])
            refine pure_ (i := 10) (N := some 83) (v := .pointer (some ⟨gv, pre.length * 4, none⟩)) #[true, true, true, true, true, true, true, true, true, true, true, false, false, false, false, false, false, false, false, false, false, false, false, false, false, false, false] rfl rfl (by kernel_rfl) (fun c a w h => hP c a _ _ w h) (y_run (by rfl) (fun W => by have d := D83.out; go_simp)) rfl ?_
            (try simp only [zP, zN, zA, zB, zC])
            refine pure_ (i := 11) (N := some 84) (v := .pointer (some ⟨gv, pre.length * 4 + 1, none⟩)) #[true, true, true, true, true, true, true, true, true, true, true, true, false, false, false, false, false, false, false, false, false, false, false, false, false, false, false] rfl rfl (by kernel_rfl) (fun c a w h => hP c a _ _ w h) (y_run (by rfl) (fun W => by go_simp)) rfl ?_
            (try simp only [zP, zN, zA, zB, zC])
            refine take_ (i := 12) (N := some 85) (v := .int .i64 b.x.f1) #[true, true, true, true, true, true, true, true, true, true, true, true, true, false, false, false, false, false, false, false, false, false, false, false, false, false, false] rfl rfl (by kernel_rfl) (fun c a w h => hP c a _ _ w h) (y_load (p := ⟨gv, pre.length * 4 + 1, none⟩) rfl (by rfl) (by rfl) (fun W hS => run_load_one (bx_at hbp.out hS.1 1 rfl) Try.underlying3 rfl)) hS95 rfl ?_
            (try simp only [zP, zN, zA, zB, zC])
            refine one_ (i := 13) (N := some 86) #[true, true, true, true, true, true, true, true, true, true, true, true, true, true, false, false, false, false, false, false, false, false, false, false, false, false, false] rfl rfl (by kernel_rfl) (by simp) (fun K96 hK96 => ?_)
            refine e_call Try.func14 (by kernel_rfl) rfl #[.slice A1 n1 c1, .int .i64 b.x.f1] (by rfl) rfl rfl (by first | rfl | (simp only [List.map_toArray, List.map_cons, List.map_nil]; first | done | rfl)) ((by have h := has14 (w0 := w) b.x.f1 C0.out HU.out; rw [HH.out] at h; exact h)) ?_
            rintro en w98 ⟨rfl, cc97⟩
            refine ⟨_, rfl, ?_⟩
            have C0' := Lib.hid (show Ch [] w w98 from C0.out.trans' cc97 (fun x hx => absurd hx (by simp)))
            have OL' := Lib.hid (show OwnS w98 w.heap.size 28 4 (.slice (some ⟨gv, 0, none⟩) n cv) (n) ((pre ++ b :: post).flatMap bxC) from OL.out.ch cc97 rnin_nil)
            have Fg9' := Lib.hid (show Blk w98 g9 (#[.int .i64 10, .int .i64 b.x.f0, .int .i64 0, .int .i64 0, .int .i64 0, .int .i64 0, .string ⟨#[]⟩, .string ⟨#[]⟩]) 30 from cc97.blk Fg9.out nin_nil)
            clear C0 OL Fg9
            have C0 := C0'; clear C0'
            have OL := OL'; clear OL'
            have Fg9 := Fg9'; clear Fg9'
            clear cc97
            refine hK96.out _ _ ⟨OL.out, Fg9.out, trivial⟩ (fun hS99 => ?_); clear hK96 K96
            (try simp only [zP, zN, zA, zB, zC])
            refine pure_ (i := 14) (N := some 87) (v := .bool false) #[true, true, true, true, true, true, true, true, true, true, true, true, true, true, true, false, false, false, false, false, false, false, false, false, false, false, false] rfl rfl (by kernel_rfl) (fun c a w h => hP c a _ _ w h) (y_pick (t := false) (by rfl) rfl (by rfl) (by rfl)) rfl ?_
            (try simp only [zP, zN, zA, zB, zC])
            refine pure_ (i := 15) (N := some 88) (v := .bool false) #[true, true, true, true, true, true, true, true, true, true, true, true, true, true, true, true, false, false, false, false, false, false, false, false, false, false, false] rfl rfl (by kernel_rfl) (fun c a w h => hP c a _ _ w h) (y_move rfl (by rfl) (by rfl)) rfl ?_
            (try simp only [zP, zN, zA, zB, zC])
            refine pure_ (i := 16) (N := some 89) (v := .pointer (some ⟨g9, 0, none⟩)) #[true, true, true, true, true, true, true, true, true, true, true, true, true, true, true, true, true, false, false, false, false, false, false, false, false, false, false] rfl rfl (by kernel_rfl) (fun c a w h => hP c a _ _ w h) (y_run (by rfl) (fun W => by go_simp)) rfl ?_
            (try simp only [zP, zN, zA, zB, zC])
            refine take_ (i := 17) (N := some 90) (v := .int .i64 10) #[true, true, true, true, true, true, true, true, true, true, true, true, true, true, true, true, true, true, false, false, false, false, false, false, false, false, false] rfl rfl (by kernel_rfl) (fun c a w h => hP c a _ _ w h) (y_load (p := ⟨g9, 0, none⟩) rfl (by rfl) (by rfl) (fun W hS => run_load_one ((hS.2.1.cell 0).trans rfl) Try.underlying3 rfl)) hS99 rfl ?_
            (try simp only [zP, zN, zA, zB, zC])
            refine pure_ (i := 18) (N := some 91) (v := .bool true) #[true, true, true, true, true, true, true, true, true, true, true, true, true, true, true, true, true, true, true, false, false, false, false, false, false, false, false] rfl rfl (by kernel_rfl) (fun c a w h => hP c a _ _ w h) (y_run (by rfl) (fun W => by go_simp)) rfl ?_
            (try simp only [zP, zN, zA, zB, zC])
            refine pure_ (i := 19) (N := some 92) (v := .slice (some ⟨gv, 0, none⟩) n cv) #[true, true, true, true, true, true, true, true, true, true, true, true, true, true, true, true, true, true, true, true, false, false, false, false, false, false, false] rfl rfl (by kernel_rfl) (fun c a w h => hP c a _ _ w h) (y_move rfl (by rfl) (by rfl)) rfl ?_
            (try simp only [zP, zN, zA, zB, zC])
            refine pure_ (i := 20) (N := some 93) (v := .int .i64 pre.length) #[true, true, true, true, true, true, true, true, true, true, true, true, true, true, true, true, true, true, true, true, true, false, false, false, false, false, false] rfl rfl (by kernel_rfl) (fun c a w h => hP c a _ _ w h) (y_move rfl (by rfl) (by rfl)) rfl ?_
            (try simp only [zP, zN, zA, zB, zC])
            refine pure_ (i := 21) (N := some 94) (v := .pointer (some ⟨gv, pre.length * 4, none⟩)) #[true, true, true, true, true, true, true, true, true, true, true, true, true, true, true, true, true, true, true, true, true, true, false, false, false, false, false] rfl rfl (by kernel_rfl) (fun c a w h => hP c a _ _ w h) (y_run (by rfl) (fun W => by have d := D83.out; go_simp)) rfl ?_
            (try simp only [zP, zN, zA, zB, zC])
            refine pure_ (i := 22) (N := some 95) (v := .pointer (some ⟨gv, pre.length * 4 + 2, none⟩)) #[true, true, true, true, true, true, true, true, true, true, true, true, true, true, true, true, true, true, true, true, true, true, true, false, false, false, false] rfl rfl (by kernel_rfl) (fun c a w h => hP c a _ _ w h) (y_run (by rfl) (fun W => by go_simp)) rfl ?_
            (try simp only [zP, zN, zA, zB, zC])
            refine take_ (i := 23) (N := some 96) (v := .int .i64 b.x.f2) #[true, true, true, true, true, true, true, true, true, true, true, true, true, true, true, true, true, true, true, true, true, true, true, true, false, false, false] rfl rfl (by kernel_rfl) (fun c a w h => hP c a _ _ w h) (y_load (p := ⟨gv, pre.length * 4 + 2, none⟩) rfl (by rfl) (by rfl) (fun W hS => run_load_one (bx_at hbp.out hS.1 2 rfl) Try.underlying3 rfl)) hS99 rfl ?_
            (try simp only [zP, zN, zA, zB, zC])
            refine pure_ (i := 24) (N := some 97) (v := .bool true) #[true, true, true, true, true, true, true, true, true, true, true, true, true, true, true, true, true, true, true, true, true, true, true, true, true, false, false] rfl rfl (by kernel_rfl) (fun c a w h => hP c a _ _ w h) (y_run (by rfl) (fun W => by have d := D97.out; go_simp)) rfl ?_
            (try simp only [zP, zN, zA, zB, zC])
            refine pure_ (i := 25) (N := some 98) (v := .bool false) #[true, true, true, true, true, true, true, true, true, true, true, true, true, true, true, true, true, true, true, true, true, true, true, true, true, true, false] rfl rfl (by kernel_rfl) (fun c a w h => hP c a _ _ w h) (y_run (by rfl) (fun W => by go_simp)) rfl ?_
            (try simp only [zP, zN, zA, zB, zC])
            refine pure_ (i := 26) (N := some 99) (v := .bool false) #[true, true, true, true, true, true, true, true, true, true, true, true, true, true, true, true, true, true, true, true, true, true, true, true, true, true, true] rfl rfl (by kernel_rfl) (fun c a w h => hP c a _ _ w h) (y_pick (t := false) (by rfl) rfl (by rfl) (by rfl)) rfl ?_
            (try simp only [zP, zN, zA, zB, zC])
            refine done_ (by kernel_rfl) (th_norm (hK92 _ _ ?_)); clear hK92 K92
            refine wp_cond_false rfl ?_
            refine wp_skip ?_
            refine th_norm (hK91 _ _ ?_); try clear hK91 K91
            refine sq_ (fun K100 hK100 => ?_)
            refine s_ (fun K101 hK101 => ?_)
            refine pu_ (v := .pointer (some ⟨g9, 0, none⟩)) (y_run (by rfl) (fun W => by go_simp)) ?_
            (try simp only [zP, zN, zA, zB, zC])
            refine ld_ (v := .int .i64 10) rfl (by rfl) (by rfl) (run_load_one ((Fg9.out.cell 0).trans rfl) Try.underlying3 rfl) ?_
            (try simp only [zP, zN, zA, zB, zC])
            refine pu_ (v := .bool true) (y_run (by rfl) (fun W => by go_simp)) ?_
            (try simp only [zP, zN, zA, zB, zC])
            refine nl_ (hK101 _ _ ?_); clear hK101 K101
            refine wp_cond_true rfl ?_
            refine r_ ?_
            refine pu_ (v := .slice (some ⟨gv, 0, none⟩) n cv) (y_move rfl (by rfl) (by rfl)) ?_
            (try simp only [zP, zN, zA, zB, zC])
            refine pu_ (v := .int .i64 pre.length) (y_move rfl (by rfl) (by rfl)) ?_
            (try simp only [zP, zN, zA, zB, zC])
            refine pu_ (v := .pointer (some ⟨gv, pre.length * 4, none⟩)) (y_run (by rfl) (fun W => by have d := D83.out; go_simp)) ?_
            (try simp only [zP, zN, zA, zB, zC])
            refine pu_ (v := .pointer (some ⟨gv, pre.length * 4 + 2, none⟩)) (y_run (by rfl) (fun W => by go_simp)) ?_
            (try simp only [zP, zN, zA, zB, zC])
            refine ef_ (fun K102 hK102 => ?_)
            refine e_storeS1 (by rfl) rfl rfl OL.out (pre.length * 4 + 2) (.int .i64 2) (by rfl) (by rfl) (by kernel_rfl) (by have := hp.out; omega) rfl ?_
            rintro w103 O104 C105
            have RC105 := Lib.hid (show Ch (rl (.slice (some ⟨gv, 0, none⟩) n cv)) w98 w103 from by rw [rl_some _ _ _ hcv0.out]; exact C105)
            have C0' := Lib.hid (show Ch [] w w103 from C0.out.trans' RC105.out (fun x hx => .inr (OL.out.lt x hx).1))
            have Fg9' := Lib.hid (show Blk w103 g9 (#[.int .i64 10, .int .i64 b.x.f0, .int .i64 0, .int .i64 0, .int .i64 0, .int .i64 0, .string ⟨#[]⟩, .string ⟨#[]⟩]) 30 from RC105.out.blk Fg9.out (OL.out.ne Fg9.out (by decide)))
            clear C0 Fg9
            have C0 := C0'; clear C0'
            have Fg9 := Fg9'; clear Fg9'
            clear OL
            have OL := Lib.hid (show OwnS w103 w.heap.size 28 4 (.slice (some ⟨gv, 0, none⟩) n cv) (n) ((pre ++ setSt b 2 :: post).flatMap bxC) from by rw [← bx_set2]; exact O104); clear O104 C105 RC105
            refine hK102 _ _ ?_; clear hK102 K102
            (try simp only [zP, zN, zA, zB, zC])
            refine nl_ ?_
            refine th_norm (hK100 _ _ ?_); try clear hK100 K100
            refine s_ (fun K106 hK106 => ?_)
            refine pu_ (v := .slice (some ⟨gv, 0, none⟩) n cv) (y_move rfl (by rfl) (by rfl)) ?_
            (try simp only [zP, zN, zA, zB, zC])
            refine pu_ (v := .slice A1 n1 c1) (y_move rfl (by rfl) (by rfl)) ?_
            (try simp only [zP, zN, zA, zB, zC])
            refine ef_ (fun K107 hK107 => ?_)
            refine e_call Try.func12 (by kernel_rfl) rfl #[.slice (some ⟨gv, 0, none⟩) n cv, .slice A1 n1 c1] (by rfl) rfl rfl (by first | rfl | (simp only [List.map_toArray, List.map_cons, List.map_nil]; first | done | rfl)) ((by have h := left12 (w0 := w) OL.out (by have := hn.out.1; simpa using this) hn.out.2 HKB2.out C0.out HU.out; rw [HL2.out] at h; exact h)) ?_
            rintro en w109 ⟨rfl, cc108⟩
            refine ⟨_, rfl, ?_⟩
            have C0' := Lib.hid (show Ch [] w w109 from C0.out.trans' cc108 (fun x hx => absurd hx (by simp)))
            have OL' := Lib.hid (show OwnS w109 w.heap.size 28 4 (.slice (some ⟨gv, 0, none⟩) n cv) (n) ((pre ++ setSt b 2 :: post).flatMap bxC) from OL.out.ch cc108 rnin_nil)
            have Fg9' := Lib.hid (show Blk w109 g9 (#[.int .i64 10, .int .i64 b.x.f0, .int .i64 0, .int .i64 0, .int .i64 0, .int .i64 0, .string ⟨#[]⟩, .string ⟨#[]⟩]) 30 from cc108.blk Fg9.out nin_nil)
            clear C0 OL Fg9
            have C0 := C0'; clear C0'
            have OL := OL'; clear OL'
            have Fg9 := Fg9'; clear Fg9'
            clear cc108
            refine hK107 _ _ ?_; clear hK107 K107
            (try simp only [zP, zN, zA, zB, zC])
            refine pu_ (v := .int .i64 M) (y_move rfl (by rfl) (by rfl)) ?_
            (try simp only [zP, zN, zA, zB, zC])
            refine pu_ (v := .int .i64 k) (y_move rfl (by rfl) (by rfl)) ?_
            (try simp only [zP, zN, zA, zB, zC])
            refine pu_ (v := .int .i64 (M - k)) (y_run (by rfl) (fun W => by have d := W1.out; go_simp)) ?_
            (try simp only [zP, zN, zA, zB, zC])
            refine pu_ (v := .int .i64 (M - k - 1)) (y_run (by rfl) (fun W => by have d := W2.out; go_simp)) ?_
            (try simp only [zP, zN, zA, zB, zC])
            refine pu_ (v := .bool false) (y_run (by rfl) (fun W => by go_simp)) ?_
            (try simp only [zP, zN, zA, zB, zC])
            refine nl_ (hK106 _ _ ?_); clear hK106 K106
            refine wp_cond_false rfl ?_
            refine wp_skip ?_
            refine ib_norm ?_
            refine th_norm (hK53 _ _ ?_); try clear hK53 K53
            refine r_ ?_
            refine pu_ (v := .int .i64 k) (y_move rfl (by rfl) (by rfl)) ?_
            (try simp only [zP, zN, zA, zB, zC])
            refine pu_ (v := .int .i64 (k + 1 : Nat)) (y_run (by rfl) (fun W => by have d := WA.out; go_simp)) ?_
            (try simp only [zP, zN, zA, zB, zC])
            refine pu_ (v := .int .i64 (k + 1 : Nat)) (y_assign rfl (by rfl) (by rfl)) ?_
            (try simp only [zP, zN, zA, zB, zC])
            refine nl_ ?_
            exact th_norm (hK50 (kq - 1) _ _ (by have := hlt.out; have := hk.out; omega) ⟨k + 1, pre ++ setSt b 2 :: post, _, n, fun us_ => (#[us 0, .slice A1 n1 c1, us 2, us 3, .bool false, .slice (some ⟨gv, 0, none⟩) n cv, us 6, .int .i64 M, .int .i64 (k + 1 : Nat), .pointer (some ⟨g9, 0, none⟩), .bool true, .int .i64 pre.length, us 12, us 13, us 14, us 15, us 16, us 17, us 18, us 19, us 20, us 21, us 22, us 23, us 24, us 25, us 26, us 27, us 28, us 29, us 30, us 31, us 32, us 33, us 34, us 35, us 36, us 37, us 38, us 39, us 40, us 41, us 42, us 43, us 44, us 45, us 46, us 47, us 48, us 49, .int .i64 k, .int .i64 (k + 1 : Nat), us 52, us 53, us 54, us 55, us 56, us 57, us 58, .int .i64 n, .int .i64 j, .bool false, us 62, us 63, us 64, us 65, us 66, us 67, us 68, us 69, us 70, us 71, us 72, .bool true, .bool false, .bool false, .int .i64 pre.length, .bool false, .bool false, .bool false, .slice A1 n1 c1, .slice (some ⟨gv, 0, none⟩) n cv, .int .i64 pre.length, .pointer (some ⟨gv, pre.length * 4, none⟩), .pointer (some ⟨gv, pre.length * 4 + 1, none⟩), .int .i64 b.x.f1, .bool false, .bool false, .bool false, .pointer (some ⟨g9, 0, none⟩), .int .i64 10, .bool true, .slice (some ⟨gv, 0, none⟩) n cv, .int .i64 pre.length, .pointer (some ⟨gv, pre.length * 4, none⟩), .pointer (some ⟨gv, pre.length * 4 + 2, none⟩), .int .i64 b.x.f2, .bool true, .bool false, .bool false, .pointer (some ⟨g9, 0, none⟩), .int .i64 10, .bool true, .slice (some ⟨gv, 0, none⟩) n cv, .int .i64 pre.length, .pointer (some ⟨gv, pre.length * 4, none⟩), .pointer (some ⟨gv, pre.length * 4 + 2, none⟩), us 107, us 108, us 109, us 110, us 111, us 112, us 113, us 114, us 115, us 116, .slice (some ⟨gv, 0, none⟩) n cv, .slice A1 n1 c1, .int .i64 (M - k - 1), .int .i64 M, .int .i64 k, .int .i64 (M - k), .int .i64 (M - k - 1), .bool false, us 125, us 126, us 127, us 128, us 129, us 130, us 131, us 132, us 133, us 134, us 135, us 136, us 137, us 138, us 139] : Array Value).getD us_ undef, rfl, C0, OL, Lib.hid ⟨by have hLf := lf_halt (post := post) hpre.out hbo.out hst.out; have hk2 := hk.out.1; push_cast; omega, by have := hk.out; have := hlt.out; omega⟩, Lib.hid ⟨by have := hn.out.1; simpa using this, hn.out.2⟩, Lib.hid (nodup_halt hnd.out), HKB2⟩)
        · have hst := Lib.hid hs
          have HS := Lib.hid (show stepOf (Fo ((pre ++ b :: post).map (·.x)) l1) = (11, b.x.f0, true) by rw [hF.out]; simp [stepOf, hs])
          have D97 := Lib.hid (show (b.x.f2 == 1) = false from beq_eq_false_iff_ne.2 hs)
          clear hs
          refine s_ (fun K110 hK110 => ?_)
          refine pu_ (v := .slice (some ⟨gv, 0, none⟩) n cv) (y_move rfl (by rfl) (by rfl)) ?_
          (try simp only [zP, zN, zA, zB, zC])
          refine pu_ (v := .slice A1 n1 c1) (y_move rfl (by rfl) (by rfl)) ?_
          (try simp only [zP, zN, zA, zB, zC])
          refine ef_ (fun K111 hK111 => ?_)
          refine e_call Try.func9 (by kernel_rfl) rfl #[.slice (some ⟨gv, 0, none⟩) n cv, .slice A1 n1 c1] (by rfl) rfl rfl (by first | rfl | (simp only [List.map_toArray, List.map_cons, List.map_nil]; first | done | rfl)) (next9 (w0 := w) OL.out hn.out.1 hn.out.2 hKB.out C0.out HU.out HS.out) ?_
          rintro en w113 ⟨rfl, cc112⟩
          refine ⟨_, rfl, ?_⟩
          have C0' := Lib.hid (show Ch [] w w113 from C0.out.trans' cc112 (fun x hx => absurd hx (by simp)))
          have OL' := Lib.hid (show OwnS w113 w.heap.size 28 4 (.slice (some ⟨gv, 0, none⟩) n cv) (n) ((pre ++ b :: post).flatMap bxC) from OL.out.ch cc112 rnin_nil)
          clear C0 OL
          have C0 := C0'; clear C0'
          have OL := OL'; clear OL'
          clear cc112
          refine hK111 _ _ ?_; clear hK111 K111
          (try simp only [zP, zN, zA, zB, zC])
          refine pu_ (v := .tuple #[.agg #[.int .i64 11, .int .i64 b.x.f0, .int .i64 0, .int .i64 0, .int .i64 0, .int .i64 0, .string ⟨#[]⟩, .string ⟨#[]⟩], .bool true]) (y_move rfl (by rfl) (by rfl)) ?_
          (try simp only [zP, zN, zA, zB, zC])
          refine pu_ (v := .agg #[.int .i64 11, .int .i64 b.x.f0, .int .i64 0, .int .i64 0, .int .i64 0, .int .i64 0, .string ⟨#[]⟩, .string ⟨#[]⟩]) (y_run (by rfl) (fun W => by go_simp)) ?_
          (try simp only [zP, zN, zA, zB, zC])
          refine pu_ (v := .bool true) (y_run (by rfl) (fun W => by go_simp)) ?_
          (try simp only [zP, zN, zA, zB, zC])
          refine ef_ (fun K114 hK114 => ?_)
          refine e_alloc (by rfl) rfl rfl (cs := #[.int .i64 0, .int .i64 0, .int .i64 0, .int .i64 0, .int .i64 0, .int .i64 0, .string ⟨#[]⟩, .string ⟨#[]⟩]) (by kernel_rfl) ?_
          rintro g9 w115 HG116 B117 C118
          have nw119 := Lib.hid (show w.heap.size ≤ g9 by have := C0.out.size; have := HG116.out; omega)
          have C0' := Lib.hid (show Ch [] w w115 from C0.out.trans' C118 (fun x hx => absurd hx (by simp)))
          have OL' := Lib.hid (show OwnS w115 w.heap.size 28 4 (.slice (some ⟨gv, 0, none⟩) n cv) (n) ((pre ++ b :: post).flatMap bxC) from OL.out.ch C118 rnin_nil)
          clear C0 OL
          have C0 := C0'; clear C0'
          have OL := OL'; clear OL'
          have Fg9 := Lib.hid (show Blk w115 g9 (#[.int .i64 0, .int .i64 0, .int .i64 0, .int .i64 0, .int .i64 0, .int .i64 0, .string ⟨#[]⟩, .string ⟨#[]⟩]) 30 from B117); clear B117 C118
          refine hK114 _ _ ?_; clear hK114 K114
          (try simp only [zP, zN, zA, zB, zC])
          refine ef_ (fun K120 hK120 => ?_)
          refine e_storeN (cells := #[.int .i64 11, .int .i64 b.x.f0, .int .i64 0, .int .i64 0, .int .i64 0, .int .i64 0, .string ⟨#[]⟩, .string ⟨#[]⟩]) (by rfl) rfl rfl (by rfl) (by rfl) Fg9.out (by kernel_rfl) (by rfl) (ones_cons rfl (ones_cons rfl (ones_cons rfl (ones_cons rfl (ones_cons rfl (ones_cons rfl (ones_cons rfl (ones_cons rfl ones_nil)))))))) ?_
          rintro w121 B122 C123
          have C0' := Lib.hid (show Ch [] w w121 from C0.out.trans' C123 (inw_cons (.inr nw119.out) inw_nil))
          have OL' := Lib.hid (show OwnS w121 w.heap.size 28 4 (.slice (some ⟨gv, 0, none⟩) n cv) (n) ((pre ++ b :: post).flatMap bxC) from OL.out.ch C123 (rnin_cons (OL.out.ne Fg9.out (by decide)) rnin_nil))
          clear C0 OL
          have C0 := C0'; clear C0'
          have OL := OL'; clear OL'
          clear Fg9; have Fg9 := Lib.hid (show Blk w121 g9 (#[.int .i64 11, .int .i64 b.x.f0, .int .i64 0, .int .i64 0, .int .i64 0, .int .i64 0, .string ⟨#[]⟩, .string ⟨#[]⟩]) 30 from B122); clear B122 C123
          refine hK120 _ _ ?_; clear hK120 K120
          (try simp only [zP, zN, zA, zB, zC])
          refine pu_ (v := .bool true) (y_assign rfl (by rfl) (by rfl)) ?_
          (try simp only [zP, zN, zA, zB, zC])
          refine nl_ (hK110 _ _ ?_); clear hK110 K110
          refine s_ (fun K124 hK124 => ?_)
          refine pu_ (v := .int .i64 (-1)) (y_assign rfl (by rfl) (by rfl)) ?_
          (try simp only [zP, zN, zA, zB, zC])
          refine nl_ (hK124 _ _ ?_); clear hK124 K124
          refine sq_ (fun K125 hK125 => ?_)
          refine s_ (fun K126 hK126 => ?_)
          refine pu_ (v := .slice (some ⟨gv, 0, none⟩) n cv) (y_move rfl (by rfl) (by rfl)) ?_
          (try simp only [zP, zN, zA, zB, zC])
          refine pu_ (v := .int .i64 n) (y_run (by rfl) (fun W => by go_simp)) ?_
          (try simp only [zP, zN, zA, zB, zC])
          refine pu_ (v := .int .i64 0) (y_move rfl (by rfl) (by rfl)) ?_
          (try simp only [zP, zN, zA, zB, zC])
          refine nl_ (hK126 _ _ ?_); clear hK126 K126
          refine wp_block ?_
          refine loopk_ (fun (jq : Nat) (a' : Act) (w' : World) => ∃ (j : Nat), ∃ (m : Int), ∃ (us : Nat → Value), a' = ⟨#[us 0, .slice A1 n1 c1, us 2, us 3, .bool false, .slice (some ⟨gv, 0, none⟩) n cv, us 6, .int .i64 M, .int .i64 k, .pointer (some ⟨g9, 0, none⟩), .bool true, .int .i64 m, us 12, us 13, us 14, us 15, us 16, us 17, us 18, us 19, us 20, us 21, us 22, us 23, us 24, us 25, us 26, us 27, us 28, us 29, us 30, us 31, us 32, us 33, us 34, us 35, us 36, us 37, us 38, us 39, us 40, us 41, us 42, us 43, us 44, us 45, us 46, us 47, us 48, us 49, us 50, us 51, us 52, us 53, us 54, us 55, us 56, us 57, us 58, .int .i64 n, .int .i64 j, us 61, us 62, us 63, us 64, us 65, us 66, us 67, us 68, us 69, us 70, us 71, us 72, us 73, us 74, us 75, us 76, us 77, us 78, us 79, us 80, us 81, us 82, us 83, us 84, us 85, us 86, us 87, us 88, us 89, us 90, us 91, us 92, us 93, us 94, us 95, us 96, us 97, us 98, us 99, us 100, us 101, us 102, us 103, us 104, us 105, us 106, us 107, us 108, us 109, us 110, us 111, us 112, us 113, us 114, us 115, us 116, us 117, us 118, us 119, us 120, us 121, us 122, us 123, us 124, us 125, us 126, us 127, us 128, us 129, us 130, us 131, us 132, us 133, us 134, us 135, us 136, us 137, us 138, us 139], []⟩ ∧ Hid (Ch [] w w') ∧ Hid (OwnS w' w.heap.size 28 4 (.slice (some ⟨gv, 0, none⟩) n cv) (n) ((pre ++ b :: post).flatMap bxC)) ∧ Hid (Blk w' g9 (#[.int .i64 11, .int .i64 b.x.f0, .int .i64 0, .int .i64 0, .int .i64 0, .int .i64 0, .string ⟨#[]⟩, .string ⟨#[]⟩]) 30) ∧ Hid (j ≤ n ∧ jq + j = n) ∧ Hid (m = if pre.length < j then (pre.length : Int) else -1)) (n) (⟨0, -1, fun us_ => (#[us 0, .slice A1 n1 c1, us 2, us 3, .bool false, .slice (some ⟨gv, 0, none⟩) n cv, us 6, .int .i64 M, .int .i64 k, .pointer (some ⟨g9, 0, none⟩), .bool true, .int .i64 (-1), us 12, us 13, us 14, us 15, us 16, us 17, us 18, us 19, us 20, us 21, us 22, us 23, us 24, us 25, us 26, us 27, us 28, us 29, us 30, us 31, us 32, us 33, us 34, us 35, us 36, us 37, us 38, us 39, us 40, us 41, us 42, .int .i64 k, .int .i64 M, .bool true, .bool true, .int .i64 k, .bool true, .bool true, us 50, us 51, .tuple #[.agg #[.int .i64 11, .int .i64 b.x.f0, .int .i64 0, .int .i64 0, .int .i64 0, .int .i64 0, .string ⟨#[]⟩, .string ⟨#[]⟩], .bool true], .slice (some ⟨gv, 0, none⟩) n cv, .slice A1 n1 c1, .tuple #[.agg #[.int .i64 11, .int .i64 b.x.f0, .int .i64 0, .int .i64 0, .int .i64 0, .int .i64 0, .string ⟨#[]⟩, .string ⟨#[]⟩], .bool true], .agg #[.int .i64 11, .int .i64 b.x.f0, .int .i64 0, .int .i64 0, .int .i64 0, .int .i64 0, .string ⟨#[]⟩, .string ⟨#[]⟩], .bool true, .slice (some ⟨gv, 0, none⟩) n cv, .int .i64 n, .int .i64 0, us 61, us 62, us 63, us 64, us 65, us 66, us 67, us 68, us 69, us 70, us 71, us 72, us 73, us 74, us 75, us 76, us 77, us 78, us 79, us 80, us 81, us 82, us 83, us 84, us 85, us 86, us 87, us 88, us 89, us 90, us 91, us 92, us 93, us 94, us 95, us 96, us 97, us 98, us 99, us 100, us 101, us 102, us 103, us 104, us 105, us 106, us 107, us 108, us 109, us 110, us 111, us 112, us 113, us 114, us 115, us 116, us 117, us 118, us 119, us 120, us 121, us 122, us 123, us 124, us 125, us 126, us 127, us 128, us 129, us 130, us 131, us 132, us 133, us 134, us 135, us 136, us 137, us 138, us 139] : Array Value).getD us_ undef, rfl, C0, OL, Fg9, Lib.hid ⟨by omega, by omega⟩, Lib.hid (by rw [if_neg (by omega)])⟩) ?_
          rintro jq _ w127 ⟨j, m, us, rfl, C0, OL, Fg9, hj, hm⟩ K128 hK128
          rcases (show (j < n ∧ j = pre.length) ∨ (j < n ∧ j ≠ pre.length) ∨ j = n by have := hj.out; omega) with h | h | h
          · have hjl := Lib.hid (show j < n by omega)
            have hjp := Lib.hid h.2
            have D61 := Lib.hid (show j < n by omega)
            have WJ := Lib.hid (show IntKind.i64.wrap ((j : Int) + 1) = ((j + 1 : Nat) : Int) by rw [wr64 (by have := hn.out.2; omega)]; omega)
            have D65 := Lib.hid (show (j : Int) < (n : Int) by omega)
            obtain ⟨bj, hbj0⟩ : ∃ c, (pre ++ b :: post)[j]? = some c := ⟨_, List.getElem?_eq_getElem (by rw [← hn.out.1]; omega)⟩
            have hbj := Lib.hid hbj0
            have D70 := Lib.hid (show (bj.x.f0 == b.x.f0) = true by rw [h.2, hbp.out] at hbj0; injection hbj0 with e; rw [e]; exact beq_self_eq_true _)
            clear h hbj0
            refine s_ (fun K129 hK129 => ?_)
            refine pu_ (v := .bool true) (y_run (by rfl) (fun W => by have d := D61.out; go_simp)) ?_
            (try simp only [zP, zN, zA, zB, zC])
            refine nl_ (hK129 _ _ ?_); clear hK129 K129
            refine sq_ (fun K130 hK130 => ?_)
            refine wp_cond_true rfl ?_
            refine wp_skip ?_
            refine th_norm (hK130 _ _ ?_); try clear hK130 K130
            refine sq_ (fun K131 hK131 => ?_)
            refine wp_block ?_
            refine s_ (fun K132 hK132 => ?_)
            refine pu_ (v := .int .i64 j) (y_move rfl (by rfl) (by rfl)) ?_
            (try simp only [zP, zN, zA, zB, zC])
            refine pu_ (v := .int .i64 j) (y_assign rfl (by rfl) (by rfl)) ?_
            (try simp only [zP, zN, zA, zB, zC])
            refine nl_ (hK132 _ _ ?_); clear hK132 K132
            refine sq_ (fun K133 hK133 => ?_)
            refine startk_ (S := fun W => OwnS W w.heap.size 28 4 (.slice (some ⟨gv, 0, none⟩) n cv) (n) ((pre ++ b :: post).flatMap bxC) ∧ Blk W g9 (#[.int .i64 11, .int .i64 b.x.f0, .int .i64 0, .int .i64 0, .int .i64 0, .int .i64 0, .string ⟨#[]⟩, .string ⟨#[]⟩]) 30 ∧ True) (ds := []) #[false, false, false, false, false, false, false, false] (by kernel_rfl) rfl rfl (fun W c => ⟨OL.out.ch c rnin_nil, c.blk Fg9.out nin_nil, trivial⟩) (fun w134 C135 hS136 => ?_)
            have C0' := Lib.hid (show Ch [] w w134 from C0.out.trans' C135 (fun x hx => absurd hx (by simp)))
            have OL' := Lib.hid (show OwnS w134 w.heap.size 28 4 (.slice (some ⟨gv, 0, none⟩) n cv) (n) ((pre ++ b :: post).flatMap bxC) from OL.out.ch C135 rnin_nil)
            have Fg9' := Lib.hid (show Blk w134 g9 (#[.int .i64 11, .int .i64 b.x.f0, .int .i64 0, .int .i64 0, .int .i64 0, .int .i64 0, .string ⟨#[]⟩, .string ⟨#[]⟩]) 30 from C135.blk Fg9.out nin_nil)
            clear C0 OL Fg9
            have C0 := C0'; clear C0'
            have OL := OL'; clear OL'
            have Fg9 := Fg9'; clear Fg9'
            clear C135
            refine pure_ (i := 0) (N := some 63) (v := .slice (some ⟨gv, 0, none⟩) n cv) #[true, false, false, false, false, false, false, false] rfl rfl (by kernel_rfl) (fun c a w h => hP c a _ _ w h) (y_move rfl (by rfl) (by rfl)) rfl ?_
            (try simp only [zP, zN, zA, zB, zC])
            refine pure_ (i := 1) (N := some 64) (v := .int .i64 j) #[true, true, false, false, false, false, false, false] rfl rfl (by kernel_rfl) (fun c a w h => hP c a _ _ w h) (y_move rfl (by rfl) (by rfl)) rfl ?_
            (try simp only [zP, zN, zA, zB, zC])
            refine pure_ (i := 2) (N := some 65) (v := .pointer (some ⟨gv, j * 4, none⟩)) #[true, true, true, false, false, false, false, false] rfl rfl (by kernel_rfl) (fun c a w h => hP c a _ _ w h) (y_run (by rfl) (fun W => by have d := D65.out; go_simp)) rfl ?_
            (try simp only [zP, zN, zA, zB, zC])
            refine pure_ (i := 3) (N := some 66) (v := .pointer (some ⟨gv, j * 4, none⟩)) #[true, true, true, true, false, false, false, false] rfl rfl (by kernel_rfl) (fun c a w h => hP c a _ _ w h) (y_run (by rfl) (fun W => by go_simp)) rfl ?_
            (try simp only [zP, zN, zA, zB, zC])
            refine take_ (i := 4) (N := some 67) (v := .int .i64 bj.x.f0) #[true, true, true, true, true, false, false, false] rfl rfl (by kernel_rfl) (fun c a w h => hP c a _ _ w h) (y_load (p := ⟨gv, j * 4, none⟩) rfl (by rfl) (by rfl) (fun W hS => run_load_one (bx_at hbj.out hS.1 0 rfl) Try.underlying3 rfl)) hS136 rfl ?_
            (try simp only [zP, zN, zA, zB, zC])
            refine pure_ (i := 5) (N := some 68) (v := .pointer (some ⟨g9, 1, none⟩)) #[true, true, true, true, true, true, false, false] rfl rfl (by kernel_rfl) (fun c a w h => hP c a _ _ w h) (y_run (by rfl) (fun W => by go_simp)) rfl ?_
            (try simp only [zP, zN, zA, zB, zC])
            refine take_ (i := 6) (N := some 69) (v := .int .i64 b.x.f0) #[true, true, true, true, true, true, true, false] rfl rfl (by kernel_rfl) (fun c a w h => hP c a _ _ w h) (y_load (p := ⟨g9, 1, none⟩) rfl (by rfl) (by rfl) (fun W hS => run_load_one ((hS.2.1.cell 1).trans rfl) Try.underlying3 rfl)) hS136 rfl ?_
            (try simp only [zP, zN, zA, zB, zC])
            refine pure_ (i := 7) (N := some 70) (v := .bool true) #[true, true, true, true, true, true, true, true] rfl rfl (by kernel_rfl) (fun c a w h => hP c a _ _ w h) (y_run (by rfl) (fun W => by have d := D70.out; go_simp)) rfl ?_
            (try simp only [zP, zN, zA, zB, zC])
            refine done_ (by kernel_rfl) (th_norm (hK133 _ _ ?_)); clear hK133 K133
            refine wp_cond_true rfl ?_
            refine r_ ?_
            refine pu_ (v := .int .i64 j) (y_move rfl (by rfl) (by rfl)) ?_
            (try simp only [zP, zN, zA, zB, zC])
            refine pu_ (v := .int .i64 j) (y_assign rfl (by rfl) (by rfl)) ?_
            (try simp only [zP, zN, zA, zB, zC])
            refine nl_ ?_
            refine ib_norm ?_
            refine th_norm (hK131 _ _ ?_); try clear hK131 K131
            refine r_ ?_
            refine pu_ (v := .int .i64 (j + 1 : Nat)) (y_run (by rfl) (fun W => by have d := WJ.out; go_simp)) ?_
            (try simp only [zP, zN, zA, zB, zC])
            refine pu_ (v := .int .i64 (j + 1 : Nat)) (y_move rfl (by rfl) (by rfl)) ?_
            (try simp only [zP, zN, zA, zB, zC])
            refine nl_ ?_
            exact th_norm (hK128 (jq - 1) _ _ (by have := hjl.out; have := hj.out; omega) ⟨j + 1, j, fun us_ => (#[us 0, .slice A1 n1 c1, us 2, us 3, .bool false, .slice (some ⟨gv, 0, none⟩) n cv, us 6, .int .i64 M, .int .i64 k, .pointer (some ⟨g9, 0, none⟩), .bool true, .int .i64 j, .int .i64 j, us 13, us 14, us 15, us 16, us 17, us 18, us 19, us 20, us 21, us 22, us 23, us 24, us 25, us 26, us 27, us 28, us 29, us 30, us 31, us 32, us 33, us 34, us 35, us 36, us 37, us 38, us 39, us 40, us 41, us 42, us 43, us 44, us 45, us 46, us 47, us 48, us 49, us 50, us 51, us 52, us 53, us 54, us 55, us 56, us 57, us 58, .int .i64 n, .int .i64 (j + 1 : Nat), .bool true, .int .i64 j, .slice (some ⟨gv, 0, none⟩) n cv, .int .i64 j, .pointer (some ⟨gv, j * 4, none⟩), .pointer (some ⟨gv, j * 4, none⟩), .int .i64 bj.x.f0, .pointer (some ⟨g9, 1, none⟩), .int .i64 b.x.f0, .bool true, .int .i64 j, .int .i64 (j + 1 : Nat), us 73, us 74, us 75, us 76, us 77, us 78, us 79, us 80, us 81, us 82, us 83, us 84, us 85, us 86, us 87, us 88, us 89, us 90, us 91, us 92, us 93, us 94, us 95, us 96, us 97, us 98, us 99, us 100, us 101, us 102, us 103, us 104, us 105, us 106, us 107, us 108, us 109, us 110, us 111, us 112, us 113, us 114, us 115, us 116, us 117, us 118, us 119, us 120, us 121, us 122, us 123, us 124, us 125, us 126, us 127, us 128, us 129, us 130, us 131, us 132, us 133, us 134, us 135, us 136, us 137, us 138, us 139] : Array Value).getD us_ undef, rfl, C0, OL, Fg9, Lib.hid ⟨by have := hjl.out; omega, by have := hjl.out; have := hj.out; omega⟩, Lib.hid (by have := hjp.out; rw [if_pos (by omega)]; omega)⟩)
          · have hjl := Lib.hid (show j < n by omega)
            have hjp := Lib.hid h.2
            have D61 := Lib.hid (show j < n by omega)
            have WJ := Lib.hid (show IntKind.i64.wrap ((j : Int) + 1) = ((j + 1 : Nat) : Int) by rw [wr64 (by have := hn.out.2; omega)]; omega)
            have D65 := Lib.hid (show (j : Int) < (n : Int) by omega)
            obtain ⟨bj, hbj0⟩ : ∃ c, (pre ++ b :: post)[j]? = some c := ⟨_, List.getElem?_eq_getElem (by rw [← hn.out.1]; omega)⟩
            have hbj := Lib.hid hbj0
            have D70 := Lib.hid (show (bj.x.f0 == b.x.f0) = false from beq_eq_false_iff_ne.2 fun e => h.2 (nodup_at hnd.out hbj0 e))
            clear h hbj0
            refine s_ (fun K137 hK137 => ?_)
            refine pu_ (v := .bool true) (y_run (by rfl) (fun W => by have d := D61.out; go_simp)) ?_
            (try simp only [zP, zN, zA, zB, zC])
            refine nl_ (hK137 _ _ ?_); clear hK137 K137
            refine sq_ (fun K138 hK138 => ?_)
            refine wp_cond_true rfl ?_
            refine wp_skip ?_
            refine th_norm (hK138 _ _ ?_); try clear hK138 K138
            refine sq_ (fun K139 hK139 => ?_)
            refine wp_block ?_
            refine s_ (fun K140 hK140 => ?_)
            refine pu_ (v := .int .i64 j) (y_move rfl (by rfl) (by rfl)) ?_
            (try simp only [zP, zN, zA, zB, zC])
            refine pu_ (v := .int .i64 j) (y_assign rfl (by rfl) (by rfl)) ?_
            (try simp only [zP, zN, zA, zB, zC])
            refine nl_ (hK140 _ _ ?_); clear hK140 K140
            refine sq_ (fun K141 hK141 => ?_)
            refine startk_ (S := fun W => OwnS W w.heap.size 28 4 (.slice (some ⟨gv, 0, none⟩) n cv) (n) ((pre ++ b :: post).flatMap bxC) ∧ Blk W g9 (#[.int .i64 11, .int .i64 b.x.f0, .int .i64 0, .int .i64 0, .int .i64 0, .int .i64 0, .string ⟨#[]⟩, .string ⟨#[]⟩]) 30 ∧ True) (ds := []) #[false, false, false, false, false, false, false, false] (by kernel_rfl) rfl rfl (fun W c => ⟨OL.out.ch c rnin_nil, c.blk Fg9.out nin_nil, trivial⟩) (fun w142 C143 hS144 => ?_)
            have C0' := Lib.hid (show Ch [] w w142 from C0.out.trans' C143 (fun x hx => absurd hx (by simp)))
            have OL' := Lib.hid (show OwnS w142 w.heap.size 28 4 (.slice (some ⟨gv, 0, none⟩) n cv) (n) ((pre ++ b :: post).flatMap bxC) from OL.out.ch C143 rnin_nil)
            have Fg9' := Lib.hid (show Blk w142 g9 (#[.int .i64 11, .int .i64 b.x.f0, .int .i64 0, .int .i64 0, .int .i64 0, .int .i64 0, .string ⟨#[]⟩, .string ⟨#[]⟩]) 30 from C143.blk Fg9.out nin_nil)
            clear C0 OL Fg9
            have C0 := C0'; clear C0'
            have OL := OL'; clear OL'
            have Fg9 := Fg9'; clear Fg9'
            clear C143
            refine pure_ (i := 0) (N := some 63) (v := .slice (some ⟨gv, 0, none⟩) n cv) #[true, false, false, false, false, false, false, false] rfl rfl (by kernel_rfl) (fun c a w h => hP c a _ _ w h) (y_move rfl (by rfl) (by rfl)) rfl ?_
            (try simp only [zP, zN, zA, zB, zC])
            refine pure_ (i := 1) (N := some 64) (v := .int .i64 j) #[true, true, false, false, false, false, false, false] rfl rfl (by kernel_rfl) (fun c a w h => hP c a _ _ w h) (y_move rfl (by rfl) (by rfl)) rfl ?_
            (try simp only [zP, zN, zA, zB, zC])
            refine pure_ (i := 2) (N := some 65) (v := .pointer (some ⟨gv, j * 4, none⟩)) #[true, true, true, false, false, false, false, false] rfl rfl (by kernel_rfl) (fun c a w h => hP c a _ _ w h) (y_run (by rfl) (fun W => by have d := D65.out; go_simp)) rfl ?_
            (try simp only [zP, zN, zA, zB, zC])
            refine pure_ (i := 3) (N := some 66) (v := .pointer (some ⟨gv, j * 4, none⟩)) #[true, true, true, true, false, false, false, false] rfl rfl (by kernel_rfl) (fun c a w h => hP c a _ _ w h) (y_run (by rfl) (fun W => by go_simp)) rfl ?_
            (try simp only [zP, zN, zA, zB, zC])
            refine take_ (i := 4) (N := some 67) (v := .int .i64 bj.x.f0) #[true, true, true, true, true, false, false, false] rfl rfl (by kernel_rfl) (fun c a w h => hP c a _ _ w h) (y_load (p := ⟨gv, j * 4, none⟩) rfl (by rfl) (by rfl) (fun W hS => run_load_one (bx_at hbj.out hS.1 0 rfl) Try.underlying3 rfl)) hS144 rfl ?_
            (try simp only [zP, zN, zA, zB, zC])
            refine pure_ (i := 5) (N := some 68) (v := .pointer (some ⟨g9, 1, none⟩)) #[true, true, true, true, true, true, false, false] rfl rfl (by kernel_rfl) (fun c a w h => hP c a _ _ w h) (y_run (by rfl) (fun W => by go_simp)) rfl ?_
            (try simp only [zP, zN, zA, zB, zC])
            refine take_ (i := 6) (N := some 69) (v := .int .i64 b.x.f0) #[true, true, true, true, true, true, true, false] rfl rfl (by kernel_rfl) (fun c a w h => hP c a _ _ w h) (y_load (p := ⟨g9, 1, none⟩) rfl (by rfl) (by rfl) (fun W hS => run_load_one ((hS.2.1.cell 1).trans rfl) Try.underlying3 rfl)) hS144 rfl ?_
            (try simp only [zP, zN, zA, zB, zC])
            refine pure_ (i := 7) (N := some 70) (v := .bool false) #[true, true, true, true, true, true, true, true] rfl rfl (by kernel_rfl) (fun c a w h => hP c a _ _ w h) (y_run (by rfl) (fun W => by have d := D70.out; go_simp)) rfl ?_
            (try simp only [zP, zN, zA, zB, zC])
            refine done_ (by kernel_rfl) (th_norm (hK141 _ _ ?_)); clear hK141 K141
            refine wp_cond_false rfl ?_
            refine wp_skip ?_
            refine ib_norm ?_
            refine th_norm (hK139 _ _ ?_); try clear hK139 K139
            refine r_ ?_
            refine pu_ (v := .int .i64 (j + 1 : Nat)) (y_run (by rfl) (fun W => by have d := WJ.out; go_simp)) ?_
            (try simp only [zP, zN, zA, zB, zC])
            refine pu_ (v := .int .i64 (j + 1 : Nat)) (y_move rfl (by rfl) (by rfl)) ?_
            (try simp only [zP, zN, zA, zB, zC])
            refine nl_ ?_
            exact th_norm (hK128 (jq - 1) _ _ (by have := hjl.out; have := hj.out; omega) ⟨j + 1, m, fun us_ => (#[us 0, .slice A1 n1 c1, us 2, us 3, .bool false, .slice (some ⟨gv, 0, none⟩) n cv, us 6, .int .i64 M, .int .i64 k, .pointer (some ⟨g9, 0, none⟩), .bool true, .int .i64 m, .int .i64 j, us 13, us 14, us 15, us 16, us 17, us 18, us 19, us 20, us 21, us 22, us 23, us 24, us 25, us 26, us 27, us 28, us 29, us 30, us 31, us 32, us 33, us 34, us 35, us 36, us 37, us 38, us 39, us 40, us 41, us 42, us 43, us 44, us 45, us 46, us 47, us 48, us 49, us 50, us 51, us 52, us 53, us 54, us 55, us 56, us 57, us 58, .int .i64 n, .int .i64 (j + 1 : Nat), .bool true, .int .i64 j, .slice (some ⟨gv, 0, none⟩) n cv, .int .i64 j, .pointer (some ⟨gv, j * 4, none⟩), .pointer (some ⟨gv, j * 4, none⟩), .int .i64 bj.x.f0, .pointer (some ⟨g9, 1, none⟩), .int .i64 b.x.f0, .bool false, us 71, .int .i64 (j + 1 : Nat), us 73, us 74, us 75, us 76, us 77, us 78, us 79, us 80, us 81, us 82, us 83, us 84, us 85, us 86, us 87, us 88, us 89, us 90, us 91, us 92, us 93, us 94, us 95, us 96, us 97, us 98, us 99, us 100, us 101, us 102, us 103, us 104, us 105, us 106, us 107, us 108, us 109, us 110, us 111, us 112, us 113, us 114, us 115, us 116, us 117, us 118, us 119, us 120, us 121, us 122, us 123, us 124, us 125, us 126, us 127, us 128, us 129, us 130, us 131, us 132, us 133, us 134, us 135, us 136, us 137, us 138, us 139] : Array Value).getD us_ undef, rfl, C0, OL, Fg9, Lib.hid ⟨by have := hjl.out; omega, by have := hjl.out; have := hj.out; omega⟩, Lib.hid (at_step hm.out hjp.out)⟩)
          · have D61 := Lib.hid (show ¬ j < n by omega)
            have hm2 : m = (pre.length : Int) := by have h1 := hm.out; have h2 := hp.out; rw [if_pos (by omega)] at h1; exact h1
            subst hm2
            clear h
            have D77 := Lib.hid (show ¬ (pre.length : Int) < 0 by omega)
            have D83 := Lib.hid (show (pre.length : Int) < (n : Int) by have := hp.out; omega)
            have HH := Lib.hid (show decide (b.x.f1 ∈ l1) = false by have := hbo.out; unfold isO at this; simpa using this)
            have WP := Lib.hid (show IntKind.i64.wrap ((pre.length : Int) + 1) = ((pre.length + 1 : Nat) : Int) by rw [wr64 (by have := hp.out; have := hn.out.2; omega)]; omega)
            have HKB2 := Lib.hid (show ∀ c ∈ pre ++ post, okB w c from fun c hc => hKB.out c (by rcases List.mem_append.1 hc with h | h <;> simp [h]))
            have hLf := lf_clear (post := post) hpre.out hbo.out hst.out
            have hk2 := hk.out.1
            have HL2 : Hid (twos (Fo ((pre ++ post).map (·.x)) l1) = M - k - 1) := Lib.hid (by change Lf _ _ = _; omega)
            clear hLf hk2
            obtain ⟨A2, c2, hS2, hP2⟩ := part2 OL.out hn.out.1
            have SL2 := Lib.hid hS2
            have PT2 := Lib.hid hP2
            clear hS2 hP2
            have SL1 := Lib.hid (fun W => run_slice_upto (P := Try.prog) (W := W) Try.underlying22 (by kernel_rfl) (sz := 4) ⟨gv, 0, none⟩ pre.length n cv (pre.length : Int) rfl (by have := hp.out; have := hcvn.out; omega))
            have HPP := Lib.hid (show pre.length + post.length ≤ 100 by have h := hn.out; simp at h; omega)
            refine s_ (fun K145 hK145 => ?_)
            refine pu_ (v := .bool false) (y_run (by rfl) (fun W => by have d := D61.out; go_simp)) ?_
            (try simp only [zP, zN, zA, zB, zC])
            refine nl_ (hK145 _ _ ?_); clear hK145 K145
            refine sq_ (fun K146 hK146 => ?_)
            refine wp_cond_false rfl ?_
            refine wp_exit ?_
            refine th_exit ?_
            refine th_exit ?_
            refine ib_exit ?_
            refine th_norm (hK125 _ _ ?_); try clear hK125 K125
            refine sq_ (fun K147 hK147 => ?_)
            refine sq_ (fun K148 hK148 => ?_)
            refine startk_ (S := fun W => OwnS W w.heap.size 28 4 (.slice (some ⟨gv, 0, none⟩) n cv) (n) ((pre ++ b :: post).flatMap bxC) ∧ Blk W g9 (#[.int .i64 11, .int .i64 b.x.f0, .int .i64 0, .int .i64 0, .int .i64 0, .int .i64 0, .string ⟨#[]⟩, .string ⟨#[]⟩]) 30 ∧ True) (ds := []) #[false, false, false, false, false, false, false, false, false, false, false, false, false, false, false, false, false, false, false, false, false, false, false, false, false, false, false] (by kernel_rfl) rfl rfl (fun W c => ⟨OL.out.ch c rnin_nil, c.blk Fg9.out nin_nil, trivial⟩) (fun w149 C150 hS151 => ?_)
            have C0' := Lib.hid (show Ch [] w w149 from C0.out.trans' C150 (fun x hx => absurd hx (by simp)))
            have OL' := Lib.hid (show OwnS w149 w.heap.size 28 4 (.slice (some ⟨gv, 0, none⟩) n cv) (n) ((pre ++ b :: post).flatMap bxC) from OL.out.ch C150 rnin_nil)
            have Fg9' := Lib.hid (show Blk w149 g9 (#[.int .i64 11, .int .i64 b.x.f0, .int .i64 0, .int .i64 0, .int .i64 0, .int .i64 0, .string ⟨#[]⟩, .string ⟨#[]⟩]) 30 from C150.blk Fg9.out nin_nil)
            clear C0 OL Fg9
            have C0 := C0'; clear C0'
            have OL := OL'; clear OL'
            have Fg9 := Fg9'; clear Fg9'
            clear C150
            refine pure_ (i := 0) (N := some 73) (v := .bool true) #[true, false, false, false, false, false, false, false, false, false, false, false, false, false, false, false, false, false, false, false, false, false, false, false, false, false, false] rfl rfl (by kernel_rfl) (fun c a w h => hP c a _ _ w h) (y_move rfl (by rfl) (by rfl)) rfl ?_
            (try simp only [zP, zN, zA, zB, zC])
            refine pure_ (i := 1) (N := some 74) (v := .bool false) #[true, true, false, false, false, false, false, false, false, false, false, false, false, false, false, false, false, false, false, false, false, false, false, false, false, false, false] rfl rfl (by kernel_rfl) (fun c a w h => hP c a _ _ w h) (y_run (by rfl) (fun W => by go_simp)) rfl ?_
            (try simp only [zP, zN, zA, zB, zC])
            refine pure_ (i := 2) (N := some 75) (v := .bool false) #[true, true, true, false, false, false, false, false, false, false, false, false, false, false, false, false, false, false, false, false, false, false, false, false, false, false, false] rfl rfl (by kernel_rfl) (fun c a w h => hP c a _ _ w h) (y_move rfl (by rfl) (by rfl)) rfl ?_
            (try simp only [zP, zN, zA, zB, zC])
            refine pure_ (i := 3) (N := some 76) (v := .int .i64 pre.length) #[true, true, true, true, false, false, false, false, false, false, false, false, false, false, false, false, false, false, false, false, false, false, false, false, false, false, false] rfl rfl (by kernel_rfl) (fun c a w h => hP c a _ _ w h) (y_move rfl (by rfl) (by rfl)) rfl ?_
            (try simp only [zP, zN, zA, zB, zC])
            refine pure_ (i := 4) (N := some 77) (v := .bool false) #[true, true, true, true, true, false, false, false, false, false, false, false, false, false, false, false, false, false, false, false, false, false, false, false, false, false, false] rfl rfl (by kernel_rfl) (fun c a w h => hP c a _ _ w h) (y_run (by rfl) (fun W => by have d := D77.out; go_simp)) rfl ?_
            (try simp only [zP, zN, zA, zB, zC])
            refine pure_ (i := 5) (N := some 78) (v := .bool false) #[true, true, true, true, true, true, false, false, false, false, false, false, false, false, false, false, false, false, false, false, false, false, false, false, false, false, false] rfl rfl (by kernel_rfl) (fun c a w h => hP c a _ _ w h) (y_pick (t := false) (by rfl) rfl (by rfl) (by rfl)) rfl ?_
            (try simp only [zP, zN, zA, zB, zC])
            refine pure_ (i := 6) (N := some 79) (v := .bool false) #[true, true, true, true, true, true, true, false, false, false, false, false, false, false, false, false, false, false, false, false, false, false, false, false, false, false, false] rfl rfl (by kernel_rfl) (fun c a w h => hP c a _ _ w h) (y_move rfl (by rfl) (by rfl)) rfl ?_
            (try simp only [zP, zN, zA, zB, zC])
            refine pure_ (i := 7) (N := some 80) (v := .slice A1 n1 c1) #[true, true, true, true, true, true, true, true, false, false, false, false, false, false, false, false, false, false, false, false, false, false, false, false, false, false, false] rfl rfl (by kernel_rfl) (fun c a w h => hP c a _ _ w h) (y_move rfl (by rfl) (by rfl)) rfl ?_
            (try simp only [zP, zN, zA, zB, zC])
            refine pure_ (i := 8) (N := some 81) (v := .slice (some ⟨gv, 0, none⟩) n cv) #[true, true, true, true, true, true, true, true, true, false, false, false, false, false, false, false, false, false, false, false, false, false, false, false, false, false, false] rfl rfl (by kernel_rfl) (fun c a w h => hP c a _ _ w h) (y_move rfl (by rfl) (by rfl)) rfl ?_
            (try simp only [zP, zN, zA, zB, zC])
            refine pure_ (i := 9) (N := some 82) (v := .int .i64 pre.length) #[true, true, true, true, true, true, true, true, true, true, false, false, false, false, false, false, false, false, false, false, false, false, false, false, false, false, false] rfl rfl (by kernel_rfl) (fun c a w h => hP c a _ _ w h) (y_move rfl (by rfl) (by rfl)) rfl ?_
            (try simp only [zP, zN, zA, zB, zC])
            refine pure_ (i := 10) (N := some 83) (v := .pointer (some ⟨gv, pre.length * 4, none⟩)) #[true, true, true, true, true, true, true, true, true, true, true, false, false, false, false, false, false, false, false, false, false, false, false, false, false, false, false] rfl rfl (by kernel_rfl) (fun c a w h => hP c a _ _ w h) (y_run (by rfl) (fun W => by have d := D83.out; go_simp)) rfl ?_
            (try simp only [zP, zN, zA, zB, zC])
            refine pure_ (i := 11) (N := some 84) (v := .pointer (some ⟨gv, pre.length * 4 + 1, none⟩)) #[true, true, true, true, true, true, true, true, true, true, true, true, false, false, false, false, false, false, false, false, false, false, false, false, false, false, false] rfl rfl (by kernel_rfl) (fun c a w h => hP c a _ _ w h) (y_run (by rfl) (fun W => by go_simp)) rfl ?_
            (try simp only [zP, zN, zA, zB, zC])
            refine take_ (i := 12) (N := some 85) (v := .int .i64 b.x.f1) #[true, true, true, true, true, true, true, true, true, true, true, true, true, false, false, false, false, false, false, false, false, false, false, false, false, false, false] rfl rfl (by kernel_rfl) (fun c a w h => hP c a _ _ w h) (y_load (p := ⟨gv, pre.length * 4 + 1, none⟩) rfl (by rfl) (by rfl) (fun W hS => run_load_one (bx_at hbp.out hS.1 1 rfl) Try.underlying3 rfl)) hS151 rfl ?_
            (try simp only [zP, zN, zA, zB, zC])
            refine one_ (i := 13) (N := some 86) #[true, true, true, true, true, true, true, true, true, true, true, true, true, true, false, false, false, false, false, false, false, false, false, false, false, false, false] rfl rfl (by kernel_rfl) (by simp) (fun K152 hK152 => ?_)
            refine e_call Try.func14 (by kernel_rfl) rfl #[.slice A1 n1 c1, .int .i64 b.x.f1] (by rfl) rfl rfl (by first | rfl | (simp only [List.map_toArray, List.map_cons, List.map_nil]; first | done | rfl)) ((by have h := has14 (w0 := w) b.x.f1 C0.out HU.out; rw [HH.out] at h; exact h)) ?_
            rintro en w154 ⟨rfl, cc153⟩
            refine ⟨_, rfl, ?_⟩
            have C0' := Lib.hid (show Ch [] w w154 from C0.out.trans' cc153 (fun x hx => absurd hx (by simp)))
            have OL' := Lib.hid (show OwnS w154 w.heap.size 28 4 (.slice (some ⟨gv, 0, none⟩) n cv) (n) ((pre ++ b :: post).flatMap bxC) from OL.out.ch cc153 rnin_nil)
            have Fg9' := Lib.hid (show Blk w154 g9 (#[.int .i64 11, .int .i64 b.x.f0, .int .i64 0, .int .i64 0, .int .i64 0, .int .i64 0, .string ⟨#[]⟩, .string ⟨#[]⟩]) 30 from cc153.blk Fg9.out nin_nil)
            clear C0 OL Fg9
            have C0 := C0'; clear C0'
            have OL := OL'; clear OL'
            have Fg9 := Fg9'; clear Fg9'
            clear cc153
            refine hK152.out _ _ ⟨OL.out, Fg9.out, trivial⟩ (fun hS155 => ?_); clear hK152 K152
            (try simp only [zP, zN, zA, zB, zC])
            refine pure_ (i := 14) (N := some 87) (v := .bool false) #[true, true, true, true, true, true, true, true, true, true, true, true, true, true, true, false, false, false, false, false, false, false, false, false, false, false, false] rfl rfl (by kernel_rfl) (fun c a w h => hP c a _ _ w h) (y_pick (t := false) (by rfl) rfl (by rfl) (by rfl)) rfl ?_
            (try simp only [zP, zN, zA, zB, zC])
            refine pure_ (i := 15) (N := some 88) (v := .bool false) #[true, true, true, true, true, true, true, true, true, true, true, true, true, true, true, true, false, false, false, false, false, false, false, false, false, false, false] rfl rfl (by kernel_rfl) (fun c a w h => hP c a _ _ w h) (y_move rfl (by rfl) (by rfl)) rfl ?_
            (try simp only [zP, zN, zA, zB, zC])
            refine pure_ (i := 16) (N := some 89) (v := .pointer (some ⟨g9, 0, none⟩)) #[true, true, true, true, true, true, true, true, true, true, true, true, true, true, true, true, true, false, false, false, false, false, false, false, false, false, false] rfl rfl (by kernel_rfl) (fun c a w h => hP c a _ _ w h) (y_run (by rfl) (fun W => by go_simp)) rfl ?_
            (try simp only [zP, zN, zA, zB, zC])
            refine take_ (i := 17) (N := some 90) (v := .int .i64 11) #[true, true, true, true, true, true, true, true, true, true, true, true, true, true, true, true, true, true, false, false, false, false, false, false, false, false, false] rfl rfl (by kernel_rfl) (fun c a w h => hP c a _ _ w h) (y_load (p := ⟨g9, 0, none⟩) rfl (by rfl) (by rfl) (fun W hS => run_load_one ((hS.2.1.cell 0).trans rfl) Try.underlying3 rfl)) hS155 rfl ?_
            (try simp only [zP, zN, zA, zB, zC])
            refine pure_ (i := 18) (N := some 91) (v := .bool false) #[true, true, true, true, true, true, true, true, true, true, true, true, true, true, true, true, true, true, true, false, false, false, false, false, false, false, false] rfl rfl (by kernel_rfl) (fun c a w h => hP c a _ _ w h) (y_run (by rfl) (fun W => by go_simp)) rfl ?_
            (try simp only [zP, zN, zA, zB, zC])
            refine pure_ (i := 19) (N := some 92) (v := .slice (some ⟨gv, 0, none⟩) n cv) #[true, true, true, true, true, true, true, true, true, true, true, true, true, true, true, true, true, true, true, true, false, false, false, false, false, false, false] rfl rfl (by kernel_rfl) (fun c a w h => hP c a _ _ w h) (y_move rfl (by rfl) (by rfl)) rfl ?_
            (try simp only [zP, zN, zA, zB, zC])
            refine pure_ (i := 20) (N := some 93) (v := .int .i64 pre.length) #[true, true, true, true, true, true, true, true, true, true, true, true, true, true, true, true, true, true, true, true, true, false, false, false, false, false, false] rfl rfl (by kernel_rfl) (fun c a w h => hP c a _ _ w h) (y_move rfl (by rfl) (by rfl)) rfl ?_
            (try simp only [zP, zN, zA, zB, zC])
            refine pure_ (i := 21) (N := some 94) (v := .pointer (some ⟨gv, pre.length * 4, none⟩)) #[true, true, true, true, true, true, true, true, true, true, true, true, true, true, true, true, true, true, true, true, true, true, false, false, false, false, false] rfl rfl (by kernel_rfl) (fun c a w h => hP c a _ _ w h) (y_run (by rfl) (fun W => by have d := D83.out; go_simp)) rfl ?_
            (try simp only [zP, zN, zA, zB, zC])
            refine pure_ (i := 22) (N := some 95) (v := .pointer (some ⟨gv, pre.length * 4 + 2, none⟩)) #[true, true, true, true, true, true, true, true, true, true, true, true, true, true, true, true, true, true, true, true, true, true, true, false, false, false, false] rfl rfl (by kernel_rfl) (fun c a w h => hP c a _ _ w h) (y_run (by rfl) (fun W => by go_simp)) rfl ?_
            (try simp only [zP, zN, zA, zB, zC])
            refine take_ (i := 23) (N := some 96) (v := .int .i64 b.x.f2) #[true, true, true, true, true, true, true, true, true, true, true, true, true, true, true, true, true, true, true, true, true, true, true, true, false, false, false] rfl rfl (by kernel_rfl) (fun c a w h => hP c a _ _ w h) (y_load (p := ⟨gv, pre.length * 4 + 2, none⟩) rfl (by rfl) (by rfl) (fun W hS => run_load_one (bx_at hbp.out hS.1 2 rfl) Try.underlying3 rfl)) hS155 rfl ?_
            (try simp only [zP, zN, zA, zB, zC])
            refine pure_ (i := 24) (N := some 97) (v := .bool false) #[true, true, true, true, true, true, true, true, true, true, true, true, true, true, true, true, true, true, true, true, true, true, true, true, true, false, false] rfl rfl (by kernel_rfl) (fun c a w h => hP c a _ _ w h) (y_run (by rfl) (fun W => by have d := D97.out; go_simp)) rfl ?_
            (try simp only [zP, zN, zA, zB, zC])
            refine pure_ (i := 25) (N := some 98) (v := .bool false) #[true, true, true, true, true, true, true, true, true, true, true, true, true, true, true, true, true, true, true, true, true, true, true, true, true, true, false] rfl rfl (by kernel_rfl) (fun c a w h => hP c a _ _ w h) (y_run (by rfl) (fun W => by go_simp)) rfl ?_
            (try simp only [zP, zN, zA, zB, zC])
            refine pure_ (i := 26) (N := some 99) (v := .bool false) #[true, true, true, true, true, true, true, true, true, true, true, true, true, true, true, true, true, true, true, true, true, true, true, true, true, true, true] rfl rfl (by kernel_rfl) (fun c a w h => hP c a _ _ w h) (y_pick (t := false) (by rfl) rfl (by rfl) (by rfl)) rfl ?_
            (try simp only [zP, zN, zA, zB, zC])
            refine done_ (by kernel_rfl) (th_norm (hK148 _ _ ?_)); clear hK148 K148
            refine wp_cond_false rfl ?_
            refine wp_skip ?_
            refine th_norm (hK147 _ _ ?_); try clear hK147 K147
            refine sq_ (fun K156 hK156 => ?_)
            refine s_ (fun K157 hK157 => ?_)
            refine pu_ (v := .pointer (some ⟨g9, 0, none⟩)) (y_run (by rfl) (fun W => by go_simp)) ?_
            (try simp only [zP, zN, zA, zB, zC])
            refine ld_ (v := .int .i64 11) rfl (by rfl) (by rfl) (run_load_one ((Fg9.out.cell 0).trans rfl) Try.underlying3 rfl) ?_
            (try simp only [zP, zN, zA, zB, zC])
            refine pu_ (v := .bool false) (y_run (by rfl) (fun W => by go_simp)) ?_
            (try simp only [zP, zN, zA, zB, zC])
            refine nl_ (hK157 _ _ ?_); clear hK157 K157
            refine wp_cond_false rfl ?_
            refine startk_ (S := fun W => True) (ds := []) #[false, false, false, false, false, false, false, false, false, false, false] (by kernel_rfl) rfl rfl (fun W c => trivial) (fun w158 C159 hS160 => ?_)
            have C0' := Lib.hid (show Ch [] w w158 from C0.out.trans' C159 (fun x hx => absurd hx (by simp)))
            have OL' := Lib.hid (show OwnS w158 w.heap.size 28 4 (.slice (some ⟨gv, 0, none⟩) n cv) (n) ((pre ++ b :: post).flatMap bxC) from OL.out.ch C159 rnin_nil)
            have Fg9' := Lib.hid (show Blk w158 g9 (#[.int .i64 11, .int .i64 b.x.f0, .int .i64 0, .int .i64 0, .int .i64 0, .int .i64 0, .string ⟨#[]⟩, .string ⟨#[]⟩]) 30 from C159.blk Fg9.out nin_nil)
            clear C0 OL Fg9
            have C0 := C0'; clear C0'
            have OL := OL'; clear OL'
            have Fg9 := Fg9'; clear Fg9'
            clear C159
            refine pure_ (i := 1) (N := some 108) (v := .slice (some ⟨gv, 0, none⟩) n cv) #[false, true, false, false, false, false, false, false, false, false, false] rfl rfl (by kernel_rfl) (fun c a w h => hP c a _ _ w h) (y_move rfl (by rfl) (by rfl)) rfl ?_
            (try simp only [zP, zN, zA, zB, zC])
            refine pure_ (i := 2) (N := some 109) (v := .int .i64 pre.length) #[false, true, true, false, false, false, false, false, false, false, false] rfl rfl (by kernel_rfl) (fun c a w h => hP c a _ _ w h) (y_move rfl (by rfl) (by rfl)) rfl ?_
            (try simp only [zP, zN, zA, zB, zC])
            refine pure_ (i := 3) (N := some 110) (v := .slice (some ⟨gv, 0, none⟩) pre.length cv) #[false, true, true, true, false, false, false, false, false, false, false] rfl rfl (by kernel_rfl) (fun c a w h => hP c a _ _ w h) (y_slice (by rfl) rfl (by rfl) (by rfl) (by rfl) (by rfl) SL1.out) rfl ?_
            (try simp only [zP, zN, zA, zB, zC])
            refine pure_ (i := 5) (N := some 112) (v := .slice (some ⟨gv, 0, none⟩) n cv) #[false, true, true, true, false, true, false, false, false, false, false] rfl rfl (by kernel_rfl) (fun c a w h => hP c a _ _ w h) (y_move rfl (by rfl) (by rfl)) rfl ?_
            (try simp only [zP, zN, zA, zB, zC])
            refine pure_ (i := 6) (N := some 113) (v := .int .i64 pre.length) #[false, true, true, true, false, true, true, false, false, false, false] rfl rfl (by kernel_rfl) (fun c a w h => hP c a _ _ w h) (y_move rfl (by rfl) (by rfl)) rfl ?_
            (try simp only [zP, zN, zA, zB, zC])
            refine pure_ (i := 7) (N := some 114) (v := .int .i64 (pre.length + 1 : Nat)) #[false, true, true, true, false, true, true, true, false, false, false] rfl rfl (by kernel_rfl) (fun c a w h => hP c a _ _ w h) (y_run (by rfl) (fun W => by have d := WP.out; go_simp)) rfl ?_
            (try simp only [zP, zN, zA, zB, zC])
            refine pure_ (i := 8) (N := some 115) (v := .slice (some A2) post.length c2) #[false, true, true, true, false, true, true, true, true, false, false] rfl rfl (by kernel_rfl) (fun c a w h => hP c a _ _ w h) (y_slice (by rfl) rfl (by rfl) (by rfl) (by rfl) (by rfl) SL2.out) rfl ?_
            (try simp only [zP, zN, zA, zB, zC])
            refine one_ (i := 0) (N := some 107) #[true, true, true, true, false, true, true, true, true, false, false] rfl rfl (by kernel_rfl) (by simp) (fun K161 hK161 => ?_)
            refine e_buildS0 (by rfl) rfl rfl Try.underlying22 I28.hi ?_
            rintro g162 w163 HG164 C166
            have C0' := Lib.hid (show Ch [] w w163 from C0.out.trans' C166 (fun x hx => absurd hx (by simp)))
            have OL' := Lib.hid (show OwnS w163 w.heap.size 28 4 (.slice (some ⟨gv, 0, none⟩) n cv) (n) ((pre ++ b :: post).flatMap bxC) from OL.out.ch C166 rnin_nil)
            have Fg9' := Lib.hid (show Blk w163 g9 (#[.int .i64 11, .int .i64 b.x.f0, .int .i64 0, .int .i64 0, .int .i64 0, .int .i64 0, .string ⟨#[]⟩, .string ⟨#[]⟩]) 30 from C166.blk Fg9.out nin_nil)
            clear C0 OL Fg9
            have C0 := C0'; clear C0'
            have OL := OL'; clear OL'
            have Fg9 := Fg9'; clear Fg9'
            clear C166
            have Z167 := Lib.hid (show OwnS w163 w.heap.size 28 4 (.slice (some ⟨g162, 0, none⟩) 0 0) (0) ([]) from OwnS.nil _ _ _ _ _)
            refine hK161.out _ _ trivial (fun hS168 => ?_); clear hK161 K161
            (try simp only [zP, zN, zA, zB, zC])
            refine one_ (i := 4) (N := some 111) #[true, true, true, true, true, true, true, true, true, false, false] rfl rfl (by kernel_rfl) (by simp) (fun K169 hK169 => ?_)
            refine e_append (by rfl) rfl rfl (w.heap.size) 28 _ _ 4 48 Try.underlying22 I28.hi I28.hz I28.hs I28.hb rfl (by decide) (.slice (some ⟨g162, 0, none⟩) 0 0) (0) ([]) (by rfl) Z167.out (.slice (some ⟨gv, 0, none⟩) pre.length cv) pre.length (pre.flatMap bxC) (by rfl) (part1 OL.out cv) (okB_ones (fun c hc => hKB.out c (by simp [hc]))) (by have := HPP.out; unfold maxLen; omega) (by have := HPP.out; omega) C0.out.size ?_
            rintro v170 w171 O172 C173 R174 -
            replace C173 : Ch [] _ _ := C173
            replace R174 : ∀ k, k ∈ rl v170 → w163.heap.size ≤ k := fun k hk => (R174 k hk).elim (fun h => absurd h (by simp [rl])) id
            have rw175 := Lib.hid (show ∀ x, x ∈ rl v170 → x ∈ [] ∨ w.heap.size ≤ x from fun x hx => .inr (by have := R174 x hx; have := C0.out.size; omega))
            have rr176 := Lib.hid (show ∀ k, k ∈ rl (.slice (some ⟨gv, 0, none⟩) n cv) → k ∉ rl v170 from fun k hk hm => by have := R174 k hm; have := (OL.out.lt k hk).2; omega)
            have C0' := Lib.hid (show Ch [] w w171 from C0.out.trans' C173 (fun x hx => absurd hx (by simp)))
            have OL' := Lib.hid (show OwnS w171 w.heap.size 28 4 (.slice (some ⟨gv, 0, none⟩) n cv) (n) ((pre ++ b :: post).flatMap bxC) from OL.out.ch C173 rnin_nil)
            have Fg9' := Lib.hid (show Blk w171 g9 (#[.int .i64 11, .int .i64 b.x.f0, .int .i64 0, .int .i64 0, .int .i64 0, .int .i64 0, .string ⟨#[]⟩, .string ⟨#[]⟩]) 30 from C173.blk Fg9.out nin_nil)
            clear C0 OL Fg9
            have C0 := C0'; clear C0'
            have OL := OL'; clear OL'
            have Fg9 := Fg9'; clear Fg9'
            clear Z167
            have Z167 := Lib.hid (show OwnS w171 w.heap.size 28 4 (v170) (pre.length) (pre.flatMap bxC) from (by simpa using O172)); clear O172 C173
            refine hK169.out _ _ trivial (fun hS177 => ?_); clear hK169 K169
            (try simp only [zP, zN, zA, zB, zC])
            refine one_ (i := 9) (N := some 116) #[true, true, true, true, true, true, true, true, true, true, false] rfl rfl (by kernel_rfl) (by simp) (fun K178 hK178 => ?_)
            refine e_append (by rfl) rfl rfl (w.heap.size) 28 _ _ 4 48 Try.underlying22 I28.hi I28.hz I28.hs I28.hb rfl (by decide) (v170) (pre.length) (pre.flatMap bxC) (by rfl) Z167.out (.slice (some A2) post.length c2) post.length (post.flatMap bxC) (by rfl) (PT2.out _ OL.out) (okB_ones (fun c hc => hKB.out c (by simp [hc]))) (by have := HPP.out; unfold maxLen; omega) (by have := HPP.out; omega) C0.out.size ?_
            rintro v179 w180 O181 C182 R183 -
            have rw184 := Lib.hid (show ∀ x, x ∈ rl v179 → x ∈ [] ∨ w.heap.size ≤ x from fun x hx => (R183 x hx).elim (fun h => rw175.out _ h) (fun h => .inr (by have := C0.out.size; omega)))
            have rr185 := Lib.hid (show ∀ k, k ∈ rl (.slice (some ⟨gv, 0, none⟩) n cv) → k ∉ rl v179 from fun k hk hm => (R183 k hm).elim (fun h => rr176.out k hk h) (fun h => by have := (OL.out.lt k hk).2; omega))
            have C0' := Lib.hid (show Ch [] w w180 from C0.out.trans' C182 (fun x hx => .inr (Z167.out.lt x hx).1))
            have OL' := Lib.hid (show OwnS w180 w.heap.size 28 4 (.slice (some ⟨gv, 0, none⟩) n cv) (n) ((pre ++ b :: post).flatMap bxC) from OL.out.ch C182 rr176.out)
            have Fg9' := Lib.hid (show Blk w180 g9 (#[.int .i64 11, .int .i64 b.x.f0, .int .i64 0, .int .i64 0, .int .i64 0, .int .i64 0, .string ⟨#[]⟩, .string ⟨#[]⟩]) 30 from C182.blk Fg9.out (Z167.out.ne Fg9.out (by decide)))
            clear C0 OL Fg9
            have C0 := C0'; clear C0'
            have OL := OL'; clear OL'
            have Fg9 := Fg9'; clear Fg9'
            clear Z167
            have Z167 := Lib.hid (show OwnS w180 w.heap.size 28 4 (v179) (pre.length + post.length) (pre.flatMap bxC ++ post.flatMap bxC) from O181); clear O181 C182
            clear OL
            have OL := Z167; clear Z167
            refine hK178.out _ _ trivial (fun hS186 => ?_); clear hK178 K178
            (try simp only [zP, zN, zA, zB, zC])
            refine pure_ (i := 10) (N := some 5) (v := v179) #[true, true, true, true, true, true, true, true, true, true, true] rfl rfl (by kernel_rfl) (fun c a w h => hP c a _ _ w h) (y_assign rfl (by rfl) (by rfl)) rfl ?_
            (try simp only [zP, zN, zA, zB, zC])
            refine done_ (by kernel_rfl) ?_
            refine th_norm (hK156 _ _ ?_); try clear hK156 K156
            refine s_ (fun K187 hK187 => ?_)
            refine pu_ (v := v179) (y_move rfl (by rfl) (by rfl)) ?_
            (try simp only [zP, zN, zA, zB, zC])
            refine pu_ (v := .slice A1 n1 c1) (y_move rfl (by rfl) (by rfl)) ?_
            (try simp only [zP, zN, zA, zB, zC])
            refine ef_ (fun K188 hK188 => ?_)
            refine e_call Try.func12 (by kernel_rfl) rfl #[v179, .slice A1 n1 c1] (by rfl) rfl rfl (by first | rfl | (simp only [List.map_toArray, List.map_cons, List.map_nil]; first | done | rfl)) ((by have h := left12 (w0 := w) (B := pre ++ post) (by have h := OL.out; rwa [← List.flatMap_append] at h) (by rw [List.length_append]) HPP.out HKB2.out C0.out HU.out; rw [HL2.out] at h; exact h)) ?_
            rintro en w190 ⟨rfl, cc189⟩
            refine ⟨_, rfl, ?_⟩
            have C0' := Lib.hid (show Ch [] w w190 from C0.out.trans' cc189 (fun x hx => absurd hx (by simp)))
            have OL' := Lib.hid (show OwnS w190 w.heap.size 28 4 (v179) (pre.length + post.length) (pre.flatMap bxC ++ post.flatMap bxC) from OL.out.ch cc189 rnin_nil)
            have Fg9' := Lib.hid (show Blk w190 g9 (#[.int .i64 11, .int .i64 b.x.f0, .int .i64 0, .int .i64 0, .int .i64 0, .int .i64 0, .string ⟨#[]⟩, .string ⟨#[]⟩]) 30 from cc189.blk Fg9.out nin_nil)
            clear C0 OL Fg9
            have C0 := C0'; clear C0'
            have OL := OL'; clear OL'
            have Fg9 := Fg9'; clear Fg9'
            clear cc189
            refine hK188 _ _ ?_; clear hK188 K188
            (try simp only [zP, zN, zA, zB, zC])
            refine pu_ (v := .int .i64 M) (y_move rfl (by rfl) (by rfl)) ?_
            (try simp only [zP, zN, zA, zB, zC])
            refine pu_ (v := .int .i64 k) (y_move rfl (by rfl) (by rfl)) ?_
            (try simp only [zP, zN, zA, zB, zC])
            refine pu_ (v := .int .i64 (M - k)) (y_run (by rfl) (fun W => by have d := W1.out; go_simp)) ?_
            (try simp only [zP, zN, zA, zB, zC])
            refine pu_ (v := .int .i64 (M - k - 1)) (y_run (by rfl) (fun W => by have d := W2.out; go_simp)) ?_
            (try simp only [zP, zN, zA, zB, zC])
            refine pu_ (v := .bool false) (y_run (by rfl) (fun W => by go_simp)) ?_
            (try simp only [zP, zN, zA, zB, zC])
            refine nl_ (hK187 _ _ ?_); clear hK187 K187
            refine wp_cond_false rfl ?_
            refine wp_skip ?_
            refine ib_norm ?_
            refine th_norm (hK53 _ _ ?_); try clear hK53 K53
            refine r_ ?_
            refine pu_ (v := .int .i64 k) (y_move rfl (by rfl) (by rfl)) ?_
            (try simp only [zP, zN, zA, zB, zC])
            refine pu_ (v := .int .i64 (k + 1 : Nat)) (y_run (by rfl) (fun W => by have d := WA.out; go_simp)) ?_
            (try simp only [zP, zN, zA, zB, zC])
            refine pu_ (v := .int .i64 (k + 1 : Nat)) (y_assign rfl (by rfl) (by rfl)) ?_
            (try simp only [zP, zN, zA, zB, zC])
            refine nl_ ?_
            exact th_norm (hK50 (kq - 1) _ _ (by have := hlt.out; have := hk.out; omega) ⟨k + 1, pre ++ post, _, pre.length + post.length, fun us_ => (#[us 0, .slice A1 n1 c1, us 2, us 3, .bool false, v179, us 6, .int .i64 M, .int .i64 (k + 1 : Nat), .pointer (some ⟨g9, 0, none⟩), .bool true, .int .i64 pre.length, us 12, us 13, us 14, us 15, us 16, us 17, us 18, us 19, us 20, us 21, us 22, us 23, us 24, us 25, us 26, us 27, us 28, us 29, us 30, us 31, us 32, us 33, us 34, us 35, us 36, us 37, us 38, us 39, us 40, us 41, us 42, us 43, us 44, us 45, us 46, us 47, us 48, us 49, .int .i64 k, .int .i64 (k + 1 : Nat), us 52, us 53, us 54, us 55, us 56, us 57, us 58, .int .i64 n, .int .i64 j, .bool false, us 62, us 63, us 64, us 65, us 66, us 67, us 68, us 69, us 70, us 71, us 72, .bool true, .bool false, .bool false, .int .i64 pre.length, .bool false, .bool false, .bool false, .slice A1 n1 c1, .slice (some ⟨gv, 0, none⟩) n cv, .int .i64 pre.length, .pointer (some ⟨gv, pre.length * 4, none⟩), .pointer (some ⟨gv, pre.length * 4 + 1, none⟩), .int .i64 b.x.f1, .bool false, .bool false, .bool false, .pointer (some ⟨g9, 0, none⟩), .int .i64 11, .bool false, .slice (some ⟨gv, 0, none⟩) n cv, .int .i64 pre.length, .pointer (some ⟨gv, pre.length * 4, none⟩), .pointer (some ⟨gv, pre.length * 4 + 2, none⟩), .int .i64 b.x.f2, .bool false, .bool false, .bool false, .pointer (some ⟨g9, 0, none⟩), .int .i64 11, .bool false, us 103, us 104, us 105, us 106, .slice (some ⟨g162, 0, none⟩) 0 0, .slice (some ⟨gv, 0, none⟩) n cv, .int .i64 pre.length, .slice (some ⟨gv, 0, none⟩) pre.length cv, v170, .slice (some ⟨gv, 0, none⟩) n cv, .int .i64 pre.length, .int .i64 (pre.length + 1 : Nat), .slice (some A2) post.length c2, v179, v179, .slice A1 n1 c1, .int .i64 (M - k - 1), .int .i64 M, .int .i64 k, .int .i64 (M - k), .int .i64 (M - k - 1), .bool false, us 125, us 126, us 127, us 128, us 129, us 130, us 131, us 132, us 133, us 134, us 135, us 136, us 137, us 138, us 139] : Array Value).getD us_ undef, rfl, C0, (by have h := OL; rwa [← List.flatMap_append] at h), Lib.hid ⟨by have hLf := lf_clear (post := post) hpre.out hbo.out hst.out; have hk2 := hk.out.1; push_cast; omega, by have := hk.out; have := hlt.out; omega⟩, Lib.hid ⟨by rw [List.length_append], by have h := hn.out; simp at h; omega⟩, Lib.hid (nodup_clear hnd.out), HKB2⟩)
      · have D45 := Lib.hid (show decide ((k : Int) < M) = false from decide_eq_false (by omega))
        have hF := Lib.hid (lf_zero (B := B) (l1 := l1) (by have := hk.out; omega))
        have HS0 := Lib.hid (show stepOf (Fo (B.map (·.x)) l1) = (0, 0, false) by rw [hF.out]; rfl)
        clear h
        refine s_ (fun K191 hK191 => ?_)
        refine pu_ (v := .int .i64 k) (y_move rfl (by rfl) (by rfl)) ?_
        (try simp only [zP, zN, zA, zB, zC])
        refine pu_ (v := .int .i64 M) (y_move rfl (by rfl) (by rfl)) ?_
        (try simp only [zP, zN, zA, zB, zC])
        refine pu_ (v := .bool false) (y_run (by rfl) (fun W => by have d := D45.out; go_simp)) ?_
        (try simp only [zP, zN, zA, zB, zC])
        refine pu_ (v := .bool false) (y_move rfl (by rfl) (by rfl)) ?_
        (try simp only [zP, zN, zA, zB, zC])
        refine pu_ (y_off (by rfl)) ?_
        (try simp only [zP, zN, zA, zB, zC])
        refine pu_ (y_off (by rfl)) ?_
        (try simp only [zP, zN, zA, zB, zC])
        refine pu_ (v := .bool false) (y_pick (t := false) (by rfl) rfl (by rfl) (by rfl)) ?_
        (try simp only [zP, zN, zA, zB, zC])
        refine nl_ (hK191 _ _ ?_); clear hK191 K191
        refine wp_cond_false rfl ?_
        refine wp_exit ?_
        refine th_exit ?_
        refine th_exit ?_
        refine ib_exit ?_
        refine th_norm (hK47 _ _ ?_); try clear hK47 K47
        refine s_ (fun K192 hK192 => ?_)
        refine pu_ (v := v) (y_move rfl (by rfl) (by rfl)) ?_
        (try simp only [zP, zN, zA, zB, zC])
        refine pu_ (v := .slice A1 n1 c1) (y_move rfl (by rfl) (by rfl)) ?_
        (try simp only [zP, zN, zA, zB, zC])
        refine ef_ (fun K193 hK193 => ?_)
        refine e_call Try.func9 (by kernel_rfl) rfl #[v, .slice A1 n1 c1] (by rfl) rfl rfl (by first | rfl | (simp only [List.map_toArray, List.map_cons, List.map_nil]; first | done | rfl)) (next9 (w0 := w) OL.out hn.out.1 hn.out.2 hKB.out C0.out HU.out HS0.out) ?_
        rintro en w195 ⟨rfl, cc194⟩
        refine ⟨_, rfl, ?_⟩
        have C0' := Lib.hid (show Ch [] w w195 from C0.out.trans' cc194 (fun x hx => absurd hx (by simp)))
        have OL' := Lib.hid (show OwnS w195 w.heap.size 28 4 (v) (n) ((B).flatMap bxC) from OL.out.ch cc194 rnin_nil)
        clear C0 OL
        have C0 := C0'; clear C0'
        have OL := OL'; clear OL'
        clear cc194
        refine hK193 _ _ ?_; clear hK193 K193
        (try simp only [zP, zN, zA, zB, zC])
        refine pu_ (v := .tuple #[.agg #[.int .i64 0, .int .i64 0, .int .i64 0, .int .i64 0, .int .i64 0, .int .i64 0, .string ⟨#[]⟩, .string ⟨#[]⟩], .bool false]) (y_move rfl (by rfl) (by rfl)) ?_
        (try simp only [zP, zN, zA, zB, zC])
        refine pu_ (v := .agg #[.int .i64 0, .int .i64 0, .int .i64 0, .int .i64 0, .int .i64 0, .int .i64 0, .string ⟨#[]⟩, .string ⟨#[]⟩]) (y_run (by rfl) (fun W => by go_simp)) ?_
        (try simp only [zP, zN, zA, zB, zC])
        refine pu_ (v := .bool false) (y_run (by rfl) (fun W => by go_simp)) ?_
        (try simp only [zP, zN, zA, zB, zC])
        refine ef_ (fun K196 hK196 => ?_)
        refine e_alloc (by rfl) rfl rfl (cs := #[.int .i64 0, .int .i64 0, .int .i64 0, .int .i64 0, .int .i64 0, .int .i64 0, .string ⟨#[]⟩, .string ⟨#[]⟩]) (by kernel_rfl) ?_
        rintro g197 w198 HG199 B200 C201
        have nw202 := Lib.hid (show w.heap.size ≤ g197 by have := C0.out.size; have := HG199.out; omega)
        have C0' := Lib.hid (show Ch [] w w198 from C0.out.trans' C201 (fun x hx => absurd hx (by simp)))
        have OL' := Lib.hid (show OwnS w198 w.heap.size 28 4 (v) (n) ((B).flatMap bxC) from OL.out.ch C201 rnin_nil)
        clear C0 OL
        have C0 := C0'; clear C0'
        have OL := OL'; clear OL'
        have Fg197 := Lib.hid (show Blk w198 g197 (#[.int .i64 0, .int .i64 0, .int .i64 0, .int .i64 0, .int .i64 0, .int .i64 0, .string ⟨#[]⟩, .string ⟨#[]⟩]) 30 from B200); clear B200 C201
        refine hK196 _ _ ?_; clear hK196 K196
        (try simp only [zP, zN, zA, zB, zC])
        refine ef_ (fun K203 hK203 => ?_)
        refine e_storeN (cells := #[.int .i64 0, .int .i64 0, .int .i64 0, .int .i64 0, .int .i64 0, .int .i64 0, .string ⟨#[]⟩, .string ⟨#[]⟩]) (by rfl) rfl rfl (by rfl) (by rfl) Fg197.out (by kernel_rfl) (by rfl) (ones_cons rfl (ones_cons rfl (ones_cons rfl (ones_cons rfl (ones_cons rfl (ones_cons rfl (ones_cons rfl (ones_cons rfl ones_nil)))))))) ?_
        rintro w204 B205 C206
        have C0' := Lib.hid (show Ch [] w w204 from C0.out.trans' C206 (inw_cons (.inr nw202.out) inw_nil))
        have OL' := Lib.hid (show OwnS w204 w.heap.size 28 4 (v) (n) ((B).flatMap bxC) from OL.out.ch C206 (rnin_cons (OL.out.ne Fg197.out (by decide)) rnin_nil))
        clear C0 OL
        have C0 := C0'; clear C0'
        have OL := OL'; clear OL'
        clear Fg197; have Fg197 := Lib.hid (show Blk w204 g197 (#[.int .i64 0, .int .i64 0, .int .i64 0, .int .i64 0, .int .i64 0, .int .i64 0, .string ⟨#[]⟩, .string ⟨#[]⟩]) 30 from B205); clear B205 C206
        refine hK203 _ _ ?_; clear hK203 K203
        (try simp only [zP, zN, zA, zB, zC])
        refine pu_ (v := .bool false) (y_assign rfl (by rfl) (by rfl)) ?_
        (try simp only [zP, zN, zA, zB, zC])
        refine nl_ (hK192 _ _ ?_); clear hK192 K192
        refine s_ (fun K207 hK207 => ?_)
        refine pu_ (v := .bool false) (y_move rfl (by rfl) (by rfl)) ?_
        (try simp only [zP, zN, zA, zB, zC])
        refine pu_ (v := .bool true) (y_run (by rfl) (fun W => by go_simp)) ?_
        (try simp only [zP, zN, zA, zB, zC])
        refine pu_ (v := .bool true) (y_move rfl (by rfl) (by rfl)) ?_
        (try simp only [zP, zN, zA, zB, zC])
        refine pu_ (v := v) (y_move rfl (by rfl) (by rfl)) ?_
        (try simp only [zP, zN, zA, zB, zC])
        refine pu_ (v := .slice A1 n1 c1) (y_move rfl (by rfl) (by rfl)) ?_
        (try simp only [zP, zN, zA, zB, zC])
        refine ef_ (fun K208 hK208 => ?_)
        refine e_call Try.func11 (by kernel_rfl) rfl #[v, .slice A1 n1 c1] (by rfl) rfl rfl (by first | rfl | (simp only [List.map_toArray, List.map_cons, List.map_nil]; first | done | rfl)) (find11 (w0 := w) OL.out hn.out.1 hn.out.2 hKB.out C0.out HU.out hF.out) ?_
        rintro en w210 ⟨Af, cf, rfl, cc209⟩
        refine ⟨_, rfl, ?_⟩
        have C0' := Lib.hid (show Ch [] w w210 from C0.out.trans' cc209 (fun x hx => absurd hx (by simp)))
        have OL' := Lib.hid (show OwnS w210 w.heap.size 28 4 (v) (n) ((B).flatMap bxC) from OL.out.ch cc209 rnin_nil)
        have Fg197' := Lib.hid (show Blk w210 g197 (#[.int .i64 0, .int .i64 0, .int .i64 0, .int .i64 0, .int .i64 0, .int .i64 0, .string ⟨#[]⟩, .string ⟨#[]⟩]) 30 from cc209.blk Fg197.out nin_nil)
        clear C0 OL Fg197
        have C0 := C0'; clear C0'
        have OL := OL'; clear OL'
        have Fg197 := Fg197'; clear Fg197'
        clear cc209
        refine hK208 _ _ ?_; clear hK208 K208
        (try simp only [zP, zN, zA, zB, zC])
        refine pu_ (v := .int .i64 0) (y_run (by rfl) (fun W => by go_simp)) ?_
        (try simp only [zP, zN, zA, zB, zC])
        refine pu_ (v := .bool true) (y_run (by rfl) (fun W => by go_simp)) ?_
        (try simp only [zP, zN, zA, zB, zC])
        refine pu_ (v := .bool true) (y_pick (t := true) (by rfl) rfl (by rfl) (by rfl)) ?_
        (try simp only [zP, zN, zA, zB, zC])
        refine pu_ (v := .bool true) (y_assign rfl (by rfl) (by rfl)) ?_
        (try simp only [zP, zN, zA, zB, zC])
        refine nl_ (hK207 _ _ ?_); clear hK207 K207
        refine wp_ret ?_
        refine hQ _ _ _ ?_
        refine bodyPost_ret (res1 rfl (rdv_tmp (v := .bool true) (by rfl))) rfl ?_
        exact ⟨rfl, C0.out⟩
end Go.Proofs.Ytanlbnipbbjheaa.O
