/- Package window, the document's window, and what is held against one another: their walks. A window is a list of events, the last revision told, and two marks. -/
import Derived.Test.YtanlbnipbbjheaaRows
import Derived.Test.YtanlbnipbbjheaaWeave
import Derived.Lib.SliceRun
import Derived.Test.YtanlbnipbbjheaaWin
namespace Go.Proofs.Ytanlbnipbbjheaa.V
open Go Go.RowKit Go.Proofs.Ytanlbnipbbjheaa.K Go.Proofs.YtanlbnipbbjheaaW.PrintLast
set_option linter.unusedVariables false
set_option linter.unusedSimpArgs false
set_option maxRecDepth 100000
set_option maxHeartbeats 800000

theorem mark_first (w : World) (base b : Nat) (A : Option Addr) (c : Nat) (last rev : Int) (done : Bool) (FB : Hid (Blk w b #[.slice A 0 c, .int .u64 last, .bool false, .bool done] 70)) (OV : Hid (OwnS w base 56 15 (.slice A 0 c) 0 [])) (hbase : base ≤ w.heap.size) :
  Calls Try.prog 20 #[.pointer (some ⟨b, 0, none⟩), .int .u64 rev] w (fun en w' => ∃ v', en = .returned (.bool true) ∧ Blk w' b #[v', .int .u64 rev, .bool false, .bool done] 70 ∧ OwnS w' base 56 15 v' ([(⟨4, rev, 0, 0⟩ : Ev)]).length (([(⟨4, rev, 0, 0⟩ : Ev)]).flatMap evC) ∧ Ch (b :: rl (.slice A 0 c)) w w' ∧ ∀ k, k ∈ rl v' → k ∈ b :: rl (.slice A 0 c) ∨ w.heap.size ≤ k) := by
 have C0 := Lib.hid (Ch.refl (b :: rl (.slice A 0 c)) w)
 go_enter Try.func20, Try.ntmps20
 refine q_ (fun Q hQ hP => ?_)
 refine s_ (fun K1 hK1 => ?_)
 refine pu_ (v := .bool false) (y_assign rfl (by rfl) (by rfl)) ?_
 (try simp only [zP, zN, zA, zB, zC])
 refine nl_ (hK1 _ _ ?_); clear hK1 K1
 refine s_ (fun K2 hK2 => ?_)
 refine pu_ (v := .pointer (some ⟨b, 0, none⟩)) (y_move rfl (by rfl) (by rfl)) ?_
 (try simp only [zP, zN, zA, zB, zC])
 refine pu_ (v := .pointer (some ⟨b, 0, none⟩)) (y_nil rfl (by rfl) (by rfl)) ?_
 (try simp only [zP, zN, zA, zB, zC])
 refine pu_ (v := .pointer (some ⟨b, 0, none⟩)) (y_run (by rfl) (fun W => by go_simp)) ?_
 (try simp only [zP, zN, zA, zB, zC])
 refine ld_ (v := .slice A 0 c) rfl (by rfl) (by rfl) (run_load_one ((FB.out.cell 0).trans rfl) Try.underlying41 rfl) ?_
 (try simp only [zP, zN, zA, zB, zC])
 refine pu_ (v := .int .i64 0) (y_run (by rfl) (fun W => by go_simp)) ?_
 (try simp only [zP, zN, zA, zB, zC])
 refine pu_ (v := .int .i64 0) (y_assign rfl (by rfl) (by rfl)) ?_
 (try simp only [zP, zN, zA, zB, zC])
 refine nl_ (hK2 _ _ ?_); clear hK2 K2
 refine sq_ (fun K3 hK3 => ?_)
 refine wp_block ?_
 refine s_ (fun K4 hK4 => ?_)
 refine pu_ (v := .pointer (some ⟨b, 0, none⟩)) (y_move rfl (by rfl) (by rfl)) ?_
 (try simp only [zP, zN, zA, zB, zC])
 refine pu_ (v := .pointer (some ⟨b, 0, none⟩)) (y_nil rfl (by rfl) (by rfl)) ?_
 (try simp only [zP, zN, zA, zB, zC])
 refine pu_ (v := .pointer (some ⟨b, 2, none⟩)) (y_run (by rfl) (fun W => by go_simp)) ?_
 (try simp only [zP, zN, zA, zB, zC])
 refine ld_ (v := .bool false) rfl (by rfl) (by rfl) (run_load_one ((FB.out.cell 2).trans rfl) Try.underlying4 rfl) ?_
 (try simp only [zP, zN, zA, zB, zC])
 refine pu_ (v := .bool false) (y_assign rfl (by rfl) (by rfl)) ?_
 (try simp only [zP, zN, zA, zB, zC])
 refine nl_ (hK4 _ _ ?_); clear hK4 K4
 refine wp_cond_false rfl ?_
 refine s_ (fun K5 hK5 => ?_)
 refine pu_ (v := .int .i64 0) (y_move rfl (by rfl) (by rfl)) ?_
 (try simp only [zP, zN, zA, zB, zC])
 refine pu_ (v := .bool false) (y_run (by rfl) (fun W => by go_simp)) ?_
 (try simp only [zP, zN, zA, zB, zC])
 refine pu_ (v := .bool false) (y_move rfl (by rfl) (by rfl)) ?_
 (try simp only [zP, zN, zA, zB, zC])
 refine pu_ (y_off (by rfl)) ?_
 (try simp only [zP, zN, zA, zB, zC])
 refine pu_ (y_off (by rfl)) ?_
 (try simp only [zP, zN, zA, zB, zC])
 refine pu_ (y_off (by rfl)) ?_
 (try simp only [zP, zN, zA, zB, zC])
 refine pu_ (y_off (by rfl)) ?_
 (try simp only [zP, zN, zA, zB, zC])
 refine pu_ (y_off (by rfl)) ?_
 (try simp only [zP, zN, zA, zB, zC])
 refine pu_ (y_off (by rfl)) ?_
 (try simp only [zP, zN, zA, zB, zC])
 refine pu_ (y_off (by rfl)) ?_
 (try simp only [zP, zN, zA, zB, zC])
 refine pu_ (y_off (by rfl)) ?_
 (try simp only [zP, zN, zA, zB, zC])
 refine pu_ (y_off (by rfl)) ?_
 (try simp only [zP, zN, zA, zB, zC])
 refine pu_ (y_off (by rfl)) ?_
 (try simp only [zP, zN, zA, zB, zC])
 refine pu_ (v := .bool false) (y_pick (t := false) (by rfl) rfl (by rfl) (by rfl)) ?_
 (try simp only [zP, zN, zA, zB, zC])
 refine pu_ (v := .bool false) (y_assign rfl (by rfl) (by rfl)) ?_
 (try simp only [zP, zN, zA, zB, zC])
 refine nl_ (hK5 _ _ ?_); clear hK5 K5
 refine wp_cond_false rfl ?_
 refine s_ (fun K6 hK6 => ?_)
 refine pu_ (v := .pointer (some ⟨b, 0, none⟩)) (y_move rfl (by rfl) (by rfl)) ?_
 (try simp only [zP, zN, zA, zB, zC])
 refine ef_ (fun K7 hK7 => ?_)
 refine e_call Try.func28 (by kernel_rfl) rfl #[.pointer (some ⟨b, 0, none⟩)] (by rfl) rfl rfl (by first | rfl | (simp only [List.map_toArray, List.map_cons, List.map_nil]; first | done | rfl)) (room_true _ base _ _ _ [] last _ (show Hid (Blk _ b #[.slice A ([] : List Ev).length c, .int .u64 last, .bool false, .bool done] 70) from FB) (show Hid (OwnS _ base 56 15 (.slice A ([] : List Ev).length c) ([] : List Ev).length (([] : List Ev).flatMap evC)) from OV) (by decide)) ?_
 rintro en w8 ⟨rfl, rfl⟩
 refine ⟨_, rfl, ?_⟩
 refine hK7 _ _ ?_; clear hK7 K7
 (try simp only [zP, zN, zA, zB, zC])
 refine pu_ (v := .bool false) (y_run (by rfl) (fun W => by go_simp)) ?_
 (try simp only [zP, zN, zA, zB, zC])
 refine pu_ (v := .bool false) (y_assign rfl (by rfl) (by rfl)) ?_
 (try simp only [zP, zN, zA, zB, zC])
 refine nl_ (hK6 _ _ ?_); clear hK6 K6
 refine wp_cond_false rfl ?_
 refine wp_skip ?_
 refine ib_norm ?_
 refine th_norm (hK3 _ _ ?_); try clear hK3 K3
 refine s_ (fun K9 hK9 => ?_)
 refine pu_ (v := .pointer (some ⟨b, 0, none⟩)) (y_move rfl (by rfl) (by rfl)) ?_
 (try simp only [zP, zN, zA, zB, zC])
 refine pu_ (v := .int .u64 rev) (y_move rfl (by rfl) (by rfl)) ?_
 (try simp only [zP, zN, zA, zB, zC])
 refine pu_ (v := .agg #[.int .i64 4, .int .u64 rev, .int .i64 0, .int .u64 0, .string ⟨#[]⟩, .slice none 0 0, .slice none 0 0, .slice none 0 0, .int .i64 0, .int .i64 0, .int .i64 0, .int .i64 0, .slice none 0 0, .int .i64 0, .int .i64 0]) (y_build (vs := #[(0, .int .i64 4), (1, .int .u64 rev)]) (by rfl) rfl (by first | rfl | (simp only [List.map_toArray, List.map_cons, List.map_nil]; first | done | rfl)) (by kernel_rfl)) ?_
 (try simp only [zP, zN, zA, zB, zC])
 refine ef_ (fun K10 hK10 => ?_)
 refine e_call Try.func31 (by kernel_rfl) rfl #[.pointer (some ⟨b, 0, none⟩), .agg #[.int .i64 4, .int .u64 rev, .int .i64 0, .int .u64 0, .string ⟨#[]⟩, .slice none 0 0, .slice none 0 0, .slice none 0 0, .int .i64 0, .int .i64 0, .int .i64 0, .int .i64 0, .slice none 0 0, .int .i64 0, .int .i64 0]] (by rfl) rfl rfl (by first | rfl | (simp only [List.map_toArray, List.map_cons, List.map_nil]; first | done | rfl)) (push_any _ base _ _ _ [] last _ _ ⟨4, rev, 0, 0⟩ (show Hid (Blk _ b #[.slice A ([] : List Ev).length c, .int .u64 last, .bool false, .bool done] 70) from FB) (show Hid (OwnS _ base 56 15 (.slice A ([] : List Ev).length c) ([] : List Ev).length (([] : List Ev).flatMap evC)) from OV) (by have := C0.out.size; omega) (by decide)) ?_
 rintro en w16 ⟨v11, rfl, hb13, ho14, cc12, hr15⟩
 refine ⟨_, rfl, ?_⟩
 replace cc12 : Ch (b :: rl (.slice A 0 c)) _ _ := cc12
 have rw17 := Lib.hid (show ∀ x, x ∈ rl v11 → x ∈ (b :: rl (.slice A 0 c)) ∨ w.heap.size ≤ x from fun x hx => (hr15 x hx).imp id (fun h => Nat.le_trans C0.out.size h))
 have C0' := Lib.hid (show Ch (b :: rl (.slice A 0 c)) w w16 from C0.out.trans' cc12 (inw_cons (.inl List.mem_cons_self) (fun x hx => .inl (List.mem_cons_of_mem _ hx))))
 clear C0
 have C0 := C0'; clear C0'
 clear FB OV
 clear cc12
 have FB := Lib.hid (show Blk w16 b (#[v11, .int .u64 rev, .bool false, .bool done]) 70 from hb13)
 have OV := Lib.hid (show OwnS w16 base 56 15 (v11) ([(⟨4, rev, 0, 0⟩ : Ev)].length) ([(⟨4, rev, 0, 0⟩ : Ev)].flatMap evC) from ho14)
 refine hK10 _ _ ?_; clear hK10 K10
 (try simp only [zP, zN, zA, zB, zC])
 refine pu_ (v := .bool true) (y_assign rfl (by rfl) (by rfl)) ?_
 (try simp only [zP, zN, zA, zB, zC])
 refine nl_ (hK9 _ _ ?_); clear hK9 K9
 refine wp_ret ?_
 refine hQ _ _ _ ?_
 refine bodyPost_ret (res1 rfl (rdv_tmp (v := .bool true) (by rfl))) rfl ?_
 exact ⟨_, rfl, FB.out, OV.out, C0.out, rw17.out⟩
theorem src_at {w : World} {p : Addr} {n c : Nat} {xs : List Value} (h : SrcIs w (.slice (some p) n c) n xs 15) : CellsAt w p xs := by
 rcases h.2 with ⟨_, he⟩ | ⟨a, c', he, hc⟩
 ·injection he with he; cases he
 ·injection he with e1 _ _
  injection e1 with e1
  subst e1
  exact hc
theorem src_last {w : World} {p o n c : Nat} {e : Ev} {I : List Ev} (h : SrcIs w (.slice (some ⟨p, o, none⟩) n c) n ((I ++ [e]).flatMap evC) 15) (j : Nat) {u : Value} (hu : (evC e)[j]? = some u) : w.cell? ⟨p, o + I.length * 15 + j, none⟩ = some u := by
 have := src_at h (I.length * 15 + j) u (last_at I e j u hu)
 rwa [add_plain, ← Nat.add_assoc] at this
theorem src_head {w : World} {p o n c : Nat} {e : Ev} {T : List Ev} (h : SrcIs w (.slice (some ⟨p, o, none⟩) n c) n ((e :: T).flatMap evC) 15) : CellsAt w ⟨p, o, none⟩ (evC e) := (src_at h).elem evC_len 0 (by simp) |> fun h => by simpa using h
theorem src_tail {w : World} {p o n c : Nat} {e : Ev} {T : List Ev} (h : SrcIs w (.slice (some ⟨p, o, none⟩) n c) n ((e :: T).flatMap evC) 15) {A1 : Addr} {c1 : Nat} (hA : 0 < T.length → A1 = ⟨p, o + 15, none⟩) : SrcIs w (.slice (some A1) T.length c1) T.length (T.flatMap evC) 15 := by
 refine ⟨flat_len evC_len T, .inr ⟨A1, c1, rfl, ?_⟩⟩
 by_cases h0 : 0 < T.length
 ·rw [hA h0]
  have := (src_at h).part 15 (T.length * 15)
  refine this.to fun j u hu => ?_
  have e2 : ((e :: T).flatMap evC).drop 15 = T.flatMap evC := by
   have := flat_drop evC_len (e :: T) 1
   simpa using this
  rw [e2, List.take_of_length_le (by rw [flat_len evC_len]; exact Nat.le_refl _)]
  exact hu
 ·have : T = [] := List.eq_nil_of_length_eq_zero (by omega)
  subst this
  exact CellsAt.nil _ _
theorem rput_over (w : World) (A : Option Addr) (n c : Nat) (xs : List Value) (last : Int) (done : Bool) (e : Ev) (RS : Hid (SrcIs w (.slice A n c) n xs 15))  :
  Calls Try.prog 16 #[.agg #[.slice A n c, .int .u64 last, .bool true, .bool done], .agg (evA e)] w (fun en w' => en = .returned (.tuple #[.agg #[.slice A n c, .int .u64 last, .bool true, .bool done], .bool false]) ∧ Ch [] w w') := by
 have C0 := Lib.hid (Ch.refl [] w)
 have RS0 := RS

 go_enter Try.func16, Try.ntmps16
 refine q_ (fun Q hQ hP => ?_)
 refine s_ (fun K1 hK1 => ?_)
 refine ef_ (fun K2 hK2 => ?_)
 refine e_boxN (by rfl) rfl rfl (cs := #[.slice A n c, .int .u64 last, .bool true, .bool done]) (v := .agg #[.slice A n c, .int .u64 last, .bool true, .bool done]) (by rfl) rfl ?_
 rintro g3 w4 HG5 B6 C7
 have nw8 := Lib.hid (show w.heap.size ≤ g3 by have := C0.out.size; have := HG5.out; omega)
 have nx9 := Lib.hid (RS.out.ne_new (by decide) HG5)
 have C0' := Lib.hid (show Ch [] w w4 from C0.out.trans' C7 (fun x hx => absurd hx (by simp)))
 have RS' := Lib.hid (show SrcIs w4 (.slice A n c) (n) (xs) 15 from RS.out.chx C7 xnin_nil)
 clear C0 RS
 have C0 := C0'; clear C0'
 have RS := RS'; clear RS'
 have Fg3 := Lib.hid (show Blk w4 g3 (#[.slice A n c, .int .u64 last, .bool true, .bool done]) 44 from B6); clear B6 C7
 refine hK2 _ _ ?_; clear hK2 K2
 (try simp only [zP, zN, zA, zB, zC])
 refine ef_ (fun K10 hK10 => ?_)
 refine e_boxN (by rfl) rfl rfl (cs := (evA e)) (v := .agg (evA e)) (by rfl) rfl ?_
 rintro g11 w12 HG13 B14 C15
 have nw16 := Lib.hid (show w.heap.size ≤ g11 by have := C0.out.size; have := HG13.out; omega)
 have nx17 := Lib.hid (RS.out.ne_new (by decide) HG13)
 have C0' := Lib.hid (show Ch [] w w12 from C0.out.trans' C15 (fun x hx => absurd hx (by simp)))
 have RS' := Lib.hid (show SrcIs w12 (.slice A n c) (n) (xs) 15 from RS.out.chx C15 xnin_nil)
 have Fg3' := Lib.hid (show Blk w12 g3 (#[.slice A n c, .int .u64 last, .bool true, .bool done]) 44 from C15.blk Fg3.out nin_nil)
 clear C0 RS Fg3
 have C0 := C0'; clear C0'
 have RS := RS'; clear RS'
 have Fg3 := Fg3'; clear Fg3'
 have Fg11 := Lib.hid (show Blk w12 g11 ((evA e)) 56 from B14); clear B14 C15
 refine hK10 _ _ ?_; clear hK10 K10
 (try simp only [zP, zN, zA, zB, zC])
 refine ef_ (fun K18 hK18 => ?_)
 refine e_alloc (by rfl) rfl rfl (cs := #[.slice none 0 0, .int .u64 0, .bool false, .bool false]) (by kernel_rfl) ?_
 rintro g19 w20 HG21 B22 C23
 have nw24 := Lib.hid (show w.heap.size ≤ g19 by have := C0.out.size; have := HG21.out; omega)
 have nx25 := Lib.hid (RS.out.ne_new (by decide) HG21)
 have ne26 := Lib.hid (Fg3.out.ne_new HG21)
 have C0' := Lib.hid (show Ch [] w w20 from C0.out.trans' C23 (fun x hx => absurd hx (by simp)))
 have RS' := Lib.hid (show SrcIs w20 (.slice A n c) (n) (xs) 15 from RS.out.chx C23 xnin_nil)
 have Fg3' := Lib.hid (show Blk w20 g3 (#[.slice A n c, .int .u64 last, .bool true, .bool done]) 44 from C23.blk Fg3.out nin_nil)
 have Fg11' := Lib.hid (show Blk w20 g11 ((evA e)) 56 from C23.blk Fg11.out nin_nil)
 clear C0 RS Fg3 Fg11
 have C0 := C0'; clear C0'
 have RS := RS'; clear RS'
 have Fg3 := Fg3'; clear Fg3'
 have Fg11 := Fg11'; clear Fg11'
 have Fg19 := Lib.hid (show Blk w20 g19 (#[.slice none 0 0, .int .u64 0, .bool false, .bool false]) 44 from B22); clear B22 C23
 refine hK18 _ _ ?_; clear hK18 K18
 (try simp only [zP, zN, zA, zB, zC])
 refine pu_ (v := .bool false) (y_assign rfl (by rfl) (by rfl)) ?_
 (try simp only [zP, zN, zA, zB, zC])
 refine nl_ (hK1 _ _ ?_); clear hK1 K1
 refine sq_ (fun K27 hK27 => ?_)
 refine s_ (fun K28 hK28 => ?_)
 refine pu_ (v := .pointer (some ⟨g3, 2, none⟩)) (y_run (by rfl) (fun W => by go_simp)) ?_
 (try simp only [zP, zN, zA, zB, zC])
 refine ld_ (v := .bool true) rfl (by rfl) (by rfl) (run_load_one ((Fg3.out.cell 2).trans rfl) Try.underlying4 rfl) ?_
 (try simp only [zP, zN, zA, zB, zC])
 refine pu_ (v := .bool true) (y_move rfl (by rfl) (by rfl)) ?_
 (try simp only [zP, zN, zA, zB, zC])
 refine pu_ (y_off (by rfl)) ?_
 (try simp only [zP, zN, zA, zB, zC])
 refine pu_ (y_off (by rfl)) ?_
 (try simp only [zP, zN, zA, zB, zC])
 refine pu_ (y_off (by rfl)) ?_
 (try simp only [zP, zN, zA, zB, zC])
 refine pu_ (y_off (by rfl)) ?_
 (try simp only [zP, zN, zA, zB, zC])
 refine pu_ (v := .bool true) (y_pick (t := true) (by rfl) rfl (by rfl) (by rfl)) ?_
 (try simp only [zP, zN, zA, zB, zC])
 refine nl_ (hK28 _ _ ?_); clear hK28 K28
 refine wp_cond_true rfl ?_
 refine s_ (fun K29 hK29 => ?_)
 refine pu_ (v := .pointer (some ⟨g3, 2, none⟩)) (y_run (by rfl) (fun W => by go_simp)) ?_
 (try simp only [zP, zN, zA, zB, zC])
 refine ef_ (fun K30 hK30 => ?_)
 refine e_store1 (b := g3) (j := 2) (v := .bool true) (by rfl) rfl rfl (by rfl) (by rfl) Fg3.out (show 2 < 4 by omega) (by kernel_rfl) rfl ?_
 rintro w31 B32 C33
 have C0' := Lib.hid (show Ch [] w w31 from C0.out.trans' C33 (inw_cons (.inr nw8.out) inw_nil))
 have RS' := Lib.hid (show SrcIs w31 (.slice A n c) (n) (xs) 15 from RS.out.chx C33 (xnin_cons nx9.out xnin_nil))
 have Fg11' := Lib.hid (show Blk w31 g11 ((evA e)) 56 from C33.blk Fg11.out (nin_cons (Blk.ne_type Fg11.out Fg3.out (by decide)) nin_nil))
 have Fg19' := Lib.hid (show Blk w31 g19 (#[.slice none 0 0, .int .u64 0, .bool false, .bool false]) 44 from C33.blk Fg19.out (nin_cons (Ne.symm ne26.out) nin_nil))
 clear C0 RS Fg11 Fg19
 have C0 := C0'; clear C0'
 have RS := RS'; clear RS'
 have Fg11 := Fg11'; clear Fg11'
 have Fg19 := Fg19'; clear Fg19'
 clear Fg3; have Fg3 := Lib.hid (show Blk w31 g3 (#[.slice A n c, .int .u64 last, .bool true, .bool done]) 44 from B32); clear B32 C33
 refine hK30 _ _ ?_; clear hK30 K30
 (try simp only [zP, zN, zA, zB, zC])
 refine nl_ (hK29 _ _ ?_); clear hK29 K29
 refine s_ (fun K34 hK34 => ?_)
 refine ld_ (v := .agg (#[.slice A n c, .int .u64 last, .bool true, .bool done])) rfl (by rfl) (by rfl) (run_loadVar_row _ _ 44 44 (#[.slice A n c, .int .u64 last, .bool true, .bool done]) (0, 0) _ Fg3.out Try.underlying44 rfl (by kernel_rfl)) ?_
 (try simp only [zP, zN, zA, zB, zC])
 refine ef_ (fun K35 hK35 => ?_)
 refine e_storeN (cells := (#[.slice A n c, .int .u64 last, .bool true, .bool done])) (by rfl) rfl rfl (by rfl) (by rfl) Fg19.out (by kernel_rfl) (by rfl) (ones_cons rfl (ones_cons rfl (ones_cons rfl (ones_cons rfl ones_nil)))) ?_
 rintro w36 B37 C38
 have C0' := Lib.hid (show Ch [] w w36 from C0.out.trans' C38 (inw_cons (.inr nw24.out) inw_nil))
 have RS' := Lib.hid (show SrcIs w36 (.slice A n c) (n) (xs) 15 from RS.out.chx C38 (xnin_cons nx25.out xnin_nil))
 have Fg3' := Lib.hid (show Blk w36 g3 (#[.slice A n c, .int .u64 last, .bool true, .bool done]) 44 from C38.blk Fg3.out (nin_cons ne26.out nin_nil))
 have Fg11' := Lib.hid (show Blk w36 g11 ((evA e)) 56 from C38.blk Fg11.out (nin_cons (Blk.ne_type Fg11.out Fg19.out (by decide)) nin_nil))
 clear C0 RS Fg3 Fg11
 have C0 := C0'; clear C0'
 have RS := RS'; clear RS'
 have Fg3 := Fg3'; clear Fg3'
 have Fg11 := Fg11'; clear Fg11'
 clear Fg19; have Fg19 := Lib.hid (show Blk w36 g19 ((#[.slice A n c, .int .u64 last, .bool true, .bool done])) 44 from B37); clear B37 C38
 refine hK35 _ _ ?_; clear hK35 K35
 (try simp only [zP, zN, zA, zB, zC])
 refine pu_ (v := .bool false) (y_assign rfl (by rfl) (by rfl)) ?_
 (try simp only [zP, zN, zA, zB, zC])
 refine nl_ (hK34 _ _ ?_); clear hK34 K34
 refine wp_ret ?_
 refine th_ret ?_
 refine hQ _ _ _ ?_
 refine bodyPost_ret (res2 rfl (rdv_cell (by rfl) (run_loadVar_row _ _ 44 44 ((#[.slice A n c, .int .u64 last, .bool true, .bool done])) (0, 0) _ Fg19.out Try.underlying44 rfl (by kernel_rfl))) (rdv_tmp (v := .bool false) (by rfl))) rfl ?_
 exact ⟨rfl, C0.out⟩
theorem rput_full (w : World) (A : Option Addr) (n c : Nat) (xs : List Value) (last : Int) (done : Bool) (e : Ev) (RS : Hid (SrcIs w (.slice A n c) n xs 15)) (h : 16 ≤ n) :
  Calls Try.prog 16 #[.agg #[.slice A n c, .int .u64 last, .bool false, .bool done], .agg (evA e)] w (fun en w' => en = .returned (.tuple #[.agg #[.slice A n c, .int .u64 last, .bool true, .bool done], .bool false]) ∧ Ch [] w w') := by
 have C0 := Lib.hid (Ch.refl [] w)
 have RS0 := RS
 have D := Lib.hid (show decide (16 ≤ (n : Int)) = true from decide_eq_true (by omega))

 go_enter Try.func16, Try.ntmps16
 refine q_ (fun Q hQ hP => ?_)
 refine s_ (fun K1 hK1 => ?_)
 refine ef_ (fun K2 hK2 => ?_)
 refine e_boxN (by rfl) rfl rfl (cs := #[.slice A n c, .int .u64 last, .bool false, .bool done]) (v := .agg #[.slice A n c, .int .u64 last, .bool false, .bool done]) (by rfl) rfl ?_
 rintro g3 w4 HG5 B6 C7
 have nw8 := Lib.hid (show w.heap.size ≤ g3 by have := C0.out.size; have := HG5.out; omega)
 have nx9 := Lib.hid (RS.out.ne_new (by decide) HG5)
 have C0' := Lib.hid (show Ch [] w w4 from C0.out.trans' C7 (fun x hx => absurd hx (by simp)))
 have RS' := Lib.hid (show SrcIs w4 (.slice A n c) (n) (xs) 15 from RS.out.chx C7 xnin_nil)
 clear C0 RS
 have C0 := C0'; clear C0'
 have RS := RS'; clear RS'
 have Fg3 := Lib.hid (show Blk w4 g3 (#[.slice A n c, .int .u64 last, .bool false, .bool done]) 44 from B6); clear B6 C7
 refine hK2 _ _ ?_; clear hK2 K2
 (try simp only [zP, zN, zA, zB, zC])
 refine ef_ (fun K10 hK10 => ?_)
 refine e_boxN (by rfl) rfl rfl (cs := (evA e)) (v := .agg (evA e)) (by rfl) rfl ?_
 rintro g11 w12 HG13 B14 C15
 have nw16 := Lib.hid (show w.heap.size ≤ g11 by have := C0.out.size; have := HG13.out; omega)
 have nx17 := Lib.hid (RS.out.ne_new (by decide) HG13)
 have C0' := Lib.hid (show Ch [] w w12 from C0.out.trans' C15 (fun x hx => absurd hx (by simp)))
 have RS' := Lib.hid (show SrcIs w12 (.slice A n c) (n) (xs) 15 from RS.out.chx C15 xnin_nil)
 have Fg3' := Lib.hid (show Blk w12 g3 (#[.slice A n c, .int .u64 last, .bool false, .bool done]) 44 from C15.blk Fg3.out nin_nil)
 clear C0 RS Fg3
 have C0 := C0'; clear C0'
 have RS := RS'; clear RS'
 have Fg3 := Fg3'; clear Fg3'
 have Fg11 := Lib.hid (show Blk w12 g11 ((evA e)) 56 from B14); clear B14 C15
 refine hK10 _ _ ?_; clear hK10 K10
 (try simp only [zP, zN, zA, zB, zC])
 refine ef_ (fun K18 hK18 => ?_)
 refine e_alloc (by rfl) rfl rfl (cs := #[.slice none 0 0, .int .u64 0, .bool false, .bool false]) (by kernel_rfl) ?_
 rintro g19 w20 HG21 B22 C23
 have nw24 := Lib.hid (show w.heap.size ≤ g19 by have := C0.out.size; have := HG21.out; omega)
 have nx25 := Lib.hid (RS.out.ne_new (by decide) HG21)
 have ne26 := Lib.hid (Fg3.out.ne_new HG21)
 have C0' := Lib.hid (show Ch [] w w20 from C0.out.trans' C23 (fun x hx => absurd hx (by simp)))
 have RS' := Lib.hid (show SrcIs w20 (.slice A n c) (n) (xs) 15 from RS.out.chx C23 xnin_nil)
 have Fg3' := Lib.hid (show Blk w20 g3 (#[.slice A n c, .int .u64 last, .bool false, .bool done]) 44 from C23.blk Fg3.out nin_nil)
 have Fg11' := Lib.hid (show Blk w20 g11 ((evA e)) 56 from C23.blk Fg11.out nin_nil)
 clear C0 RS Fg3 Fg11
 have C0 := C0'; clear C0'
 have RS := RS'; clear RS'
 have Fg3 := Fg3'; clear Fg3'
 have Fg11 := Fg11'; clear Fg11'
 have Fg19 := Lib.hid (show Blk w20 g19 (#[.slice none 0 0, .int .u64 0, .bool false, .bool false]) 44 from B22); clear B22 C23
 refine hK18 _ _ ?_; clear hK18 K18
 (try simp only [zP, zN, zA, zB, zC])
 refine pu_ (v := .bool false) (y_assign rfl (by rfl) (by rfl)) ?_
 (try simp only [zP, zN, zA, zB, zC])
 refine nl_ (hK1 _ _ ?_); clear hK1 K1
 refine sq_ (fun K27 hK27 => ?_)
 refine s_ (fun K28 hK28 => ?_)
 refine pu_ (v := .pointer (some ⟨g3, 2, none⟩)) (y_run (by rfl) (fun W => by go_simp)) ?_
 (try simp only [zP, zN, zA, zB, zC])
 refine ld_ (v := .bool false) rfl (by rfl) (by rfl) (run_load_one ((Fg3.out.cell 2).trans rfl) Try.underlying4 rfl) ?_
 (try simp only [zP, zN, zA, zB, zC])
 refine pu_ (v := .bool false) (y_move rfl (by rfl) (by rfl)) ?_
 (try simp only [zP, zN, zA, zB, zC])
 refine pu_ (v := .pointer (some ⟨g3, 0, none⟩)) (y_run (by rfl) (fun W => by go_simp)) ?_
 (try simp only [zP, zN, zA, zB, zC])
 refine ld_ (v := .slice A n c) rfl (by rfl) (by rfl) (run_load_one ((Fg3.out.cell 0).trans rfl) Try.underlying41 rfl) ?_
 (try simp only [zP, zN, zA, zB, zC])
 refine pu_ (v := .int .i64 n) (y_run (by rfl) (fun W => by go_simp)) ?_
 (try simp only [zP, zN, zA, zB, zC])
 refine pu_ (v := .bool true) (y_run (by rfl) (fun W => by have d := D.out; go_simp)) ?_
 (try simp only [zP, zN, zA, zB, zC])
 refine pu_ (v := .bool true) (y_pick (t := false) (by rfl) rfl (by rfl) (by rfl)) ?_
 (try simp only [zP, zN, zA, zB, zC])
 refine nl_ (hK28 _ _ ?_); clear hK28 K28
 refine wp_cond_true rfl ?_
 refine s_ (fun K29 hK29 => ?_)
 refine pu_ (v := .pointer (some ⟨g3, 2, none⟩)) (y_run (by rfl) (fun W => by go_simp)) ?_
 (try simp only [zP, zN, zA, zB, zC])
 refine ef_ (fun K30 hK30 => ?_)
 refine e_store1 (b := g3) (j := 2) (v := .bool true) (by rfl) rfl rfl (by rfl) (by rfl) Fg3.out (show 2 < 4 by omega) (by kernel_rfl) rfl ?_
 rintro w31 B32 C33
 have C0' := Lib.hid (show Ch [] w w31 from C0.out.trans' C33 (inw_cons (.inr nw8.out) inw_nil))
 have RS' := Lib.hid (show SrcIs w31 (.slice A n c) (n) (xs) 15 from RS.out.chx C33 (xnin_cons nx9.out xnin_nil))
 have Fg11' := Lib.hid (show Blk w31 g11 ((evA e)) 56 from C33.blk Fg11.out (nin_cons (Blk.ne_type Fg11.out Fg3.out (by decide)) nin_nil))
 have Fg19' := Lib.hid (show Blk w31 g19 (#[.slice none 0 0, .int .u64 0, .bool false, .bool false]) 44 from C33.blk Fg19.out (nin_cons (Ne.symm ne26.out) nin_nil))
 clear C0 RS Fg11 Fg19
 have C0 := C0'; clear C0'
 have RS := RS'; clear RS'
 have Fg11 := Fg11'; clear Fg11'
 have Fg19 := Fg19'; clear Fg19'
 clear Fg3; have Fg3 := Lib.hid (show Blk w31 g3 (#[.slice A n c, .int .u64 last, .bool true, .bool done]) 44 from B32); clear B32 C33
 refine hK30 _ _ ?_; clear hK30 K30
 (try simp only [zP, zN, zA, zB, zC])
 refine nl_ (hK29 _ _ ?_); clear hK29 K29
 refine s_ (fun K34 hK34 => ?_)
 refine ld_ (v := .agg (#[.slice A n c, .int .u64 last, .bool true, .bool done])) rfl (by rfl) (by rfl) (run_loadVar_row _ _ 44 44 (#[.slice A n c, .int .u64 last, .bool true, .bool done]) (0, 0) _ Fg3.out Try.underlying44 rfl (by kernel_rfl)) ?_
 (try simp only [zP, zN, zA, zB, zC])
 refine ef_ (fun K35 hK35 => ?_)
 refine e_storeN (cells := (#[.slice A n c, .int .u64 last, .bool true, .bool done])) (by rfl) rfl rfl (by rfl) (by rfl) Fg19.out (by kernel_rfl) (by rfl) (ones_cons rfl (ones_cons rfl (ones_cons rfl (ones_cons rfl ones_nil)))) ?_
 rintro w36 B37 C38
 have C0' := Lib.hid (show Ch [] w w36 from C0.out.trans' C38 (inw_cons (.inr nw24.out) inw_nil))
 have RS' := Lib.hid (show SrcIs w36 (.slice A n c) (n) (xs) 15 from RS.out.chx C38 (xnin_cons nx25.out xnin_nil))
 have Fg3' := Lib.hid (show Blk w36 g3 (#[.slice A n c, .int .u64 last, .bool true, .bool done]) 44 from C38.blk Fg3.out (nin_cons ne26.out nin_nil))
 have Fg11' := Lib.hid (show Blk w36 g11 ((evA e)) 56 from C38.blk Fg11.out (nin_cons (Blk.ne_type Fg11.out Fg19.out (by decide)) nin_nil))
 clear C0 RS Fg3 Fg11
 have C0 := C0'; clear C0'
 have RS := RS'; clear RS'
 have Fg3 := Fg3'; clear Fg3'
 have Fg11 := Fg11'; clear Fg11'
 clear Fg19; have Fg19 := Lib.hid (show Blk w36 g19 ((#[.slice A n c, .int .u64 last, .bool true, .bool done])) 44 from B37); clear B37 C38
 refine hK35 _ _ ?_; clear hK35 K35
 (try simp only [zP, zN, zA, zB, zC])
 refine pu_ (v := .bool false) (y_assign rfl (by rfl) (by rfl)) ?_
 (try simp only [zP, zN, zA, zB, zC])
 refine nl_ (hK34 _ _ ?_); clear hK34 K34
 refine wp_ret ?_
 refine th_ret ?_
 refine hQ _ _ _ ?_
 refine bodyPost_ret (res2 rfl (rdv_cell (by rfl) (run_loadVar_row _ _ 44 44 ((#[.slice A n c, .int .u64 last, .bool true, .bool done])) (0, 0) _ Fg19.out Try.underlying44 rfl (by kernel_rfl))) (rdv_tmp (v := .bool false) (by rfl))) rfl ?_
 exact ⟨rfl, C0.out⟩
theorem rput_ok (w : World) (A : Option Addr) (n c : Nat) (xs : List Value) (last : Int) (done : Bool) (e : Ev) (RS : Hid (SrcIs w (.slice A n c) n xs 15)) (h : n < 16) (hx : ∀ u ∈ xs, u.oneCell' = true) :
  Calls Try.prog 16 #[.agg #[.slice A n c, .int .u64 last, .bool false, .bool done], .agg (evA e)] w (fun en w' => ∃ (A' : Option Addr) (c' : Nat), en = .returned (.tuple #[.agg #[(.slice A' (n + 1) c'), .int .u64 e.r, .bool false, .bool done], .bool true]) ∧ SrcIs w' (.slice A' (n + 1) c') (n + 1) (xs ++ evC e) 15 ∧ n + 1 ≤ c' ∧ c' ≤ maxLen ∧ Ch [] w w' ∧ ∀ k, k ∈ xb (.slice A' (n + 1) c') → w.heap.size ≤ k) := by
 have C0 := Lib.hid (Ch.refl [] w)
 have RS0 := RS
 have D := Lib.hid (show decide (16 ≤ (n : Int)) = false from decide_eq_false (by omega))
 obtain ⟨i56, I56⟩ := Info.of info56
 have HX := Lib.hid hx
 go_enter Try.func16, Try.ntmps16
 refine q_ (fun Q hQ hP => ?_)
 refine s_ (fun K1 hK1 => ?_)
 refine ef_ (fun K2 hK2 => ?_)
 refine e_boxN (by rfl) rfl rfl (cs := #[.slice A n c, .int .u64 last, .bool false, .bool done]) (v := .agg #[.slice A n c, .int .u64 last, .bool false, .bool done]) (by rfl) rfl ?_
 rintro g3 w4 HG5 B6 C7
 have nw8 := Lib.hid (show w.heap.size ≤ g3 by have := C0.out.size; have := HG5.out; omega)
 have nx9 := Lib.hid (RS.out.ne_new (by decide) HG5)
 have C0' := Lib.hid (show Ch [] w w4 from C0.out.trans' C7 (fun x hx => absurd hx (by simp)))
 have RS' := Lib.hid (show SrcIs w4 (.slice A n c) (n) (xs) 15 from RS.out.chx C7 xnin_nil)
 clear C0 RS
 have C0 := C0'; clear C0'
 have RS := RS'; clear RS'
 have Fg3 := Lib.hid (show Blk w4 g3 (#[.slice A n c, .int .u64 last, .bool false, .bool done]) 44 from B6); clear B6 C7
 refine hK2 _ _ ?_; clear hK2 K2
 (try simp only [zP, zN, zA, zB, zC])
 refine ef_ (fun K10 hK10 => ?_)
 refine e_boxN (by rfl) rfl rfl (cs := (evA e)) (v := .agg (evA e)) (by rfl) rfl ?_
 rintro g11 w12 HG13 B14 C15
 have nw16 := Lib.hid (show w.heap.size ≤ g11 by have := C0.out.size; have := HG13.out; omega)
 have nx17 := Lib.hid (RS.out.ne_new (by decide) HG13)
 have C0' := Lib.hid (show Ch [] w w12 from C0.out.trans' C15 (fun x hx => absurd hx (by simp)))
 have RS' := Lib.hid (show SrcIs w12 (.slice A n c) (n) (xs) 15 from RS.out.chx C15 xnin_nil)
 have Fg3' := Lib.hid (show Blk w12 g3 (#[.slice A n c, .int .u64 last, .bool false, .bool done]) 44 from C15.blk Fg3.out nin_nil)
 clear C0 RS Fg3
 have C0 := C0'; clear C0'
 have RS := RS'; clear RS'
 have Fg3 := Fg3'; clear Fg3'
 have Fg11 := Lib.hid (show Blk w12 g11 ((evA e)) 56 from B14); clear B14 C15
 refine hK10 _ _ ?_; clear hK10 K10
 (try simp only [zP, zN, zA, zB, zC])
 refine ef_ (fun K18 hK18 => ?_)
 refine e_alloc (by rfl) rfl rfl (cs := #[.slice none 0 0, .int .u64 0, .bool false, .bool false]) (by kernel_rfl) ?_
 rintro g19 w20 HG21 B22 C23
 have nw24 := Lib.hid (show w.heap.size ≤ g19 by have := C0.out.size; have := HG21.out; omega)
 have nx25 := Lib.hid (RS.out.ne_new (by decide) HG21)
 have ne26 := Lib.hid (Fg3.out.ne_new HG21)
 have C0' := Lib.hid (show Ch [] w w20 from C0.out.trans' C23 (fun x hx => absurd hx (by simp)))
 have RS' := Lib.hid (show SrcIs w20 (.slice A n c) (n) (xs) 15 from RS.out.chx C23 xnin_nil)
 have Fg3' := Lib.hid (show Blk w20 g3 (#[.slice A n c, .int .u64 last, .bool false, .bool done]) 44 from C23.blk Fg3.out nin_nil)
 have Fg11' := Lib.hid (show Blk w20 g11 ((evA e)) 56 from C23.blk Fg11.out nin_nil)
 clear C0 RS Fg3 Fg11
 have C0 := C0'; clear C0'
 have RS := RS'; clear RS'
 have Fg3 := Fg3'; clear Fg3'
 have Fg11 := Fg11'; clear Fg11'
 have Fg19 := Lib.hid (show Blk w20 g19 (#[.slice none 0 0, .int .u64 0, .bool false, .bool false]) 44 from B22); clear B22 C23
 refine hK18 _ _ ?_; clear hK18 K18
 (try simp only [zP, zN, zA, zB, zC])
 refine pu_ (v := .bool false) (y_assign rfl (by rfl) (by rfl)) ?_
 (try simp only [zP, zN, zA, zB, zC])
 refine nl_ (hK1 _ _ ?_); clear hK1 K1
 refine sq_ (fun K27 hK27 => ?_)
 refine s_ (fun K28 hK28 => ?_)
 refine pu_ (v := .pointer (some ⟨g3, 2, none⟩)) (y_run (by rfl) (fun W => by go_simp)) ?_
 (try simp only [zP, zN, zA, zB, zC])
 refine ld_ (v := .bool false) rfl (by rfl) (by rfl) (run_load_one ((Fg3.out.cell 2).trans rfl) Try.underlying4 rfl) ?_
 (try simp only [zP, zN, zA, zB, zC])
 refine pu_ (v := .bool false) (y_move rfl (by rfl) (by rfl)) ?_
 (try simp only [zP, zN, zA, zB, zC])
 refine pu_ (v := .pointer (some ⟨g3, 0, none⟩)) (y_run (by rfl) (fun W => by go_simp)) ?_
 (try simp only [zP, zN, zA, zB, zC])
 refine ld_ (v := .slice A n c) rfl (by rfl) (by rfl) (run_load_one ((Fg3.out.cell 0).trans rfl) Try.underlying41 rfl) ?_
 (try simp only [zP, zN, zA, zB, zC])
 refine pu_ (v := .int .i64 n) (y_run (by rfl) (fun W => by go_simp)) ?_
 (try simp only [zP, zN, zA, zB, zC])
 refine pu_ (v := .bool false) (y_run (by rfl) (fun W => by have d := D.out; go_simp)) ?_
 (try simp only [zP, zN, zA, zB, zC])
 refine pu_ (v := .bool false) (y_pick (t := false) (by rfl) rfl (by rfl) (by rfl)) ?_
 (try simp only [zP, zN, zA, zB, zC])
 refine nl_ (hK28 _ _ ?_); clear hK28 K28
 refine wp_cond_false rfl ?_
 refine wp_skip ?_
 refine th_norm (hK27 _ _ ?_); try clear hK27 K27
 refine sq_ (fun K29 hK29 => ?_)
 refine startk_ (S := fun W => Blk W g3 (#[.slice A n c, .int .u64 last, .bool false, .bool done]) 44 ∧ Blk W g11 ((evA e)) 56 ∧ True) (ds := [8]) #[false, false, false, false, false, false, false, false, false] (by kernel_rfl) rfl rfl (fun W c => ⟨c.blk Fg3.out nin_nil, c.blk Fg11.out nin_nil, trivial⟩) (fun w30 C31 hS32 => ?_)
 have C0' := Lib.hid (show Ch [] w w30 from C0.out.trans' C31 (fun x hx => absurd hx (by simp)))
 have RS' := Lib.hid (show SrcIs w30 (.slice A n c) (n) (xs) 15 from RS.out.chx C31 xnin_nil)
 have Fg3' := Lib.hid (show Blk w30 g3 (#[.slice A n c, .int .u64 last, .bool false, .bool done]) 44 from C31.blk Fg3.out nin_nil)
 have Fg11' := Lib.hid (show Blk w30 g11 ((evA e)) 56 from C31.blk Fg11.out nin_nil)
 have Fg19' := Lib.hid (show Blk w30 g19 (#[.slice none 0 0, .int .u64 0, .bool false, .bool false]) 44 from C31.blk Fg19.out nin_nil)
 clear C0 RS Fg3 Fg11 Fg19
 have C0 := C0'; clear C0'
 have RS := RS'; clear RS'
 have Fg3 := Fg3'; clear Fg3'
 have Fg11 := Fg11'; clear Fg11'
 have Fg19 := Fg19'; clear Fg19'
 clear C31
 refine pure_ (i := 1) (N := some 17) (v := .pointer (some ⟨g3, 0, none⟩)) #[false, true, false, false, false, false, false, false, false] rfl rfl (by kernel_rfl) (fun c a w h => hP c a _ _ w h) (y_run (by rfl) (fun W => by go_simp)) rfl ?_
 (try simp only [zP, zN, zA, zB, zC])
 refine take_ (i := 2) (N := some 18) (v := .slice A n c) #[false, true, true, false, false, false, false, false, false] rfl rfl (by kernel_rfl) (fun c a w h => hP c a _ _ w h) (y_load (p := ⟨g3, 0, none⟩) rfl (by rfl) (by rfl) (fun W hS => run_load_one ((hS.1.cell 0).trans rfl) Try.underlying41 rfl)) hS32 rfl ?_
 (try simp only [zP, zN, zA, zB, zC])
 refine take_ (i := 4) (N := some 20) (v := .agg ((evA e))) #[false, true, true, false, true, false, false, false, false] rfl rfl (by kernel_rfl) (fun c a w h => hP c a _ _ w h) (y_load (p := ⟨g11, 0, none⟩) rfl (by rfl) (by rfl) (fun W hS => run_loadVar_row _ _ 56 56 ((evA e)) (0, 0) _ hS.2.1 Try.underlying56 rfl (by kernel_rfl))) hS32 rfl ?_
 (try simp only [zP, zN, zA, zB, zC])
 refine two_ (i := 0) (j := 5) (Ni := some 16) (Nj := some 21) #[true, true, true, false, true, false, false, false, false] #[false, true, true, false, true, true, false, false, false] rfl rfl rfl rfl (by kernel_rfl) (by simp) (by simp) (fun K33 hK33 => ?_) (fun K34 hK34 => ?_)
 ·refine e_buildS0 (by rfl) rfl rfl Try.underlying41 I56.hi ?_
  rintro g35 w36 HG37 C39
  have C0' := Lib.hid (show Ch [] w w36 from C0.out.trans' C39 (fun x hx => absurd hx (by simp)))
  have RS' := Lib.hid (show SrcIs w36 (.slice A n c) (n) (xs) 15 from RS.out.chx C39 xnin_nil)
  have Fg3' := Lib.hid (show Blk w36 g3 (#[.slice A n c, .int .u64 last, .bool false, .bool done]) 44 from C39.blk Fg3.out nin_nil)
  have Fg11' := Lib.hid (show Blk w36 g11 ((evA e)) 56 from C39.blk Fg11.out nin_nil)
  have Fg19' := Lib.hid (show Blk w36 g19 (#[.slice none 0 0, .int .u64 0, .bool false, .bool false]) 44 from C39.blk Fg19.out nin_nil)
  clear C0 RS Fg3 Fg11 Fg19
  have C0 := C0'; clear C0'
  have RS := RS'; clear RS'
  have Fg3 := Fg3'; clear Fg3'
  have Fg11 := Fg11'; clear Fg11'
  have Fg19 := Fg19'; clear Fg19'
  clear C39
  have Z40 := Lib.hid (show OwnS w36 w.heap.size 56 15 (.slice (some ⟨g35, 0, none⟩) 0 0) (0) ([]) from OwnS.nil _ _ _ _ _)
  refine hK33.out _ _ ⟨Fg3.out, Fg11.out, trivial⟩ (fun hS41 => ?_); clear hK33 K33
  (try simp only [zP, zN, zA, zB, zC])
  refine two_ (i := 3) (j := 5) (Ni := some 19) (Nj := some 21) #[true, true, true, true, true, false, false, false, false] #[true, true, true, false, true, true, false, false, false] rfl rfl rfl rfl (by kernel_rfl) (by simp) (by simp) (fun K42 hK42 => ?_) (fun K43 hK43 => ?_)
  ·refine e_append (by rfl) rfl rfl w.heap.size 56 _ _ 15 192 Try.underlying41 I56.hi I56.hz I56.hs I56.hb rfl (by decide) (.slice (some ⟨g35, 0, none⟩) 0 0) (0) ([]) (by rfl) Z40.out (.slice A n c) n (xs) (by rfl) RS.out HX.out (by unfold maxLen; omega) (by omega) (by have := C0.out.size; omega) ?_
   rintro v44 w45 O46 C47 R48 -
   replace C47 : Ch [] _ _ := C47
   replace R48 : ∀ k, k ∈ rl v44 → w36.heap.size ≤ k := fun k hk => (R48 k hk).elim (fun h => absurd h (by simp [rl])) id
   have rw49 := Lib.hid (show ∀ x, x ∈ rl v44 → x ∈ [] ∨ w.heap.size ≤ x from fun x hx => .inr (by have := R48 x hx; have := C0.out.size; omega))
   have xr50 := Lib.hid (show ∀ k, k ∈ xb (.slice A n c) → k ∉ rl v44 from fun k hk hm => by have := R48 k hm; have := RS.out.lt (by decide) k hk; omega)
   have nr51 := Lib.hid (show g11 ∉ rl v44 from fun hk => by have := R48 _ hk; have := Fg11.out.lt; omega)
   have C0' := Lib.hid (show Ch [] w w45 from C0.out.trans' C47 (fun x hx => absurd hx (by simp)))
   have RS' := Lib.hid (show SrcIs w45 (.slice A n c) (n) (xs) 15 from RS.out.chx C47 xnin_nil)
   have Fg3' := Lib.hid (show Blk w45 g3 (#[.slice A n c, .int .u64 last, .bool false, .bool done]) 44 from C47.blk Fg3.out nin_nil)
   have Fg11' := Lib.hid (show Blk w45 g11 ((evA e)) 56 from C47.blk Fg11.out nin_nil)
   have Fg19' := Lib.hid (show Blk w45 g19 (#[.slice none 0 0, .int .u64 0, .bool false, .bool false]) 44 from C47.blk Fg19.out nin_nil)
   clear C0 RS Fg3 Fg11 Fg19
   have C0 := C0'; clear C0'
   have RS := RS'; clear RS'
   have Fg3 := Fg3'; clear Fg3'
   have Fg11 := Fg11'; clear Fg11'
   have Fg19 := Fg19'; clear Fg19'
   clear Z40
   have Z40 := Lib.hid (show OwnS w45 w.heap.size 56 15 (v44) (n) (xs) from (by simpa using O46)); clear O46 C47
   refine hK42.out _ _ ⟨Fg3.out, Fg11.out, trivial⟩ (fun hS52 => ?_); clear hK42 K42
   (try simp only [zP, zN, zA, zB, zC])
   refine one_ (i := 5) (N := some 21) #[true, true, true, true, true, true, false, false, false] rfl rfl (by kernel_rfl) (by simp) (fun K53 hK53 => ?_)
   refine e_buildS (parts := #[(0, .agg ((evA e)))]) (cells := ((evA e))) (by rfl) rfl rfl (by first | rfl | (simp only [List.map_toArray, List.map_cons, List.map_nil]; first | done | rfl)) Try.underlying41 I56.hi I56.hz I56.hs (by decide) (by decide) (by kernel_rfl) ?_
   rintro g54 w55 HG56 B57 C58
   have nw59 := Lib.hid (show w.heap.size ≤ g54 by have := C0.out.size; have := HG56.out; omega)
   have nx60 := Lib.hid (RS.out.ne_new (by decide) HG56)
   have ne61 := Lib.hid (Fg11.out.ne_new HG56)
   have nr62 := Lib.hid (Z40.out.ne_new HG56)
   have C0' := Lib.hid (show Ch [] w w55 from C0.out.trans' C58 (fun x hx => absurd hx (by simp)))
   have RS' := Lib.hid (show SrcIs w55 (.slice A n c) (n) (xs) 15 from RS.out.chx C58 xnin_nil)
   have Fg3' := Lib.hid (show Blk w55 g3 (#[.slice A n c, .int .u64 last, .bool false, .bool done]) 44 from C58.blk Fg3.out nin_nil)
   have Fg11' := Lib.hid (show Blk w55 g11 ((evA e)) 56 from C58.blk Fg11.out nin_nil)
   have Fg19' := Lib.hid (show Blk w55 g19 (#[.slice none 0 0, .int .u64 0, .bool false, .bool false]) 44 from C58.blk Fg19.out nin_nil)
   have Z40' := Lib.hid (show OwnS w55 w.heap.size 56 15 (v44) (n) (xs) from Z40.out.ch C58 rnin_nil)
   clear C0 RS Fg3 Fg11 Fg19 Z40
   have C0 := C0'; clear C0'
   have RS := RS'; clear RS'
   have Fg3 := Fg3'; clear Fg3'
   have Fg11 := Fg11'; clear Fg11'
   have Fg19 := Fg19'; clear Fg19'
   have Z40 := Z40'; clear Z40'
   have Fg54 := Lib.hid (show Blk w55 g54 (((evA e))) 56 from B57); clear B57 C58
   refine hK53.out _ _ ⟨Fg3.out, Fg11.out, trivial⟩ (fun hS63 => ?_); clear hK53 K53
   (try simp only [zP, zN, zA, zB, zC])
   refine one_ (i := 6) (N := some 22) #[true, true, true, true, true, true, true, false, false] rfl rfl (by kernel_rfl) (by simp) (fun K64 hK64 => ?_)
   refine e_append (by rfl) rfl rfl w.heap.size 56 _ _ 15 192 Try.underlying41 I56.hi I56.hz I56.hs I56.hb rfl (by decide) (v44) (n) (xs) (by rfl) Z40.out (.slice (some ⟨g54, 0, none⟩) 1 1) 1 (evC e) (by rfl) ⟨rfl, .inr ⟨_, _, rfl, CellsAt.blk Fg54.out 0⟩⟩ (evC_one e) (by unfold maxLen; omega) (by omega) (by have := C0.out.size; omega) ?_
   rintro v65 w66 O67 C68 R69 -
   have rw70 := Lib.hid (show ∀ x, x ∈ rl v65 → x ∈ [] ∨ w.heap.size ≤ x from fun x hx => (R69 x hx).elim (fun h => rw49.out _ h) (fun h => .inr (by have := C0.out.size; omega)))
   have xr71 := Lib.hid (show ∀ k, k ∈ xb (.slice A n c) → k ∉ rl v65 from fun k hk hm => (R69 k hm).elim (fun h => xr50.out k hk h) (fun h => by have := RS.out.lt (by decide) k hk; omega))
   have nr72 := Lib.hid (show g11 ∉ rl v65 from fun hk => (R69 _ hk).elim nr51.out (fun h => by have := Fg11.out.lt; omega))
   have nr73 := Lib.hid (show g54 ∉ rl v65 from fun hk => (R69 _ hk).elim nr62.out (fun h => by have := Fg54.out.lt; omega))
   have C0' := Lib.hid (show Ch [] w w66 from C0.out.trans' C68 (rw49.out : ∀ x, x ∈ rl (v44) → _ ∨ _))
   have RS' := Lib.hid (show SrcIs w66 (.slice A n c) (n) (xs) 15 from RS.out.chx C68 xr50.out)
   have Fg3' := Lib.hid (show Blk w66 g3 (#[.slice A n c, .int .u64 last, .bool false, .bool done]) 44 from C68.blk Fg3.out (Z40.out.ne Fg3.out (by decide)))
   have Fg11' := Lib.hid (show Blk w66 g11 ((evA e)) 56 from C68.blk Fg11.out nr51.out)
   have Fg19' := Lib.hid (show Blk w66 g19 (#[.slice none 0 0, .int .u64 0, .bool false, .bool false]) 44 from C68.blk Fg19.out (Z40.out.ne Fg19.out (by decide)))
   have Fg54' := Lib.hid (show Blk w66 g54 (((evA e))) 56 from C68.blk Fg54.out nr62.out)
   clear C0 RS Fg3 Fg11 Fg19 Fg54
   have C0 := C0'; clear C0'
   have RS := RS'; clear RS'
   have Fg3 := Fg3'; clear Fg3'
   have Fg11 := Fg11'; clear Fg11'
   have Fg19 := Fg19'; clear Fg19'
   have Fg54 := Fg54'; clear Fg54'
   clear Z40
   have Z40 := Lib.hid (show OwnS w66 w.heap.size 56 15 (v65) (n + 1) (xs ++ evC e) from O67); clear O67 C68
   refine hK64.out _ _ ⟨Fg3.out, Fg11.out, trivial⟩ (fun hS74 => ?_); clear hK64 K64
   (try simp only [zP, zN, zA, zB, zC])
   refine pure_ (i := 7) (N := some 23) (v := .pointer (some ⟨g3, 0, none⟩)) #[true, true, true, true, true, true, true, true, false] rfl rfl (by kernel_rfl) (fun c a w h => hP c a _ _ w h) (y_run (by rfl) (fun W => by go_simp)) rfl ?_
   (try simp only [zP, zN, zA, zB, zC])
   refine last_ (i := 8) (N := none) #[true, true, true, true, true, true, true, true, true] rfl rfl (by kernel_rfl) (by simp) (fun K75 hK75 => ?_)
   refine e_store1 (b := g3) (j := 0) (v := v65) (by rfl) rfl rfl (by rfl) (by rfl) Fg3.out (show 0 < 4 by omega) (by kernel_rfl) Z40.out.one ?_
   rintro w76 B77 C78
   have C0' := Lib.hid (show Ch [] w w76 from C0.out.trans' C78 (inw_cons (.inr nw8.out) inw_nil))
   have RS' := Lib.hid (show SrcIs w76 (.slice A n c) (n) (xs) 15 from RS.out.chx C78 (xnin_cons nx9.out xnin_nil))
   have Fg11' := Lib.hid (show Blk w76 g11 ((evA e)) 56 from C78.blk Fg11.out (nin_cons (Blk.ne_type Fg11.out Fg3.out (by decide)) nin_nil))
   have Fg19' := Lib.hid (show Blk w76 g19 (#[.slice none 0 0, .int .u64 0, .bool false, .bool false]) 44 from C78.blk Fg19.out (nin_cons (Ne.symm ne26.out) nin_nil))
   have Z40' := Lib.hid (show OwnS w76 w.heap.size 56 15 (v65) (n + 1) (xs ++ evC e) from Z40.out.ch C78 (rnin_cons (Z40.out.ne Fg3.out (by decide)) rnin_nil))
   have Fg54' := Lib.hid (show Blk w76 g54 (((evA e))) 56 from C78.blk Fg54.out (nin_cons (Blk.ne_type Fg54.out Fg3.out (by decide)) nin_nil))
   clear C0 RS Fg11 Fg19 Z40 Fg54
   have C0 := C0'; clear C0'
   have RS := RS'; clear RS'
   have Fg11 := Fg11'; clear Fg11'
   have Fg19 := Fg19'; clear Fg19'
   have Z40 := Z40'; clear Z40'
   have Fg54 := Fg54'; clear Fg54'
   clear Fg3; have Fg3 := Lib.hid (show Blk w76 g3 (#[v65, .int .u64 last, .bool false, .bool done]) 44 from B77); clear B77 C78
   refine hK75.out _ _ ?_; clear hK75 K75
   (try simp only [zP, zN, zA, zB, zC])
   refine done_ (by kernel_rfl) (th_norm (hK29 _ _ ?_)); clear hK29 K29
   refine s_ (fun K79 hK79 => ?_)
   refine pu_ (v := .pointer (some ⟨g11, 1, none⟩)) (y_run (by rfl) (fun W => by go_simp)) ?_
   (try simp only [zP, zN, zA, zB, zC])
   refine ld_ (v := .int .u64 e.r) rfl (by rfl) (by rfl) (run_load_one ((Fg11.out.cell 1).trans rfl) Try.underlying42 rfl) ?_
   (try simp only [zP, zN, zA, zB, zC])
   refine pu_ (v := .pointer (some ⟨g3, 1, none⟩)) (y_run (by rfl) (fun W => by go_simp)) ?_
   (try simp only [zP, zN, zA, zB, zC])
   refine ef_ (fun K80 hK80 => ?_)
   refine e_store1 (b := g3) (j := 1) (v := .int .u64 e.r) (by rfl) rfl rfl (by rfl) (by rfl) Fg3.out (show 1 < 4 by omega) (by kernel_rfl) rfl ?_
   rintro w81 B82 C83
   have C0' := Lib.hid (show Ch [] w w81 from C0.out.trans' C83 (inw_cons (.inr nw8.out) inw_nil))
   have RS' := Lib.hid (show SrcIs w81 (.slice A n c) (n) (xs) 15 from RS.out.chx C83 (xnin_cons nx9.out xnin_nil))
   have Fg11' := Lib.hid (show Blk w81 g11 ((evA e)) 56 from C83.blk Fg11.out (nin_cons (Blk.ne_type Fg11.out Fg3.out (by decide)) nin_nil))
   have Fg19' := Lib.hid (show Blk w81 g19 (#[.slice none 0 0, .int .u64 0, .bool false, .bool false]) 44 from C83.blk Fg19.out (nin_cons (Ne.symm ne26.out) nin_nil))
   have Z40' := Lib.hid (show OwnS w81 w.heap.size 56 15 (v65) (n + 1) (xs ++ evC e) from Z40.out.ch C83 (rnin_cons (Z40.out.ne Fg3.out (by decide)) rnin_nil))
   have Fg54' := Lib.hid (show Blk w81 g54 (((evA e))) 56 from C83.blk Fg54.out (nin_cons (Blk.ne_type Fg54.out Fg3.out (by decide)) nin_nil))
   clear C0 RS Fg11 Fg19 Z40 Fg54
   have C0 := C0'; clear C0'
   have RS := RS'; clear RS'
   have Fg11 := Fg11'; clear Fg11'
   have Fg19 := Fg19'; clear Fg19'
   have Z40 := Z40'; clear Z40'
   have Fg54 := Fg54'; clear Fg54'
   clear Fg3; have Fg3 := Lib.hid (show Blk w81 g3 (#[v65, .int .u64 e.r, .bool false, .bool done]) 44 from B82); clear B82 C83
   refine hK80 _ _ ?_; clear hK80 K80
   (try simp only [zP, zN, zA, zB, zC])
   refine nl_ (hK79 _ _ ?_); clear hK79 K79
   refine s_ (fun K84 hK84 => ?_)
   refine ld_ (v := .agg (#[v65, .int .u64 e.r, .bool false, .bool done])) rfl (by rfl) (by rfl) (run_loadVar_row _ _ 44 44 (#[v65, .int .u64 e.r, .bool false, .bool done]) (0, 0) _ Fg3.out Try.underlying44 rfl (by kernel_rfl)) ?_
   (try simp only [zP, zN, zA, zB, zC])
   refine ef_ (fun K85 hK85 => ?_)
   refine e_storeN (cells := (#[v65, .int .u64 e.r, .bool false, .bool done])) (by rfl) rfl rfl (by rfl) (by rfl) Fg19.out (by kernel_rfl) (by rfl) (ones_cons Z40.out.one (ones_cons rfl (ones_cons rfl (ones_cons rfl ones_nil)))) ?_
   rintro w86 B87 C88
   have C0' := Lib.hid (show Ch [] w w86 from C0.out.trans' C88 (inw_cons (.inr nw24.out) inw_nil))
   have RS' := Lib.hid (show SrcIs w86 (.slice A n c) (n) (xs) 15 from RS.out.chx C88 (xnin_cons nx25.out xnin_nil))
   have Fg3' := Lib.hid (show Blk w86 g3 (#[v65, .int .u64 e.r, .bool false, .bool done]) 44 from C88.blk Fg3.out (nin_cons ne26.out nin_nil))
   have Fg11' := Lib.hid (show Blk w86 g11 ((evA e)) 56 from C88.blk Fg11.out (nin_cons (Blk.ne_type Fg11.out Fg19.out (by decide)) nin_nil))
   have Z40' := Lib.hid (show OwnS w86 w.heap.size 56 15 (v65) (n + 1) (xs ++ evC e) from Z40.out.ch C88 (rnin_cons (Z40.out.ne Fg19.out (by decide)) rnin_nil))
   have Fg54' := Lib.hid (show Blk w86 g54 (((evA e))) 56 from C88.blk Fg54.out (nin_cons (Blk.ne_type Fg54.out Fg19.out (by decide)) nin_nil))
   clear C0 RS Fg3 Fg11 Z40 Fg54
   have C0 := C0'; clear C0'
   have RS := RS'; clear RS'
   have Fg3 := Fg3'; clear Fg3'
   have Fg11 := Fg11'; clear Fg11'
   have Z40 := Z40'; clear Z40'
   have Fg54 := Fg54'; clear Fg54'
   clear Fg19; have Fg19 := Lib.hid (show Blk w86 g19 ((#[v65, .int .u64 e.r, .bool false, .bool done])) 44 from B87); clear B87 C88
   refine hK85 _ _ ?_; clear hK85 K85
   (try simp only [zP, zN, zA, zB, zC])
   refine pu_ (v := .bool true) (y_assign rfl (by rfl) (by rfl)) ?_
   (try simp only [zP, zN, zA, zB, zC])
   refine nl_ (hK84 _ _ ?_); clear hK84 K84
   refine wp_ret ?_
   refine hQ _ _ _ ?_
   refine bodyPost_ret (res2 rfl (rdv_cell (by rfl) (run_loadVar_row _ _ 44 44 ((#[v65, .int .u64 e.r, .bool false, .bool done])) (0, 0) _ Fg19.out Try.underlying44 rfl (by kernel_rfl))) (rdv_tmp (v := .bool true) (by rfl))) rfl ?_
   obtain ⟨A', c', hv, hc1, hc2⟩ := Z40.out.slice
   subst hv
   exact ⟨A', c', rfl, Z40.out.src, hc1, hc2, C0.out, fun k hk => (rw70.out k (xb_rl Z40.out k hk)).elim (fun h => absurd h (by simp)) id⟩
  ·refine e_buildS (parts := #[(0, .agg ((evA e)))]) (cells := ((evA e))) (by rfl) rfl rfl (by first | rfl | (simp only [List.map_toArray, List.map_cons, List.map_nil]; first | done | rfl)) Try.underlying41 I56.hi I56.hz I56.hs (by decide) (by decide) (by kernel_rfl) ?_
   rintro g89 w90 HG91 B92 C93
   have nw94 := Lib.hid (show w.heap.size ≤ g89 by have := C0.out.size; have := HG91.out; omega)
   have nx95 := Lib.hid (RS.out.ne_new (by decide) HG91)
   have ne96 := Lib.hid (Fg11.out.ne_new HG91)
   have nr97 := Lib.hid (Z40.out.ne_new HG91)
   have C0' := Lib.hid (show Ch [] w w90 from C0.out.trans' C93 (fun x hx => absurd hx (by simp)))
   have RS' := Lib.hid (show SrcIs w90 (.slice A n c) (n) (xs) 15 from RS.out.chx C93 xnin_nil)
   have Fg3' := Lib.hid (show Blk w90 g3 (#[.slice A n c, .int .u64 last, .bool false, .bool done]) 44 from C93.blk Fg3.out nin_nil)
   have Fg11' := Lib.hid (show Blk w90 g11 ((evA e)) 56 from C93.blk Fg11.out nin_nil)
   have Fg19' := Lib.hid (show Blk w90 g19 (#[.slice none 0 0, .int .u64 0, .bool false, .bool false]) 44 from C93.blk Fg19.out nin_nil)
   have Z40' := Lib.hid (show OwnS w90 w.heap.size 56 15 (.slice (some ⟨g35, 0, none⟩) 0 0) (0) ([]) from Z40.out.ch C93 (fun k hk => absurd hk (by simp [rl])))
   clear C0 RS Fg3 Fg11 Fg19 Z40
   have C0 := C0'; clear C0'
   have RS := RS'; clear RS'
   have Fg3 := Fg3'; clear Fg3'
   have Fg11 := Fg11'; clear Fg11'
   have Fg19 := Fg19'; clear Fg19'
   have Z40 := Z40'; clear Z40'
   have Fg89 := Lib.hid (show Blk w90 g89 (((evA e))) 56 from B92); clear B92 C93
   refine hK43.out _ _ ⟨Fg3.out, Fg11.out, trivial⟩ (fun hS98 => ?_); clear hK43 K43
   (try simp only [zP, zN, zA, zB, zC])
   refine one_ (i := 3) (N := some 19) #[true, true, true, true, true, true, false, false, false] rfl rfl (by kernel_rfl) (by simp) (fun K99 hK99 => ?_)
   refine e_append (by rfl) rfl rfl w.heap.size 56 _ _ 15 192 Try.underlying41 I56.hi I56.hz I56.hs I56.hb rfl (by decide) (.slice (some ⟨g35, 0, none⟩) 0 0) (0) ([]) (by rfl) Z40.out (.slice A n c) n (xs) (by rfl) RS.out HX.out (by unfold maxLen; omega) (by omega) (by have := C0.out.size; omega) ?_
   rintro v100 w101 O102 C103 R104 -
   replace C103 : Ch [] _ _ := C103
   replace R104 : ∀ k, k ∈ rl v100 → w90.heap.size ≤ k := fun k hk => (R104 k hk).elim (fun h => absurd h (by simp [rl])) id
   have rw105 := Lib.hid (show ∀ x, x ∈ rl v100 → x ∈ [] ∨ w.heap.size ≤ x from fun x hx => .inr (by have := R104 x hx; have := C0.out.size; omega))
   have xr106 := Lib.hid (show ∀ k, k ∈ xb (.slice A n c) → k ∉ rl v100 from fun k hk hm => by have := R104 k hm; have := RS.out.lt (by decide) k hk; omega)
   have nr107 := Lib.hid (show g11 ∉ rl v100 from fun hk => by have := R104 _ hk; have := Fg11.out.lt; omega)
   have nr108 := Lib.hid (show g89 ∉ rl v100 from fun hk => by have := R104 _ hk; have := Fg89.out.lt; omega)
   have C0' := Lib.hid (show Ch [] w w101 from C0.out.trans' C103 (fun x hx => absurd hx (by simp)))
   have RS' := Lib.hid (show SrcIs w101 (.slice A n c) (n) (xs) 15 from RS.out.chx C103 xnin_nil)
   have Fg3' := Lib.hid (show Blk w101 g3 (#[.slice A n c, .int .u64 last, .bool false, .bool done]) 44 from C103.blk Fg3.out nin_nil)
   have Fg11' := Lib.hid (show Blk w101 g11 ((evA e)) 56 from C103.blk Fg11.out nin_nil)
   have Fg19' := Lib.hid (show Blk w101 g19 (#[.slice none 0 0, .int .u64 0, .bool false, .bool false]) 44 from C103.blk Fg19.out nin_nil)
   have Fg89' := Lib.hid (show Blk w101 g89 (((evA e))) 56 from C103.blk Fg89.out nin_nil)
   clear C0 RS Fg3 Fg11 Fg19 Fg89
   have C0 := C0'; clear C0'
   have RS := RS'; clear RS'
   have Fg3 := Fg3'; clear Fg3'
   have Fg11 := Fg11'; clear Fg11'
   have Fg19 := Fg19'; clear Fg19'
   have Fg89 := Fg89'; clear Fg89'
   clear Z40
   have Z40 := Lib.hid (show OwnS w101 w.heap.size 56 15 (v100) (n) (xs) from (by simpa using O102)); clear O102 C103
   refine hK99.out _ _ ⟨Fg3.out, Fg11.out, trivial⟩ (fun hS109 => ?_); clear hK99 K99
   (try simp only [zP, zN, zA, zB, zC])
   refine one_ (i := 6) (N := some 22) #[true, true, true, true, true, true, true, false, false] rfl rfl (by kernel_rfl) (by simp) (fun K110 hK110 => ?_)
   refine e_append (by rfl) rfl rfl w.heap.size 56 _ _ 15 192 Try.underlying41 I56.hi I56.hz I56.hs I56.hb rfl (by decide) (v100) (n) (xs) (by rfl) Z40.out (.slice (some ⟨g89, 0, none⟩) 1 1) 1 (evC e) (by rfl) ⟨rfl, .inr ⟨_, _, rfl, CellsAt.blk Fg89.out 0⟩⟩ (evC_one e) (by unfold maxLen; omega) (by omega) (by have := C0.out.size; omega) ?_
   rintro v111 w112 O113 C114 R115 -
   have rw116 := Lib.hid (show ∀ x, x ∈ rl v111 → x ∈ [] ∨ w.heap.size ≤ x from fun x hx => (R115 x hx).elim (fun h => rw105.out _ h) (fun h => .inr (by have := C0.out.size; omega)))
   have xr117 := Lib.hid (show ∀ k, k ∈ xb (.slice A n c) → k ∉ rl v111 from fun k hk hm => (R115 k hm).elim (fun h => xr106.out k hk h) (fun h => by have := RS.out.lt (by decide) k hk; omega))
   have nr118 := Lib.hid (show g11 ∉ rl v111 from fun hk => (R115 _ hk).elim nr107.out (fun h => by have := Fg11.out.lt; omega))
   have nr119 := Lib.hid (show g89 ∉ rl v111 from fun hk => (R115 _ hk).elim nr108.out (fun h => by have := Fg89.out.lt; omega))
   have C0' := Lib.hid (show Ch [] w w112 from C0.out.trans' C114 (rw105.out : ∀ x, x ∈ rl (v100) → _ ∨ _))
   have RS' := Lib.hid (show SrcIs w112 (.slice A n c) (n) (xs) 15 from RS.out.chx C114 xr106.out)
   have Fg3' := Lib.hid (show Blk w112 g3 (#[.slice A n c, .int .u64 last, .bool false, .bool done]) 44 from C114.blk Fg3.out (Z40.out.ne Fg3.out (by decide)))
   have Fg11' := Lib.hid (show Blk w112 g11 ((evA e)) 56 from C114.blk Fg11.out nr107.out)
   have Fg19' := Lib.hid (show Blk w112 g19 (#[.slice none 0 0, .int .u64 0, .bool false, .bool false]) 44 from C114.blk Fg19.out (Z40.out.ne Fg19.out (by decide)))
   have Fg89' := Lib.hid (show Blk w112 g89 (((evA e))) 56 from C114.blk Fg89.out nr108.out)
   clear C0 RS Fg3 Fg11 Fg19 Fg89
   have C0 := C0'; clear C0'
   have RS := RS'; clear RS'
   have Fg3 := Fg3'; clear Fg3'
   have Fg11 := Fg11'; clear Fg11'
   have Fg19 := Fg19'; clear Fg19'
   have Fg89 := Fg89'; clear Fg89'
   clear Z40
   have Z40 := Lib.hid (show OwnS w112 w.heap.size 56 15 (v111) (n + 1) (xs ++ evC e) from O113); clear O113 C114
   refine hK110.out _ _ ⟨Fg3.out, Fg11.out, trivial⟩ (fun hS120 => ?_); clear hK110 K110
   (try simp only [zP, zN, zA, zB, zC])
   refine pure_ (i := 7) (N := some 23) (v := .pointer (some ⟨g3, 0, none⟩)) #[true, true, true, true, true, true, true, true, false] rfl rfl (by kernel_rfl) (fun c a w h => hP c a _ _ w h) (y_run (by rfl) (fun W => by go_simp)) rfl ?_
   (try simp only [zP, zN, zA, zB, zC])
   refine last_ (i := 8) (N := none) #[true, true, true, true, true, true, true, true, true] rfl rfl (by kernel_rfl) (by simp) (fun K121 hK121 => ?_)
   refine e_store1 (b := g3) (j := 0) (v := v111) (by rfl) rfl rfl (by rfl) (by rfl) Fg3.out (show 0 < 4 by omega) (by kernel_rfl) Z40.out.one ?_
   rintro w122 B123 C124
   have C0' := Lib.hid (show Ch [] w w122 from C0.out.trans' C124 (inw_cons (.inr nw8.out) inw_nil))
   have RS' := Lib.hid (show SrcIs w122 (.slice A n c) (n) (xs) 15 from RS.out.chx C124 (xnin_cons nx9.out xnin_nil))
   have Fg11' := Lib.hid (show Blk w122 g11 ((evA e)) 56 from C124.blk Fg11.out (nin_cons (Blk.ne_type Fg11.out Fg3.out (by decide)) nin_nil))
   have Fg19' := Lib.hid (show Blk w122 g19 (#[.slice none 0 0, .int .u64 0, .bool false, .bool false]) 44 from C124.blk Fg19.out (nin_cons (Ne.symm ne26.out) nin_nil))
   have Z40' := Lib.hid (show OwnS w122 w.heap.size 56 15 (v111) (n + 1) (xs ++ evC e) from Z40.out.ch C124 (rnin_cons (Z40.out.ne Fg3.out (by decide)) rnin_nil))
   have Fg89' := Lib.hid (show Blk w122 g89 (((evA e))) 56 from C124.blk Fg89.out (nin_cons (Blk.ne_type Fg89.out Fg3.out (by decide)) nin_nil))
   clear C0 RS Fg11 Fg19 Z40 Fg89
   have C0 := C0'; clear C0'
   have RS := RS'; clear RS'
   have Fg11 := Fg11'; clear Fg11'
   have Fg19 := Fg19'; clear Fg19'
   have Z40 := Z40'; clear Z40'
   have Fg89 := Fg89'; clear Fg89'
   clear Fg3; have Fg3 := Lib.hid (show Blk w122 g3 (#[v111, .int .u64 last, .bool false, .bool done]) 44 from B123); clear B123 C124
   refine hK121.out _ _ ?_; clear hK121 K121
   (try simp only [zP, zN, zA, zB, zC])
   refine done_ (by kernel_rfl) (th_norm (hK29 _ _ ?_)); clear hK29 K29
   refine s_ (fun K125 hK125 => ?_)
   refine pu_ (v := .pointer (some ⟨g11, 1, none⟩)) (y_run (by rfl) (fun W => by go_simp)) ?_
   (try simp only [zP, zN, zA, zB, zC])
   refine ld_ (v := .int .u64 e.r) rfl (by rfl) (by rfl) (run_load_one ((Fg11.out.cell 1).trans rfl) Try.underlying42 rfl) ?_
   (try simp only [zP, zN, zA, zB, zC])
   refine pu_ (v := .pointer (some ⟨g3, 1, none⟩)) (y_run (by rfl) (fun W => by go_simp)) ?_
   (try simp only [zP, zN, zA, zB, zC])
   refine ef_ (fun K126 hK126 => ?_)
   refine e_store1 (b := g3) (j := 1) (v := .int .u64 e.r) (by rfl) rfl rfl (by rfl) (by rfl) Fg3.out (show 1 < 4 by omega) (by kernel_rfl) rfl ?_
   rintro w127 B128 C129
   have C0' := Lib.hid (show Ch [] w w127 from C0.out.trans' C129 (inw_cons (.inr nw8.out) inw_nil))
   have RS' := Lib.hid (show SrcIs w127 (.slice A n c) (n) (xs) 15 from RS.out.chx C129 (xnin_cons nx9.out xnin_nil))
   have Fg11' := Lib.hid (show Blk w127 g11 ((evA e)) 56 from C129.blk Fg11.out (nin_cons (Blk.ne_type Fg11.out Fg3.out (by decide)) nin_nil))
   have Fg19' := Lib.hid (show Blk w127 g19 (#[.slice none 0 0, .int .u64 0, .bool false, .bool false]) 44 from C129.blk Fg19.out (nin_cons (Ne.symm ne26.out) nin_nil))
   have Z40' := Lib.hid (show OwnS w127 w.heap.size 56 15 (v111) (n + 1) (xs ++ evC e) from Z40.out.ch C129 (rnin_cons (Z40.out.ne Fg3.out (by decide)) rnin_nil))
   have Fg89' := Lib.hid (show Blk w127 g89 (((evA e))) 56 from C129.blk Fg89.out (nin_cons (Blk.ne_type Fg89.out Fg3.out (by decide)) nin_nil))
   clear C0 RS Fg11 Fg19 Z40 Fg89
   have C0 := C0'; clear C0'
   have RS := RS'; clear RS'
   have Fg11 := Fg11'; clear Fg11'
   have Fg19 := Fg19'; clear Fg19'
   have Z40 := Z40'; clear Z40'
   have Fg89 := Fg89'; clear Fg89'
   clear Fg3; have Fg3 := Lib.hid (show Blk w127 g3 (#[v111, .int .u64 e.r, .bool false, .bool done]) 44 from B128); clear B128 C129
   refine hK126 _ _ ?_; clear hK126 K126
   (try simp only [zP, zN, zA, zB, zC])
   refine nl_ (hK125 _ _ ?_); clear hK125 K125
   refine s_ (fun K130 hK130 => ?_)
   refine ld_ (v := .agg (#[v111, .int .u64 e.r, .bool false, .bool done])) rfl (by rfl) (by rfl) (run_loadVar_row _ _ 44 44 (#[v111, .int .u64 e.r, .bool false, .bool done]) (0, 0) _ Fg3.out Try.underlying44 rfl (by kernel_rfl)) ?_
   (try simp only [zP, zN, zA, zB, zC])
   refine ef_ (fun K131 hK131 => ?_)
   refine e_storeN (cells := (#[v111, .int .u64 e.r, .bool false, .bool done])) (by rfl) rfl rfl (by rfl) (by rfl) Fg19.out (by kernel_rfl) (by rfl) (ones_cons Z40.out.one (ones_cons rfl (ones_cons rfl (ones_cons rfl ones_nil)))) ?_
   rintro w132 B133 C134
   have C0' := Lib.hid (show Ch [] w w132 from C0.out.trans' C134 (inw_cons (.inr nw24.out) inw_nil))
   have RS' := Lib.hid (show SrcIs w132 (.slice A n c) (n) (xs) 15 from RS.out.chx C134 (xnin_cons nx25.out xnin_nil))
   have Fg3' := Lib.hid (show Blk w132 g3 (#[v111, .int .u64 e.r, .bool false, .bool done]) 44 from C134.blk Fg3.out (nin_cons ne26.out nin_nil))
   have Fg11' := Lib.hid (show Blk w132 g11 ((evA e)) 56 from C134.blk Fg11.out (nin_cons (Blk.ne_type Fg11.out Fg19.out (by decide)) nin_nil))
   have Z40' := Lib.hid (show OwnS w132 w.heap.size 56 15 (v111) (n + 1) (xs ++ evC e) from Z40.out.ch C134 (rnin_cons (Z40.out.ne Fg19.out (by decide)) rnin_nil))
   have Fg89' := Lib.hid (show Blk w132 g89 (((evA e))) 56 from C134.blk Fg89.out (nin_cons (Blk.ne_type Fg89.out Fg19.out (by decide)) nin_nil))
   clear C0 RS Fg3 Fg11 Z40 Fg89
   have C0 := C0'; clear C0'
   have RS := RS'; clear RS'
   have Fg3 := Fg3'; clear Fg3'
   have Fg11 := Fg11'; clear Fg11'
   have Z40 := Z40'; clear Z40'
   have Fg89 := Fg89'; clear Fg89'
   clear Fg19; have Fg19 := Lib.hid (show Blk w132 g19 ((#[v111, .int .u64 e.r, .bool false, .bool done])) 44 from B133); clear B133 C134
   refine hK131 _ _ ?_; clear hK131 K131
   (try simp only [zP, zN, zA, zB, zC])
   refine pu_ (v := .bool true) (y_assign rfl (by rfl) (by rfl)) ?_
   (try simp only [zP, zN, zA, zB, zC])
   refine nl_ (hK130 _ _ ?_); clear hK130 K130
   refine wp_ret ?_
   refine hQ _ _ _ ?_
   refine bodyPost_ret (res2 rfl (rdv_cell (by rfl) (run_loadVar_row _ _ 44 44 ((#[v111, .int .u64 e.r, .bool false, .bool done])) (0, 0) _ Fg19.out Try.underlying44 rfl (by kernel_rfl))) (rdv_tmp (v := .bool true) (by rfl))) rfl ?_
   obtain ⟨A', c', hv, hc1, hc2⟩ := Z40.out.slice
   subst hv
   exact ⟨A', c', rfl, Z40.out.src, hc1, hc2, C0.out, fun k hk => (rw116.out k (xb_rl Z40.out k hk)).elim (fun h => absurd h (by simp)) id⟩
 ·refine e_buildS (parts := #[(0, .agg ((evA e)))]) (cells := ((evA e))) (by rfl) rfl rfl (by first | rfl | (simp only [List.map_toArray, List.map_cons, List.map_nil]; first | done | rfl)) Try.underlying41 I56.hi I56.hz I56.hs (by decide) (by decide) (by kernel_rfl) ?_
  rintro g135 w136 HG137 B138 C139
  have nw140 := Lib.hid (show w.heap.size ≤ g135 by have := C0.out.size; have := HG137.out; omega)
  have nx141 := Lib.hid (RS.out.ne_new (by decide) HG137)
  have ne142 := Lib.hid (Fg11.out.ne_new HG137)
  have C0' := Lib.hid (show Ch [] w w136 from C0.out.trans' C139 (fun x hx => absurd hx (by simp)))
  have RS' := Lib.hid (show SrcIs w136 (.slice A n c) (n) (xs) 15 from RS.out.chx C139 xnin_nil)
  have Fg3' := Lib.hid (show Blk w136 g3 (#[.slice A n c, .int .u64 last, .bool false, .bool done]) 44 from C139.blk Fg3.out nin_nil)
  have Fg11' := Lib.hid (show Blk w136 g11 ((evA e)) 56 from C139.blk Fg11.out nin_nil)
  have Fg19' := Lib.hid (show Blk w136 g19 (#[.slice none 0 0, .int .u64 0, .bool false, .bool false]) 44 from C139.blk Fg19.out nin_nil)
  clear C0 RS Fg3 Fg11 Fg19
  have C0 := C0'; clear C0'
  have RS := RS'; clear RS'
  have Fg3 := Fg3'; clear Fg3'
  have Fg11 := Fg11'; clear Fg11'
  have Fg19 := Fg19'; clear Fg19'
  have Fg135 := Lib.hid (show Blk w136 g135 (((evA e))) 56 from B138); clear B138 C139
  refine hK34.out _ _ ⟨Fg3.out, Fg11.out, trivial⟩ (fun hS143 => ?_); clear hK34 K34
  (try simp only [zP, zN, zA, zB, zC])
  refine one_ (i := 0) (N := some 16) #[true, true, true, false, true, true, false, false, false] rfl rfl (by kernel_rfl) (by simp) (fun K144 hK144 => ?_)
  refine e_buildS0 (by rfl) rfl rfl Try.underlying41 I56.hi ?_
  rintro g145 w146 HG147 C149
  have C0' := Lib.hid (show Ch [] w w146 from C0.out.trans' C149 (fun x hx => absurd hx (by simp)))
  have RS' := Lib.hid (show SrcIs w146 (.slice A n c) (n) (xs) 15 from RS.out.chx C149 xnin_nil)
  have Fg3' := Lib.hid (show Blk w146 g3 (#[.slice A n c, .int .u64 last, .bool false, .bool done]) 44 from C149.blk Fg3.out nin_nil)
  have Fg11' := Lib.hid (show Blk w146 g11 ((evA e)) 56 from C149.blk Fg11.out nin_nil)
  have Fg19' := Lib.hid (show Blk w146 g19 (#[.slice none 0 0, .int .u64 0, .bool false, .bool false]) 44 from C149.blk Fg19.out nin_nil)
  have Fg135' := Lib.hid (show Blk w146 g135 (((evA e))) 56 from C149.blk Fg135.out nin_nil)
  clear C0 RS Fg3 Fg11 Fg19 Fg135
  have C0 := C0'; clear C0'
  have RS := RS'; clear RS'
  have Fg3 := Fg3'; clear Fg3'
  have Fg11 := Fg11'; clear Fg11'
  have Fg19 := Fg19'; clear Fg19'
  have Fg135 := Fg135'; clear Fg135'
  clear C149
  have Z150 := Lib.hid (show OwnS w146 w.heap.size 56 15 (.slice (some ⟨g145, 0, none⟩) 0 0) (0) ([]) from OwnS.nil _ _ _ _ _)
  refine hK144.out _ _ ⟨Fg3.out, Fg11.out, trivial⟩ (fun hS151 => ?_); clear hK144 K144
  (try simp only [zP, zN, zA, zB, zC])
  refine one_ (i := 3) (N := some 19) #[true, true, true, true, true, true, false, false, false] rfl rfl (by kernel_rfl) (by simp) (fun K152 hK152 => ?_)
  refine e_append (by rfl) rfl rfl w.heap.size 56 _ _ 15 192 Try.underlying41 I56.hi I56.hz I56.hs I56.hb rfl (by decide) (.slice (some ⟨g145, 0, none⟩) 0 0) (0) ([]) (by rfl) Z150.out (.slice A n c) n (xs) (by rfl) RS.out HX.out (by unfold maxLen; omega) (by omega) (by have := C0.out.size; omega) ?_
  rintro v153 w154 O155 C156 R157 -
  replace C156 : Ch [] _ _ := C156
  replace R157 : ∀ k, k ∈ rl v153 → w146.heap.size ≤ k := fun k hk => (R157 k hk).elim (fun h => absurd h (by simp [rl])) id
  have rw158 := Lib.hid (show ∀ x, x ∈ rl v153 → x ∈ [] ∨ w.heap.size ≤ x from fun x hx => .inr (by have := R157 x hx; have := C0.out.size; omega))
  have xr159 := Lib.hid (show ∀ k, k ∈ xb (.slice A n c) → k ∉ rl v153 from fun k hk hm => by have := R157 k hm; have := RS.out.lt (by decide) k hk; omega)
  have nr160 := Lib.hid (show g11 ∉ rl v153 from fun hk => by have := R157 _ hk; have := Fg11.out.lt; omega)
  have nr161 := Lib.hid (show g135 ∉ rl v153 from fun hk => by have := R157 _ hk; have := Fg135.out.lt; omega)
  have C0' := Lib.hid (show Ch [] w w154 from C0.out.trans' C156 (fun x hx => absurd hx (by simp)))
  have RS' := Lib.hid (show SrcIs w154 (.slice A n c) (n) (xs) 15 from RS.out.chx C156 xnin_nil)
  have Fg3' := Lib.hid (show Blk w154 g3 (#[.slice A n c, .int .u64 last, .bool false, .bool done]) 44 from C156.blk Fg3.out nin_nil)
  have Fg11' := Lib.hid (show Blk w154 g11 ((evA e)) 56 from C156.blk Fg11.out nin_nil)
  have Fg19' := Lib.hid (show Blk w154 g19 (#[.slice none 0 0, .int .u64 0, .bool false, .bool false]) 44 from C156.blk Fg19.out nin_nil)
  have Fg135' := Lib.hid (show Blk w154 g135 (((evA e))) 56 from C156.blk Fg135.out nin_nil)
  clear C0 RS Fg3 Fg11 Fg19 Fg135
  have C0 := C0'; clear C0'
  have RS := RS'; clear RS'
  have Fg3 := Fg3'; clear Fg3'
  have Fg11 := Fg11'; clear Fg11'
  have Fg19 := Fg19'; clear Fg19'
  have Fg135 := Fg135'; clear Fg135'
  clear Z150
  have Z150 := Lib.hid (show OwnS w154 w.heap.size 56 15 (v153) (n) (xs) from (by simpa using O155)); clear O155 C156
  refine hK152.out _ _ ⟨Fg3.out, Fg11.out, trivial⟩ (fun hS162 => ?_); clear hK152 K152
  (try simp only [zP, zN, zA, zB, zC])
  refine one_ (i := 6) (N := some 22) #[true, true, true, true, true, true, true, false, false] rfl rfl (by kernel_rfl) (by simp) (fun K163 hK163 => ?_)
  refine e_append (by rfl) rfl rfl w.heap.size 56 _ _ 15 192 Try.underlying41 I56.hi I56.hz I56.hs I56.hb rfl (by decide) (v153) (n) (xs) (by rfl) Z150.out (.slice (some ⟨g135, 0, none⟩) 1 1) 1 (evC e) (by rfl) ⟨rfl, .inr ⟨_, _, rfl, CellsAt.blk Fg135.out 0⟩⟩ (evC_one e) (by unfold maxLen; omega) (by omega) (by have := C0.out.size; omega) ?_
  rintro v164 w165 O166 C167 R168 -
  have rw169 := Lib.hid (show ∀ x, x ∈ rl v164 → x ∈ [] ∨ w.heap.size ≤ x from fun x hx => (R168 x hx).elim (fun h => rw158.out _ h) (fun h => .inr (by have := C0.out.size; omega)))
  have xr170 := Lib.hid (show ∀ k, k ∈ xb (.slice A n c) → k ∉ rl v164 from fun k hk hm => (R168 k hm).elim (fun h => xr159.out k hk h) (fun h => by have := RS.out.lt (by decide) k hk; omega))
  have nr171 := Lib.hid (show g11 ∉ rl v164 from fun hk => (R168 _ hk).elim nr160.out (fun h => by have := Fg11.out.lt; omega))
  have nr172 := Lib.hid (show g135 ∉ rl v164 from fun hk => (R168 _ hk).elim nr161.out (fun h => by have := Fg135.out.lt; omega))
  have C0' := Lib.hid (show Ch [] w w165 from C0.out.trans' C167 (rw158.out : ∀ x, x ∈ rl (v153) → _ ∨ _))
  have RS' := Lib.hid (show SrcIs w165 (.slice A n c) (n) (xs) 15 from RS.out.chx C167 xr159.out)
  have Fg3' := Lib.hid (show Blk w165 g3 (#[.slice A n c, .int .u64 last, .bool false, .bool done]) 44 from C167.blk Fg3.out (Z150.out.ne Fg3.out (by decide)))
  have Fg11' := Lib.hid (show Blk w165 g11 ((evA e)) 56 from C167.blk Fg11.out nr160.out)
  have Fg19' := Lib.hid (show Blk w165 g19 (#[.slice none 0 0, .int .u64 0, .bool false, .bool false]) 44 from C167.blk Fg19.out (Z150.out.ne Fg19.out (by decide)))
  have Fg135' := Lib.hid (show Blk w165 g135 (((evA e))) 56 from C167.blk Fg135.out nr161.out)
  clear C0 RS Fg3 Fg11 Fg19 Fg135
  have C0 := C0'; clear C0'
  have RS := RS'; clear RS'
  have Fg3 := Fg3'; clear Fg3'
  have Fg11 := Fg11'; clear Fg11'
  have Fg19 := Fg19'; clear Fg19'
  have Fg135 := Fg135'; clear Fg135'
  clear Z150
  have Z150 := Lib.hid (show OwnS w165 w.heap.size 56 15 (v164) (n + 1) (xs ++ evC e) from O166); clear O166 C167
  refine hK163.out _ _ ⟨Fg3.out, Fg11.out, trivial⟩ (fun hS173 => ?_); clear hK163 K163
  (try simp only [zP, zN, zA, zB, zC])
  refine pure_ (i := 7) (N := some 23) (v := .pointer (some ⟨g3, 0, none⟩)) #[true, true, true, true, true, true, true, true, false] rfl rfl (by kernel_rfl) (fun c a w h => hP c a _ _ w h) (y_run (by rfl) (fun W => by go_simp)) rfl ?_
  (try simp only [zP, zN, zA, zB, zC])
  refine last_ (i := 8) (N := none) #[true, true, true, true, true, true, true, true, true] rfl rfl (by kernel_rfl) (by simp) (fun K174 hK174 => ?_)
  refine e_store1 (b := g3) (j := 0) (v := v164) (by rfl) rfl rfl (by rfl) (by rfl) Fg3.out (show 0 < 4 by omega) (by kernel_rfl) Z150.out.one ?_
  rintro w175 B176 C177
  have C0' := Lib.hid (show Ch [] w w175 from C0.out.trans' C177 (inw_cons (.inr nw8.out) inw_nil))
  have RS' := Lib.hid (show SrcIs w175 (.slice A n c) (n) (xs) 15 from RS.out.chx C177 (xnin_cons nx9.out xnin_nil))
  have Fg11' := Lib.hid (show Blk w175 g11 ((evA e)) 56 from C177.blk Fg11.out (nin_cons (Blk.ne_type Fg11.out Fg3.out (by decide)) nin_nil))
  have Fg19' := Lib.hid (show Blk w175 g19 (#[.slice none 0 0, .int .u64 0, .bool false, .bool false]) 44 from C177.blk Fg19.out (nin_cons (Ne.symm ne26.out) nin_nil))
  have Fg135' := Lib.hid (show Blk w175 g135 (((evA e))) 56 from C177.blk Fg135.out (nin_cons (Blk.ne_type Fg135.out Fg3.out (by decide)) nin_nil))
  have Z150' := Lib.hid (show OwnS w175 w.heap.size 56 15 (v164) (n + 1) (xs ++ evC e) from Z150.out.ch C177 (rnin_cons (Z150.out.ne Fg3.out (by decide)) rnin_nil))
  clear C0 RS Fg11 Fg19 Fg135 Z150
  have C0 := C0'; clear C0'
  have RS := RS'; clear RS'
  have Fg11 := Fg11'; clear Fg11'
  have Fg19 := Fg19'; clear Fg19'
  have Fg135 := Fg135'; clear Fg135'
  have Z150 := Z150'; clear Z150'
  clear Fg3; have Fg3 := Lib.hid (show Blk w175 g3 (#[v164, .int .u64 last, .bool false, .bool done]) 44 from B176); clear B176 C177
  refine hK174.out _ _ ?_; clear hK174 K174
  (try simp only [zP, zN, zA, zB, zC])
  refine done_ (by kernel_rfl) (th_norm (hK29 _ _ ?_)); clear hK29 K29
  refine s_ (fun K178 hK178 => ?_)
  refine pu_ (v := .pointer (some ⟨g11, 1, none⟩)) (y_run (by rfl) (fun W => by go_simp)) ?_
  (try simp only [zP, zN, zA, zB, zC])
  refine ld_ (v := .int .u64 e.r) rfl (by rfl) (by rfl) (run_load_one ((Fg11.out.cell 1).trans rfl) Try.underlying42 rfl) ?_
  (try simp only [zP, zN, zA, zB, zC])
  refine pu_ (v := .pointer (some ⟨g3, 1, none⟩)) (y_run (by rfl) (fun W => by go_simp)) ?_
  (try simp only [zP, zN, zA, zB, zC])
  refine ef_ (fun K179 hK179 => ?_)
  refine e_store1 (b := g3) (j := 1) (v := .int .u64 e.r) (by rfl) rfl rfl (by rfl) (by rfl) Fg3.out (show 1 < 4 by omega) (by kernel_rfl) rfl ?_
  rintro w180 B181 C182
  have C0' := Lib.hid (show Ch [] w w180 from C0.out.trans' C182 (inw_cons (.inr nw8.out) inw_nil))
  have RS' := Lib.hid (show SrcIs w180 (.slice A n c) (n) (xs) 15 from RS.out.chx C182 (xnin_cons nx9.out xnin_nil))
  have Fg11' := Lib.hid (show Blk w180 g11 ((evA e)) 56 from C182.blk Fg11.out (nin_cons (Blk.ne_type Fg11.out Fg3.out (by decide)) nin_nil))
  have Fg19' := Lib.hid (show Blk w180 g19 (#[.slice none 0 0, .int .u64 0, .bool false, .bool false]) 44 from C182.blk Fg19.out (nin_cons (Ne.symm ne26.out) nin_nil))
  have Fg135' := Lib.hid (show Blk w180 g135 (((evA e))) 56 from C182.blk Fg135.out (nin_cons (Blk.ne_type Fg135.out Fg3.out (by decide)) nin_nil))
  have Z150' := Lib.hid (show OwnS w180 w.heap.size 56 15 (v164) (n + 1) (xs ++ evC e) from Z150.out.ch C182 (rnin_cons (Z150.out.ne Fg3.out (by decide)) rnin_nil))
  clear C0 RS Fg11 Fg19 Fg135 Z150
  have C0 := C0'; clear C0'
  have RS := RS'; clear RS'
  have Fg11 := Fg11'; clear Fg11'
  have Fg19 := Fg19'; clear Fg19'
  have Fg135 := Fg135'; clear Fg135'
  have Z150 := Z150'; clear Z150'
  clear Fg3; have Fg3 := Lib.hid (show Blk w180 g3 (#[v164, .int .u64 e.r, .bool false, .bool done]) 44 from B181); clear B181 C182
  refine hK179 _ _ ?_; clear hK179 K179
  (try simp only [zP, zN, zA, zB, zC])
  refine nl_ (hK178 _ _ ?_); clear hK178 K178
  refine s_ (fun K183 hK183 => ?_)
  refine ld_ (v := .agg (#[v164, .int .u64 e.r, .bool false, .bool done])) rfl (by rfl) (by rfl) (run_loadVar_row _ _ 44 44 (#[v164, .int .u64 e.r, .bool false, .bool done]) (0, 0) _ Fg3.out Try.underlying44 rfl (by kernel_rfl)) ?_
  (try simp only [zP, zN, zA, zB, zC])
  refine ef_ (fun K184 hK184 => ?_)
  refine e_storeN (cells := (#[v164, .int .u64 e.r, .bool false, .bool done])) (by rfl) rfl rfl (by rfl) (by rfl) Fg19.out (by kernel_rfl) (by rfl) (ones_cons Z150.out.one (ones_cons rfl (ones_cons rfl (ones_cons rfl ones_nil)))) ?_
  rintro w185 B186 C187
  have C0' := Lib.hid (show Ch [] w w185 from C0.out.trans' C187 (inw_cons (.inr nw24.out) inw_nil))
  have RS' := Lib.hid (show SrcIs w185 (.slice A n c) (n) (xs) 15 from RS.out.chx C187 (xnin_cons nx25.out xnin_nil))
  have Fg3' := Lib.hid (show Blk w185 g3 (#[v164, .int .u64 e.r, .bool false, .bool done]) 44 from C187.blk Fg3.out (nin_cons ne26.out nin_nil))
  have Fg11' := Lib.hid (show Blk w185 g11 ((evA e)) 56 from C187.blk Fg11.out (nin_cons (Blk.ne_type Fg11.out Fg19.out (by decide)) nin_nil))
  have Fg135' := Lib.hid (show Blk w185 g135 (((evA e))) 56 from C187.blk Fg135.out (nin_cons (Blk.ne_type Fg135.out Fg19.out (by decide)) nin_nil))
  have Z150' := Lib.hid (show OwnS w185 w.heap.size 56 15 (v164) (n + 1) (xs ++ evC e) from Z150.out.ch C187 (rnin_cons (Z150.out.ne Fg19.out (by decide)) rnin_nil))
  clear C0 RS Fg3 Fg11 Fg135 Z150
  have C0 := C0'; clear C0'
  have RS := RS'; clear RS'
  have Fg3 := Fg3'; clear Fg3'
  have Fg11 := Fg11'; clear Fg11'
  have Fg135 := Fg135'; clear Fg135'
  have Z150 := Z150'; clear Z150'
  clear Fg19; have Fg19 := Lib.hid (show Blk w185 g19 ((#[v164, .int .u64 e.r, .bool false, .bool done])) 44 from B186); clear B186 C187
  refine hK184 _ _ ?_; clear hK184 K184
  (try simp only [zP, zN, zA, zB, zC])
  refine pu_ (v := .bool true) (y_assign rfl (by rfl) (by rfl)) ?_
  (try simp only [zP, zN, zA, zB, zC])
  refine nl_ (hK183 _ _ ?_); clear hK183 K183
  refine wp_ret ?_
  refine hQ _ _ _ ?_
  refine bodyPost_ret (res2 rfl (rdv_cell (by rfl) (run_loadVar_row _ _ 44 44 ((#[v164, .int .u64 e.r, .bool false, .bool done])) (0, 0) _ Fg19.out Try.underlying44 rfl (by kernel_rfl))) (rdv_tmp (v := .bool true) (by rfl))) rfl ?_
  obtain ⟨A', c', hv, hc1, hc2⟩ := Z150.out.slice
  subst hv
  exact ⟨A', c', rfl, Z150.out.src, hc1, hc2, C0.out, fun k hk => (rw169.out k (xb_rl Z150.out k hk)).elim (fun h => absurd h (by simp)) id⟩
theorem rmark_over (w : World) (A : Option Addr) (n c : Nat) (last rev : Int) (done : Bool) : Calls Try.prog 19 #[.agg #[.slice A n c, .int .u64 last, .bool true, .bool done], .int .u64 rev] w fun en w' => en = .returned (.tuple #[.agg #[.slice A n c, .int .u64 last, .bool true, .bool done], .bool false]) ∧ Ch [] w w' := by
 have C0 := Lib.hid (Ch.refl [] w)
 go_enter Try.func19, Try.ntmps19
 refine q_ (fun Q hQ hP => ?_)
 refine s_ (fun K1 hK1 => ?_)
 refine ef_ (fun K2 hK2 => ?_)
 refine e_boxN (by rfl) rfl rfl (cs := #[.slice A n c, .int .u64 last, .bool true, .bool done]) (v := .agg #[.slice A n c, .int .u64 last, .bool true, .bool done]) (by rfl) rfl ?_
 rintro g3 w4 HG5 B6 C7
 have nw8 := Lib.hid (show w.heap.size ≤ g3 by have := C0.out.size; have := HG5.out; omega)
 have C0' := Lib.hid (show Ch [] w w4 from C0.out.trans' C7 (fun x hx => absurd hx (by simp)))
 clear C0
 have C0 := C0'; clear C0'
 have Fg3 := Lib.hid (show Blk w4 g3 (#[.slice A n c, .int .u64 last, .bool true, .bool done]) 44 from B6); clear B6 C7
 refine hK2 _ _ ?_; clear hK2 K2
 (try simp only [zP, zN, zA, zB, zC])
 refine ef_ (fun K9 hK9 => ?_)
 refine e_alloc (by rfl) rfl rfl (cs := #[.slice none 0 0, .int .u64 0, .bool false, .bool false]) (by kernel_rfl) ?_
 rintro g10 w11 HG12 B13 C14
 have nw15 := Lib.hid (show w.heap.size ≤ g10 by have := C0.out.size; have := HG12.out; omega)
 have ne16 := Lib.hid (Fg3.out.ne_new HG12)
 have C0' := Lib.hid (show Ch [] w w11 from C0.out.trans' C14 (fun x hx => absurd hx (by simp)))
 have Fg3' := Lib.hid (show Blk w11 g3 (#[.slice A n c, .int .u64 last, .bool true, .bool done]) 44 from C14.blk Fg3.out nin_nil)
 clear C0 Fg3
 have C0 := C0'; clear C0'
 have Fg3 := Fg3'; clear Fg3'
 have Fg10 := Lib.hid (show Blk w11 g10 (#[.slice none 0 0, .int .u64 0, .bool false, .bool false]) 44 from B13); clear B13 C14
 refine hK9 _ _ ?_; clear hK9 K9
 (try simp only [zP, zN, zA, zB, zC])
 refine pu_ (v := .bool false) (y_assign rfl (by rfl) (by rfl)) ?_
 (try simp only [zP, zN, zA, zB, zC])
 refine nl_ (hK1 _ _ ?_); clear hK1 K1
 refine sq_ (fun K17 hK17 => ?_)
 refine s_ (fun K18 hK18 => ?_)
 refine pu_ (v := .pointer (some ⟨g3, 2, none⟩)) (y_run (by rfl) (fun W => by go_simp)) ?_
 (try simp only [zP, zN, zA, zB, zC])
 refine ld_ (v := .bool true) rfl (by rfl) (by rfl) (run_load_one ((Fg3.out.cell 2).trans rfl) Try.underlying4 rfl) ?_
 (try simp only [zP, zN, zA, zB, zC])
 refine nl_ (hK18 _ _ ?_); clear hK18 K18
 refine wp_cond_true rfl ?_
 refine s_ (fun K19 hK19 => ?_)
 refine ld_ (v := .agg (#[.slice A n c, .int .u64 last, .bool true, .bool done])) rfl (by rfl) (by rfl) (run_loadVar_row _ _ 44 44 (#[.slice A n c, .int .u64 last, .bool true, .bool done]) (0, 0) _ Fg3.out Try.underlying44 rfl (by kernel_rfl)) ?_
 (try simp only [zP, zN, zA, zB, zC])
 refine ef_ (fun K20 hK20 => ?_)
 refine e_storeN (cells := (#[.slice A n c, .int .u64 last, .bool true, .bool done])) (by rfl) rfl rfl (by rfl) (by rfl) Fg10.out (by kernel_rfl) (by rfl) (ones_cons rfl (ones_cons rfl (ones_cons rfl (ones_cons rfl ones_nil)))) ?_
 rintro w21 B22 C23
 have C0' := Lib.hid (show Ch [] w w21 from C0.out.trans' C23 (inw_cons (.inr nw15.out) inw_nil))
 have Fg3' := Lib.hid (show Blk w21 g3 (#[.slice A n c, .int .u64 last, .bool true, .bool done]) 44 from C23.blk Fg3.out (nin_cons ne16.out nin_nil))
 clear C0 Fg3
 have C0 := C0'; clear C0'
 have Fg3 := Fg3'; clear Fg3'
 clear Fg10; have Fg10 := Lib.hid (show Blk w21 g10 ((#[.slice A n c, .int .u64 last, .bool true, .bool done])) 44 from B22); clear B22 C23
 refine hK20 _ _ ?_; clear hK20 K20
 (try simp only [zP, zN, zA, zB, zC])
 refine pu_ (v := .bool false) (y_assign rfl (by rfl) (by rfl)) ?_
 (try simp only [zP, zN, zA, zB, zC])
 refine nl_ (hK19 _ _ ?_); clear hK19 K19
 refine wp_ret ?_
 refine th_ret ?_
 refine hQ _ _ _ ?_
 refine bodyPost_ret (res2 rfl (rdv_cell (by rfl) (run_loadVar_row _ _ 44 44 ((#[.slice A n c, .int .u64 last, .bool true, .bool done])) (0, 0) _ Fg10.out Try.underlying44 rfl (by kernel_rfl))) (rdv_tmp (v := .bool false) (by rfl))) rfl ?_
 exact ⟨rfl, C0.out⟩
theorem rmark_last (w : World) (p o n c : Nat) (e : Ev) (I : List Ev) (last rev : Int) (done : Bool) (RS : Hid (SrcIs w (.slice (some ⟨p, o, none⟩) n c) n ((I ++ [e]).flatMap evC) 15)) (hn : n = I.length + 1) (hk : e.k = 4) (hL : n ≤ 1000) :
  Calls Try.prog 19 #[.agg #[.slice (some ⟨p, o, none⟩) n c, .int .u64 last, .bool false, .bool done], .int .u64 rev] w (fun en w' => ∃ (A' : Option Addr) (c' : Nat), en = .returned (.tuple #[.agg #[(.slice A' (n) c'), .int .u64 rev, .bool false, .bool done], .bool true]) ∧ SrcIs w' (.slice A' (n) c') (n) ((I ++ [(⟨e.k, rev, e.u, e.p⟩ : Ev)]).flatMap evC) 15 ∧ n ≤ c' ∧ c' ≤ maxLen ∧ Ch [] w w' ∧ ∀ k, k ∈ xb (.slice A' (n) c') → w.heap.size ≤ k) := by
 have C0 := Lib.hid (Ch.refl [] w)
 have RS0 := RS
 obtain ⟨i56, I56⟩ := Info.of info56
 have DK := Lib.hid (show (e.k == 4) = true by rw [hk]; rfl)
 clear hk
 have HN := Lib.hid hn
 have DP := Lib.hid (show 0 < n by omega)
 have WS := Lib.hid (show IntKind.i64.wrap ((n : Int) - 1) = I.length by rw [wr64 (by omega)]; omega)
 have WI := Lib.hid (show (I.length : Int) < n by omega)
 clear hn
 go_enter Try.func19, Try.ntmps19
 refine q_ (fun Q hQ hP => ?_)
 refine s_ (fun K1 hK1 => ?_)
 refine ef_ (fun K2 hK2 => ?_)
 refine e_boxN (by rfl) rfl rfl (cs := #[.slice (some ⟨p, o, none⟩) n c, .int .u64 last, .bool false, .bool done]) (v := .agg #[.slice (some ⟨p, o, none⟩) n c, .int .u64 last, .bool false, .bool done]) (by rfl) rfl ?_
 rintro g3 w4 HG5 B6 C7
 have nw8 := Lib.hid (show w.heap.size ≤ g3 by have := C0.out.size; have := HG5.out; omega)
 have nx9 := Lib.hid (RS.out.ne_new (by decide) HG5)
 have C0' := Lib.hid (show Ch [] w w4 from C0.out.trans' C7 (fun x hx => absurd hx (by simp)))
 have RS' := Lib.hid (show SrcIs w4 (.slice (some ⟨p, o, none⟩) n c) (n) ((I ++ [e]).flatMap evC) 15 from RS.out.chx C7 xnin_nil)
 clear C0 RS
 have C0 := C0'; clear C0'
 have RS := RS'; clear RS'
 have Fg3 := Lib.hid (show Blk w4 g3 (#[.slice (some ⟨p, o, none⟩) n c, .int .u64 last, .bool false, .bool done]) 44 from B6); clear B6 C7
 refine hK2 _ _ ?_; clear hK2 K2
 (try simp only [zP, zN, zA, zB, zC])
 refine ef_ (fun K10 hK10 => ?_)
 refine e_alloc (by rfl) rfl rfl (cs := #[.slice none 0 0, .int .u64 0, .bool false, .bool false]) (by kernel_rfl) ?_
 rintro g11 w12 HG13 B14 C15
 have nw16 := Lib.hid (show w.heap.size ≤ g11 by have := C0.out.size; have := HG13.out; omega)
 have nx17 := Lib.hid (RS.out.ne_new (by decide) HG13)
 have ne18 := Lib.hid (Fg3.out.ne_new HG13)
 have C0' := Lib.hid (show Ch [] w w12 from C0.out.trans' C15 (fun x hx => absurd hx (by simp)))
 have RS' := Lib.hid (show SrcIs w12 (.slice (some ⟨p, o, none⟩) n c) (n) ((I ++ [e]).flatMap evC) 15 from RS.out.chx C15 xnin_nil)
 have Fg3' := Lib.hid (show Blk w12 g3 (#[.slice (some ⟨p, o, none⟩) n c, .int .u64 last, .bool false, .bool done]) 44 from C15.blk Fg3.out nin_nil)
 clear C0 RS Fg3
 have C0 := C0'; clear C0'
 have RS := RS'; clear RS'
 have Fg3 := Fg3'; clear Fg3'
 have Fg11 := Lib.hid (show Blk w12 g11 (#[.slice none 0 0, .int .u64 0, .bool false, .bool false]) 44 from B14); clear B14 C15
 refine hK10 _ _ ?_; clear hK10 K10
 (try simp only [zP, zN, zA, zB, zC])
 refine pu_ (v := .bool false) (y_assign rfl (by rfl) (by rfl)) ?_
 (try simp only [zP, zN, zA, zB, zC])
 refine nl_ (hK1 _ _ ?_); clear hK1 K1
 refine sq_ (fun K19 hK19 => ?_)
 refine s_ (fun K20 hK20 => ?_)
 refine pu_ (v := .pointer (some ⟨g3, 2, none⟩)) (y_run (by rfl) (fun W => by go_simp)) ?_
 (try simp only [zP, zN, zA, zB, zC])
 refine ld_ (v := .bool false) rfl (by rfl) (by rfl) (run_load_one ((Fg3.out.cell 2).trans rfl) Try.underlying4 rfl) ?_
 (try simp only [zP, zN, zA, zB, zC])
 refine nl_ (hK20 _ _ ?_); clear hK20 K20
 refine wp_cond_false rfl ?_
 refine wp_skip ?_
 refine th_norm (hK19 _ _ ?_); try clear hK19 K19
 refine s_ (fun K21 hK21 => ?_)
 refine pu_ (v := .pointer (some ⟨g3, 0, none⟩)) (y_run (by rfl) (fun W => by go_simp)) ?_
 (try simp only [zP, zN, zA, zB, zC])
 refine ld_ (v := .slice (some ⟨p, o, none⟩) n c) rfl (by rfl) (by rfl) (run_load_one ((Fg3.out.cell 0).trans rfl) Try.underlying41 rfl) ?_
 (try simp only [zP, zN, zA, zB, zC])
 refine pu_ (v := .int .i64 n) (y_run (by rfl) (fun W => by go_simp)) ?_
 (try simp only [zP, zN, zA, zB, zC])
 refine pu_ (v := .int .i64 n) (y_assign rfl (by rfl) (by rfl)) ?_
 (try simp only [zP, zN, zA, zB, zC])
 refine nl_ (hK21 _ _ ?_); clear hK21 K21
 refine sq_ (fun K22 hK22 => ?_)
 refine s_ (fun K23 hK23 => ?_)
 refine pu_ (v := .int .i64 n) (y_move rfl (by rfl) (by rfl)) ?_
 (try simp only [zP, zN, zA, zB, zC])
 refine pu_ (v := .bool true) (y_run (by rfl) (fun W => by have d := DP.out; go_simp)) ?_
 (try simp only [zP, zN, zA, zB, zC])
 refine pu_ (v := .bool true) (y_move rfl (by rfl) (by rfl)) ?_
 (try simp only [zP, zN, zA, zB, zC])
 refine pu_ (v := .pointer (some ⟨g3, 0, none⟩)) (y_run (by rfl) (fun W => by go_simp)) ?_
 (try simp only [zP, zN, zA, zB, zC])
 refine ld_ (v := .slice (some ⟨p, o, none⟩) n c) rfl (by rfl) (by rfl) (run_load_one ((Fg3.out.cell 0).trans rfl) Try.underlying41 rfl) ?_
 (try simp only [zP, zN, zA, zB, zC])
 refine pu_ (v := .int .i64 n) (y_move rfl (by rfl) (by rfl)) ?_
 (try simp only [zP, zN, zA, zB, zC])
 refine pu_ (v := .int .i64 I.length) (y_run (by rfl) (fun W => by have d := WS.out; go_simp)) ?_
 (try simp only [zP, zN, zA, zB, zC])
 refine pu_ (v := .pointer (some ⟨p, o + I.length * 15, none⟩)) (y_run (by rfl) (fun W => by have d := WI.out; go_simp)) ?_
 (try simp only [zP, zN, zA, zB, zC])
 refine pu_ (v := .pointer (some ⟨p, o + I.length * 15, none⟩)) (y_run (by rfl) (fun W => by go_simp)) ?_
 (try simp only [zP, zN, zA, zB, zC])
 refine ld_ (v := .int .i64 e.k) rfl (by rfl) (by rfl) (run_load_one (src_last RS.out 0 rfl) Try.underlying3 rfl) ?_
 (try simp only [zP, zN, zA, zB, zC])
 refine pu_ (v := .bool true) (y_run (by rfl) (fun W => by have d := DK.out; go_simp)) ?_
 (try simp only [zP, zN, zA, zB, zC])
 refine pu_ (v := .bool true) (y_pick (t := true) (by rfl) rfl (by rfl) (by rfl)) ?_
 (try simp only [zP, zN, zA, zB, zC])
 refine nl_ (hK23 _ _ ?_); clear hK23 K23
 refine wp_cond_true rfl ?_
 refine s_ (fun K24 hK24 => ?_)
 refine ef_ (fun K25 hK25 => ?_)
 refine e_buildS0 (by rfl) rfl rfl Try.underlying41 I56.hi ?_
 rintro g26 w27 HG28 C30
 have C0' := Lib.hid (show Ch [] w w27 from C0.out.trans' C30 (fun x hx => absurd hx (by simp)))
 have RS' := Lib.hid (show SrcIs w27 (.slice (some ⟨p, o, none⟩) n c) (n) ((I ++ [e]).flatMap evC) 15 from RS.out.chx C30 xnin_nil)
 have Fg3' := Lib.hid (show Blk w27 g3 (#[.slice (some ⟨p, o, none⟩) n c, .int .u64 last, .bool false, .bool done]) 44 from C30.blk Fg3.out nin_nil)
 have Fg11' := Lib.hid (show Blk w27 g11 (#[.slice none 0 0, .int .u64 0, .bool false, .bool false]) 44 from C30.blk Fg11.out nin_nil)
 clear C0 RS Fg3 Fg11
 have C0 := C0'; clear C0'
 have RS := RS'; clear RS'
 have Fg3 := Fg3'; clear Fg3'
 have Fg11 := Fg11'; clear Fg11'
 clear C30
 have Z31 := Lib.hid (show OwnS w27 w.heap.size 56 15 (.slice (some ⟨g26, 0, none⟩) 0 0) (0) ([]) from OwnS.nil _ _ _ _ _)
 refine hK25 _ _ ?_; clear hK25 K25
 (try simp only [zP, zN, zA, zB, zC])
 refine pu_ (v := .pointer (some ⟨g3, 0, none⟩)) (y_run (by rfl) (fun W => by go_simp)) ?_
 (try simp only [zP, zN, zA, zB, zC])
 refine ld_ (v := .slice (some ⟨p, o, none⟩) n c) rfl (by rfl) (by rfl) (run_load_one ((Fg3.out.cell 0).trans rfl) Try.underlying41 rfl) ?_
 (try simp only [zP, zN, zA, zB, zC])
 refine ef_ (fun K32 hK32 => ?_)
 refine e_append (by rfl) rfl rfl w.heap.size 56 _ _ 15 192 Try.underlying41 I56.hi I56.hz I56.hs I56.hb rfl (by decide) (.slice (some ⟨g26, 0, none⟩) 0 0) (0) ([]) (by rfl) Z31.out (.slice (some ⟨p, o, none⟩) n c) n ((I ++ [e]).flatMap evC) (by rfl) RS.out (flat_one evC_one _) (by unfold maxLen; omega) (by omega) (by have := C0.out.size; omega) ?_
 rintro v33 w34 O35 C36 R37 -
 replace C36 : Ch [] _ _ := C36
 replace R37 : ∀ k, k ∈ rl v33 → w27.heap.size ≤ k := fun k hk => (R37 k hk).elim (fun h => absurd h (by simp [rl])) id
 have rw38 := Lib.hid (show ∀ x, x ∈ rl v33 → x ∈ [] ∨ w.heap.size ≤ x from fun x hx => .inr (by have := R37 x hx; have := C0.out.size; omega))
 have xr39 := Lib.hid (show ∀ k, k ∈ xb (.slice (some ⟨p, o, none⟩) n c) → k ∉ rl v33 from fun k hk hm => by have := R37 k hm; have := RS.out.lt (by decide) k hk; omega)
 have C0' := Lib.hid (show Ch [] w w34 from C0.out.trans' C36 (fun x hx => absurd hx (by simp)))
 have RS' := Lib.hid (show SrcIs w34 (.slice (some ⟨p, o, none⟩) n c) (n) ((I ++ [e]).flatMap evC) 15 from RS.out.chx C36 xnin_nil)
 have Fg3' := Lib.hid (show Blk w34 g3 (#[.slice (some ⟨p, o, none⟩) n c, .int .u64 last, .bool false, .bool done]) 44 from C36.blk Fg3.out nin_nil)
 have Fg11' := Lib.hid (show Blk w34 g11 (#[.slice none 0 0, .int .u64 0, .bool false, .bool false]) 44 from C36.blk Fg11.out nin_nil)
 clear C0 RS Fg3 Fg11
 have C0 := C0'; clear C0'
 have RS := RS'; clear RS'
 have Fg3 := Fg3'; clear Fg3'
 have Fg11 := Fg11'; clear Fg11'
 clear Z31
 have Z31 := Lib.hid (show OwnS w34 w.heap.size 56 15 (v33) (n) ((I ++ [e]).flatMap evC) from (by simpa using O35)); clear O35 C36
 obtain ⟨gz40, cz41, hv, -, -, -, -, -⟩ := Z31.out.some_ DP.out
 subst hv
 refine hK32 _ _ ?_; clear hK32 K32
 (try simp only [zP, zN, zA, zB, zC])
 refine pu_ (v := .pointer (some ⟨g3, 0, none⟩)) (y_run (by rfl) (fun W => by go_simp)) ?_
 (try simp only [zP, zN, zA, zB, zC])
 refine ef_ (fun K42 hK42 => ?_)
 refine e_store1 (b := g3) (j := 0) (v := .slice (some ⟨gz40, 0, none⟩) n cz41) (by rfl) rfl rfl (by rfl) (by rfl) Fg3.out (show 0 < 4 by omega) (by kernel_rfl) rfl ?_
 rintro w43 B44 C45
 have C0' := Lib.hid (show Ch [] w w43 from C0.out.trans' C45 (inw_cons (.inr nw8.out) inw_nil))
 have RS' := Lib.hid (show SrcIs w43 (.slice (some ⟨p, o, none⟩) n c) (n) ((I ++ [e]).flatMap evC) 15 from RS.out.chx C45 (xnin_cons nx9.out xnin_nil))
 have Fg11' := Lib.hid (show Blk w43 g11 (#[.slice none 0 0, .int .u64 0, .bool false, .bool false]) 44 from C45.blk Fg11.out (nin_cons (Ne.symm ne18.out) nin_nil))
 have Z31' := Lib.hid (show OwnS w43 w.heap.size 56 15 (.slice (some ⟨gz40, 0, none⟩) n cz41) (n) ((I ++ [e]).flatMap evC) from Z31.out.ch C45 (rnin_cons (Z31.out.ne Fg3.out (by decide)) rnin_nil))
 clear C0 RS Fg11 Z31
 have C0 := C0'; clear C0'
 have RS := RS'; clear RS'
 have Fg11 := Fg11'; clear Fg11'
 have Z31 := Z31'; clear Z31'
 clear Fg3; have Fg3 := Lib.hid (show Blk w43 g3 (#[.slice (some ⟨gz40, 0, none⟩) n cz41, .int .u64 last, .bool false, .bool done]) 44 from B44); clear B44 C45
 refine hK42 _ _ ?_; clear hK42 K42
 (try simp only [zP, zN, zA, zB, zC])
 refine nl_ (hK24 _ _ ?_); clear hK24 K24
 refine s_ (fun K46 hK46 => ?_)
 refine pu_ (v := .pointer (some ⟨g3, 0, none⟩)) (y_run (by rfl) (fun W => by go_simp)) ?_
 (try simp only [zP, zN, zA, zB, zC])
 refine ld_ (v := .slice (some ⟨gz40, 0, none⟩) n cz41) rfl (by rfl) (by rfl) (run_load_one ((Fg3.out.cell 0).trans rfl) Try.underlying41 rfl) ?_
 (try simp only [zP, zN, zA, zB, zC])
 refine pu_ (v := .int .i64 n) (y_move rfl (by rfl) (by rfl)) ?_
 (try simp only [zP, zN, zA, zB, zC])
 refine pu_ (v := .int .i64 I.length) (y_run (by rfl) (fun W => by have d := WS.out; go_simp)) ?_
 (try simp only [zP, zN, zA, zB, zC])
 refine pu_ (v := .int .u64 rev) (y_move rfl (by rfl) (by rfl)) ?_
 (try simp only [zP, zN, zA, zB, zC])
 refine pu_ (v := .pointer (some ⟨gz40, I.length * 15, none⟩)) (y_run (by rfl) (fun W => by have d := WI.out; go_simp)) ?_
 (try simp only [zP, zN, zA, zB, zC])
 refine pu_ (v := .pointer (some ⟨gz40, I.length * 15 + 1, none⟩)) (y_run (by rfl) (fun W => by go_simp)) ?_
 (try simp only [zP, zN, zA, zB, zC])
 refine ef_ (fun K47 hK47 => ?_)
 refine e_storeS1 (by rfl) rfl rfl Z31.out (I.length * 15 + 1) (.int .u64 rev) (by rfl) (by rfl) (by kernel_rfl) (by have := HN.out; omega) rfl ?_
 rintro w48 O49 C50
 have hz := Z31.out.slice
 have RC50 := Lib.hid (show Ch (rl (.slice (some ⟨gz40, 0, none⟩) n cz41)) w43 w48 from by obtain ⟨_, _, he, hh, _⟩ := hz; injection he with _ _ he; rw [rl_some gz40 n cz41 (by have := DP.out; omega)]; exact C50)
 clear hz
 have C0' := Lib.hid (show Ch [] w w48 from C0.out.trans' RC50.out (rw38.out : ∀ x, x ∈ rl (.slice (some ⟨gz40, 0, none⟩) n cz41) → _ ∨ _))
 have RS' := Lib.hid (show SrcIs w48 (.slice (some ⟨p, o, none⟩) n c) (n) ((I ++ [e]).flatMap evC) 15 from RS.out.chx RC50.out xr39.out)
 have Fg3' := Lib.hid (show Blk w48 g3 (#[.slice (some ⟨gz40, 0, none⟩) n cz41, .int .u64 last, .bool false, .bool done]) 44 from RC50.out.blk Fg3.out (Z31.out.ne Fg3.out (by decide)))
 have Fg11' := Lib.hid (show Blk w48 g11 (#[.slice none 0 0, .int .u64 0, .bool false, .bool false]) 44 from RC50.out.blk Fg11.out (Z31.out.ne Fg11.out (by decide)))
 clear C0 RS Fg3 Fg11
 have C0 := C0'; clear C0'
 have RS := RS'; clear RS'
 have Fg3 := Fg3'; clear Fg3'
 have Fg11 := Fg11'; clear Fg11'
 clear Z31
 have Z31 := Lib.hid (show OwnS w48 w.heap.size 56 15 (.slice (some ⟨gz40, 0, none⟩) n cz41) (n) ((I ++ [(⟨e.k, rev, e.u, e.p⟩ : Ev)]).flatMap evC) from by rw [← set_last]; exact O49); clear O49 C50 RC50
 refine hK47 _ _ ?_; clear hK47 K47
 (try simp only [zP, zN, zA, zB, zC])
 refine nl_ (hK46 _ _ ?_); clear hK46 K46
 refine s_ (fun K51 hK51 => ?_)
 refine pu_ (v := .int .u64 rev) (y_move rfl (by rfl) (by rfl)) ?_
 (try simp only [zP, zN, zA, zB, zC])
 refine pu_ (v := .pointer (some ⟨g3, 1, none⟩)) (y_run (by rfl) (fun W => by go_simp)) ?_
 (try simp only [zP, zN, zA, zB, zC])
 refine ef_ (fun K52 hK52 => ?_)
 refine e_store1 (b := g3) (j := 1) (v := .int .u64 rev) (by rfl) rfl rfl (by rfl) (by rfl) Fg3.out (show 1 < 4 by omega) (by kernel_rfl) rfl ?_
 rintro w53 B54 C55
 have C0' := Lib.hid (show Ch [] w w53 from C0.out.trans' C55 (inw_cons (.inr nw8.out) inw_nil))
 have RS' := Lib.hid (show SrcIs w53 (.slice (some ⟨p, o, none⟩) n c) (n) ((I ++ [e]).flatMap evC) 15 from RS.out.chx C55 (xnin_cons nx9.out xnin_nil))
 have Fg11' := Lib.hid (show Blk w53 g11 (#[.slice none 0 0, .int .u64 0, .bool false, .bool false]) 44 from C55.blk Fg11.out (nin_cons (Ne.symm ne18.out) nin_nil))
 have Z31' := Lib.hid (show OwnS w53 w.heap.size 56 15 (.slice (some ⟨gz40, 0, none⟩) n cz41) (n) ((I ++ [(⟨e.k, rev, e.u, e.p⟩ : Ev)]).flatMap evC) from Z31.out.ch C55 (rnin_cons (Z31.out.ne Fg3.out (by decide)) rnin_nil))
 clear C0 RS Fg11 Z31
 have C0 := C0'; clear C0'
 have RS := RS'; clear RS'
 have Fg11 := Fg11'; clear Fg11'
 have Z31 := Z31'; clear Z31'
 clear Fg3; have Fg3 := Lib.hid (show Blk w53 g3 (#[.slice (some ⟨gz40, 0, none⟩) n cz41, .int .u64 rev, .bool false, .bool done]) 44 from B54); clear B54 C55
 refine hK52 _ _ ?_; clear hK52 K52
 (try simp only [zP, zN, zA, zB, zC])
 refine nl_ (hK51 _ _ ?_); clear hK51 K51
 refine s_ (fun K56 hK56 => ?_)
 refine ld_ (v := .agg (#[.slice (some ⟨gz40, 0, none⟩) n cz41, .int .u64 rev, .bool false, .bool done])) rfl (by rfl) (by rfl) (run_loadVar_row _ _ 44 44 (#[.slice (some ⟨gz40, 0, none⟩) n cz41, .int .u64 rev, .bool false, .bool done]) (0, 0) _ Fg3.out Try.underlying44 rfl (by kernel_rfl)) ?_
 (try simp only [zP, zN, zA, zB, zC])
 refine ef_ (fun K57 hK57 => ?_)
 refine e_storeN (cells := (#[.slice (some ⟨gz40, 0, none⟩) n cz41, .int .u64 rev, .bool false, .bool done])) (by rfl) rfl rfl (by rfl) (by rfl) Fg11.out (by kernel_rfl) (by rfl) (ones_cons rfl (ones_cons rfl (ones_cons rfl (ones_cons rfl ones_nil)))) ?_
 rintro w58 B59 C60
 have C0' := Lib.hid (show Ch [] w w58 from C0.out.trans' C60 (inw_cons (.inr nw16.out) inw_nil))
 have RS' := Lib.hid (show SrcIs w58 (.slice (some ⟨p, o, none⟩) n c) (n) ((I ++ [e]).flatMap evC) 15 from RS.out.chx C60 (xnin_cons nx17.out xnin_nil))
 have Fg3' := Lib.hid (show Blk w58 g3 (#[.slice (some ⟨gz40, 0, none⟩) n cz41, .int .u64 rev, .bool false, .bool done]) 44 from C60.blk Fg3.out (nin_cons ne18.out nin_nil))
 have Z31' := Lib.hid (show OwnS w58 w.heap.size 56 15 (.slice (some ⟨gz40, 0, none⟩) n cz41) (n) ((I ++ [(⟨e.k, rev, e.u, e.p⟩ : Ev)]).flatMap evC) from Z31.out.ch C60 (rnin_cons (Z31.out.ne Fg11.out (by decide)) rnin_nil))
 clear C0 RS Fg3 Z31
 have C0 := C0'; clear C0'
 have RS := RS'; clear RS'
 have Fg3 := Fg3'; clear Fg3'
 have Z31 := Z31'; clear Z31'
 clear Fg11; have Fg11 := Lib.hid (show Blk w58 g11 ((#[.slice (some ⟨gz40, 0, none⟩) n cz41, .int .u64 rev, .bool false, .bool done])) 44 from B59); clear B59 C60
 refine hK57 _ _ ?_; clear hK57 K57
 (try simp only [zP, zN, zA, zB, zC])
 refine pu_ (v := .bool true) (y_assign rfl (by rfl) (by rfl)) ?_
 (try simp only [zP, zN, zA, zB, zC])
 refine nl_ (hK56 _ _ ?_); clear hK56 K56
 refine wp_ret ?_
 refine th_ret ?_
 refine hQ _ _ _ ?_
 refine bodyPost_ret (res2 rfl (rdv_cell (by rfl) (run_loadVar_row _ _ 44 44 ((#[.slice (some ⟨gz40, 0, none⟩) n cz41, .int .u64 rev, .bool false, .bool done])) (0, 0) _ Fg11.out Try.underlying44 rfl (by kernel_rfl))) (rdv_tmp (v := .bool true) (by rfl))) rfl ?_
 obtain ⟨A', c', hv, hc1, hc2⟩ := Z31.out.slice
 injection hv with _ _ hv
 subst hv
 exact ⟨_, _, rfl, Z31.out.src, hc1, hc2, C0.out, fun k hk => (rw38.out k (xb_rl Z31.out k hk)).elim (fun h => absurd h (by simp)) id⟩
theorem rmark_full (w : World) (p o n c : Nat) (e : Ev) (I : List Ev) (last rev : Int) (done : Bool) (RS : Hid (SrcIs w (.slice (some ⟨p, o, none⟩) n c) n ((I ++ [e]).flatMap evC) 15)) (hn : n = I.length + 1) (hk : e.k ≠ 4) (h16 : 16 ≤ n) (hL : n ≤ 1000) :
  Calls Try.prog 19 #[.agg #[.slice (some ⟨p, o, none⟩) n c, .int .u64 last, .bool false, .bool done], .int .u64 rev] w (fun en w' => en = .returned (.tuple #[.agg #[.slice (some ⟨p, o, none⟩) n c, .int .u64 last, .bool false, .bool done], .bool false]) ∧ Ch [] w w') := by
 have C0 := Lib.hid (Ch.refl [] w)
 have RS0 := RS
 have DK := Lib.hid (show (e.k == 4) = false from beq_eq_false_iff_ne.2 hk)
 have D := Lib.hid (show decide (16 ≤ (n : Int)) = true from decide_eq_true (by omega))
 have H16 := Lib.hid h16
 clear hk h16
 have HN := Lib.hid hn
 have DP := Lib.hid (show 0 < n by omega)
 have WS := Lib.hid (show IntKind.i64.wrap ((n : Int) - 1) = I.length by rw [wr64 (by omega)]; omega)
 have WI := Lib.hid (show (I.length : Int) < n by omega)
 clear hn
 go_enter Try.func19, Try.ntmps19
 refine q_ (fun Q hQ hP => ?_)
 refine s_ (fun K1 hK1 => ?_)
 refine ef_ (fun K2 hK2 => ?_)
 refine e_boxN (by rfl) rfl rfl (cs := #[.slice (some ⟨p, o, none⟩) n c, .int .u64 last, .bool false, .bool done]) (v := .agg #[.slice (some ⟨p, o, none⟩) n c, .int .u64 last, .bool false, .bool done]) (by rfl) rfl ?_
 rintro g3 w4 HG5 B6 C7
 have nw8 := Lib.hid (show w.heap.size ≤ g3 by have := C0.out.size; have := HG5.out; omega)
 have nx9 := Lib.hid (RS.out.ne_new (by decide) HG5)
 have C0' := Lib.hid (show Ch [] w w4 from C0.out.trans' C7 (fun x hx => absurd hx (by simp)))
 have RS' := Lib.hid (show SrcIs w4 (.slice (some ⟨p, o, none⟩) n c) (n) ((I ++ [e]).flatMap evC) 15 from RS.out.chx C7 xnin_nil)
 clear C0 RS
 have C0 := C0'; clear C0'
 have RS := RS'; clear RS'
 have Fg3 := Lib.hid (show Blk w4 g3 (#[.slice (some ⟨p, o, none⟩) n c, .int .u64 last, .bool false, .bool done]) 44 from B6); clear B6 C7
 refine hK2 _ _ ?_; clear hK2 K2
 (try simp only [zP, zN, zA, zB, zC])
 refine ef_ (fun K10 hK10 => ?_)
 refine e_alloc (by rfl) rfl rfl (cs := #[.slice none 0 0, .int .u64 0, .bool false, .bool false]) (by kernel_rfl) ?_
 rintro g11 w12 HG13 B14 C15
 have nw16 := Lib.hid (show w.heap.size ≤ g11 by have := C0.out.size; have := HG13.out; omega)
 have nx17 := Lib.hid (RS.out.ne_new (by decide) HG13)
 have ne18 := Lib.hid (Fg3.out.ne_new HG13)
 have C0' := Lib.hid (show Ch [] w w12 from C0.out.trans' C15 (fun x hx => absurd hx (by simp)))
 have RS' := Lib.hid (show SrcIs w12 (.slice (some ⟨p, o, none⟩) n c) (n) ((I ++ [e]).flatMap evC) 15 from RS.out.chx C15 xnin_nil)
 have Fg3' := Lib.hid (show Blk w12 g3 (#[.slice (some ⟨p, o, none⟩) n c, .int .u64 last, .bool false, .bool done]) 44 from C15.blk Fg3.out nin_nil)
 clear C0 RS Fg3
 have C0 := C0'; clear C0'
 have RS := RS'; clear RS'
 have Fg3 := Fg3'; clear Fg3'
 have Fg11 := Lib.hid (show Blk w12 g11 (#[.slice none 0 0, .int .u64 0, .bool false, .bool false]) 44 from B14); clear B14 C15
 refine hK10 _ _ ?_; clear hK10 K10
 (try simp only [zP, zN, zA, zB, zC])
 refine pu_ (v := .bool false) (y_assign rfl (by rfl) (by rfl)) ?_
 (try simp only [zP, zN, zA, zB, zC])
 refine nl_ (hK1 _ _ ?_); clear hK1 K1
 refine sq_ (fun K19 hK19 => ?_)
 refine s_ (fun K20 hK20 => ?_)
 refine pu_ (v := .pointer (some ⟨g3, 2, none⟩)) (y_run (by rfl) (fun W => by go_simp)) ?_
 (try simp only [zP, zN, zA, zB, zC])
 refine ld_ (v := .bool false) rfl (by rfl) (by rfl) (run_load_one ((Fg3.out.cell 2).trans rfl) Try.underlying4 rfl) ?_
 (try simp only [zP, zN, zA, zB, zC])
 refine nl_ (hK20 _ _ ?_); clear hK20 K20
 refine wp_cond_false rfl ?_
 refine wp_skip ?_
 refine th_norm (hK19 _ _ ?_); try clear hK19 K19
 refine s_ (fun K21 hK21 => ?_)
 refine pu_ (v := .pointer (some ⟨g3, 0, none⟩)) (y_run (by rfl) (fun W => by go_simp)) ?_
 (try simp only [zP, zN, zA, zB, zC])
 refine ld_ (v := .slice (some ⟨p, o, none⟩) n c) rfl (by rfl) (by rfl) (run_load_one ((Fg3.out.cell 0).trans rfl) Try.underlying41 rfl) ?_
 (try simp only [zP, zN, zA, zB, zC])
 refine pu_ (v := .int .i64 n) (y_run (by rfl) (fun W => by go_simp)) ?_
 (try simp only [zP, zN, zA, zB, zC])
 refine pu_ (v := .int .i64 n) (y_assign rfl (by rfl) (by rfl)) ?_
 (try simp only [zP, zN, zA, zB, zC])
 refine nl_ (hK21 _ _ ?_); clear hK21 K21
 refine sq_ (fun K22 hK22 => ?_)
 refine s_ (fun K23 hK23 => ?_)
 refine pu_ (v := .int .i64 n) (y_move rfl (by rfl) (by rfl)) ?_
 (try simp only [zP, zN, zA, zB, zC])
 refine pu_ (v := .bool true) (y_run (by rfl) (fun W => by have d := DP.out; go_simp)) ?_
 (try simp only [zP, zN, zA, zB, zC])
 refine pu_ (v := .bool true) (y_move rfl (by rfl) (by rfl)) ?_
 (try simp only [zP, zN, zA, zB, zC])
 refine pu_ (v := .pointer (some ⟨g3, 0, none⟩)) (y_run (by rfl) (fun W => by go_simp)) ?_
 (try simp only [zP, zN, zA, zB, zC])
 refine ld_ (v := .slice (some ⟨p, o, none⟩) n c) rfl (by rfl) (by rfl) (run_load_one ((Fg3.out.cell 0).trans rfl) Try.underlying41 rfl) ?_
 (try simp only [zP, zN, zA, zB, zC])
 refine pu_ (v := .int .i64 n) (y_move rfl (by rfl) (by rfl)) ?_
 (try simp only [zP, zN, zA, zB, zC])
 refine pu_ (v := .int .i64 I.length) (y_run (by rfl) (fun W => by have d := WS.out; go_simp)) ?_
 (try simp only [zP, zN, zA, zB, zC])
 refine pu_ (v := .pointer (some ⟨p, o + I.length * 15, none⟩)) (y_run (by rfl) (fun W => by have d := WI.out; go_simp)) ?_
 (try simp only [zP, zN, zA, zB, zC])
 refine pu_ (v := .pointer (some ⟨p, o + I.length * 15, none⟩)) (y_run (by rfl) (fun W => by go_simp)) ?_
 (try simp only [zP, zN, zA, zB, zC])
 refine ld_ (v := .int .i64 e.k) rfl (by rfl) (by rfl) (run_load_one (src_last RS.out 0 rfl) Try.underlying3 rfl) ?_
 (try simp only [zP, zN, zA, zB, zC])
 refine pu_ (v := .bool false) (y_run (by rfl) (fun W => by have d := DK.out; go_simp)) ?_
 (try simp only [zP, zN, zA, zB, zC])
 refine pu_ (v := .bool false) (y_pick (t := true) (by rfl) rfl (by rfl) (by rfl)) ?_
 (try simp only [zP, zN, zA, zB, zC])
 refine nl_ (hK23 _ _ ?_); clear hK23 K23
 refine wp_cond_false rfl ?_
 refine wp_skip ?_
 refine th_norm (hK22 _ _ ?_); try clear hK22 K22
 refine sq_ (fun K24 hK24 => ?_)
 refine s_ (fun K25 hK25 => ?_)
 refine pu_ (v := .int .i64 n) (y_move rfl (by rfl) (by rfl)) ?_
 (try simp only [zP, zN, zA, zB, zC])
 refine pu_ (v := .bool true) (y_run (by rfl) (fun W => by have d := D.out; go_simp)) ?_
 (try simp only [zP, zN, zA, zB, zC])
 refine nl_ (hK25 _ _ ?_); clear hK25 K25
 refine wp_cond_true rfl ?_
 refine s_ (fun K26 hK26 => ?_)
 refine ld_ (v := .agg (#[.slice (some ⟨p, o, none⟩) n c, .int .u64 last, .bool false, .bool done])) rfl (by rfl) (by rfl) (run_loadVar_row _ _ 44 44 (#[.slice (some ⟨p, o, none⟩) n c, .int .u64 last, .bool false, .bool done]) (0, 0) _ Fg3.out Try.underlying44 rfl (by kernel_rfl)) ?_
 (try simp only [zP, zN, zA, zB, zC])
 refine ef_ (fun K27 hK27 => ?_)
 refine e_storeN (cells := (#[.slice (some ⟨p, o, none⟩) n c, .int .u64 last, .bool false, .bool done])) (by rfl) rfl rfl (by rfl) (by rfl) Fg11.out (by kernel_rfl) (by rfl) (ones_cons rfl (ones_cons rfl (ones_cons rfl (ones_cons rfl ones_nil)))) ?_
 rintro w28 B29 C30
 have C0' := Lib.hid (show Ch [] w w28 from C0.out.trans' C30 (inw_cons (.inr nw16.out) inw_nil))
 have RS' := Lib.hid (show SrcIs w28 (.slice (some ⟨p, o, none⟩) n c) (n) ((I ++ [e]).flatMap evC) 15 from RS.out.chx C30 (xnin_cons nx17.out xnin_nil))
 have Fg3' := Lib.hid (show Blk w28 g3 (#[.slice (some ⟨p, o, none⟩) n c, .int .u64 last, .bool false, .bool done]) 44 from C30.blk Fg3.out (nin_cons ne18.out nin_nil))
 clear C0 RS Fg3
 have C0 := C0'; clear C0'
 have RS := RS'; clear RS'
 have Fg3 := Fg3'; clear Fg3'
 clear Fg11; have Fg11 := Lib.hid (show Blk w28 g11 ((#[.slice (some ⟨p, o, none⟩) n c, .int .u64 last, .bool false, .bool done])) 44 from B29); clear B29 C30
 refine hK27 _ _ ?_; clear hK27 K27
 (try simp only [zP, zN, zA, zB, zC])
 refine pu_ (v := .bool false) (y_assign rfl (by rfl) (by rfl)) ?_
 (try simp only [zP, zN, zA, zB, zC])
 refine nl_ (hK26 _ _ ?_); clear hK26 K26
 refine wp_ret ?_
 refine th_ret ?_
 refine hQ _ _ _ ?_
 refine bodyPost_ret (res2 rfl (rdv_cell (by rfl) (run_loadVar_row _ _ 44 44 ((#[.slice (some ⟨p, o, none⟩) n c, .int .u64 last, .bool false, .bool done])) (0, 0) _ Fg11.out Try.underlying44 rfl (by kernel_rfl))) (rdv_tmp (v := .bool false) (by rfl))) rfl ?_
 exact ⟨rfl, C0.out⟩
theorem rmark_push (w : World) (p o n c : Nat) (e : Ev) (I : List Ev) (last rev : Int) (done : Bool) (RS : Hid (SrcIs w (.slice (some ⟨p, o, none⟩) n c) n ((I ++ [e]).flatMap evC) 15)) (hn : n = I.length + 1) (hk : e.k ≠ 4) (h16 : n < 16) (hL : n ≤ 1000) :
  Calls Try.prog 19 #[.agg #[.slice (some ⟨p, o, none⟩) n c, .int .u64 last, .bool false, .bool done], .int .u64 rev] w (fun en w' => ∃ (A' : Option Addr) (c' : Nat), en = .returned (.tuple #[.agg #[(.slice A' (n + 1) c'), .int .u64 rev, .bool false, .bool done], .bool true]) ∧ SrcIs w' (.slice A' (n + 1) c') (n + 1) ((I ++ [e]).flatMap evC ++ evC ⟨4, rev, 0, 0⟩) 15 ∧ n + 1 ≤ c' ∧ c' ≤ maxLen ∧ Ch [] w w' ∧ ∀ k, k ∈ xb (.slice A' (n + 1) c') → w.heap.size ≤ k) := by
 have C0 := Lib.hid (Ch.refl [] w)
 have RS0 := RS
 have DK := Lib.hid (show (e.k == 4) = false from beq_eq_false_iff_ne.2 hk)
 have D := Lib.hid (show decide (16 ≤ (n : Int)) = false from decide_eq_false (by omega))
 have H16 := Lib.hid h16
 clear hk h16
 have HN := Lib.hid hn
 have DP := Lib.hid (show 0 < n by omega)
 have WS := Lib.hid (show IntKind.i64.wrap ((n : Int) - 1) = I.length by rw [wr64 (by omega)]; omega)
 have WI := Lib.hid (show (I.length : Int) < n by omega)
 clear hn
 go_enter Try.func19, Try.ntmps19
 refine q_ (fun Q hQ hP => ?_)
 refine s_ (fun K1 hK1 => ?_)
 refine ef_ (fun K2 hK2 => ?_)
 refine e_boxN (by rfl) rfl rfl (cs := #[.slice (some ⟨p, o, none⟩) n c, .int .u64 last, .bool false, .bool done]) (v := .agg #[.slice (some ⟨p, o, none⟩) n c, .int .u64 last, .bool false, .bool done]) (by rfl) rfl ?_
 rintro g3 w4 HG5 B6 C7
 have nw8 := Lib.hid (show w.heap.size ≤ g3 by have := C0.out.size; have := HG5.out; omega)
 have nx9 := Lib.hid (RS.out.ne_new (by decide) HG5)
 have C0' := Lib.hid (show Ch [] w w4 from C0.out.trans' C7 (fun x hx => absurd hx (by simp)))
 have RS' := Lib.hid (show SrcIs w4 (.slice (some ⟨p, o, none⟩) n c) (n) ((I ++ [e]).flatMap evC) 15 from RS.out.chx C7 xnin_nil)
 clear C0 RS
 have C0 := C0'; clear C0'
 have RS := RS'; clear RS'
 have Fg3 := Lib.hid (show Blk w4 g3 (#[.slice (some ⟨p, o, none⟩) n c, .int .u64 last, .bool false, .bool done]) 44 from B6); clear B6 C7
 refine hK2 _ _ ?_; clear hK2 K2
 (try simp only [zP, zN, zA, zB, zC])
 refine ef_ (fun K10 hK10 => ?_)
 refine e_alloc (by rfl) rfl rfl (cs := #[.slice none 0 0, .int .u64 0, .bool false, .bool false]) (by kernel_rfl) ?_
 rintro g11 w12 HG13 B14 C15
 have nw16 := Lib.hid (show w.heap.size ≤ g11 by have := C0.out.size; have := HG13.out; omega)
 have nx17 := Lib.hid (RS.out.ne_new (by decide) HG13)
 have ne18 := Lib.hid (Fg3.out.ne_new HG13)
 have C0' := Lib.hid (show Ch [] w w12 from C0.out.trans' C15 (fun x hx => absurd hx (by simp)))
 have RS' := Lib.hid (show SrcIs w12 (.slice (some ⟨p, o, none⟩) n c) (n) ((I ++ [e]).flatMap evC) 15 from RS.out.chx C15 xnin_nil)
 have Fg3' := Lib.hid (show Blk w12 g3 (#[.slice (some ⟨p, o, none⟩) n c, .int .u64 last, .bool false, .bool done]) 44 from C15.blk Fg3.out nin_nil)
 clear C0 RS Fg3
 have C0 := C0'; clear C0'
 have RS := RS'; clear RS'
 have Fg3 := Fg3'; clear Fg3'
 have Fg11 := Lib.hid (show Blk w12 g11 (#[.slice none 0 0, .int .u64 0, .bool false, .bool false]) 44 from B14); clear B14 C15
 refine hK10 _ _ ?_; clear hK10 K10
 (try simp only [zP, zN, zA, zB, zC])
 refine pu_ (v := .bool false) (y_assign rfl (by rfl) (by rfl)) ?_
 (try simp only [zP, zN, zA, zB, zC])
 refine nl_ (hK1 _ _ ?_); clear hK1 K1
 refine sq_ (fun K19 hK19 => ?_)
 refine s_ (fun K20 hK20 => ?_)
 refine pu_ (v := .pointer (some ⟨g3, 2, none⟩)) (y_run (by rfl) (fun W => by go_simp)) ?_
 (try simp only [zP, zN, zA, zB, zC])
 refine ld_ (v := .bool false) rfl (by rfl) (by rfl) (run_load_one ((Fg3.out.cell 2).trans rfl) Try.underlying4 rfl) ?_
 (try simp only [zP, zN, zA, zB, zC])
 refine nl_ (hK20 _ _ ?_); clear hK20 K20
 refine wp_cond_false rfl ?_
 refine wp_skip ?_
 refine th_norm (hK19 _ _ ?_); try clear hK19 K19
 refine s_ (fun K21 hK21 => ?_)
 refine pu_ (v := .pointer (some ⟨g3, 0, none⟩)) (y_run (by rfl) (fun W => by go_simp)) ?_
 (try simp only [zP, zN, zA, zB, zC])
 refine ld_ (v := .slice (some ⟨p, o, none⟩) n c) rfl (by rfl) (by rfl) (run_load_one ((Fg3.out.cell 0).trans rfl) Try.underlying41 rfl) ?_
 (try simp only [zP, zN, zA, zB, zC])
 refine pu_ (v := .int .i64 n) (y_run (by rfl) (fun W => by go_simp)) ?_
 (try simp only [zP, zN, zA, zB, zC])
 refine pu_ (v := .int .i64 n) (y_assign rfl (by rfl) (by rfl)) ?_
 (try simp only [zP, zN, zA, zB, zC])
 refine nl_ (hK21 _ _ ?_); clear hK21 K21
 refine sq_ (fun K22 hK22 => ?_)
 refine s_ (fun K23 hK23 => ?_)
 refine pu_ (v := .int .i64 n) (y_move rfl (by rfl) (by rfl)) ?_
 (try simp only [zP, zN, zA, zB, zC])
 refine pu_ (v := .bool true) (y_run (by rfl) (fun W => by have d := DP.out; go_simp)) ?_
 (try simp only [zP, zN, zA, zB, zC])
 refine pu_ (v := .bool true) (y_move rfl (by rfl) (by rfl)) ?_
 (try simp only [zP, zN, zA, zB, zC])
 refine pu_ (v := .pointer (some ⟨g3, 0, none⟩)) (y_run (by rfl) (fun W => by go_simp)) ?_
 (try simp only [zP, zN, zA, zB, zC])
 refine ld_ (v := .slice (some ⟨p, o, none⟩) n c) rfl (by rfl) (by rfl) (run_load_one ((Fg3.out.cell 0).trans rfl) Try.underlying41 rfl) ?_
 (try simp only [zP, zN, zA, zB, zC])
 refine pu_ (v := .int .i64 n) (y_move rfl (by rfl) (by rfl)) ?_
 (try simp only [zP, zN, zA, zB, zC])
 refine pu_ (v := .int .i64 I.length) (y_run (by rfl) (fun W => by have d := WS.out; go_simp)) ?_
 (try simp only [zP, zN, zA, zB, zC])
 refine pu_ (v := .pointer (some ⟨p, o + I.length * 15, none⟩)) (y_run (by rfl) (fun W => by have d := WI.out; go_simp)) ?_
 (try simp only [zP, zN, zA, zB, zC])
 refine pu_ (v := .pointer (some ⟨p, o + I.length * 15, none⟩)) (y_run (by rfl) (fun W => by go_simp)) ?_
 (try simp only [zP, zN, zA, zB, zC])
 refine ld_ (v := .int .i64 e.k) rfl (by rfl) (by rfl) (run_load_one (src_last RS.out 0 rfl) Try.underlying3 rfl) ?_
 (try simp only [zP, zN, zA, zB, zC])
 refine pu_ (v := .bool false) (y_run (by rfl) (fun W => by have d := DK.out; go_simp)) ?_
 (try simp only [zP, zN, zA, zB, zC])
 refine pu_ (v := .bool false) (y_pick (t := true) (by rfl) rfl (by rfl) (by rfl)) ?_
 (try simp only [zP, zN, zA, zB, zC])
 refine nl_ (hK23 _ _ ?_); clear hK23 K23
 refine wp_cond_false rfl ?_
 refine wp_skip ?_
 refine th_norm (hK22 _ _ ?_); try clear hK22 K22
 refine sq_ (fun K24 hK24 => ?_)
 refine s_ (fun K25 hK25 => ?_)
 refine pu_ (v := .int .i64 n) (y_move rfl (by rfl) (by rfl)) ?_
 (try simp only [zP, zN, zA, zB, zC])
 refine pu_ (v := .bool false) (y_run (by rfl) (fun W => by have d := D.out; go_simp)) ?_
 (try simp only [zP, zN, zA, zB, zC])
 refine nl_ (hK25 _ _ ?_); clear hK25 K25
 refine wp_cond_false rfl ?_
 refine wp_skip ?_
 refine th_norm (hK24 _ _ ?_); try clear hK24 K24
 refine s_ (fun K26 hK26 => ?_)
 refine ld_ (v := .agg (#[.slice (some ⟨p, o, none⟩) n c, .int .u64 last, .bool false, .bool done])) rfl (by rfl) (by rfl) (run_loadVar_row _ _ 44 44 (#[.slice (some ⟨p, o, none⟩) n c, .int .u64 last, .bool false, .bool done]) (0, 0) _ Fg3.out Try.underlying44 rfl (by kernel_rfl)) ?_
 (try simp only [zP, zN, zA, zB, zC])
 refine pu_ (v := .int .u64 rev) (y_move rfl (by rfl) (by rfl)) ?_
 (try simp only [zP, zN, zA, zB, zC])
 refine pu_ (v := .agg #[.int .i64 4, .int .u64 rev, .int .i64 0, .int .u64 0, .string ⟨#[]⟩, .slice none 0 0, .slice none 0 0, .slice none 0 0, .int .i64 0, .int .i64 0, .int .i64 0, .int .i64 0, .slice none 0 0, .int .i64 0, .int .i64 0]) (y_build (vs := #[(0, .int .i64 4), (1, .int .u64 rev)]) (by rfl) rfl (by first | rfl | (simp only [List.map_toArray, List.map_cons, List.map_nil]; first | done | rfl)) (by kernel_rfl)) ?_
 (try simp only [zP, zN, zA, zB, zC])
 refine ef_ (fun K27 hK27 => ?_)
 refine e_call Try.func16 (by kernel_rfl) rfl #[.agg (#[.slice (some ⟨p, o, none⟩) n c, .int .u64 last, .bool false, .bool done]), .agg #[.int .i64 4, .int .u64 rev, .int .i64 0, .int .u64 0, .string ⟨#[]⟩, .slice none 0 0, .slice none 0 0, .slice none 0 0, .int .i64 0, .int .i64 0, .int .i64 0, .int .i64 0, .slice none 0 0, .int .i64 0, .int .i64 0]] (by rfl) rfl rfl (by first | rfl | (simp only [List.map_toArray, List.map_cons, List.map_nil]; first | done | rfl)) (rput_ok _ _ n c _ last done ⟨4, rev, 0, 0⟩ RS H16.out (flat_one evC_one _)) ?_
 rintro en w35 ⟨A33, c34, rfl, h129, h230, h331, cc28, h432⟩
 refine ⟨_, rfl, ?_⟩
 have nx36 := Lib.hid (show g3 ∉ xb (.slice A33 (n + 1) c34) from fun hk => by have := h432 _ hk; have := Fg3.out.lt; omega)
 have nx37 := Lib.hid (show g11 ∉ xb (.slice A33 (n + 1) c34) from fun hk => by have := h432 _ hk; have := Fg11.out.lt; omega)
 have H4 := Lib.hid (show ∀ k, k ∈ xb (.slice A33 (n + 1) c34) → w.heap.size ≤ k from fun k hk => Nat.le_trans C0.out.size (h432 k hk)); clear h432
 have H2 := Lib.hid h230; have H3 := Lib.hid h331; clear h230 h331
 have C0' := Lib.hid (show Ch [] w w35 from C0.out.trans' cc28 (fun x hx => absurd hx (by simp)))
 have RS' := Lib.hid (show SrcIs w35 (.slice (some ⟨p, o, none⟩) n c) (n) ((I ++ [e]).flatMap evC) 15 from RS.out.chx cc28 xnin_nil)
 have Fg3' := Lib.hid (show Blk w35 g3 (#[.slice (some ⟨p, o, none⟩) n c, .int .u64 last, .bool false, .bool done]) 44 from cc28.blk Fg3.out nin_nil)
 have Fg11' := Lib.hid (show Blk w35 g11 (#[.slice none 0 0, .int .u64 0, .bool false, .bool false]) 44 from cc28.blk Fg11.out nin_nil)
 clear C0 RS Fg3 Fg11
 have C0 := C0'; clear C0'
 have RS := RS'; clear RS'
 have Fg3 := Fg3'; clear Fg3'
 have Fg11 := Fg11'; clear Fg11'
 clear cc28
 have RN := Lib.hid (show SrcIs w35 (.slice A33 (n + 1) c34) (n + 1) ((I ++ [e]).flatMap evC ++ evC ⟨4, rev, 0, 0⟩) 15 from h129)
 refine hK27 _ _ ?_; clear hK27 K27
 (try simp only [zP, zN, zA, zB, zC])
 refine pu_ (v := .agg #[.slice A33 (n + 1) c34, .int .u64 rev, .bool false, .bool done]) (y_run (by rfl) (fun W => by go_simp)) ?_
 (try simp only [zP, zN, zA, zB, zC])
 refine pu_ (v := .bool true) (y_run (by rfl) (fun W => by go_simp)) ?_
 (try simp only [zP, zN, zA, zB, zC])
 refine ef_ (fun K38 hK38 => ?_)
 refine e_storeN (cells := #[.slice A33 (n + 1) c34, .int .u64 rev, .bool false, .bool done]) (by rfl) rfl rfl (by rfl) (by rfl) Fg11.out (by kernel_rfl) (by rfl) (ones_cons rfl (ones_cons rfl (ones_cons rfl (ones_cons rfl ones_nil)))) ?_
 rintro w39 B40 C41
 have C0' := Lib.hid (show Ch [] w w39 from C0.out.trans' C41 (inw_cons (.inr nw16.out) inw_nil))
 have RS' := Lib.hid (show SrcIs w39 (.slice (some ⟨p, o, none⟩) n c) (n) ((I ++ [e]).flatMap evC) 15 from RS.out.chx C41 (xnin_cons nx17.out xnin_nil))
 have Fg3' := Lib.hid (show Blk w39 g3 (#[.slice (some ⟨p, o, none⟩) n c, .int .u64 last, .bool false, .bool done]) 44 from C41.blk Fg3.out (nin_cons ne18.out nin_nil))
 have RN' := Lib.hid (show SrcIs w39 (.slice A33 (n + 1) c34) (n + 1) ((I ++ [e]).flatMap evC ++ evC ⟨4, rev, 0, 0⟩) 15 from RN.out.chx C41 (xnin_cons nx37.out xnin_nil))
 clear C0 RS Fg3 RN
 have C0 := C0'; clear C0'
 have RS := RS'; clear RS'
 have Fg3 := Fg3'; clear Fg3'
 have RN := RN'; clear RN'
 clear Fg11; have Fg11 := Lib.hid (show Blk w39 g11 (#[.slice A33 (n + 1) c34, .int .u64 rev, .bool false, .bool done]) 44 from B40); clear B40 C41
 refine hK38 _ _ ?_; clear hK38 K38
 (try simp only [zP, zN, zA, zB, zC])
 refine pu_ (v := .bool true) (y_assign rfl (by rfl) (by rfl)) ?_
 (try simp only [zP, zN, zA, zB, zC])
 refine nl_ (hK26 _ _ ?_); clear hK26 K26
 refine wp_ret ?_
 refine hQ _ _ _ ?_
 refine bodyPost_ret (res2 rfl (rdv_cell (by rfl) (run_loadVar_row _ _ 44 44 (#[.slice A33 (n + 1) c34, .int .u64 rev, .bool false, .bool done]) (0, 0) _ Fg11.out Try.underlying44 rfl (by kernel_rfl))) (rdv_tmp (v := .bool true) (by rfl))) rfl ?_
 exact ⟨_, _, rfl, RN.out, H2.out, H3.out, C0.out, H4.out⟩
theorem rmark_first (w : World) (A : Option Addr) (c : Nat) (last rev : Int) (done : Bool) (RS : Hid (SrcIs w (.slice A 0 c) 0 [] 15)) :
  Calls Try.prog 19 #[.agg #[.slice A 0 c, .int .u64 last, .bool false, .bool done], .int .u64 rev] w (fun en w' => ∃ (A' : Option Addr) (c' : Nat), en = .returned (.tuple #[.agg #[(.slice A' (0 + 1) c'), .int .u64 rev, .bool false, .bool done], .bool true]) ∧ SrcIs w' (.slice A' (0 + 1) c') (0 + 1) ([] ++ evC ⟨4, rev, 0, 0⟩) 15 ∧ 0 + 1 ≤ c' ∧ c' ≤ maxLen ∧ Ch [] w w' ∧ ∀ k, k ∈ xb (.slice A' (0 + 1) c') → w.heap.size ≤ k) := by
 have C0 := Lib.hid (Ch.refl [] w)
 have RS0 := RS

 go_enter Try.func19, Try.ntmps19
 refine q_ (fun Q hQ hP => ?_)
 refine s_ (fun K1 hK1 => ?_)
 refine ef_ (fun K2 hK2 => ?_)
 refine e_boxN (by rfl) rfl rfl (cs := #[.slice A 0 c, .int .u64 last, .bool false, .bool done]) (v := .agg #[.slice A 0 c, .int .u64 last, .bool false, .bool done]) (by rfl) rfl ?_
 rintro g3 w4 HG5 B6 C7
 have nw8 := Lib.hid (show w.heap.size ≤ g3 by have := C0.out.size; have := HG5.out; omega)
 have nx9 := Lib.hid (RS.out.ne_new (by decide) HG5)
 have C0' := Lib.hid (show Ch [] w w4 from C0.out.trans' C7 (fun x hx => absurd hx (by simp)))
 have RS' := Lib.hid (show SrcIs w4 (.slice A 0 c) (0) ([]) 15 from RS.out.chx C7 xnin_nil)
 clear C0 RS
 have C0 := C0'; clear C0'
 have RS := RS'; clear RS'
 have Fg3 := Lib.hid (show Blk w4 g3 (#[.slice A 0 c, .int .u64 last, .bool false, .bool done]) 44 from B6); clear B6 C7
 refine hK2 _ _ ?_; clear hK2 K2
 (try simp only [zP, zN, zA, zB, zC])
 refine ef_ (fun K10 hK10 => ?_)
 refine e_alloc (by rfl) rfl rfl (cs := #[.slice none 0 0, .int .u64 0, .bool false, .bool false]) (by kernel_rfl) ?_
 rintro g11 w12 HG13 B14 C15
 have nw16 := Lib.hid (show w.heap.size ≤ g11 by have := C0.out.size; have := HG13.out; omega)
 have nx17 := Lib.hid (RS.out.ne_new (by decide) HG13)
 have ne18 := Lib.hid (Fg3.out.ne_new HG13)
 have C0' := Lib.hid (show Ch [] w w12 from C0.out.trans' C15 (fun x hx => absurd hx (by simp)))
 have RS' := Lib.hid (show SrcIs w12 (.slice A 0 c) (0) ([]) 15 from RS.out.chx C15 xnin_nil)
 have Fg3' := Lib.hid (show Blk w12 g3 (#[.slice A 0 c, .int .u64 last, .bool false, .bool done]) 44 from C15.blk Fg3.out nin_nil)
 clear C0 RS Fg3
 have C0 := C0'; clear C0'
 have RS := RS'; clear RS'
 have Fg3 := Fg3'; clear Fg3'
 have Fg11 := Lib.hid (show Blk w12 g11 (#[.slice none 0 0, .int .u64 0, .bool false, .bool false]) 44 from B14); clear B14 C15
 refine hK10 _ _ ?_; clear hK10 K10
 (try simp only [zP, zN, zA, zB, zC])
 refine pu_ (v := .bool false) (y_assign rfl (by rfl) (by rfl)) ?_
 (try simp only [zP, zN, zA, zB, zC])
 refine nl_ (hK1 _ _ ?_); clear hK1 K1
 refine sq_ (fun K19 hK19 => ?_)
 refine s_ (fun K20 hK20 => ?_)
 refine pu_ (v := .pointer (some ⟨g3, 2, none⟩)) (y_run (by rfl) (fun W => by go_simp)) ?_
 (try simp only [zP, zN, zA, zB, zC])
 refine ld_ (v := .bool false) rfl (by rfl) (by rfl) (run_load_one ((Fg3.out.cell 2).trans rfl) Try.underlying4 rfl) ?_
 (try simp only [zP, zN, zA, zB, zC])
 refine nl_ (hK20 _ _ ?_); clear hK20 K20
 refine wp_cond_false rfl ?_
 refine wp_skip ?_
 refine th_norm (hK19 _ _ ?_); try clear hK19 K19
 refine s_ (fun K21 hK21 => ?_)
 refine pu_ (v := .pointer (some ⟨g3, 0, none⟩)) (y_run (by rfl) (fun W => by go_simp)) ?_
 (try simp only [zP, zN, zA, zB, zC])
 refine ld_ (v := .slice A 0 c) rfl (by rfl) (by rfl) (run_load_one ((Fg3.out.cell 0).trans rfl) Try.underlying41 rfl) ?_
 (try simp only [zP, zN, zA, zB, zC])
 refine pu_ (v := .int .i64 0) (y_run (by rfl) (fun W => by go_simp)) ?_
 (try simp only [zP, zN, zA, zB, zC])
 refine pu_ (v := .int .i64 0) (y_assign rfl (by rfl) (by rfl)) ?_
 (try simp only [zP, zN, zA, zB, zC])
 refine nl_ (hK21 _ _ ?_); clear hK21 K21
 refine sq_ (fun K22 hK22 => ?_)
 refine s_ (fun K23 hK23 => ?_)
 refine pu_ (v := .int .i64 0) (y_move rfl (by rfl) (by rfl)) ?_
 (try simp only [zP, zN, zA, zB, zC])
 refine pu_ (v := .bool false) (y_run (by rfl) (fun W => by go_simp)) ?_
 (try simp only [zP, zN, zA, zB, zC])
 refine pu_ (v := .bool false) (y_move rfl (by rfl) (by rfl)) ?_
 (try simp only [zP, zN, zA, zB, zC])
 refine pu_ (y_off (by rfl)) ?_
 (try simp only [zP, zN, zA, zB, zC])
 refine pu_ (y_off (by rfl)) ?_
 (try simp only [zP, zN, zA, zB, zC])
 refine pu_ (y_off (by rfl)) ?_
 (try simp only [zP, zN, zA, zB, zC])
 refine pu_ (y_off (by rfl)) ?_
 (try simp only [zP, zN, zA, zB, zC])
 refine pu_ (y_off (by rfl)) ?_
 (try simp only [zP, zN, zA, zB, zC])
 refine pu_ (y_off (by rfl)) ?_
 (try simp only [zP, zN, zA, zB, zC])
 refine pu_ (y_off (by rfl)) ?_
 (try simp only [zP, zN, zA, zB, zC])
 refine pu_ (y_off (by rfl)) ?_
 (try simp only [zP, zN, zA, zB, zC])
 refine pu_ (v := .bool false) (y_pick (t := false) (by rfl) rfl (by rfl) (by rfl)) ?_
 (try simp only [zP, zN, zA, zB, zC])
 refine nl_ (hK23 _ _ ?_); clear hK23 K23
 refine wp_cond_false rfl ?_
 refine wp_skip ?_
 refine th_norm (hK22 _ _ ?_); try clear hK22 K22
 refine sq_ (fun K24 hK24 => ?_)
 refine s_ (fun K25 hK25 => ?_)
 refine pu_ (v := .int .i64 0) (y_move rfl (by rfl) (by rfl)) ?_
 (try simp only [zP, zN, zA, zB, zC])
 refine pu_ (v := .bool false) (y_run (by rfl) (fun W => by go_simp)) ?_
 (try simp only [zP, zN, zA, zB, zC])
 refine nl_ (hK25 _ _ ?_); clear hK25 K25
 refine wp_cond_false rfl ?_
 refine wp_skip ?_
 refine th_norm (hK24 _ _ ?_); try clear hK24 K24
 refine s_ (fun K26 hK26 => ?_)
 refine ld_ (v := .agg (#[.slice A 0 c, .int .u64 last, .bool false, .bool done])) rfl (by rfl) (by rfl) (run_loadVar_row _ _ 44 44 (#[.slice A 0 c, .int .u64 last, .bool false, .bool done]) (0, 0) _ Fg3.out Try.underlying44 rfl (by kernel_rfl)) ?_
 (try simp only [zP, zN, zA, zB, zC])
 refine pu_ (v := .int .u64 rev) (y_move rfl (by rfl) (by rfl)) ?_
 (try simp only [zP, zN, zA, zB, zC])
 refine pu_ (v := .agg #[.int .i64 4, .int .u64 rev, .int .i64 0, .int .u64 0, .string ⟨#[]⟩, .slice none 0 0, .slice none 0 0, .slice none 0 0, .int .i64 0, .int .i64 0, .int .i64 0, .int .i64 0, .slice none 0 0, .int .i64 0, .int .i64 0]) (y_build (vs := #[(0, .int .i64 4), (1, .int .u64 rev)]) (by rfl) rfl (by first | rfl | (simp only [List.map_toArray, List.map_cons, List.map_nil]; first | done | rfl)) (by kernel_rfl)) ?_
 (try simp only [zP, zN, zA, zB, zC])
 refine ef_ (fun K27 hK27 => ?_)
 refine e_call Try.func16 (by kernel_rfl) rfl #[.agg (#[.slice A 0 c, .int .u64 last, .bool false, .bool done]), .agg #[.int .i64 4, .int .u64 rev, .int .i64 0, .int .u64 0, .string ⟨#[]⟩, .slice none 0 0, .slice none 0 0, .slice none 0 0, .int .i64 0, .int .i64 0, .int .i64 0, .int .i64 0, .slice none 0 0, .int .i64 0, .int .i64 0]] (by rfl) rfl rfl (by first | rfl | (simp only [List.map_toArray, List.map_cons, List.map_nil]; first | done | rfl)) (rput_ok _ _ 0 c _ last done ⟨4, rev, 0, 0⟩ RS (by decide) (fun _ h => absurd h (by simp))) ?_
 rintro en w35 ⟨A33, c34, rfl, h129, h230, h331, cc28, h432⟩
 refine ⟨_, rfl, ?_⟩
 have nx36 := Lib.hid (show g3 ∉ xb (.slice A33 (0 + 1) c34) from fun hk => by have := h432 _ hk; have := Fg3.out.lt; omega)
 have nx37 := Lib.hid (show g11 ∉ xb (.slice A33 (0 + 1) c34) from fun hk => by have := h432 _ hk; have := Fg11.out.lt; omega)
 have H4 := Lib.hid (show ∀ k, k ∈ xb (.slice A33 (0 + 1) c34) → w.heap.size ≤ k from fun k hk => Nat.le_trans C0.out.size (h432 k hk)); clear h432
 have H2 := Lib.hid h230; have H3 := Lib.hid h331; clear h230 h331
 have C0' := Lib.hid (show Ch [] w w35 from C0.out.trans' cc28 (fun x hx => absurd hx (by simp)))
 have RS' := Lib.hid (show SrcIs w35 (.slice A 0 c) (0) ([]) 15 from RS.out.chx cc28 xnin_nil)
 have Fg3' := Lib.hid (show Blk w35 g3 (#[.slice A 0 c, .int .u64 last, .bool false, .bool done]) 44 from cc28.blk Fg3.out nin_nil)
 have Fg11' := Lib.hid (show Blk w35 g11 (#[.slice none 0 0, .int .u64 0, .bool false, .bool false]) 44 from cc28.blk Fg11.out nin_nil)
 clear C0 RS Fg3 Fg11
 have C0 := C0'; clear C0'
 have RS := RS'; clear RS'
 have Fg3 := Fg3'; clear Fg3'
 have Fg11 := Fg11'; clear Fg11'
 clear cc28
 have RN := Lib.hid (show SrcIs w35 (.slice A33 (0 + 1) c34) (0 + 1) ([] ++ evC ⟨4, rev, 0, 0⟩) 15 from h129)
 refine hK27 _ _ ?_; clear hK27 K27
 (try simp only [zP, zN, zA, zB, zC])
 refine pu_ (v := .agg #[.slice A33 (0 + 1) c34, .int .u64 rev, .bool false, .bool done]) (y_run (by rfl) (fun W => by go_simp)) ?_
 (try simp only [zP, zN, zA, zB, zC])
 refine pu_ (v := .bool true) (y_run (by rfl) (fun W => by go_simp)) ?_
 (try simp only [zP, zN, zA, zB, zC])
 refine ef_ (fun K38 hK38 => ?_)
 refine e_storeN (cells := #[.slice A33 (0 + 1) c34, .int .u64 rev, .bool false, .bool done]) (by rfl) rfl rfl (by rfl) (by rfl) Fg11.out (by kernel_rfl) (by rfl) (ones_cons rfl (ones_cons rfl (ones_cons rfl (ones_cons rfl ones_nil)))) ?_
 rintro w39 B40 C41
 have C0' := Lib.hid (show Ch [] w w39 from C0.out.trans' C41 (inw_cons (.inr nw16.out) inw_nil))
 have RS' := Lib.hid (show SrcIs w39 (.slice A 0 c) (0) ([]) 15 from RS.out.chx C41 (xnin_cons nx17.out xnin_nil))
 have Fg3' := Lib.hid (show Blk w39 g3 (#[.slice A 0 c, .int .u64 last, .bool false, .bool done]) 44 from C41.blk Fg3.out (nin_cons ne18.out nin_nil))
 have RN' := Lib.hid (show SrcIs w39 (.slice A33 (0 + 1) c34) (0 + 1) ([] ++ evC ⟨4, rev, 0, 0⟩) 15 from RN.out.chx C41 (xnin_cons nx37.out xnin_nil))
 clear C0 RS Fg3 RN
 have C0 := C0'; clear C0'
 have RS := RS'; clear RS'
 have Fg3 := Fg3'; clear Fg3'
 have RN := RN'; clear RN'
 clear Fg11; have Fg11 := Lib.hid (show Blk w39 g11 (#[.slice A33 (0 + 1) c34, .int .u64 rev, .bool false, .bool done]) 44 from B40); clear B40 C41
 refine hK38 _ _ ?_; clear hK38 K38
 (try simp only [zP, zN, zA, zB, zC])
 refine pu_ (v := .bool true) (y_assign rfl (by rfl) (by rfl)) ?_
 (try simp only [zP, zN, zA, zB, zC])
 refine nl_ (hK26 _ _ ?_); clear hK26 K26
 refine wp_ret ?_
 refine hQ _ _ _ ?_
 refine bodyPost_ret (res2 rfl (rdv_cell (by rfl) (run_loadVar_row _ _ 44 44 (#[.slice A33 (0 + 1) c34, .int .u64 rev, .bool false, .bool done]) (0, 0) _ Fg11.out Try.underlying44 rfl (by kernel_rfl))) (rdv_tmp (v := .bool true) (by rfl))) rfl ?_
 exact ⟨_, _, rfl, RN.out, H2.out, H3.out, C0.out, H4.out⟩
theorem rtake_some (w : World) (p o n c : Nat) (e : Ev) (T : List Ev) (last : Int) (over done : Bool) (RS : Hid (SrcIs w (.slice (some ⟨p, o, none⟩) n c) n ((e :: T).flatMap evC) 15)) (hn : n = T.length + 1) (hc : n ≤ c) (hm : c ≤ maxLen) :
  Calls Try.prog 21 #[.agg #[.slice (some ⟨p, o, none⟩) n c, .int .u64 last, .bool over, .bool done]] w (fun en w' => ∃ (A1 : Addr) (c1 : Nat), en = .returned (.tuple #[.agg #[.slice (some A1) T.length c1, .int .u64 last, .bool over, .bool done], .agg (evA e), .bool true]) ∧ SrcIs w' (.slice (some A1) T.length c1) T.length (T.flatMap evC) 15 ∧ T.length ≤ c1 ∧ c1 ≤ maxLen ∧ Ch [] w w' ∧ (0 < T.length → A1 = ⟨p, o + 15, none⟩)) := by
 have C0 := Lib.hid (Ch.refl [] w)
 have RS0 := RS
 have HN := Lib.hid hn
 have DP := Lib.hid (show 0 < n by omega)
 have D0 := Lib.hid (show ¬ n = 0 by omega)
 obtain ⟨A1, c1, hSL, hT, hc1, hc2⟩ := slice_tail p o n c (by omega) hc hm
 have SL := Lib.hid hSL
 have HT := Lib.hid (show 0 < T.length → A1 = ⟨p, o + 15, none⟩ from fun h => hT (by omega))
 rw [show n - 1 = T.length by omega] at SL
 have HC1 := Lib.hid (show T.length ≤ c1 by omega)
 have HC2 := Lib.hid hc2
 clear hSL hT hn hc1 hc2
 go_enter Try.func21, Try.ntmps21
 refine q_ (fun Q hQ hP => ?_)
 refine s_ (fun K1 hK1 => ?_)
 refine ef_ (fun K2 hK2 => ?_)
 refine e_boxN (by rfl) rfl rfl (cs := #[.slice (some ⟨p, o, none⟩) n c, .int .u64 last, .bool over, .bool done]) (v := .agg #[.slice (some ⟨p, o, none⟩) n c, .int .u64 last, .bool over, .bool done]) (by rfl) rfl ?_
 rintro g3 w4 HG5 B6 C7
 have nw8 := Lib.hid (show w.heap.size ≤ g3 by have := C0.out.size; have := HG5.out; omega)
 have nx9 := Lib.hid (RS.out.ne_new (by decide) HG5)
 have C0' := Lib.hid (show Ch [] w w4 from C0.out.trans' C7 (fun x hx => absurd hx (by simp)))
 have RS' := Lib.hid (show SrcIs w4 (.slice (some ⟨p, o, none⟩) n c) (n) ((e :: T).flatMap evC) 15 from RS.out.chx C7 xnin_nil)
 clear C0 RS
 have C0 := C0'; clear C0'
 have RS := RS'; clear RS'
 have Fg3 := Lib.hid (show Blk w4 g3 (#[.slice (some ⟨p, o, none⟩) n c, .int .u64 last, .bool over, .bool done]) 44 from B6); clear B6 C7
 refine hK2 _ _ ?_; clear hK2 K2
 (try simp only [zP, zN, zA, zB, zC])
 refine ef_ (fun K10 hK10 => ?_)
 refine e_alloc (by rfl) rfl rfl (cs := #[.slice none 0 0, .int .u64 0, .bool false, .bool false]) (by kernel_rfl) ?_
 rintro g11 w12 HG13 B14 C15
 have nw16 := Lib.hid (show w.heap.size ≤ g11 by have := C0.out.size; have := HG13.out; omega)
 have nx17 := Lib.hid (RS.out.ne_new (by decide) HG13)
 have ne18 := Lib.hid (Fg3.out.ne_new HG13)
 have C0' := Lib.hid (show Ch [] w w12 from C0.out.trans' C15 (fun x hx => absurd hx (by simp)))
 have RS' := Lib.hid (show SrcIs w12 (.slice (some ⟨p, o, none⟩) n c) (n) ((e :: T).flatMap evC) 15 from RS.out.chx C15 xnin_nil)
 have Fg3' := Lib.hid (show Blk w12 g3 (#[.slice (some ⟨p, o, none⟩) n c, .int .u64 last, .bool over, .bool done]) 44 from C15.blk Fg3.out nin_nil)
 clear C0 RS Fg3
 have C0 := C0'; clear C0'
 have RS := RS'; clear RS'
 have Fg3 := Fg3'; clear Fg3'
 have Fg11 := Lib.hid (show Blk w12 g11 (#[.slice none 0 0, .int .u64 0, .bool false, .bool false]) 44 from B14); clear B14 C15
 refine hK10 _ _ ?_; clear hK10 K10
 (try simp only [zP, zN, zA, zB, zC])
 refine ef_ (fun K19 hK19 => ?_)
 refine e_alloc (by rfl) rfl rfl (cs := #[.int .i64 0, .int .u64 0, .int .i64 0, .int .u64 0, .string ⟨#[]⟩, .slice none 0 0, .slice none 0 0, .slice none 0 0, .int .i64 0, .int .i64 0, .int .i64 0, .int .i64 0, .slice none 0 0, .int .i64 0, .int .i64 0]) (by kernel_rfl) ?_
 rintro g20 w21 HG22 B23 C24
 have nw25 := Lib.hid (show w.heap.size ≤ g20 by have := C0.out.size; have := HG22.out; omega)
 have nx26 := Lib.hid (RS.out.ne_new (by decide) HG22)
 have C0' := Lib.hid (show Ch [] w w21 from C0.out.trans' C24 (fun x hx => absurd hx (by simp)))
 have RS' := Lib.hid (show SrcIs w21 (.slice (some ⟨p, o, none⟩) n c) (n) ((e :: T).flatMap evC) 15 from RS.out.chx C24 xnin_nil)
 have Fg3' := Lib.hid (show Blk w21 g3 (#[.slice (some ⟨p, o, none⟩) n c, .int .u64 last, .bool over, .bool done]) 44 from C24.blk Fg3.out nin_nil)
 have Fg11' := Lib.hid (show Blk w21 g11 (#[.slice none 0 0, .int .u64 0, .bool false, .bool false]) 44 from C24.blk Fg11.out nin_nil)
 clear C0 RS Fg3 Fg11
 have C0 := C0'; clear C0'
 have RS := RS'; clear RS'
 have Fg3 := Fg3'; clear Fg3'
 have Fg11 := Fg11'; clear Fg11'
 have Fg20 := Lib.hid (show Blk w21 g20 (#[.int .i64 0, .int .u64 0, .int .i64 0, .int .u64 0, .string ⟨#[]⟩, .slice none 0 0, .slice none 0 0, .slice none 0 0, .int .i64 0, .int .i64 0, .int .i64 0, .int .i64 0, .slice none 0 0, .int .i64 0, .int .i64 0]) 56 from B23); clear B23 C24
 refine hK19 _ _ ?_; clear hK19 K19
 (try simp only [zP, zN, zA, zB, zC])
 refine pu_ (v := .bool false) (y_assign rfl (by rfl) (by rfl)) ?_
 (try simp only [zP, zN, zA, zB, zC])
 refine nl_ (hK1 _ _ ?_); clear hK1 K1
 refine sq_ (fun K27 hK27 => ?_)
 refine s_ (fun K28 hK28 => ?_)
 refine pu_ (v := .pointer (some ⟨g3, 0, none⟩)) (y_run (by rfl) (fun W => by go_simp)) ?_
 (try simp only [zP, zN, zA, zB, zC])
 refine ld_ (v := .slice (some ⟨p, o, none⟩) n c) rfl (by rfl) (by rfl) (run_load_one ((Fg3.out.cell 0).trans rfl) Try.underlying41 rfl) ?_
 (try simp only [zP, zN, zA, zB, zC])
 refine pu_ (v := .int .i64 n) (y_run (by rfl) (fun W => by go_simp)) ?_
 (try simp only [zP, zN, zA, zB, zC])
 refine pu_ (v := .bool true) (y_run (by rfl) (fun W => by have d := DP.out; go_simp)) ?_
 (try simp only [zP, zN, zA, zB, zC])
 refine nl_ (hK28 _ _ ?_); clear hK28 K28
 refine wp_cond_true rfl ?_
 refine s_ (fun K29 hK29 => ?_)
 refine pu_ (v := .pointer (some ⟨g3, 0, none⟩)) (y_run (by rfl) (fun W => by go_simp)) ?_
 (try simp only [zP, zN, zA, zB, zC])
 refine ld_ (v := .slice (some ⟨p, o, none⟩) n c) rfl (by rfl) (by rfl) (run_load_one ((Fg3.out.cell 0).trans rfl) Try.underlying41 rfl) ?_
 (try simp only [zP, zN, zA, zB, zC])
 refine pu_ (v := .pointer (some ⟨p, o, none⟩)) (y_run (by rfl) (fun W => by have d := DP.out; have d0 := D0.out; go_simp)) ?_
 (try simp only [zP, zN, zA, zB, zC])
 refine ld_ (v := .agg (evA e)) rfl (by rfl) (by rfl) (run_loadVar_at (cs := evC e) (src_head RS.out) Try.underlying56 rfl (by kernel_rfl)) ?_
 (try simp only [zP, zN, zA, zB, zC])
 refine ef_ (fun K30 hK30 => ?_)
 refine e_alloc (by rfl) rfl rfl (cs := #[.int .i64 0, .int .u64 0, .int .i64 0, .int .u64 0, .string ⟨#[]⟩, .slice none 0 0, .slice none 0 0, .slice none 0 0, .int .i64 0, .int .i64 0, .int .i64 0, .int .i64 0, .slice none 0 0, .int .i64 0, .int .i64 0]) (by kernel_rfl) ?_
 rintro g31 w32 HG33 B34 C35
 have nw36 := Lib.hid (show w.heap.size ≤ g31 by have := C0.out.size; have := HG33.out; omega)
 have nx37 := Lib.hid (RS.out.ne_new (by decide) HG33)
 have ne38 := Lib.hid (Fg20.out.ne_new HG33)
 have C0' := Lib.hid (show Ch [] w w32 from C0.out.trans' C35 (fun x hx => absurd hx (by simp)))
 have RS' := Lib.hid (show SrcIs w32 (.slice (some ⟨p, o, none⟩) n c) (n) ((e :: T).flatMap evC) 15 from RS.out.chx C35 xnin_nil)
 have Fg3' := Lib.hid (show Blk w32 g3 (#[.slice (some ⟨p, o, none⟩) n c, .int .u64 last, .bool over, .bool done]) 44 from C35.blk Fg3.out nin_nil)
 have Fg11' := Lib.hid (show Blk w32 g11 (#[.slice none 0 0, .int .u64 0, .bool false, .bool false]) 44 from C35.blk Fg11.out nin_nil)
 have Fg20' := Lib.hid (show Blk w32 g20 (#[.int .i64 0, .int .u64 0, .int .i64 0, .int .u64 0, .string ⟨#[]⟩, .slice none 0 0, .slice none 0 0, .slice none 0 0, .int .i64 0, .int .i64 0, .int .i64 0, .int .i64 0, .slice none 0 0, .int .i64 0, .int .i64 0]) 56 from C35.blk Fg20.out nin_nil)
 clear C0 RS Fg3 Fg11 Fg20
 have C0 := C0'; clear C0'
 have RS := RS'; clear RS'
 have Fg3 := Fg3'; clear Fg3'
 have Fg11 := Fg11'; clear Fg11'
 have Fg20 := Fg20'; clear Fg20'
 have Fg31 := Lib.hid (show Blk w32 g31 (#[.int .i64 0, .int .u64 0, .int .i64 0, .int .u64 0, .string ⟨#[]⟩, .slice none 0 0, .slice none 0 0, .slice none 0 0, .int .i64 0, .int .i64 0, .int .i64 0, .int .i64 0, .slice none 0 0, .int .i64 0, .int .i64 0]) 56 from B34); clear B34 C35
 refine hK30 _ _ ?_; clear hK30 K30
 (try simp only [zP, zN, zA, zB, zC])
 refine ef_ (fun K39 hK39 => ?_)
 refine e_storeN (cells := (evA e)) (by rfl) rfl rfl (by rfl) (by rfl) Fg31.out (by kernel_rfl) (by rfl) (ones_cons rfl (ones_cons rfl (ones_cons rfl (ones_cons rfl (ones_cons rfl (ones_cons rfl (ones_cons rfl (ones_cons rfl (ones_cons rfl (ones_cons rfl (ones_cons rfl (ones_cons rfl (ones_cons rfl (ones_cons rfl (ones_cons rfl ones_nil))))))))))))))) ?_
 rintro w40 B41 C42
 have C0' := Lib.hid (show Ch [] w w40 from C0.out.trans' C42 (inw_cons (.inr nw36.out) inw_nil))
 have RS' := Lib.hid (show SrcIs w40 (.slice (some ⟨p, o, none⟩) n c) (n) ((e :: T).flatMap evC) 15 from RS.out.chx C42 (xnin_cons nx37.out xnin_nil))
 have Fg3' := Lib.hid (show Blk w40 g3 (#[.slice (some ⟨p, o, none⟩) n c, .int .u64 last, .bool over, .bool done]) 44 from C42.blk Fg3.out (nin_cons (Blk.ne_type Fg3.out Fg31.out (by decide)) nin_nil))
 have Fg11' := Lib.hid (show Blk w40 g11 (#[.slice none 0 0, .int .u64 0, .bool false, .bool false]) 44 from C42.blk Fg11.out (nin_cons (Blk.ne_type Fg11.out Fg31.out (by decide)) nin_nil))
 have Fg20' := Lib.hid (show Blk w40 g20 (#[.int .i64 0, .int .u64 0, .int .i64 0, .int .u64 0, .string ⟨#[]⟩, .slice none 0 0, .slice none 0 0, .slice none 0 0, .int .i64 0, .int .i64 0, .int .i64 0, .int .i64 0, .slice none 0 0, .int .i64 0, .int .i64 0]) 56 from C42.blk Fg20.out (nin_cons ne38.out nin_nil))
 clear C0 RS Fg3 Fg11 Fg20
 have C0 := C0'; clear C0'
 have RS := RS'; clear RS'
 have Fg3 := Fg3'; clear Fg3'
 have Fg11 := Fg11'; clear Fg11'
 have Fg20 := Fg20'; clear Fg20'
 clear Fg31; have Fg31 := Lib.hid (show Blk w40 g31 ((evA e)) 56 from B41); clear B41 C42
 refine hK39 _ _ ?_; clear hK39 K39
 (try simp only [zP, zN, zA, zB, zC])
 refine nl_ (hK29 _ _ ?_); clear hK29 K29
 refine s_ (fun K43 hK43 => ?_)
 refine pu_ (v := .pointer (some ⟨g3, 0, none⟩)) (y_run (by rfl) (fun W => by go_simp)) ?_
 (try simp only [zP, zN, zA, zB, zC])
 refine ld_ (v := .slice (some ⟨p, o, none⟩) n c) rfl (by rfl) (by rfl) (run_load_one ((Fg3.out.cell 0).trans rfl) Try.underlying41 rfl) ?_
 (try simp only [zP, zN, zA, zB, zC])
 refine pu_ (v := .slice (some A1) T.length c1) (y_run (by rfl) (fun W => by have h := SL.out; go_simp)) ?_
 (try simp only [zP, zN, zA, zB, zC])
 refine pu_ (v := .pointer (some ⟨g3, 0, none⟩)) (y_run (by rfl) (fun W => by go_simp)) ?_
 (try simp only [zP, zN, zA, zB, zC])
 refine ef_ (fun K44 hK44 => ?_)
 refine e_store1 (b := g3) (j := 0) (v := .slice (some A1) T.length c1) (by rfl) rfl rfl (by rfl) (by rfl) Fg3.out (show 0 < 4 by omega) (by kernel_rfl) rfl ?_
 rintro w45 B46 C47
 have C0' := Lib.hid (show Ch [] w w45 from C0.out.trans' C47 (inw_cons (.inr nw8.out) inw_nil))
 have RS' := Lib.hid (show SrcIs w45 (.slice (some ⟨p, o, none⟩) n c) (n) ((e :: T).flatMap evC) 15 from RS.out.chx C47 (xnin_cons nx9.out xnin_nil))
 have Fg11' := Lib.hid (show Blk w45 g11 (#[.slice none 0 0, .int .u64 0, .bool false, .bool false]) 44 from C47.blk Fg11.out (nin_cons (Ne.symm ne18.out) nin_nil))
 have Fg20' := Lib.hid (show Blk w45 g20 (#[.int .i64 0, .int .u64 0, .int .i64 0, .int .u64 0, .string ⟨#[]⟩, .slice none 0 0, .slice none 0 0, .slice none 0 0, .int .i64 0, .int .i64 0, .int .i64 0, .int .i64 0, .slice none 0 0, .int .i64 0, .int .i64 0]) 56 from C47.blk Fg20.out (nin_cons (Blk.ne_type Fg20.out Fg3.out (by decide)) nin_nil))
 have Fg31' := Lib.hid (show Blk w45 g31 ((evA e)) 56 from C47.blk Fg31.out (nin_cons (Blk.ne_type Fg31.out Fg3.out (by decide)) nin_nil))
 clear C0 RS Fg11 Fg20 Fg31
 have C0 := C0'; clear C0'
 have RS := RS'; clear RS'
 have Fg11 := Fg11'; clear Fg11'
 have Fg20 := Fg20'; clear Fg20'
 have Fg31 := Fg31'; clear Fg31'
 clear Fg3; have Fg3 := Lib.hid (show Blk w45 g3 (#[.slice (some A1) T.length c1, .int .u64 last, .bool over, .bool done]) 44 from B46); clear B46 C47
 refine hK44 _ _ ?_; clear hK44 K44
 (try simp only [zP, zN, zA, zB, zC])
 refine nl_ (hK43 _ _ ?_); clear hK43 K43
 refine sq_ (fun K48 hK48 => ?_)
 refine startk_ (S := fun W => Blk W g3 (#[.slice (some A1) T.length c1, .int .u64 last, .bool over, .bool done]) 44 ∧ Blk W g31 ((evA e)) 56 ∧ True) (ds := []) #[false, false, false, false, false] (by kernel_rfl) rfl rfl (fun W c => ⟨c.blk Fg3.out nin_nil, c.blk Fg31.out nin_nil, trivial⟩) (fun w49 C50 hS51 => ?_)
 have C0' := Lib.hid (show Ch [] w w49 from C0.out.trans' C50 (fun x hx => absurd hx (by simp)))
 have RS' := Lib.hid (show SrcIs w49 (.slice (some ⟨p, o, none⟩) n c) (n) ((e :: T).flatMap evC) 15 from RS.out.chx C50 xnin_nil)
 have Fg3' := Lib.hid (show Blk w49 g3 (#[.slice (some A1) T.length c1, .int .u64 last, .bool over, .bool done]) 44 from C50.blk Fg3.out nin_nil)
 have Fg11' := Lib.hid (show Blk w49 g11 (#[.slice none 0 0, .int .u64 0, .bool false, .bool false]) 44 from C50.blk Fg11.out nin_nil)
 have Fg20' := Lib.hid (show Blk w49 g20 (#[.int .i64 0, .int .u64 0, .int .i64 0, .int .u64 0, .string ⟨#[]⟩, .slice none 0 0, .slice none 0 0, .slice none 0 0, .int .i64 0, .int .i64 0, .int .i64 0, .int .i64 0, .slice none 0 0, .int .i64 0, .int .i64 0]) 56 from C50.blk Fg20.out nin_nil)
 have Fg31' := Lib.hid (show Blk w49 g31 ((evA e)) 56 from C50.blk Fg31.out nin_nil)
 clear C0 RS Fg3 Fg11 Fg20 Fg31
 have C0 := C0'; clear C0'
 have RS := RS'; clear RS'
 have Fg3 := Fg3'; clear Fg3'
 have Fg11 := Fg11'; clear Fg11'
 have Fg20 := Fg20'; clear Fg20'
 have Fg31 := Fg31'; clear Fg31'
 clear C50
 refine take_ (i := 0) (N := some 18) (v := .agg (#[.slice (some A1) T.length c1, .int .u64 last, .bool over, .bool done])) #[true, false, false, false, false] rfl rfl (by kernel_rfl) (fun c a w h => hP c a _ _ w h) (y_load (p := ⟨g3, 0, none⟩) rfl (by rfl) (by rfl) (fun W hS => run_loadVar_row _ _ 44 44 (#[.slice (some A1) T.length c1, .int .u64 last, .bool over, .bool done]) (0, 0) _ hS.1 Try.underlying44 rfl (by kernel_rfl))) hS51 rfl ?_
 (try simp only [zP, zN, zA, zB, zC])
 refine take_ (i := 1) (N := some 19) (v := .agg ((evA e))) #[true, true, false, false, false] rfl rfl (by kernel_rfl) (fun c a w h => hP c a _ _ w h) (y_load (p := ⟨g31, 0, none⟩) rfl (by rfl) (by rfl) (fun W hS => run_loadVar_row _ _ 56 56 ((evA e)) (0, 0) _ hS.2.1 Try.underlying56 rfl (by kernel_rfl))) hS51 rfl ?_
 (try simp only [zP, zN, zA, zB, zC])
 refine one_ (i := 2) (N := none) #[true, true, true, false, false] rfl rfl (by kernel_rfl) (by simp) (fun K52 hK52 => ?_)
 refine e_storeN (cells := (#[.slice (some A1) T.length c1, .int .u64 last, .bool over, .bool done])) (by rfl) rfl rfl (by rfl) (by rfl) Fg11.out (by kernel_rfl) (by rfl) (ones_cons rfl (ones_cons rfl (ones_cons rfl (ones_cons rfl ones_nil)))) ?_
 rintro w53 B54 C55
 have C0' := Lib.hid (show Ch [] w w53 from C0.out.trans' C55 (inw_cons (.inr nw16.out) inw_nil))
 have RS' := Lib.hid (show SrcIs w53 (.slice (some ⟨p, o, none⟩) n c) (n) ((e :: T).flatMap evC) 15 from RS.out.chx C55 (xnin_cons nx17.out xnin_nil))
 have Fg3' := Lib.hid (show Blk w53 g3 (#[.slice (some A1) T.length c1, .int .u64 last, .bool over, .bool done]) 44 from C55.blk Fg3.out (nin_cons ne18.out nin_nil))
 have Fg20' := Lib.hid (show Blk w53 g20 (#[.int .i64 0, .int .u64 0, .int .i64 0, .int .u64 0, .string ⟨#[]⟩, .slice none 0 0, .slice none 0 0, .slice none 0 0, .int .i64 0, .int .i64 0, .int .i64 0, .int .i64 0, .slice none 0 0, .int .i64 0, .int .i64 0]) 56 from C55.blk Fg20.out (nin_cons (Blk.ne_type Fg20.out Fg11.out (by decide)) nin_nil))
 have Fg31' := Lib.hid (show Blk w53 g31 ((evA e)) 56 from C55.blk Fg31.out (nin_cons (Blk.ne_type Fg31.out Fg11.out (by decide)) nin_nil))
 clear C0 RS Fg3 Fg20 Fg31
 have C0 := C0'; clear C0'
 have RS := RS'; clear RS'
 have Fg3 := Fg3'; clear Fg3'
 have Fg20 := Fg20'; clear Fg20'
 have Fg31 := Fg31'; clear Fg31'
 clear Fg11; have Fg11 := Lib.hid (show Blk w53 g11 ((#[.slice (some A1) T.length c1, .int .u64 last, .bool over, .bool done])) 44 from B54); clear B54 C55
 refine hK52.out _ _ ⟨Fg3.out, Fg31.out, trivial⟩ (fun hS56 => ?_); clear hK52 K52
 (try simp only [zP, zN, zA, zB, zC])
 refine one_ (i := 3) (N := none) #[true, true, true, true, false] rfl rfl (by kernel_rfl) (by simp) (fun K57 hK57 => ?_)
 refine e_storeN (cells := ((evA e))) (by rfl) rfl rfl (by rfl) (by rfl) Fg20.out (by kernel_rfl) (by rfl) (ones_cons rfl (ones_cons rfl (ones_cons rfl (ones_cons rfl (ones_cons rfl (ones_cons rfl (ones_cons rfl (ones_cons rfl (ones_cons rfl (ones_cons rfl (ones_cons rfl (ones_cons rfl (ones_cons rfl (ones_cons rfl (ones_cons rfl ones_nil))))))))))))))) ?_
 rintro w58 B59 C60
 have C0' := Lib.hid (show Ch [] w w58 from C0.out.trans' C60 (inw_cons (.inr nw25.out) inw_nil))
 have RS' := Lib.hid (show SrcIs w58 (.slice (some ⟨p, o, none⟩) n c) (n) ((e :: T).flatMap evC) 15 from RS.out.chx C60 (xnin_cons nx26.out xnin_nil))
 have Fg3' := Lib.hid (show Blk w58 g3 (#[.slice (some A1) T.length c1, .int .u64 last, .bool over, .bool done]) 44 from C60.blk Fg3.out (nin_cons (Blk.ne_type Fg3.out Fg20.out (by decide)) nin_nil))
 have Fg11' := Lib.hid (show Blk w58 g11 ((#[.slice (some A1) T.length c1, .int .u64 last, .bool over, .bool done])) 44 from C60.blk Fg11.out (nin_cons (Blk.ne_type Fg11.out Fg20.out (by decide)) nin_nil))
 have Fg31' := Lib.hid (show Blk w58 g31 ((evA e)) 56 from C60.blk Fg31.out (nin_cons (Ne.symm ne38.out) nin_nil))
 clear C0 RS Fg3 Fg11 Fg31
 have C0 := C0'; clear C0'
 have RS := RS'; clear RS'
 have Fg3 := Fg3'; clear Fg3'
 have Fg11 := Fg11'; clear Fg11'
 have Fg31 := Fg31'; clear Fg31'
 clear Fg20; have Fg20 := Lib.hid (show Blk w58 g20 (((evA e))) 56 from B59); clear B59 C60
 refine hK57.out _ _ ⟨Fg3.out, Fg31.out, trivial⟩ (fun hS61 => ?_); clear hK57 K57
 (try simp only [zP, zN, zA, zB, zC])
 refine pure_ (i := 4) (N := some 4) (v := .bool true) #[true, true, true, true, true] rfl rfl (by kernel_rfl) (fun c a w h => hP c a _ _ w h) (y_assign rfl (by rfl) (by rfl)) rfl ?_
 (try simp only [zP, zN, zA, zB, zC])
 refine done_ (by kernel_rfl) (th_norm (hK48 _ _ ?_)); clear hK48 K48
 refine wp_ret ?_
 refine th_ret ?_
 refine hQ _ _ _ ?_
 refine bodyPost_ret (res3 rfl (rdv_cell (by rfl) (run_loadVar_row _ _ 44 44 ((#[.slice (some A1) T.length c1, .int .u64 last, .bool over, .bool done])) (0, 0) _ Fg11.out Try.underlying44 rfl (by kernel_rfl))) (rdv_cell (by rfl) (run_loadVar_row _ _ 56 56 (((evA e))) (0, 0) _ Fg20.out Try.underlying56 rfl (by kernel_rfl))) (rdv_tmp (v := .bool true) (by rfl))) rfl ?_
 exact ⟨A1, c1, rfl, src_tail RS.out HT.out, HC1.out, HC2.out, C0.out, HT.out⟩
theorem rtake_none_true_true (w : World) (A : Option Addr) (c : Nat) (last : Int) :
  Calls Try.prog 21 #[.agg #[.slice A 0 c, .int .u64 last, .bool true, .bool true]] w (fun en w' => en = .returned (.tuple #[.agg #[.slice A 0 c, .int .u64 last, .bool true, .bool true], .agg (evA ⟨0, 0, 0, 0⟩), .bool false]) ∧ Ch [] w w') := by
 have C0 := Lib.hid (Ch.refl [] w)
 go_enter Try.func21, Try.ntmps21
 refine q_ (fun Q hQ hP => ?_)
 refine s_ (fun K1 hK1 => ?_)
 refine ef_ (fun K2 hK2 => ?_)
 refine e_boxN (by rfl) rfl rfl (cs := #[.slice A 0 c, .int .u64 last, .bool true, .bool true]) (v := .agg #[.slice A 0 c, .int .u64 last, .bool true, .bool true]) (by rfl) rfl ?_
 rintro g3 w4 HG5 B6 C7
 have nw8 := Lib.hid (show w.heap.size ≤ g3 by have := C0.out.size; have := HG5.out; omega)
 have C0' := Lib.hid (show Ch [] w w4 from C0.out.trans' C7 (fun x hx => absurd hx (by simp)))
 clear C0
 have C0 := C0'; clear C0'
 have Fg3 := Lib.hid (show Blk w4 g3 (#[.slice A 0 c, .int .u64 last, .bool true, .bool true]) 44 from B6); clear B6 C7
 refine hK2 _ _ ?_; clear hK2 K2
 (try simp only [zP, zN, zA, zB, zC])
 refine ef_ (fun K9 hK9 => ?_)
 refine e_alloc (by rfl) rfl rfl (cs := #[.slice none 0 0, .int .u64 0, .bool false, .bool false]) (by kernel_rfl) ?_
 rintro g10 w11 HG12 B13 C14
 have nw15 := Lib.hid (show w.heap.size ≤ g10 by have := C0.out.size; have := HG12.out; omega)
 have ne16 := Lib.hid (Fg3.out.ne_new HG12)
 have C0' := Lib.hid (show Ch [] w w11 from C0.out.trans' C14 (fun x hx => absurd hx (by simp)))
 have Fg3' := Lib.hid (show Blk w11 g3 (#[.slice A 0 c, .int .u64 last, .bool true, .bool true]) 44 from C14.blk Fg3.out nin_nil)
 clear C0 Fg3
 have C0 := C0'; clear C0'
 have Fg3 := Fg3'; clear Fg3'
 have Fg10 := Lib.hid (show Blk w11 g10 (#[.slice none 0 0, .int .u64 0, .bool false, .bool false]) 44 from B13); clear B13 C14
 refine hK9 _ _ ?_; clear hK9 K9
 (try simp only [zP, zN, zA, zB, zC])
 refine ef_ (fun K17 hK17 => ?_)
 refine e_alloc (by rfl) rfl rfl (cs := #[.int .i64 0, .int .u64 0, .int .i64 0, .int .u64 0, .string ⟨#[]⟩, .slice none 0 0, .slice none 0 0, .slice none 0 0, .int .i64 0, .int .i64 0, .int .i64 0, .int .i64 0, .slice none 0 0, .int .i64 0, .int .i64 0]) (by kernel_rfl) ?_
 rintro g18 w19 HG20 B21 C22
 have nw23 := Lib.hid (show w.heap.size ≤ g18 by have := C0.out.size; have := HG20.out; omega)
 have C0' := Lib.hid (show Ch [] w w19 from C0.out.trans' C22 (fun x hx => absurd hx (by simp)))
 have Fg3' := Lib.hid (show Blk w19 g3 (#[.slice A 0 c, .int .u64 last, .bool true, .bool true]) 44 from C22.blk Fg3.out nin_nil)
 have Fg10' := Lib.hid (show Blk w19 g10 (#[.slice none 0 0, .int .u64 0, .bool false, .bool false]) 44 from C22.blk Fg10.out nin_nil)
 clear C0 Fg3 Fg10
 have C0 := C0'; clear C0'
 have Fg3 := Fg3'; clear Fg3'
 have Fg10 := Fg10'; clear Fg10'
 have Fg18 := Lib.hid (show Blk w19 g18 (#[.int .i64 0, .int .u64 0, .int .i64 0, .int .u64 0, .string ⟨#[]⟩, .slice none 0 0, .slice none 0 0, .slice none 0 0, .int .i64 0, .int .i64 0, .int .i64 0, .int .i64 0, .slice none 0 0, .int .i64 0, .int .i64 0]) 56 from B21); clear B21 C22
 refine hK17 _ _ ?_; clear hK17 K17
 (try simp only [zP, zN, zA, zB, zC])
 refine pu_ (v := .bool false) (y_assign rfl (by rfl) (by rfl)) ?_
 (try simp only [zP, zN, zA, zB, zC])
 refine nl_ (hK1 _ _ ?_); clear hK1 K1
 refine sq_ (fun K24 hK24 => ?_)
 refine s_ (fun K25 hK25 => ?_)
 refine pu_ (v := .pointer (some ⟨g3, 0, none⟩)) (y_run (by rfl) (fun W => by go_simp)) ?_
 (try simp only [zP, zN, zA, zB, zC])
 refine ld_ (v := .slice A 0 c) rfl (by rfl) (by rfl) (run_load_one ((Fg3.out.cell 0).trans rfl) Try.underlying41 rfl) ?_
 (try simp only [zP, zN, zA, zB, zC])
 refine pu_ (v := .int .i64 0) (y_run (by rfl) (fun W => by go_simp)) ?_
 (try simp only [zP, zN, zA, zB, zC])
 refine pu_ (v := .bool false) (y_run (by rfl) (fun W => by go_simp)) ?_
 (try simp only [zP, zN, zA, zB, zC])
 refine nl_ (hK25 _ _ ?_); clear hK25 K25
 refine wp_cond_false rfl ?_
 refine wp_skip ?_
 refine th_norm (hK24 _ _ ?_); try clear hK24 K24
 refine sq_ (fun K26 hK26 => ?_)
 refine s_ (fun K27 hK27 => ?_)
 refine pu_ (v := .pointer (some ⟨g3, 2, none⟩)) (y_run (by rfl) (fun W => by go_simp)) ?_
 (try simp only [zP, zN, zA, zB, zC])
 refine ld_ (v := .bool true) rfl (by rfl) (by rfl) (run_load_one ((Fg3.out.cell 2).trans rfl) Try.underlying4 rfl) ?_
 (try simp only [zP, zN, zA, zB, zC])
 refine pu_ (v := .bool true) (y_move rfl (by rfl) (by rfl)) ?_
 (try simp only [zP, zN, zA, zB, zC])
 refine pu_ (v := .pointer (some ⟨g3, 3, none⟩)) (y_run (by rfl) (fun W => by go_simp)) ?_
 (try simp only [zP, zN, zA, zB, zC])
 refine ld_ (v := .bool true) rfl (by rfl) (by rfl) (run_load_one ((Fg3.out.cell 3).trans rfl) Try.underlying4 rfl) ?_
 (try simp only [zP, zN, zA, zB, zC])
 refine pu_ (v := .bool false) (y_run (by rfl) (fun W => by go_simp)) ?_
 (try simp only [zP, zN, zA, zB, zC])
 refine pu_ (v := .bool false) (y_pick (t := true) (by rfl) rfl (by rfl) (by rfl)) ?_
 (try simp only [zP, zN, zA, zB, zC])
 refine nl_ (hK27 _ _ ?_); clear hK27 K27
 refine wp_cond_false rfl ?_
 refine wp_skip ?_
 refine th_norm (hK26 _ _ ?_); try clear hK26 K26
 refine s_ (fun K28 hK28 => ?_)
 refine ld_ (v := .agg (#[.slice A 0 c, .int .u64 last, .bool true, .bool true])) rfl (by rfl) (by rfl) (run_loadVar_row _ _ 44 44 (#[.slice A 0 c, .int .u64 last, .bool true, .bool true]) (0, 0) _ Fg3.out Try.underlying44 rfl (by kernel_rfl)) ?_
 (try simp only [zP, zN, zA, zB, zC])
 refine pu_ (v := .agg #[.int .i64 0, .int .u64 0, .int .i64 0, .int .u64 0, .string ⟨#[]⟩, .slice none 0 0, .slice none 0 0, .slice none 0 0, .int .i64 0, .int .i64 0, .int .i64 0, .int .i64 0, .slice none 0 0, .int .i64 0, .int .i64 0]) (y_build (vs := #[]) (by rfl) rfl (by first | rfl | (simp only [List.map_toArray, List.map_cons, List.map_nil]; first | done | rfl)) (by kernel_rfl)) ?_
 (try simp only [zP, zN, zA, zB, zC])
 refine ef_ (fun K29 hK29 => ?_)
 refine e_storeN (cells := (#[.slice A 0 c, .int .u64 last, .bool true, .bool true])) (by rfl) rfl rfl (by rfl) (by rfl) Fg10.out (by kernel_rfl) (by rfl) (ones_cons rfl (ones_cons rfl (ones_cons rfl (ones_cons rfl ones_nil)))) ?_
 rintro w30 B31 C32
 have C0' := Lib.hid (show Ch [] w w30 from C0.out.trans' C32 (inw_cons (.inr nw15.out) inw_nil))
 have Fg3' := Lib.hid (show Blk w30 g3 (#[.slice A 0 c, .int .u64 last, .bool true, .bool true]) 44 from C32.blk Fg3.out (nin_cons ne16.out nin_nil))
 have Fg18' := Lib.hid (show Blk w30 g18 (#[.int .i64 0, .int .u64 0, .int .i64 0, .int .u64 0, .string ⟨#[]⟩, .slice none 0 0, .slice none 0 0, .slice none 0 0, .int .i64 0, .int .i64 0, .int .i64 0, .int .i64 0, .slice none 0 0, .int .i64 0, .int .i64 0]) 56 from C32.blk Fg18.out (nin_cons (Blk.ne_type Fg18.out Fg10.out (by decide)) nin_nil))
 clear C0 Fg3 Fg18
 have C0 := C0'; clear C0'
 have Fg3 := Fg3'; clear Fg3'
 have Fg18 := Fg18'; clear Fg18'
 clear Fg10; have Fg10 := Lib.hid (show Blk w30 g10 ((#[.slice A 0 c, .int .u64 last, .bool true, .bool true])) 44 from B31); clear B31 C32
 refine hK29 _ _ ?_; clear hK29 K29
 (try simp only [zP, zN, zA, zB, zC])
 refine ef_ (fun K33 hK33 => ?_)
 refine e_storeN (cells := #[.int .i64 0, .int .u64 0, .int .i64 0, .int .u64 0, .string ⟨#[]⟩, .slice none 0 0, .slice none 0 0, .slice none 0 0, .int .i64 0, .int .i64 0, .int .i64 0, .int .i64 0, .slice none 0 0, .int .i64 0, .int .i64 0]) (by rfl) rfl rfl (by rfl) (by rfl) Fg18.out (by kernel_rfl) (by rfl) (ones_cons rfl (ones_cons rfl (ones_cons rfl (ones_cons rfl (ones_cons rfl (ones_cons rfl (ones_cons rfl (ones_cons rfl (ones_cons rfl (ones_cons rfl (ones_cons rfl (ones_cons rfl (ones_cons rfl (ones_cons rfl (ones_cons rfl ones_nil))))))))))))))) ?_
 rintro w34 B35 C36
 have C0' := Lib.hid (show Ch [] w w34 from C0.out.trans' C36 (inw_cons (.inr nw23.out) inw_nil))
 have Fg3' := Lib.hid (show Blk w34 g3 (#[.slice A 0 c, .int .u64 last, .bool true, .bool true]) 44 from C36.blk Fg3.out (nin_cons (Blk.ne_type Fg3.out Fg18.out (by decide)) nin_nil))
 have Fg10' := Lib.hid (show Blk w34 g10 ((#[.slice A 0 c, .int .u64 last, .bool true, .bool true])) 44 from C36.blk Fg10.out (nin_cons (Blk.ne_type Fg10.out Fg18.out (by decide)) nin_nil))
 clear C0 Fg3 Fg10
 have C0 := C0'; clear C0'
 have Fg3 := Fg3'; clear Fg3'
 have Fg10 := Fg10'; clear Fg10'
 clear Fg18; have Fg18 := Lib.hid (show Blk w34 g18 (#[.int .i64 0, .int .u64 0, .int .i64 0, .int .u64 0, .string ⟨#[]⟩, .slice none 0 0, .slice none 0 0, .slice none 0 0, .int .i64 0, .int .i64 0, .int .i64 0, .int .i64 0, .slice none 0 0, .int .i64 0, .int .i64 0]) 56 from B35); clear B35 C36
 refine hK33 _ _ ?_; clear hK33 K33
 (try simp only [zP, zN, zA, zB, zC])
 refine pu_ (v := .bool false) (y_assign rfl (by rfl) (by rfl)) ?_
 (try simp only [zP, zN, zA, zB, zC])
 refine nl_ (hK28 _ _ ?_); clear hK28 K28
 refine wp_ret ?_
 refine hQ _ _ _ ?_
 refine bodyPost_ret (res3 rfl (rdv_cell (by rfl) (run_loadVar_row _ _ 44 44 ((#[.slice A 0 c, .int .u64 last, .bool true, .bool true])) (0, 0) _ Fg10.out Try.underlying44 rfl (by kernel_rfl))) (rdv_cell (by rfl) (run_loadVar_row _ _ 56 56 (#[.int .i64 0, .int .u64 0, .int .i64 0, .int .u64 0, .string ⟨#[]⟩, .slice none 0 0, .slice none 0 0, .slice none 0 0, .int .i64 0, .int .i64 0, .int .i64 0, .int .i64 0, .slice none 0 0, .int .i64 0, .int .i64 0]) (0, 0) _ Fg18.out Try.underlying56 rfl (by kernel_rfl))) (rdv_tmp (v := .bool false) (by rfl))) rfl ?_
 exact ⟨rfl, C0.out⟩
theorem rtake_none_true_false (w : World) (A : Option Addr) (c : Nat) (last : Int) :
  Calls Try.prog 21 #[.agg #[.slice A 0 c, .int .u64 last, .bool true, .bool false]] w (fun en w' => en = .returned (.tuple #[.agg #[.slice A 0 c, .int .u64 last, .bool true, .bool true], .agg (evA ⟨5, last, 0, 0⟩), .bool true]) ∧ Ch [] w w') := by
 have C0 := Lib.hid (Ch.refl [] w)
 go_enter Try.func21, Try.ntmps21
 refine q_ (fun Q hQ hP => ?_)
 refine s_ (fun K1 hK1 => ?_)
 refine ef_ (fun K2 hK2 => ?_)
 refine e_boxN (by rfl) rfl rfl (cs := #[.slice A 0 c, .int .u64 last, .bool true, .bool false]) (v := .agg #[.slice A 0 c, .int .u64 last, .bool true, .bool false]) (by rfl) rfl ?_
 rintro g3 w4 HG5 B6 C7
 have nw8 := Lib.hid (show w.heap.size ≤ g3 by have := C0.out.size; have := HG5.out; omega)
 have C0' := Lib.hid (show Ch [] w w4 from C0.out.trans' C7 (fun x hx => absurd hx (by simp)))
 clear C0
 have C0 := C0'; clear C0'
 have Fg3 := Lib.hid (show Blk w4 g3 (#[.slice A 0 c, .int .u64 last, .bool true, .bool false]) 44 from B6); clear B6 C7
 refine hK2 _ _ ?_; clear hK2 K2
 (try simp only [zP, zN, zA, zB, zC])
 refine ef_ (fun K9 hK9 => ?_)
 refine e_alloc (by rfl) rfl rfl (cs := #[.slice none 0 0, .int .u64 0, .bool false, .bool false]) (by kernel_rfl) ?_
 rintro g10 w11 HG12 B13 C14
 have nw15 := Lib.hid (show w.heap.size ≤ g10 by have := C0.out.size; have := HG12.out; omega)
 have ne16 := Lib.hid (Fg3.out.ne_new HG12)
 have C0' := Lib.hid (show Ch [] w w11 from C0.out.trans' C14 (fun x hx => absurd hx (by simp)))
 have Fg3' := Lib.hid (show Blk w11 g3 (#[.slice A 0 c, .int .u64 last, .bool true, .bool false]) 44 from C14.blk Fg3.out nin_nil)
 clear C0 Fg3
 have C0 := C0'; clear C0'
 have Fg3 := Fg3'; clear Fg3'
 have Fg10 := Lib.hid (show Blk w11 g10 (#[.slice none 0 0, .int .u64 0, .bool false, .bool false]) 44 from B13); clear B13 C14
 refine hK9 _ _ ?_; clear hK9 K9
 (try simp only [zP, zN, zA, zB, zC])
 refine ef_ (fun K17 hK17 => ?_)
 refine e_alloc (by rfl) rfl rfl (cs := #[.int .i64 0, .int .u64 0, .int .i64 0, .int .u64 0, .string ⟨#[]⟩, .slice none 0 0, .slice none 0 0, .slice none 0 0, .int .i64 0, .int .i64 0, .int .i64 0, .int .i64 0, .slice none 0 0, .int .i64 0, .int .i64 0]) (by kernel_rfl) ?_
 rintro g18 w19 HG20 B21 C22
 have nw23 := Lib.hid (show w.heap.size ≤ g18 by have := C0.out.size; have := HG20.out; omega)
 have C0' := Lib.hid (show Ch [] w w19 from C0.out.trans' C22 (fun x hx => absurd hx (by simp)))
 have Fg3' := Lib.hid (show Blk w19 g3 (#[.slice A 0 c, .int .u64 last, .bool true, .bool false]) 44 from C22.blk Fg3.out nin_nil)
 have Fg10' := Lib.hid (show Blk w19 g10 (#[.slice none 0 0, .int .u64 0, .bool false, .bool false]) 44 from C22.blk Fg10.out nin_nil)
 clear C0 Fg3 Fg10
 have C0 := C0'; clear C0'
 have Fg3 := Fg3'; clear Fg3'
 have Fg10 := Fg10'; clear Fg10'
 have Fg18 := Lib.hid (show Blk w19 g18 (#[.int .i64 0, .int .u64 0, .int .i64 0, .int .u64 0, .string ⟨#[]⟩, .slice none 0 0, .slice none 0 0, .slice none 0 0, .int .i64 0, .int .i64 0, .int .i64 0, .int .i64 0, .slice none 0 0, .int .i64 0, .int .i64 0]) 56 from B21); clear B21 C22
 refine hK17 _ _ ?_; clear hK17 K17
 (try simp only [zP, zN, zA, zB, zC])
 refine pu_ (v := .bool false) (y_assign rfl (by rfl) (by rfl)) ?_
 (try simp only [zP, zN, zA, zB, zC])
 refine nl_ (hK1 _ _ ?_); clear hK1 K1
 refine sq_ (fun K24 hK24 => ?_)
 refine s_ (fun K25 hK25 => ?_)
 refine pu_ (v := .pointer (some ⟨g3, 0, none⟩)) (y_run (by rfl) (fun W => by go_simp)) ?_
 (try simp only [zP, zN, zA, zB, zC])
 refine ld_ (v := .slice A 0 c) rfl (by rfl) (by rfl) (run_load_one ((Fg3.out.cell 0).trans rfl) Try.underlying41 rfl) ?_
 (try simp only [zP, zN, zA, zB, zC])
 refine pu_ (v := .int .i64 0) (y_run (by rfl) (fun W => by go_simp)) ?_
 (try simp only [zP, zN, zA, zB, zC])
 refine pu_ (v := .bool false) (y_run (by rfl) (fun W => by go_simp)) ?_
 (try simp only [zP, zN, zA, zB, zC])
 refine nl_ (hK25 _ _ ?_); clear hK25 K25
 refine wp_cond_false rfl ?_
 refine wp_skip ?_
 refine th_norm (hK24 _ _ ?_); try clear hK24 K24
 refine sq_ (fun K26 hK26 => ?_)
 refine s_ (fun K27 hK27 => ?_)
 refine pu_ (v := .pointer (some ⟨g3, 2, none⟩)) (y_run (by rfl) (fun W => by go_simp)) ?_
 (try simp only [zP, zN, zA, zB, zC])
 refine ld_ (v := .bool true) rfl (by rfl) (by rfl) (run_load_one ((Fg3.out.cell 2).trans rfl) Try.underlying4 rfl) ?_
 (try simp only [zP, zN, zA, zB, zC])
 refine pu_ (v := .bool true) (y_move rfl (by rfl) (by rfl)) ?_
 (try simp only [zP, zN, zA, zB, zC])
 refine pu_ (v := .pointer (some ⟨g3, 3, none⟩)) (y_run (by rfl) (fun W => by go_simp)) ?_
 (try simp only [zP, zN, zA, zB, zC])
 refine ld_ (v := .bool false) rfl (by rfl) (by rfl) (run_load_one ((Fg3.out.cell 3).trans rfl) Try.underlying4 rfl) ?_
 (try simp only [zP, zN, zA, zB, zC])
 refine pu_ (v := .bool true) (y_run (by rfl) (fun W => by go_simp)) ?_
 (try simp only [zP, zN, zA, zB, zC])
 refine pu_ (v := .bool true) (y_pick (t := true) (by rfl) rfl (by rfl) (by rfl)) ?_
 (try simp only [zP, zN, zA, zB, zC])
 refine nl_ (hK27 _ _ ?_); clear hK27 K27
 refine wp_cond_true rfl ?_
 refine s_ (fun K28 hK28 => ?_)
 refine pu_ (v := .pointer (some ⟨g3, 3, none⟩)) (y_run (by rfl) (fun W => by go_simp)) ?_
 (try simp only [zP, zN, zA, zB, zC])
 refine ef_ (fun K29 hK29 => ?_)
 refine e_store1 (b := g3) (j := 3) (v := .bool true) (by rfl) rfl rfl (by rfl) (by rfl) Fg3.out (show 3 < 4 by omega) (by kernel_rfl) rfl ?_
 rintro w30 B31 C32
 have C0' := Lib.hid (show Ch [] w w30 from C0.out.trans' C32 (inw_cons (.inr nw8.out) inw_nil))
 have Fg10' := Lib.hid (show Blk w30 g10 (#[.slice none 0 0, .int .u64 0, .bool false, .bool false]) 44 from C32.blk Fg10.out (nin_cons (Ne.symm ne16.out) nin_nil))
 have Fg18' := Lib.hid (show Blk w30 g18 (#[.int .i64 0, .int .u64 0, .int .i64 0, .int .u64 0, .string ⟨#[]⟩, .slice none 0 0, .slice none 0 0, .slice none 0 0, .int .i64 0, .int .i64 0, .int .i64 0, .int .i64 0, .slice none 0 0, .int .i64 0, .int .i64 0]) 56 from C32.blk Fg18.out (nin_cons (Blk.ne_type Fg18.out Fg3.out (by decide)) nin_nil))
 clear C0 Fg10 Fg18
 have C0 := C0'; clear C0'
 have Fg10 := Fg10'; clear Fg10'
 have Fg18 := Fg18'; clear Fg18'
 clear Fg3; have Fg3 := Lib.hid (show Blk w30 g3 (#[.slice A 0 c, .int .u64 last, .bool true, .bool true]) 44 from B31); clear B31 C32
 refine hK29 _ _ ?_; clear hK29 K29
 (try simp only [zP, zN, zA, zB, zC])
 refine nl_ (hK28 _ _ ?_); clear hK28 K28
 refine sq_ (fun K33 hK33 => ?_)
 refine startk_ (S := fun W => Blk W g3 (#[.slice A 0 c, .int .u64 last, .bool true, .bool true]) 44 ∧ True) (ds := []) #[false, false, false, false, false, false, false] (by kernel_rfl) rfl rfl (fun W c => ⟨c.blk Fg3.out nin_nil, trivial⟩) (fun w34 C35 hS36 => ?_)
 have C0' := Lib.hid (show Ch [] w w34 from C0.out.trans' C35 (fun x hx => absurd hx (by simp)))
 have Fg3' := Lib.hid (show Blk w34 g3 (#[.slice A 0 c, .int .u64 last, .bool true, .bool true]) 44 from C35.blk Fg3.out nin_nil)
 have Fg10' := Lib.hid (show Blk w34 g10 (#[.slice none 0 0, .int .u64 0, .bool false, .bool false]) 44 from C35.blk Fg10.out nin_nil)
 have Fg18' := Lib.hid (show Blk w34 g18 (#[.int .i64 0, .int .u64 0, .int .i64 0, .int .u64 0, .string ⟨#[]⟩, .slice none 0 0, .slice none 0 0, .slice none 0 0, .int .i64 0, .int .i64 0, .int .i64 0, .int .i64 0, .slice none 0 0, .int .i64 0, .int .i64 0]) 56 from C35.blk Fg18.out nin_nil)
 clear C0 Fg3 Fg10 Fg18
 have C0 := C0'; clear C0'
 have Fg3 := Fg3'; clear Fg3'
 have Fg10 := Fg10'; clear Fg10'
 have Fg18 := Fg18'; clear Fg18'
 clear C35
 refine take_ (i := 0) (N := some 28) (v := .agg (#[.slice A 0 c, .int .u64 last, .bool true, .bool true])) #[true, false, false, false, false, false, false] rfl rfl (by kernel_rfl) (fun c a w h => hP c a _ _ w h) (y_load (p := ⟨g3, 0, none⟩) rfl (by rfl) (by rfl) (fun W hS => run_loadVar_row _ _ 44 44 (#[.slice A 0 c, .int .u64 last, .bool true, .bool true]) (0, 0) _ hS.1 Try.underlying44 rfl (by kernel_rfl))) hS36 rfl ?_
 (try simp only [zP, zN, zA, zB, zC])
 refine pure_ (i := 1) (N := some 29) (v := .pointer (some ⟨g3, 1, none⟩)) #[true, true, false, false, false, false, false] rfl rfl (by kernel_rfl) (fun c a w h => hP c a _ _ w h) (y_run (by rfl) (fun W => by go_simp)) rfl ?_
 (try simp only [zP, zN, zA, zB, zC])
 refine take_ (i := 2) (N := some 30) (v := .int .u64 last) #[true, true, true, false, false, false, false] rfl rfl (by kernel_rfl) (fun c a w h => hP c a _ _ w h) (y_load (p := ⟨g3, 1, none⟩) rfl (by rfl) (by rfl) (fun W hS => run_load_one ((hS.1.cell 1).trans rfl) Try.underlying42 rfl)) hS36 rfl ?_
 (try simp only [zP, zN, zA, zB, zC])
 refine pure_ (i := 3) (N := some 31) (v := .agg #[.int .i64 5, .int .u64 last, .int .i64 0, .int .u64 0, .string ⟨#[]⟩, .slice none 0 0, .slice none 0 0, .slice none 0 0, .int .i64 0, .int .i64 0, .int .i64 0, .int .i64 0, .slice none 0 0, .int .i64 0, .int .i64 0]) #[true, true, true, true, false, false, false] rfl rfl (by kernel_rfl) (fun c a w h => hP c a _ _ w h) (y_build (vs := #[(0, .int .i64 5), (1, .int .u64 last)]) (by rfl) rfl (by first | rfl | (simp only [List.map_toArray, List.map_cons, List.map_nil]; first | done | rfl)) (by kernel_rfl)) rfl ?_
 (try simp only [zP, zN, zA, zB, zC])
 refine one_ (i := 4) (N := none) #[true, true, true, true, true, false, false] rfl rfl (by kernel_rfl) (by simp) (fun K37 hK37 => ?_)
 refine e_storeN (cells := (#[.slice A 0 c, .int .u64 last, .bool true, .bool true])) (by rfl) rfl rfl (by rfl) (by rfl) Fg10.out (by kernel_rfl) (by rfl) (ones_cons rfl (ones_cons rfl (ones_cons rfl (ones_cons rfl ones_nil)))) ?_
 rintro w38 B39 C40
 have C0' := Lib.hid (show Ch [] w w38 from C0.out.trans' C40 (inw_cons (.inr nw15.out) inw_nil))
 have Fg3' := Lib.hid (show Blk w38 g3 (#[.slice A 0 c, .int .u64 last, .bool true, .bool true]) 44 from C40.blk Fg3.out (nin_cons ne16.out nin_nil))
 have Fg18' := Lib.hid (show Blk w38 g18 (#[.int .i64 0, .int .u64 0, .int .i64 0, .int .u64 0, .string ⟨#[]⟩, .slice none 0 0, .slice none 0 0, .slice none 0 0, .int .i64 0, .int .i64 0, .int .i64 0, .int .i64 0, .slice none 0 0, .int .i64 0, .int .i64 0]) 56 from C40.blk Fg18.out (nin_cons (Blk.ne_type Fg18.out Fg10.out (by decide)) nin_nil))
 clear C0 Fg3 Fg18
 have C0 := C0'; clear C0'
 have Fg3 := Fg3'; clear Fg3'
 have Fg18 := Fg18'; clear Fg18'
 clear Fg10; have Fg10 := Lib.hid (show Blk w38 g10 ((#[.slice A 0 c, .int .u64 last, .bool true, .bool true])) 44 from B39); clear B39 C40
 refine hK37.out _ _ ⟨Fg3.out, trivial⟩ (fun hS41 => ?_); clear hK37 K37
 (try simp only [zP, zN, zA, zB, zC])
 refine one_ (i := 5) (N := none) #[true, true, true, true, true, true, false] rfl rfl (by kernel_rfl) (by simp) (fun K42 hK42 => ?_)
 refine e_storeN (cells := #[.int .i64 5, .int .u64 last, .int .i64 0, .int .u64 0, .string ⟨#[]⟩, .slice none 0 0, .slice none 0 0, .slice none 0 0, .int .i64 0, .int .i64 0, .int .i64 0, .int .i64 0, .slice none 0 0, .int .i64 0, .int .i64 0]) (by rfl) rfl rfl (by rfl) (by rfl) Fg18.out (by kernel_rfl) (by rfl) (ones_cons rfl (ones_cons rfl (ones_cons rfl (ones_cons rfl (ones_cons rfl (ones_cons rfl (ones_cons rfl (ones_cons rfl (ones_cons rfl (ones_cons rfl (ones_cons rfl (ones_cons rfl (ones_cons rfl (ones_cons rfl (ones_cons rfl ones_nil))))))))))))))) ?_
 rintro w43 B44 C45
 have C0' := Lib.hid (show Ch [] w w43 from C0.out.trans' C45 (inw_cons (.inr nw23.out) inw_nil))
 have Fg3' := Lib.hid (show Blk w43 g3 (#[.slice A 0 c, .int .u64 last, .bool true, .bool true]) 44 from C45.blk Fg3.out (nin_cons (Blk.ne_type Fg3.out Fg18.out (by decide)) nin_nil))
 have Fg10' := Lib.hid (show Blk w43 g10 ((#[.slice A 0 c, .int .u64 last, .bool true, .bool true])) 44 from C45.blk Fg10.out (nin_cons (Blk.ne_type Fg10.out Fg18.out (by decide)) nin_nil))
 clear C0 Fg3 Fg10
 have C0 := C0'; clear C0'
 have Fg3 := Fg3'; clear Fg3'
 have Fg10 := Fg10'; clear Fg10'
 clear Fg18; have Fg18 := Lib.hid (show Blk w43 g18 (#[.int .i64 5, .int .u64 last, .int .i64 0, .int .u64 0, .string ⟨#[]⟩, .slice none 0 0, .slice none 0 0, .slice none 0 0, .int .i64 0, .int .i64 0, .int .i64 0, .int .i64 0, .slice none 0 0, .int .i64 0, .int .i64 0]) 56 from B44); clear B44 C45
 refine hK42.out _ _ ⟨Fg3.out, trivial⟩ (fun hS46 => ?_); clear hK42 K42
 (try simp only [zP, zN, zA, zB, zC])
 refine pure_ (i := 6) (N := some 4) (v := .bool true) #[true, true, true, true, true, true, true] rfl rfl (by kernel_rfl) (fun c a w h => hP c a _ _ w h) (y_assign rfl (by rfl) (by rfl)) rfl ?_
 (try simp only [zP, zN, zA, zB, zC])
 refine done_ (by kernel_rfl) (th_norm (hK33 _ _ ?_)); clear hK33 K33
 refine wp_ret ?_
 refine th_ret ?_
 refine hQ _ _ _ ?_
 refine bodyPost_ret (res3 rfl (rdv_cell (by rfl) (run_loadVar_row _ _ 44 44 ((#[.slice A 0 c, .int .u64 last, .bool true, .bool true])) (0, 0) _ Fg10.out Try.underlying44 rfl (by kernel_rfl))) (rdv_cell (by rfl) (run_loadVar_row _ _ 56 56 (#[.int .i64 5, .int .u64 last, .int .i64 0, .int .u64 0, .string ⟨#[]⟩, .slice none 0 0, .slice none 0 0, .slice none 0 0, .int .i64 0, .int .i64 0, .int .i64 0, .int .i64 0, .slice none 0 0, .int .i64 0, .int .i64 0]) (0, 0) _ Fg18.out Try.underlying56 rfl (by kernel_rfl))) (rdv_tmp (v := .bool true) (by rfl))) rfl ?_
 exact ⟨rfl, C0.out⟩
theorem rtake_none_false_true (w : World) (A : Option Addr) (c : Nat) (last : Int) :
  Calls Try.prog 21 #[.agg #[.slice A 0 c, .int .u64 last, .bool false, .bool true]] w (fun en w' => en = .returned (.tuple #[.agg #[.slice A 0 c, .int .u64 last, .bool false, .bool true], .agg (evA ⟨0, 0, 0, 0⟩), .bool false]) ∧ Ch [] w w') := by
 have C0 := Lib.hid (Ch.refl [] w)
 go_enter Try.func21, Try.ntmps21
 refine q_ (fun Q hQ hP => ?_)
 refine s_ (fun K1 hK1 => ?_)
 refine ef_ (fun K2 hK2 => ?_)
 refine e_boxN (by rfl) rfl rfl (cs := #[.slice A 0 c, .int .u64 last, .bool false, .bool true]) (v := .agg #[.slice A 0 c, .int .u64 last, .bool false, .bool true]) (by rfl) rfl ?_
 rintro g3 w4 HG5 B6 C7
 have nw8 := Lib.hid (show w.heap.size ≤ g3 by have := C0.out.size; have := HG5.out; omega)
 have C0' := Lib.hid (show Ch [] w w4 from C0.out.trans' C7 (fun x hx => absurd hx (by simp)))
 clear C0
 have C0 := C0'; clear C0'
 have Fg3 := Lib.hid (show Blk w4 g3 (#[.slice A 0 c, .int .u64 last, .bool false, .bool true]) 44 from B6); clear B6 C7
 refine hK2 _ _ ?_; clear hK2 K2
 (try simp only [zP, zN, zA, zB, zC])
 refine ef_ (fun K9 hK9 => ?_)
 refine e_alloc (by rfl) rfl rfl (cs := #[.slice none 0 0, .int .u64 0, .bool false, .bool false]) (by kernel_rfl) ?_
 rintro g10 w11 HG12 B13 C14
 have nw15 := Lib.hid (show w.heap.size ≤ g10 by have := C0.out.size; have := HG12.out; omega)
 have ne16 := Lib.hid (Fg3.out.ne_new HG12)
 have C0' := Lib.hid (show Ch [] w w11 from C0.out.trans' C14 (fun x hx => absurd hx (by simp)))
 have Fg3' := Lib.hid (show Blk w11 g3 (#[.slice A 0 c, .int .u64 last, .bool false, .bool true]) 44 from C14.blk Fg3.out nin_nil)
 clear C0 Fg3
 have C0 := C0'; clear C0'
 have Fg3 := Fg3'; clear Fg3'
 have Fg10 := Lib.hid (show Blk w11 g10 (#[.slice none 0 0, .int .u64 0, .bool false, .bool false]) 44 from B13); clear B13 C14
 refine hK9 _ _ ?_; clear hK9 K9
 (try simp only [zP, zN, zA, zB, zC])
 refine ef_ (fun K17 hK17 => ?_)
 refine e_alloc (by rfl) rfl rfl (cs := #[.int .i64 0, .int .u64 0, .int .i64 0, .int .u64 0, .string ⟨#[]⟩, .slice none 0 0, .slice none 0 0, .slice none 0 0, .int .i64 0, .int .i64 0, .int .i64 0, .int .i64 0, .slice none 0 0, .int .i64 0, .int .i64 0]) (by kernel_rfl) ?_
 rintro g18 w19 HG20 B21 C22
 have nw23 := Lib.hid (show w.heap.size ≤ g18 by have := C0.out.size; have := HG20.out; omega)
 have C0' := Lib.hid (show Ch [] w w19 from C0.out.trans' C22 (fun x hx => absurd hx (by simp)))
 have Fg3' := Lib.hid (show Blk w19 g3 (#[.slice A 0 c, .int .u64 last, .bool false, .bool true]) 44 from C22.blk Fg3.out nin_nil)
 have Fg10' := Lib.hid (show Blk w19 g10 (#[.slice none 0 0, .int .u64 0, .bool false, .bool false]) 44 from C22.blk Fg10.out nin_nil)
 clear C0 Fg3 Fg10
 have C0 := C0'; clear C0'
 have Fg3 := Fg3'; clear Fg3'
 have Fg10 := Fg10'; clear Fg10'
 have Fg18 := Lib.hid (show Blk w19 g18 (#[.int .i64 0, .int .u64 0, .int .i64 0, .int .u64 0, .string ⟨#[]⟩, .slice none 0 0, .slice none 0 0, .slice none 0 0, .int .i64 0, .int .i64 0, .int .i64 0, .int .i64 0, .slice none 0 0, .int .i64 0, .int .i64 0]) 56 from B21); clear B21 C22
 refine hK17 _ _ ?_; clear hK17 K17
 (try simp only [zP, zN, zA, zB, zC])
 refine pu_ (v := .bool false) (y_assign rfl (by rfl) (by rfl)) ?_
 (try simp only [zP, zN, zA, zB, zC])
 refine nl_ (hK1 _ _ ?_); clear hK1 K1
 refine sq_ (fun K24 hK24 => ?_)
 refine s_ (fun K25 hK25 => ?_)
 refine pu_ (v := .pointer (some ⟨g3, 0, none⟩)) (y_run (by rfl) (fun W => by go_simp)) ?_
 (try simp only [zP, zN, zA, zB, zC])
 refine ld_ (v := .slice A 0 c) rfl (by rfl) (by rfl) (run_load_one ((Fg3.out.cell 0).trans rfl) Try.underlying41 rfl) ?_
 (try simp only [zP, zN, zA, zB, zC])
 refine pu_ (v := .int .i64 0) (y_run (by rfl) (fun W => by go_simp)) ?_
 (try simp only [zP, zN, zA, zB, zC])
 refine pu_ (v := .bool false) (y_run (by rfl) (fun W => by go_simp)) ?_
 (try simp only [zP, zN, zA, zB, zC])
 refine nl_ (hK25 _ _ ?_); clear hK25 K25
 refine wp_cond_false rfl ?_
 refine wp_skip ?_
 refine th_norm (hK24 _ _ ?_); try clear hK24 K24
 refine sq_ (fun K26 hK26 => ?_)
 refine s_ (fun K27 hK27 => ?_)
 refine pu_ (v := .pointer (some ⟨g3, 2, none⟩)) (y_run (by rfl) (fun W => by go_simp)) ?_
 (try simp only [zP, zN, zA, zB, zC])
 refine ld_ (v := .bool false) rfl (by rfl) (by rfl) (run_load_one ((Fg3.out.cell 2).trans rfl) Try.underlying4 rfl) ?_
 (try simp only [zP, zN, zA, zB, zC])
 refine pu_ (v := .bool false) (y_move rfl (by rfl) (by rfl)) ?_
 (try simp only [zP, zN, zA, zB, zC])
 refine pu_ (y_off (by rfl)) ?_
 (try simp only [zP, zN, zA, zB, zC])
 refine pu_ (y_off (by rfl)) ?_
 (try simp only [zP, zN, zA, zB, zC])
 refine pu_ (y_off (by rfl)) ?_
 (try simp only [zP, zN, zA, zB, zC])
 refine pu_ (v := .bool false) (y_pick (t := false) (by rfl) rfl (by rfl) (by rfl)) ?_
 (try simp only [zP, zN, zA, zB, zC])
 refine nl_ (hK27 _ _ ?_); clear hK27 K27
 refine wp_cond_false rfl ?_
 refine wp_skip ?_
 refine th_norm (hK26 _ _ ?_); try clear hK26 K26
 refine s_ (fun K28 hK28 => ?_)
 refine ld_ (v := .agg (#[.slice A 0 c, .int .u64 last, .bool false, .bool true])) rfl (by rfl) (by rfl) (run_loadVar_row _ _ 44 44 (#[.slice A 0 c, .int .u64 last, .bool false, .bool true]) (0, 0) _ Fg3.out Try.underlying44 rfl (by kernel_rfl)) ?_
 (try simp only [zP, zN, zA, zB, zC])
 refine pu_ (v := .agg #[.int .i64 0, .int .u64 0, .int .i64 0, .int .u64 0, .string ⟨#[]⟩, .slice none 0 0, .slice none 0 0, .slice none 0 0, .int .i64 0, .int .i64 0, .int .i64 0, .int .i64 0, .slice none 0 0, .int .i64 0, .int .i64 0]) (y_build (vs := #[]) (by rfl) rfl (by first | rfl | (simp only [List.map_toArray, List.map_cons, List.map_nil]; first | done | rfl)) (by kernel_rfl)) ?_
 (try simp only [zP, zN, zA, zB, zC])
 refine ef_ (fun K29 hK29 => ?_)
 refine e_storeN (cells := (#[.slice A 0 c, .int .u64 last, .bool false, .bool true])) (by rfl) rfl rfl (by rfl) (by rfl) Fg10.out (by kernel_rfl) (by rfl) (ones_cons rfl (ones_cons rfl (ones_cons rfl (ones_cons rfl ones_nil)))) ?_
 rintro w30 B31 C32
 have C0' := Lib.hid (show Ch [] w w30 from C0.out.trans' C32 (inw_cons (.inr nw15.out) inw_nil))
 have Fg3' := Lib.hid (show Blk w30 g3 (#[.slice A 0 c, .int .u64 last, .bool false, .bool true]) 44 from C32.blk Fg3.out (nin_cons ne16.out nin_nil))
 have Fg18' := Lib.hid (show Blk w30 g18 (#[.int .i64 0, .int .u64 0, .int .i64 0, .int .u64 0, .string ⟨#[]⟩, .slice none 0 0, .slice none 0 0, .slice none 0 0, .int .i64 0, .int .i64 0, .int .i64 0, .int .i64 0, .slice none 0 0, .int .i64 0, .int .i64 0]) 56 from C32.blk Fg18.out (nin_cons (Blk.ne_type Fg18.out Fg10.out (by decide)) nin_nil))
 clear C0 Fg3 Fg18
 have C0 := C0'; clear C0'
 have Fg3 := Fg3'; clear Fg3'
 have Fg18 := Fg18'; clear Fg18'
 clear Fg10; have Fg10 := Lib.hid (show Blk w30 g10 ((#[.slice A 0 c, .int .u64 last, .bool false, .bool true])) 44 from B31); clear B31 C32
 refine hK29 _ _ ?_; clear hK29 K29
 (try simp only [zP, zN, zA, zB, zC])
 refine ef_ (fun K33 hK33 => ?_)
 refine e_storeN (cells := #[.int .i64 0, .int .u64 0, .int .i64 0, .int .u64 0, .string ⟨#[]⟩, .slice none 0 0, .slice none 0 0, .slice none 0 0, .int .i64 0, .int .i64 0, .int .i64 0, .int .i64 0, .slice none 0 0, .int .i64 0, .int .i64 0]) (by rfl) rfl rfl (by rfl) (by rfl) Fg18.out (by kernel_rfl) (by rfl) (ones_cons rfl (ones_cons rfl (ones_cons rfl (ones_cons rfl (ones_cons rfl (ones_cons rfl (ones_cons rfl (ones_cons rfl (ones_cons rfl (ones_cons rfl (ones_cons rfl (ones_cons rfl (ones_cons rfl (ones_cons rfl (ones_cons rfl ones_nil))))))))))))))) ?_
 rintro w34 B35 C36
 have C0' := Lib.hid (show Ch [] w w34 from C0.out.trans' C36 (inw_cons (.inr nw23.out) inw_nil))
 have Fg3' := Lib.hid (show Blk w34 g3 (#[.slice A 0 c, .int .u64 last, .bool false, .bool true]) 44 from C36.blk Fg3.out (nin_cons (Blk.ne_type Fg3.out Fg18.out (by decide)) nin_nil))
 have Fg10' := Lib.hid (show Blk w34 g10 ((#[.slice A 0 c, .int .u64 last, .bool false, .bool true])) 44 from C36.blk Fg10.out (nin_cons (Blk.ne_type Fg10.out Fg18.out (by decide)) nin_nil))
 clear C0 Fg3 Fg10
 have C0 := C0'; clear C0'
 have Fg3 := Fg3'; clear Fg3'
 have Fg10 := Fg10'; clear Fg10'
 clear Fg18; have Fg18 := Lib.hid (show Blk w34 g18 (#[.int .i64 0, .int .u64 0, .int .i64 0, .int .u64 0, .string ⟨#[]⟩, .slice none 0 0, .slice none 0 0, .slice none 0 0, .int .i64 0, .int .i64 0, .int .i64 0, .int .i64 0, .slice none 0 0, .int .i64 0, .int .i64 0]) 56 from B35); clear B35 C36
 refine hK33 _ _ ?_; clear hK33 K33
 (try simp only [zP, zN, zA, zB, zC])
 refine pu_ (v := .bool false) (y_assign rfl (by rfl) (by rfl)) ?_
 (try simp only [zP, zN, zA, zB, zC])
 refine nl_ (hK28 _ _ ?_); clear hK28 K28
 refine wp_ret ?_
 refine hQ _ _ _ ?_
 refine bodyPost_ret (res3 rfl (rdv_cell (by rfl) (run_loadVar_row _ _ 44 44 ((#[.slice A 0 c, .int .u64 last, .bool false, .bool true])) (0, 0) _ Fg10.out Try.underlying44 rfl (by kernel_rfl))) (rdv_cell (by rfl) (run_loadVar_row _ _ 56 56 (#[.int .i64 0, .int .u64 0, .int .i64 0, .int .u64 0, .string ⟨#[]⟩, .slice none 0 0, .slice none 0 0, .slice none 0 0, .int .i64 0, .int .i64 0, .int .i64 0, .int .i64 0, .slice none 0 0, .int .i64 0, .int .i64 0]) (0, 0) _ Fg18.out Try.underlying56 rfl (by kernel_rfl))) (rdv_tmp (v := .bool false) (by rfl))) rfl ?_
 exact ⟨rfl, C0.out⟩
theorem rtake_none_false_false (w : World) (A : Option Addr) (c : Nat) (last : Int) :
  Calls Try.prog 21 #[.agg #[.slice A 0 c, .int .u64 last, .bool false, .bool false]] w (fun en w' => en = .returned (.tuple #[.agg #[.slice A 0 c, .int .u64 last, .bool false, .bool false], .agg (evA ⟨0, 0, 0, 0⟩), .bool false]) ∧ Ch [] w w') := by
 have C0 := Lib.hid (Ch.refl [] w)
 go_enter Try.func21, Try.ntmps21
 refine q_ (fun Q hQ hP => ?_)
 refine s_ (fun K1 hK1 => ?_)
 refine ef_ (fun K2 hK2 => ?_)
 refine e_boxN (by rfl) rfl rfl (cs := #[.slice A 0 c, .int .u64 last, .bool false, .bool false]) (v := .agg #[.slice A 0 c, .int .u64 last, .bool false, .bool false]) (by rfl) rfl ?_
 rintro g3 w4 HG5 B6 C7
 have nw8 := Lib.hid (show w.heap.size ≤ g3 by have := C0.out.size; have := HG5.out; omega)
 have C0' := Lib.hid (show Ch [] w w4 from C0.out.trans' C7 (fun x hx => absurd hx (by simp)))
 clear C0
 have C0 := C0'; clear C0'
 have Fg3 := Lib.hid (show Blk w4 g3 (#[.slice A 0 c, .int .u64 last, .bool false, .bool false]) 44 from B6); clear B6 C7
 refine hK2 _ _ ?_; clear hK2 K2
 (try simp only [zP, zN, zA, zB, zC])
 refine ef_ (fun K9 hK9 => ?_)
 refine e_alloc (by rfl) rfl rfl (cs := #[.slice none 0 0, .int .u64 0, .bool false, .bool false]) (by kernel_rfl) ?_
 rintro g10 w11 HG12 B13 C14
 have nw15 := Lib.hid (show w.heap.size ≤ g10 by have := C0.out.size; have := HG12.out; omega)
 have ne16 := Lib.hid (Fg3.out.ne_new HG12)
 have C0' := Lib.hid (show Ch [] w w11 from C0.out.trans' C14 (fun x hx => absurd hx (by simp)))
 have Fg3' := Lib.hid (show Blk w11 g3 (#[.slice A 0 c, .int .u64 last, .bool false, .bool false]) 44 from C14.blk Fg3.out nin_nil)
 clear C0 Fg3
 have C0 := C0'; clear C0'
 have Fg3 := Fg3'; clear Fg3'
 have Fg10 := Lib.hid (show Blk w11 g10 (#[.slice none 0 0, .int .u64 0, .bool false, .bool false]) 44 from B13); clear B13 C14
 refine hK9 _ _ ?_; clear hK9 K9
 (try simp only [zP, zN, zA, zB, zC])
 refine ef_ (fun K17 hK17 => ?_)
 refine e_alloc (by rfl) rfl rfl (cs := #[.int .i64 0, .int .u64 0, .int .i64 0, .int .u64 0, .string ⟨#[]⟩, .slice none 0 0, .slice none 0 0, .slice none 0 0, .int .i64 0, .int .i64 0, .int .i64 0, .int .i64 0, .slice none 0 0, .int .i64 0, .int .i64 0]) (by kernel_rfl) ?_
 rintro g18 w19 HG20 B21 C22
 have nw23 := Lib.hid (show w.heap.size ≤ g18 by have := C0.out.size; have := HG20.out; omega)
 have C0' := Lib.hid (show Ch [] w w19 from C0.out.trans' C22 (fun x hx => absurd hx (by simp)))
 have Fg3' := Lib.hid (show Blk w19 g3 (#[.slice A 0 c, .int .u64 last, .bool false, .bool false]) 44 from C22.blk Fg3.out nin_nil)
 have Fg10' := Lib.hid (show Blk w19 g10 (#[.slice none 0 0, .int .u64 0, .bool false, .bool false]) 44 from C22.blk Fg10.out nin_nil)
 clear C0 Fg3 Fg10
 have C0 := C0'; clear C0'
 have Fg3 := Fg3'; clear Fg3'
 have Fg10 := Fg10'; clear Fg10'
 have Fg18 := Lib.hid (show Blk w19 g18 (#[.int .i64 0, .int .u64 0, .int .i64 0, .int .u64 0, .string ⟨#[]⟩, .slice none 0 0, .slice none 0 0, .slice none 0 0, .int .i64 0, .int .i64 0, .int .i64 0, .int .i64 0, .slice none 0 0, .int .i64 0, .int .i64 0]) 56 from B21); clear B21 C22
 refine hK17 _ _ ?_; clear hK17 K17
 (try simp only [zP, zN, zA, zB, zC])
 refine pu_ (v := .bool false) (y_assign rfl (by rfl) (by rfl)) ?_
 (try simp only [zP, zN, zA, zB, zC])
 refine nl_ (hK1 _ _ ?_); clear hK1 K1
 refine sq_ (fun K24 hK24 => ?_)
 refine s_ (fun K25 hK25 => ?_)
 refine pu_ (v := .pointer (some ⟨g3, 0, none⟩)) (y_run (by rfl) (fun W => by go_simp)) ?_
 (try simp only [zP, zN, zA, zB, zC])
 refine ld_ (v := .slice A 0 c) rfl (by rfl) (by rfl) (run_load_one ((Fg3.out.cell 0).trans rfl) Try.underlying41 rfl) ?_
 (try simp only [zP, zN, zA, zB, zC])
 refine pu_ (v := .int .i64 0) (y_run (by rfl) (fun W => by go_simp)) ?_
 (try simp only [zP, zN, zA, zB, zC])
 refine pu_ (v := .bool false) (y_run (by rfl) (fun W => by go_simp)) ?_
 (try simp only [zP, zN, zA, zB, zC])
 refine nl_ (hK25 _ _ ?_); clear hK25 K25
 refine wp_cond_false rfl ?_
 refine wp_skip ?_
 refine th_norm (hK24 _ _ ?_); try clear hK24 K24
 refine sq_ (fun K26 hK26 => ?_)
 refine s_ (fun K27 hK27 => ?_)
 refine pu_ (v := .pointer (some ⟨g3, 2, none⟩)) (y_run (by rfl) (fun W => by go_simp)) ?_
 (try simp only [zP, zN, zA, zB, zC])
 refine ld_ (v := .bool false) rfl (by rfl) (by rfl) (run_load_one ((Fg3.out.cell 2).trans rfl) Try.underlying4 rfl) ?_
 (try simp only [zP, zN, zA, zB, zC])
 refine pu_ (v := .bool false) (y_move rfl (by rfl) (by rfl)) ?_
 (try simp only [zP, zN, zA, zB, zC])
 refine pu_ (y_off (by rfl)) ?_
 (try simp only [zP, zN, zA, zB, zC])
 refine pu_ (y_off (by rfl)) ?_
 (try simp only [zP, zN, zA, zB, zC])
 refine pu_ (y_off (by rfl)) ?_
 (try simp only [zP, zN, zA, zB, zC])
 refine pu_ (v := .bool false) (y_pick (t := false) (by rfl) rfl (by rfl) (by rfl)) ?_
 (try simp only [zP, zN, zA, zB, zC])
 refine nl_ (hK27 _ _ ?_); clear hK27 K27
 refine wp_cond_false rfl ?_
 refine wp_skip ?_
 refine th_norm (hK26 _ _ ?_); try clear hK26 K26
 refine s_ (fun K28 hK28 => ?_)
 refine ld_ (v := .agg (#[.slice A 0 c, .int .u64 last, .bool false, .bool false])) rfl (by rfl) (by rfl) (run_loadVar_row _ _ 44 44 (#[.slice A 0 c, .int .u64 last, .bool false, .bool false]) (0, 0) _ Fg3.out Try.underlying44 rfl (by kernel_rfl)) ?_
 (try simp only [zP, zN, zA, zB, zC])
 refine pu_ (v := .agg #[.int .i64 0, .int .u64 0, .int .i64 0, .int .u64 0, .string ⟨#[]⟩, .slice none 0 0, .slice none 0 0, .slice none 0 0, .int .i64 0, .int .i64 0, .int .i64 0, .int .i64 0, .slice none 0 0, .int .i64 0, .int .i64 0]) (y_build (vs := #[]) (by rfl) rfl (by first | rfl | (simp only [List.map_toArray, List.map_cons, List.map_nil]; first | done | rfl)) (by kernel_rfl)) ?_
 (try simp only [zP, zN, zA, zB, zC])
 refine ef_ (fun K29 hK29 => ?_)
 refine e_storeN (cells := (#[.slice A 0 c, .int .u64 last, .bool false, .bool false])) (by rfl) rfl rfl (by rfl) (by rfl) Fg10.out (by kernel_rfl) (by rfl) (ones_cons rfl (ones_cons rfl (ones_cons rfl (ones_cons rfl ones_nil)))) ?_
 rintro w30 B31 C32
 have C0' := Lib.hid (show Ch [] w w30 from C0.out.trans' C32 (inw_cons (.inr nw15.out) inw_nil))
 have Fg3' := Lib.hid (show Blk w30 g3 (#[.slice A 0 c, .int .u64 last, .bool false, .bool false]) 44 from C32.blk Fg3.out (nin_cons ne16.out nin_nil))
 have Fg18' := Lib.hid (show Blk w30 g18 (#[.int .i64 0, .int .u64 0, .int .i64 0, .int .u64 0, .string ⟨#[]⟩, .slice none 0 0, .slice none 0 0, .slice none 0 0, .int .i64 0, .int .i64 0, .int .i64 0, .int .i64 0, .slice none 0 0, .int .i64 0, .int .i64 0]) 56 from C32.blk Fg18.out (nin_cons (Blk.ne_type Fg18.out Fg10.out (by decide)) nin_nil))
 clear C0 Fg3 Fg18
 have C0 := C0'; clear C0'
 have Fg3 := Fg3'; clear Fg3'
 have Fg18 := Fg18'; clear Fg18'
 clear Fg10; have Fg10 := Lib.hid (show Blk w30 g10 ((#[.slice A 0 c, .int .u64 last, .bool false, .bool false])) 44 from B31); clear B31 C32
 refine hK29 _ _ ?_; clear hK29 K29
 (try simp only [zP, zN, zA, zB, zC])
 refine ef_ (fun K33 hK33 => ?_)
 refine e_storeN (cells := #[.int .i64 0, .int .u64 0, .int .i64 0, .int .u64 0, .string ⟨#[]⟩, .slice none 0 0, .slice none 0 0, .slice none 0 0, .int .i64 0, .int .i64 0, .int .i64 0, .int .i64 0, .slice none 0 0, .int .i64 0, .int .i64 0]) (by rfl) rfl rfl (by rfl) (by rfl) Fg18.out (by kernel_rfl) (by rfl) (ones_cons rfl (ones_cons rfl (ones_cons rfl (ones_cons rfl (ones_cons rfl (ones_cons rfl (ones_cons rfl (ones_cons rfl (ones_cons rfl (ones_cons rfl (ones_cons rfl (ones_cons rfl (ones_cons rfl (ones_cons rfl (ones_cons rfl ones_nil))))))))))))))) ?_
 rintro w34 B35 C36
 have C0' := Lib.hid (show Ch [] w w34 from C0.out.trans' C36 (inw_cons (.inr nw23.out) inw_nil))
 have Fg3' := Lib.hid (show Blk w34 g3 (#[.slice A 0 c, .int .u64 last, .bool false, .bool false]) 44 from C36.blk Fg3.out (nin_cons (Blk.ne_type Fg3.out Fg18.out (by decide)) nin_nil))
 have Fg10' := Lib.hid (show Blk w34 g10 ((#[.slice A 0 c, .int .u64 last, .bool false, .bool false])) 44 from C36.blk Fg10.out (nin_cons (Blk.ne_type Fg10.out Fg18.out (by decide)) nin_nil))
 clear C0 Fg3 Fg10
 have C0 := C0'; clear C0'
 have Fg3 := Fg3'; clear Fg3'
 have Fg10 := Fg10'; clear Fg10'
 clear Fg18; have Fg18 := Lib.hid (show Blk w34 g18 (#[.int .i64 0, .int .u64 0, .int .i64 0, .int .u64 0, .string ⟨#[]⟩, .slice none 0 0, .slice none 0 0, .slice none 0 0, .int .i64 0, .int .i64 0, .int .i64 0, .int .i64 0, .slice none 0 0, .int .i64 0, .int .i64 0]) 56 from B35); clear B35 C36
 refine hK33 _ _ ?_; clear hK33 K33
 (try simp only [zP, zN, zA, zB, zC])
 refine pu_ (v := .bool false) (y_assign rfl (by rfl) (by rfl)) ?_
 (try simp only [zP, zN, zA, zB, zC])
 refine nl_ (hK28 _ _ ?_); clear hK28 K28
 refine wp_ret ?_
 refine hQ _ _ _ ?_
 refine bodyPost_ret (res3 rfl (rdv_cell (by rfl) (run_loadVar_row _ _ 44 44 ((#[.slice A 0 c, .int .u64 last, .bool false, .bool false])) (0, 0) _ Fg10.out Try.underlying44 rfl (by kernel_rfl))) (rdv_cell (by rfl) (run_loadVar_row _ _ 56 56 (#[.int .i64 0, .int .u64 0, .int .i64 0, .int .u64 0, .string ⟨#[]⟩, .slice none 0 0, .slice none 0 0, .slice none 0 0, .int .i64 0, .int .i64 0, .int .i64 0, .int .i64 0, .slice none 0 0, .int .i64 0, .int .i64 0]) (0, 0) _ Fg18.out Try.underlying56 rfl (by kernel_rfl))) (rdv_tmp (v := .bool false) (by rfl))) rfl ?_
 exact ⟨rfl, C0.out⟩
end Go.Proofs.Ytanlbnipbbjheaa.V
