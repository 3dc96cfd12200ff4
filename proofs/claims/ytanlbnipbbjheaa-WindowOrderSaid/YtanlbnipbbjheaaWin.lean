/- Package window, the document's window, and what is held against one another: their walks. A window is a list of events, the last revision told, and two marks. -/
import Derived.Test.YtanlbnipbbjheaaRows
import Derived.Test.YtanlbnipbbjheaaWeave
import Derived.Lib.SliceRun
namespace Go.Proofs.Ytanlbnipbbjheaa.V
open Go Go.RowKit Go.Proofs.Ytanlbnipbbjheaa.K Go.Proofs.YtanlbnipbbjheaaW.PrintLast
set_option linter.unusedVariables false
set_option linter.unusedSimpArgs false
set_option maxRecDepth 100000
set_option maxHeartbeats 800000
/-- An event of the statements: its kind and revision, its pod's number and revision; the rest is nothing. -/
structure Ev where
 k : Int
 r : Int
 u : Int
 p : Int
abbrev evA (e : Ev) : Array Value := #[.int .i64 e.k, .int .u64 e.r, .int .i64 e.u, .int .u64 e.p, .string ⟨#[]⟩, .slice none 0 0, .slice none 0 0, .slice none 0 0, .int .i64 0, .int .i64 0, .int .i64 0, .int .i64 0, .slice none 0 0, .int .i64 0, .int .i64 0]
def evC (e : Ev) : List Value := (evA e).toList
theorem evC_len (e : Ev) : (evC e).length = 15 := rfl
theorem evC_one (e : Ev) : ∀ u ∈ evC e, u.oneCell' = true := by
 have : (evC e).all (·.oneCell') = true := rfl
 exact List.all_eq_true.1 this
theorem info56 : (Try.prog.info? 56).map (fun i => (i.zero, i.size, i.bytes)) = some (some (.agg (evA ⟨0, 0, 0, 0⟩)), 15, 192) := by kernel_rfl

theorem push_any (w : World) (base b : Nat) (A : Option Addr) (c : Nat) (L : List Ev) (last : Int) (over done : Bool) (e : Ev) (FB : Hid (Blk w b #[.slice A L.length c, .int .u64 last, .bool over, .bool done] 70)) (OV : Hid (OwnS w base 56 15 (.slice A L.length c) L.length (L.flatMap evC))) (hbase : base ≤ w.heap.size) (hL : L.length ≤ 1000) :
  Calls Try.prog 31 #[.pointer (some ⟨b, 0, none⟩), .agg (evA e)] w (fun en w' => ∃ v', en = .returned (.bool true) ∧ Blk w' b #[v', .int .u64 e.r, .bool over, .bool done] 70 ∧ OwnS w' base 56 15 v' (L ++ [e]).length ((L ++ [e]).flatMap evC) ∧ Ch (b :: rl (.slice A L.length c)) w w' ∧ ∀ k, k ∈ rl v' → k ∈ b :: rl (.slice A L.length c) ∨ w.heap.size ≤ k) := by
 have C0 := Lib.hid (Ch.refl (b :: rl (.slice A L.length c)) w)
 obtain ⟨i56, I56⟩ := Info.of info56
 go_enter Try.func31, Try.ntmps31
 refine q_ (fun Q hQ hP => ?_)
 refine s_ (fun K1 hK1 => ?_)
 refine ef_ (fun K2 hK2 => ?_)
 refine e_boxN (by rfl) rfl rfl (cs := (evA e)) (v := .agg (evA e)) (by rfl) rfl ?_
 rintro g3 w4 HG5 B6 C7
 have nr8 := Lib.hid (OV.out.ne_new HG5)
 have nw9 := Lib.hid (show w.heap.size ≤ g3 by have := C0.out.size; have := HG5.out; omega)
 have FB' := Lib.hid (show Blk w4 b (#[.slice A L.length c, .int .u64 last, .bool over, .bool done]) 70 from C7.blk FB.out nin_nil)
 have OV' := Lib.hid (show OwnS w4 base 56 15 (.slice A L.length c) (L.length) (L.flatMap evC) from OV.out.ch C7 rnin_nil)
 have C0' := Lib.hid (show Ch (b :: rl (.slice A L.length c)) w w4 from C0.out.trans' C7 (fun x hx => absurd hx (by simp)))
 clear FB OV C0
 have FB := FB'; clear FB'
 have OV := OV'; clear OV'
 have C0 := C0'; clear C0'
 have Fg3 := Lib.hid (show Blk w4 g3 ((evA e)) 56 from B6); clear B6 C7
 refine hK2 _ _ ?_; clear hK2 K2
 (try simp only [zP, zN, zA, zB, zC])
 refine pu_ (v := .bool false) (y_assign rfl (by rfl) (by rfl)) ?_
 (try simp only [zP, zN, zA, zB, zC])
 refine nl_ (hK1 _ _ ?_); clear hK1 K1
 refine sq_ (fun K10 hK10 => ?_)
 refine startk_ (S := fun W => Blk W b (#[.slice A L.length c, .int .u64 last, .bool over, .bool done]) 70 ∧ Blk W g3 ((evA e)) 56 ∧ True) (ds := [10]) #[false, false, false, false, false, false, false, false, false, false, false] (by kernel_rfl) rfl rfl (fun W c => ⟨c.blk FB.out nin_nil, c.blk Fg3.out nin_nil, trivial⟩) (fun w11 C12 hS13 => ?_)
 have FB' := Lib.hid (show Blk w11 b (#[.slice A L.length c, .int .u64 last, .bool over, .bool done]) 70 from C12.blk FB.out nin_nil)
 have OV' := Lib.hid (show OwnS w11 base 56 15 (.slice A L.length c) (L.length) (L.flatMap evC) from OV.out.ch C12 rnin_nil)
 have C0' := Lib.hid (show Ch (b :: rl (.slice A L.length c)) w w11 from C0.out.trans' C12 (fun x hx => absurd hx (by simp)))
 have Fg3' := Lib.hid (show Blk w11 g3 ((evA e)) 56 from C12.blk Fg3.out nin_nil)
 clear FB OV C0 Fg3
 have FB := FB'; clear FB'
 have OV := OV'; clear OV'
 have C0 := C0'; clear C0'
 have Fg3 := Fg3'; clear Fg3'
 clear C12
 refine pure_ (i := 0) (N := some 5) (v := .pointer (some ⟨b, 0, none⟩)) #[true, false, false, false, false, false, false, false, false, false, false] rfl rfl (by kernel_rfl) (fun c a w h => hP c a _ _ w h) (y_move rfl (by rfl) (by rfl)) rfl ?_
 (try simp only [zP, zN, zA, zB, zC])
 refine pure_ (i := 1) (N := some 6) (v := .pointer (some ⟨b, 0, none⟩)) #[true, true, false, false, false, false, false, false, false, false, false] rfl rfl (by kernel_rfl) (fun c a w h => hP c a _ _ w h) (y_move rfl (by rfl) (by rfl)) rfl ?_
 (try simp only [zP, zN, zA, zB, zC])
 refine pure_ (i := 2) (N := some 7) (v := .pointer (some ⟨b, 0, none⟩)) #[true, true, true, false, false, false, false, false, false, false, false] rfl rfl (by kernel_rfl) (fun c a w h => hP c a _ _ w h) (y_nil rfl (by rfl) (by rfl)) rfl ?_
 (try simp only [zP, zN, zA, zB, zC])
 refine pure_ (i := 3) (N := some 8) (v := .pointer (some ⟨b, 0, none⟩)) #[true, true, true, true, false, false, false, false, false, false, false] rfl rfl (by kernel_rfl) (fun c a w h => hP c a _ _ w h) (y_run (by rfl) (fun W => by go_simp)) rfl ?_
 (try simp only [zP, zN, zA, zB, zC])
 refine take_ (i := 4) (N := some 9) (v := .slice A L.length c) #[true, true, true, true, true, false, false, false, false, false, false] rfl rfl (by kernel_rfl) (fun c a w h => hP c a _ _ w h) (y_load (p := ⟨b, 0, none⟩) rfl (by rfl) (by rfl) (fun W hS => run_load_one ((hS.1.cell 0).trans rfl) Try.underlying41 rfl)) hS13 rfl ?_
 (try simp only [zP, zN, zA, zB, zC])
 refine take_ (i := 5) (N := some 10) (v := .agg ((evA e))) #[true, true, true, true, true, true, false, false, false, false, false] rfl rfl (by kernel_rfl) (fun c a w h => hP c a _ _ w h) (y_load (p := ⟨g3, 0, none⟩) rfl (by rfl) (by rfl) (fun W hS => run_loadVar_row _ _ 56 56 ((evA e)) (0, 0) _ hS.2.1 Try.underlying56 rfl (by kernel_rfl))) hS13 rfl ?_
 (try simp only [zP, zN, zA, zB, zC])
 refine one_ (i := 6) (N := some 11) #[true, true, true, true, true, true, true, false, false, false, false] rfl rfl (by kernel_rfl) (by simp) (fun K14 hK14 => ?_)
 refine e_buildS (parts := #[(0, .agg ((evA e)))]) (cells := ((evA e))) (by rfl) rfl rfl (by first | rfl | (simp only [List.map_toArray, List.map_cons, List.map_nil]; first | done | rfl)) Try.underlying41 I56.hi I56.hz I56.hs (by decide) (by decide) (by kernel_rfl) ?_
 rintro g15 w16 HG17 B18 C19
 have nr20 := Lib.hid (OV.out.ne_new HG17)
 have nw21 := Lib.hid (show w.heap.size ≤ g15 by have := C0.out.size; have := HG17.out; omega)
 have ne22 := Lib.hid (Fg3.out.ne_new HG17)
 have FB' := Lib.hid (show Blk w16 b (#[.slice A L.length c, .int .u64 last, .bool over, .bool done]) 70 from C19.blk FB.out nin_nil)
 have OV' := Lib.hid (show OwnS w16 base 56 15 (.slice A L.length c) (L.length) (L.flatMap evC) from OV.out.ch C19 rnin_nil)
 have C0' := Lib.hid (show Ch (b :: rl (.slice A L.length c)) w w16 from C0.out.trans' C19 (fun x hx => absurd hx (by simp)))
 have Fg3' := Lib.hid (show Blk w16 g3 ((evA e)) 56 from C19.blk Fg3.out nin_nil)
 clear FB OV C0 Fg3
 have FB := FB'; clear FB'
 have OV := OV'; clear OV'
 have C0 := C0'; clear C0'
 have Fg3 := Fg3'; clear Fg3'
 have Fg15 := Lib.hid (show Blk w16 g15 (((evA e))) 56 from B18); clear B18 C19
 refine hK14.out _ _ ⟨FB.out, Fg3.out, trivial⟩ (fun hS23 => ?_); clear hK14 K14
 (try simp only [zP, zN, zA, zB, zC])
 refine one_ (i := 7) (N := some 12) #[true, true, true, true, true, true, true, true, false, false, false] rfl rfl (by kernel_rfl) (by simp) (fun K24 hK24 => ?_)
 refine e_append (by rfl) rfl rfl base 56 _ _ 15 192 Try.underlying41 I56.hi I56.hz I56.hs I56.hb rfl (by decide) (.slice A L.length c) (L.length) (L.flatMap evC) (by rfl) OV.out (.slice (some ⟨g15, 0, none⟩) 1 1) 1 (evC e) (by rfl) ⟨rfl, .inr ⟨_, _, rfl, CellsAt.blk Fg15.out 0⟩⟩ (evC_one e) (by unfold maxLen; omega) (by omega) (by have := C0.out.size; omega) ?_
 rintro v25 w26 O27 C28 R29 -
 have rw30 := Lib.hid (show ∀ x, x ∈ rl v25 → x ∈ (b :: rl (.slice A L.length c)) ∨ w.heap.size ≤ x from fun x hx => (R29 x hx).elim (fun h => .inl (List.mem_cons_of_mem _ h)) (fun h => .inr (by have := C0.out.size; omega)))
 have nr31 := Lib.hid (show g3 ∉ rl v25 from fun hk => (R29 _ hk).elim nr8.out (fun h => by have := Fg3.out.lt; omega))
 have nr32 := Lib.hid (show g15 ∉ rl v25 from fun hk => (R29 _ hk).elim nr20.out (fun h => by have := Fg15.out.lt; omega))
 have FB' := Lib.hid (show Blk w26 b (#[.slice A L.length c, .int .u64 last, .bool over, .bool done]) 70 from C28.blk FB.out (OV.out.ne FB.out (by decide)))
 have C0' := Lib.hid (show Ch (b :: rl (.slice A L.length c)) w w26 from C0.out.trans' C28 (fun x hx => .inl (List.mem_cons_of_mem _ hx)))
 have Fg3' := Lib.hid (show Blk w26 g3 ((evA e)) 56 from C28.blk Fg3.out nr8.out)
 have Fg15' := Lib.hid (show Blk w26 g15 (((evA e))) 56 from C28.blk Fg15.out nr20.out)
 clear FB C0 Fg3 Fg15
 have FB := FB'; clear FB'
 have C0 := C0'; clear C0'
 have Fg3 := Fg3'; clear Fg3'
 have Fg15 := Fg15'; clear Fg15'
 clear OV
 have OV := Lib.hid (show OwnS w26 base 56 15 (v25) (L.length + 1) (L.flatMap evC ++ evC e) from O27); clear O27 C28
 refine hK24.out _ _ ⟨FB.out, Fg3.out, trivial⟩ (fun hS33 => ?_); clear hK24 K24
 (try simp only [zP, zN, zA, zB, zC])
 refine pure_ (i := 8) (N := some 13) (v := .pointer (some ⟨b, 0, none⟩)) #[true, true, true, true, true, true, true, true, true, false, false] rfl rfl (by kernel_rfl) (fun c a w h => hP c a _ _ w h) (y_nil rfl (by rfl) (by rfl)) rfl ?_
 (try simp only [zP, zN, zA, zB, zC])
 refine pure_ (i := 9) (N := some 14) (v := .pointer (some ⟨b, 0, none⟩)) #[true, true, true, true, true, true, true, true, true, true, false] rfl rfl (by kernel_rfl) (fun c a w h => hP c a _ _ w h) (y_run (by rfl) (fun W => by go_simp)) rfl ?_
 (try simp only [zP, zN, zA, zB, zC])
 refine last_ (i := 10) (N := none) #[true, true, true, true, true, true, true, true, true, true, true] rfl rfl (by kernel_rfl) (by simp) (fun K34 hK34 => ?_)
 refine e_store1 (b := b) (j := 0) (v := v25) (by rfl) rfl rfl (by rfl) (by rfl) FB.out (show 0 < 4 by omega) (by kernel_rfl) OV.out.one ?_
 rintro w35 B36 C37
 have OV' := Lib.hid (show OwnS w35 base 56 15 (v25) (L.length + 1) (L.flatMap evC ++ evC e) from OV.out.ch C37 (rnin_cons (OV.out.ne FB.out (by decide)) rnin_nil))
 have C0' := Lib.hid (show Ch (b :: rl (.slice A L.length c)) w w35 from C0.out.trans' C37 (inw_cons (.inl List.mem_cons_self) inw_nil))
 have Fg3' := Lib.hid (show Blk w35 g3 ((evA e)) 56 from C37.blk Fg3.out (nin_cons (Blk.ne_type Fg3.out FB.out (by decide)) nin_nil))
 have Fg15' := Lib.hid (show Blk w35 g15 (((evA e))) 56 from C37.blk Fg15.out (nin_cons (Blk.ne_type Fg15.out FB.out (by decide)) nin_nil))
 clear OV C0 Fg3 Fg15
 have OV := OV'; clear OV'
 have C0 := C0'; clear C0'
 have Fg3 := Fg3'; clear Fg3'
 have Fg15 := Fg15'; clear Fg15'
 clear FB; have FB := Lib.hid (show Blk w35 b (#[v25, .int .u64 last, .bool over, .bool done]) 70 from B36); clear B36 C37
 refine hK34.out _ _ ?_; clear hK34 K34
 (try simp only [zP, zN, zA, zB, zC])
 refine done_ (by kernel_rfl) (th_norm (hK10 _ _ ?_)); clear hK10 K10
 refine s_ (fun K38 hK38 => ?_)
 refine pu_ (v := .pointer (some ⟨b, 0, none⟩)) (y_move rfl (by rfl) (by rfl)) ?_
 (try simp only [zP, zN, zA, zB, zC])
 refine pu_ (v := .pointer (some ⟨g3, 1, none⟩)) (y_run (by rfl) (fun W => by go_simp)) ?_
 (try simp only [zP, zN, zA, zB, zC])
 refine ld_ (v := .int .u64 e.r) rfl (by rfl) (by rfl) (run_load_one ((Fg3.out.cell 1).trans rfl) Try.underlying42 rfl) ?_
 (try simp only [zP, zN, zA, zB, zC])
 refine pu_ (v := .pointer (some ⟨b, 0, none⟩)) (y_nil rfl (by rfl) (by rfl)) ?_
 (try simp only [zP, zN, zA, zB, zC])
 refine pu_ (v := .pointer (some ⟨b, 1, none⟩)) (y_run (by rfl) (fun W => by go_simp)) ?_
 (try simp only [zP, zN, zA, zB, zC])
 refine ef_ (fun K39 hK39 => ?_)
 refine e_store1 (b := b) (j := 1) (v := .int .u64 e.r) (by rfl) rfl rfl (by rfl) (by rfl) FB.out (show 1 < 4 by omega) (by kernel_rfl) rfl ?_
 rintro w40 B41 C42
 have OV' := Lib.hid (show OwnS w40 base 56 15 (v25) (L.length + 1) (L.flatMap evC ++ evC e) from OV.out.ch C42 (rnin_cons (OV.out.ne FB.out (by decide)) rnin_nil))
 have C0' := Lib.hid (show Ch (b :: rl (.slice A L.length c)) w w40 from C0.out.trans' C42 (inw_cons (.inl List.mem_cons_self) inw_nil))
 have Fg3' := Lib.hid (show Blk w40 g3 ((evA e)) 56 from C42.blk Fg3.out (nin_cons (Blk.ne_type Fg3.out FB.out (by decide)) nin_nil))
 have Fg15' := Lib.hid (show Blk w40 g15 (((evA e))) 56 from C42.blk Fg15.out (nin_cons (Blk.ne_type Fg15.out FB.out (by decide)) nin_nil))
 clear OV C0 Fg3 Fg15
 have OV := OV'; clear OV'
 have C0 := C0'; clear C0'
 have Fg3 := Fg3'; clear Fg3'
 have Fg15 := Fg15'; clear Fg15'
 clear FB; have FB := Lib.hid (show Blk w40 b (#[v25, .int .u64 e.r, .bool over, .bool done]) 70 from B41); clear B41 C42
 refine hK39 _ _ ?_; clear hK39 K39
 (try simp only [zP, zN, zA, zB, zC])
 refine nl_ (hK38 _ _ ?_); clear hK38 K38
 refine s_ (fun K43 hK43 => ?_)
 refine pu_ (v := .bool true) (y_assign rfl (by rfl) (by rfl)) ?_
 (try simp only [zP, zN, zA, zB, zC])
 refine nl_ (hK43 _ _ ?_); clear hK43 K43
 refine wp_ret ?_
 refine hQ _ _ _ ?_
 refine bodyPost_ret (res1 rfl (rdv_tmp (v := .bool true) (by rfl))) rfl ?_
 exact ⟨_, rfl, FB.out, by have := OV.out; rwa [show (L ++ [e]).flatMap evC = L.flatMap evC ++ evC e by simp, show (L ++ [e]).length = L.length + 1 by simp], C0.out, rw30.out⟩
theorem over_true (w : World) (base b : Nat) (A : Option Addr) (c : Nat) (L : List Ev) (last : Int) (done : Bool) (FB : Hid (Blk w b #[.slice A L.length c, .int .u64 last, .bool true, .bool done] 70)) (OV : Hid (OwnS w base 56 15 (.slice A L.length c) L.length (L.flatMap evC))) : Calls Try.prog 26 #[.pointer (some ⟨b, 0, none⟩)] w fun en w' => en = .returned (.bool true) ∧ w = w' := by
 go_enter Try.func26, Try.ntmps26
 refine q_ (fun Q hQ hP => ?_)
 refine s_ (fun K1 hK1 => ?_)
 refine pu_ (v := .bool false) (y_assign rfl (by rfl) (by rfl)) ?_
 (try simp only [zP, zN, zA, zB, zC])
 refine nl_ (hK1 _ _ ?_); clear hK1 K1
 refine s_ (fun K2 hK2 => ?_)
 refine pu_ (v := .pointer (some ⟨b, 0, none⟩)) (y_move rfl (by rfl) (by rfl)) ?_
 (try simp only [zP, zN, zA, zB, zC])
 refine pu_ (v := .pointer (some ⟨b, 0, none⟩)) (y_nil rfl (by rfl) (by rfl)) ?_
 (try simp only [zP, zN, zA, zB, zC])
 refine pu_ (v := .pointer (some ⟨b, 2, none⟩)) (y_run (by rfl) (fun W => by go_simp)) ?_
 (try simp only [zP, zN, zA, zB, zC])
 refine ld_ (v := .bool true) rfl (by rfl) (by rfl) (run_load_one ((FB.out.cell 2).trans rfl) Try.underlying4 rfl) ?_
 (try simp only [zP, zN, zA, zB, zC])
 refine pu_ (v := .bool true) (y_assign rfl (by rfl) (by rfl)) ?_
 (try simp only [zP, zN, zA, zB, zC])
 refine nl_ (hK2 _ _ ?_); clear hK2 K2
 refine wp_ret ?_
 refine hQ _ _ _ ?_
 refine bodyPost_ret (res1 rfl (rdv_tmp (v := .bool true) (by rfl))) rfl ?_
 exact ⟨rfl, rfl⟩
theorem done_true (w : World) (base b : Nat) (A : Option Addr) (c : Nat) (L : List Ev) (last : Int) (over : Bool) (FB : Hid (Blk w b #[.slice A L.length c, .int .u64 last, .bool over, .bool true] 70)) (OV : Hid (OwnS w base 56 15 (.slice A L.length c) L.length (L.flatMap evC))) : Calls Try.prog 27 #[.pointer (some ⟨b, 0, none⟩)] w fun en w' => en = .returned (.bool true) ∧ w = w' := by
 go_enter Try.func27, Try.ntmps27
 refine q_ (fun Q hQ hP => ?_)
 refine s_ (fun K1 hK1 => ?_)
 refine pu_ (v := .bool false) (y_assign rfl (by rfl) (by rfl)) ?_
 (try simp only [zP, zN, zA, zB, zC])
 refine nl_ (hK1 _ _ ?_); clear hK1 K1
 refine s_ (fun K2 hK2 => ?_)
 refine pu_ (v := .pointer (some ⟨b, 0, none⟩)) (y_move rfl (by rfl) (by rfl)) ?_
 (try simp only [zP, zN, zA, zB, zC])
 refine pu_ (v := .pointer (some ⟨b, 0, none⟩)) (y_nil rfl (by rfl) (by rfl)) ?_
 (try simp only [zP, zN, zA, zB, zC])
 refine pu_ (v := .pointer (some ⟨b, 3, none⟩)) (y_run (by rfl) (fun W => by go_simp)) ?_
 (try simp only [zP, zN, zA, zB, zC])
 refine ld_ (v := .bool true) rfl (by rfl) (by rfl) (run_load_one ((FB.out.cell 3).trans rfl) Try.underlying4 rfl) ?_
 (try simp only [zP, zN, zA, zB, zC])
 refine pu_ (v := .bool true) (y_assign rfl (by rfl) (by rfl)) ?_
 (try simp only [zP, zN, zA, zB, zC])
 refine nl_ (hK2 _ _ ?_); clear hK2 K2
 refine wp_ret ?_
 refine hQ _ _ _ ?_
 refine bodyPost_ret (res1 rfl (rdv_tmp (v := .bool true) (by rfl))) rfl ?_
 exact ⟨rfl, rfl⟩
theorem over_false (w : World) (base b : Nat) (A : Option Addr) (c : Nat) (L : List Ev) (last : Int) (done : Bool) (FB : Hid (Blk w b #[.slice A L.length c, .int .u64 last, .bool false, .bool done] 70)) (OV : Hid (OwnS w base 56 15 (.slice A L.length c) L.length (L.flatMap evC))) : Calls Try.prog 26 #[.pointer (some ⟨b, 0, none⟩)] w fun en w' => en = .returned (.bool false) ∧ w = w' := by
 go_enter Try.func26, Try.ntmps26
 refine q_ (fun Q hQ hP => ?_)
 refine s_ (fun K1 hK1 => ?_)
 refine pu_ (v := .bool false) (y_assign rfl (by rfl) (by rfl)) ?_
 (try simp only [zP, zN, zA, zB, zC])
 refine nl_ (hK1 _ _ ?_); clear hK1 K1
 refine s_ (fun K2 hK2 => ?_)
 refine pu_ (v := .pointer (some ⟨b, 0, none⟩)) (y_move rfl (by rfl) (by rfl)) ?_
 (try simp only [zP, zN, zA, zB, zC])
 refine pu_ (v := .pointer (some ⟨b, 0, none⟩)) (y_nil rfl (by rfl) (by rfl)) ?_
 (try simp only [zP, zN, zA, zB, zC])
 refine pu_ (v := .pointer (some ⟨b, 2, none⟩)) (y_run (by rfl) (fun W => by go_simp)) ?_
 (try simp only [zP, zN, zA, zB, zC])
 refine ld_ (v := .bool false) rfl (by rfl) (by rfl) (run_load_one ((FB.out.cell 2).trans rfl) Try.underlying4 rfl) ?_
 (try simp only [zP, zN, zA, zB, zC])
 refine pu_ (v := .bool false) (y_assign rfl (by rfl) (by rfl)) ?_
 (try simp only [zP, zN, zA, zB, zC])
 refine nl_ (hK2 _ _ ?_); clear hK2 K2
 refine wp_ret ?_
 refine hQ _ _ _ ?_
 refine bodyPost_ret (res1 rfl (rdv_tmp (v := .bool false) (by rfl))) rfl ?_
 exact ⟨rfl, rfl⟩
theorem done_false (w : World) (base b : Nat) (A : Option Addr) (c : Nat) (L : List Ev) (last : Int) (over : Bool) (FB : Hid (Blk w b #[.slice A L.length c, .int .u64 last, .bool over, .bool false] 70)) (OV : Hid (OwnS w base 56 15 (.slice A L.length c) L.length (L.flatMap evC))) : Calls Try.prog 27 #[.pointer (some ⟨b, 0, none⟩)] w fun en w' => en = .returned (.bool false) ∧ w = w' := by
 go_enter Try.func27, Try.ntmps27
 refine q_ (fun Q hQ hP => ?_)
 refine s_ (fun K1 hK1 => ?_)
 refine pu_ (v := .bool false) (y_assign rfl (by rfl) (by rfl)) ?_
 (try simp only [zP, zN, zA, zB, zC])
 refine nl_ (hK1 _ _ ?_); clear hK1 K1
 refine s_ (fun K2 hK2 => ?_)
 refine pu_ (v := .pointer (some ⟨b, 0, none⟩)) (y_move rfl (by rfl) (by rfl)) ?_
 (try simp only [zP, zN, zA, zB, zC])
 refine pu_ (v := .pointer (some ⟨b, 0, none⟩)) (y_nil rfl (by rfl) (by rfl)) ?_
 (try simp only [zP, zN, zA, zB, zC])
 refine pu_ (v := .pointer (some ⟨b, 3, none⟩)) (y_run (by rfl) (fun W => by go_simp)) ?_
 (try simp only [zP, zN, zA, zB, zC])
 refine ld_ (v := .bool false) rfl (by rfl) (by rfl) (run_load_one ((FB.out.cell 3).trans rfl) Try.underlying4 rfl) ?_
 (try simp only [zP, zN, zA, zB, zC])
 refine pu_ (v := .bool false) (y_assign rfl (by rfl) (by rfl)) ?_
 (try simp only [zP, zN, zA, zB, zC])
 refine nl_ (hK2 _ _ ?_); clear hK2 K2
 refine wp_ret ?_
 refine hQ _ _ _ ?_
 refine bodyPost_ret (res1 rfl (rdv_tmp (v := .bool false) (by rfl))) rfl ?_
 exact ⟨rfl, rfl⟩
theorem room_over (w : World) (base b : Nat) (A : Option Addr) (c : Nat) (L : List Ev) (last : Int) (done : Bool) (FB : Hid (Blk w b #[.slice A L.length c, .int .u64 last, .bool true, .bool done] 70)) (OV : Hid (OwnS w base 56 15 (.slice A L.length c) L.length (L.flatMap evC))) : Calls Try.prog 28 #[.pointer (some ⟨b, 0, none⟩)] w fun en w' => en = .returned (.bool false) ∧ w = w' := by
 go_enter Try.func28, Try.ntmps28
 refine q_ (fun Q hQ hP => ?_)
 refine s_ (fun K1 hK1 => ?_)
 refine pu_ (v := .bool false) (y_assign rfl (by rfl) (by rfl)) ?_
 (try simp only [zP, zN, zA, zB, zC])
 refine nl_ (hK1 _ _ ?_); clear hK1 K1
 refine s_ (fun K2 hK2 => ?_)
 refine pu_ (v := .pointer (some ⟨b, 0, none⟩)) (y_move rfl (by rfl) (by rfl)) ?_
 (try simp only [zP, zN, zA, zB, zC])
 refine pu_ (v := .pointer (some ⟨b, 0, none⟩)) (y_nil rfl (by rfl) (by rfl)) ?_
 (try simp only [zP, zN, zA, zB, zC])
 refine pu_ (v := .pointer (some ⟨b, 2, none⟩)) (y_run (by rfl) (fun W => by go_simp)) ?_
 (try simp only [zP, zN, zA, zB, zC])
 refine ld_ (v := .bool true) rfl (by rfl) (by rfl) (run_load_one ((FB.out.cell 2).trans rfl) Try.underlying4 rfl) ?_
 (try simp only [zP, zN, zA, zB, zC])
 refine pu_ (v := .bool false) (y_run (by rfl) (fun W => by go_simp)) ?_
 (try simp only [zP, zN, zA, zB, zC])
 refine pu_ (v := .bool false) (y_move rfl (by rfl) (by rfl)) ?_
 (try simp only [zP, zN, zA, zB, zC])
 refine pu_ (y_off (by rfl)) ?_
 (try simp only [zP, zN, zA, zB, zC])
 refine pu_ (y_off (by rfl)) ?_
 (try simp only [zP, zN, zA, zB, zC])
 refine pu_ (y_off (by rfl)) ?_
 (try simp only [zP, zN, zA, zB, zC])
 refine pu_ (y_off (by rfl)) ?_
 (try simp only [zP, zN, zA, zB, zC])
 refine pu_ (y_off (by rfl)) ?_
 (try simp only [zP, zN, zA, zB, zC])
 refine pu_ (y_off (by rfl)) ?_
 (try simp only [zP, zN, zA, zB, zC])
 refine pu_ (v := .bool false) (y_pick (t := false) (by rfl) rfl (by rfl) (by rfl)) ?_
 (try simp only [zP, zN, zA, zB, zC])
 refine pu_ (v := .bool false) (y_assign rfl (by rfl) (by rfl)) ?_
 (try simp only [zP, zN, zA, zB, zC])
 refine nl_ (hK2 _ _ ?_); clear hK2 K2
 refine wp_ret ?_
 refine hQ _ _ _ ?_
 refine bodyPost_ret (res1 rfl (rdv_tmp (v := .bool false) (by rfl))) rfl ?_
 exact ⟨rfl, rfl⟩
theorem room_true (w : World) (base b : Nat) (A : Option Addr) (c : Nat) (L : List Ev) (last : Int) (done : Bool) (FB : Hid (Blk w b #[.slice A L.length c, .int .u64 last, .bool false, .bool done] 70)) (OV : Hid (OwnS w base 56 15 (.slice A L.length c) L.length (L.flatMap evC))) (h : L.length < 16) : Calls Try.prog 28 #[.pointer (some ⟨b, 0, none⟩)] w fun en w' => en = .returned (.bool true) ∧ w = w' := by
 have D := Lib.hid (show decide ((L.length : Int) < 16) = true from decide_eq_true (by omega))
 go_enter Try.func28, Try.ntmps28
 refine q_ (fun Q hQ hP => ?_)
 refine s_ (fun K1 hK1 => ?_)
 refine pu_ (v := .bool false) (y_assign rfl (by rfl) (by rfl)) ?_
 (try simp only [zP, zN, zA, zB, zC])
 refine nl_ (hK1 _ _ ?_); clear hK1 K1
 refine s_ (fun K2 hK2 => ?_)
 refine pu_ (v := .pointer (some ⟨b, 0, none⟩)) (y_move rfl (by rfl) (by rfl)) ?_
 (try simp only [zP, zN, zA, zB, zC])
 refine pu_ (v := .pointer (some ⟨b, 0, none⟩)) (y_nil rfl (by rfl) (by rfl)) ?_
 (try simp only [zP, zN, zA, zB, zC])
 refine pu_ (v := .pointer (some ⟨b, 2, none⟩)) (y_run (by rfl) (fun W => by go_simp)) ?_
 (try simp only [zP, zN, zA, zB, zC])
 refine ld_ (v := .bool false) rfl (by rfl) (by rfl) (run_load_one ((FB.out.cell 2).trans rfl) Try.underlying4 rfl) ?_
 (try simp only [zP, zN, zA, zB, zC])
 refine pu_ (v := .bool true) (y_run (by rfl) (fun W => by go_simp)) ?_
 (try simp only [zP, zN, zA, zB, zC])
 refine pu_ (v := .bool true) (y_move rfl (by rfl) (by rfl)) ?_
 (try simp only [zP, zN, zA, zB, zC])
 refine pu_ (v := .pointer (some ⟨b, 0, none⟩)) (y_move rfl (by rfl) (by rfl)) ?_
 (try simp only [zP, zN, zA, zB, zC])
 refine pu_ (v := .pointer (some ⟨b, 0, none⟩)) (y_nil rfl (by rfl) (by rfl)) ?_
 (try simp only [zP, zN, zA, zB, zC])
 refine pu_ (v := .pointer (some ⟨b, 0, none⟩)) (y_run (by rfl) (fun W => by go_simp)) ?_
 (try simp only [zP, zN, zA, zB, zC])
 refine ld_ (v := .slice A L.length c) rfl (by rfl) (by rfl) (run_load_one ((FB.out.cell 0).trans rfl) Try.underlying41 rfl) ?_
 (try simp only [zP, zN, zA, zB, zC])
 refine pu_ (v := .int .i64 L.length) (y_run (by rfl) (fun W => by go_simp)) ?_
 (try simp only [zP, zN, zA, zB, zC])
 refine pu_ (v := .bool true) (y_run (by rfl) (fun W => by have d := D.out; go_simp)) ?_
 (try simp only [zP, zN, zA, zB, zC])
 refine pu_ (v := .bool true) (y_pick (t := true) (by rfl) rfl (by rfl) (by rfl)) ?_
 (try simp only [zP, zN, zA, zB, zC])
 refine pu_ (v := .bool true) (y_assign rfl (by rfl) (by rfl)) ?_
 (try simp only [zP, zN, zA, zB, zC])
 refine nl_ (hK2 _ _ ?_); clear hK2 K2
 refine wp_ret ?_
 refine hQ _ _ _ ?_
 refine bodyPost_ret (res1 rfl (rdv_tmp (v := .bool true) (by rfl))) rfl ?_
 exact ⟨rfl, rfl⟩
theorem room_false (w : World) (base b : Nat) (A : Option Addr) (c : Nat) (L : List Ev) (last : Int) (done : Bool) (FB : Hid (Blk w b #[.slice A L.length c, .int .u64 last, .bool false, .bool done] 70)) (OV : Hid (OwnS w base 56 15 (.slice A L.length c) L.length (L.flatMap evC))) (h : 16 ≤ L.length) : Calls Try.prog 28 #[.pointer (some ⟨b, 0, none⟩)] w fun en w' => en = .returned (.bool false) ∧ w = w' := by
 have D := Lib.hid (show decide ((L.length : Int) < 16) = false from decide_eq_false (by omega))
 go_enter Try.func28, Try.ntmps28
 refine q_ (fun Q hQ hP => ?_)
 refine s_ (fun K1 hK1 => ?_)
 refine pu_ (v := .bool false) (y_assign rfl (by rfl) (by rfl)) ?_
 (try simp only [zP, zN, zA, zB, zC])
 refine nl_ (hK1 _ _ ?_); clear hK1 K1
 refine s_ (fun K2 hK2 => ?_)
 refine pu_ (v := .pointer (some ⟨b, 0, none⟩)) (y_move rfl (by rfl) (by rfl)) ?_
 (try simp only [zP, zN, zA, zB, zC])
 refine pu_ (v := .pointer (some ⟨b, 0, none⟩)) (y_nil rfl (by rfl) (by rfl)) ?_
 (try simp only [zP, zN, zA, zB, zC])
 refine pu_ (v := .pointer (some ⟨b, 2, none⟩)) (y_run (by rfl) (fun W => by go_simp)) ?_
 (try simp only [zP, zN, zA, zB, zC])
 refine ld_ (v := .bool false) rfl (by rfl) (by rfl) (run_load_one ((FB.out.cell 2).trans rfl) Try.underlying4 rfl) ?_
 (try simp only [zP, zN, zA, zB, zC])
 refine pu_ (v := .bool true) (y_run (by rfl) (fun W => by go_simp)) ?_
 (try simp only [zP, zN, zA, zB, zC])
 refine pu_ (v := .bool true) (y_move rfl (by rfl) (by rfl)) ?_
 (try simp only [zP, zN, zA, zB, zC])
 refine pu_ (v := .pointer (some ⟨b, 0, none⟩)) (y_move rfl (by rfl) (by rfl)) ?_
 (try simp only [zP, zN, zA, zB, zC])
 refine pu_ (v := .pointer (some ⟨b, 0, none⟩)) (y_nil rfl (by rfl) (by rfl)) ?_
 (try simp only [zP, zN, zA, zB, zC])
 refine pu_ (v := .pointer (some ⟨b, 0, none⟩)) (y_run (by rfl) (fun W => by go_simp)) ?_
 (try simp only [zP, zN, zA, zB, zC])
 refine ld_ (v := .slice A L.length c) rfl (by rfl) (by rfl) (run_load_one ((FB.out.cell 0).trans rfl) Try.underlying41 rfl) ?_
 (try simp only [zP, zN, zA, zB, zC])
 refine pu_ (v := .int .i64 L.length) (y_run (by rfl) (fun W => by go_simp)) ?_
 (try simp only [zP, zN, zA, zB, zC])
 refine pu_ (v := .bool false) (y_run (by rfl) (fun W => by have d := D.out; go_simp)) ?_
 (try simp only [zP, zN, zA, zB, zC])
 refine pu_ (v := .bool false) (y_pick (t := true) (by rfl) rfl (by rfl) (by rfl)) ?_
 (try simp only [zP, zN, zA, zB, zC])
 refine pu_ (v := .bool false) (y_assign rfl (by rfl) (by rfl)) ?_
 (try simp only [zP, zN, zA, zB, zC])
 refine nl_ (hK2 _ _ ?_); clear hK2 K2
 refine wp_ret ?_
 refine hQ _ _ _ ?_
 refine bodyPost_ret (res1 rfl (rdv_tmp (v := .bool false) (by rfl))) rfl ?_
 exact ⟨rfl, rfl⟩
theorem len_true_true (w : World) (base b : Nat) (A : Option Addr) (c : Nat) (L : List Ev) (last : Int) (FB : Hid (Blk w b #[.slice A L.length c, .int .u64 last, .bool true, .bool true] 70)) (OV : Hid (OwnS w base 56 15 (.slice A L.length c) L.length (L.flatMap evC))) (hL : L.length ≤ 1000) : Calls Try.prog 25 #[.pointer (some ⟨b, 0, none⟩)] w fun en w' => en = .returned (.int .i64 (L.length)) ∧ w = w' := by
 go_enter Try.func25, Try.ntmps25
 refine q_ (fun Q hQ hP => ?_)
 refine s_ (fun K1 hK1 => ?_)
 refine pu_ (v := .int .i64 0) (y_assign rfl (by rfl) (by rfl)) ?_
 (try simp only [zP, zN, zA, zB, zC])
 refine nl_ (hK1 _ _ ?_); clear hK1 K1
 refine s_ (fun K2 hK2 => ?_)
 refine pu_ (v := .pointer (some ⟨b, 0, none⟩)) (y_move rfl (by rfl) (by rfl)) ?_
 (try simp only [zP, zN, zA, zB, zC])
 refine pu_ (v := .pointer (some ⟨b, 0, none⟩)) (y_nil rfl (by rfl) (by rfl)) ?_
 (try simp only [zP, zN, zA, zB, zC])
 refine pu_ (v := .pointer (some ⟨b, 0, none⟩)) (y_run (by rfl) (fun W => by go_simp)) ?_
 (try simp only [zP, zN, zA, zB, zC])
 refine ld_ (v := .slice A L.length c) rfl (by rfl) (by rfl) (run_load_one ((FB.out.cell 0).trans rfl) Try.underlying41 rfl) ?_
 (try simp only [zP, zN, zA, zB, zC])
 refine pu_ (v := .int .i64 L.length) (y_run (by rfl) (fun W => by go_simp)) ?_
 (try simp only [zP, zN, zA, zB, zC])
 refine pu_ (v := .int .i64 L.length) (y_assign rfl (by rfl) (by rfl)) ?_
 (try simp only [zP, zN, zA, zB, zC])
 refine nl_ (hK2 _ _ ?_); clear hK2 K2
 refine sq_ (fun K3 hK3 => ?_)
 refine s_ (fun K4 hK4 => ?_)
 refine pu_ (v := .pointer (some ⟨b, 0, none⟩)) (y_move rfl (by rfl) (by rfl)) ?_
 (try simp only [zP, zN, zA, zB, zC])
 refine pu_ (v := .pointer (some ⟨b, 0, none⟩)) (y_nil rfl (by rfl) (by rfl)) ?_
 (try simp only [zP, zN, zA, zB, zC])
 refine pu_ (v := .pointer (some ⟨b, 2, none⟩)) (y_run (by rfl) (fun W => by go_simp)) ?_
 (try simp only [zP, zN, zA, zB, zC])
 refine ld_ (v := .bool true) rfl (by rfl) (by rfl) (run_load_one ((FB.out.cell 2).trans rfl) Try.underlying4 rfl) ?_
 (try simp only [zP, zN, zA, zB, zC])
 refine pu_ (v := .bool true) (y_move rfl (by rfl) (by rfl)) ?_
 (try simp only [zP, zN, zA, zB, zC])
 refine pu_ (v := .pointer (some ⟨b, 0, none⟩)) (y_move rfl (by rfl) (by rfl)) ?_
 (try simp only [zP, zN, zA, zB, zC])
 refine pu_ (v := .pointer (some ⟨b, 0, none⟩)) (y_nil rfl (by rfl) (by rfl)) ?_
 (try simp only [zP, zN, zA, zB, zC])
 refine pu_ (v := .pointer (some ⟨b, 3, none⟩)) (y_run (by rfl) (fun W => by go_simp)) ?_
 (try simp only [zP, zN, zA, zB, zC])
 refine ld_ (v := .bool true) rfl (by rfl) (by rfl) (run_load_one ((FB.out.cell 3).trans rfl) Try.underlying4 rfl) ?_
 (try simp only [zP, zN, zA, zB, zC])
 refine pu_ (v := .bool false) (y_run (by rfl) (fun W => by go_simp)) ?_
 (try simp only [zP, zN, zA, zB, zC])
 refine pu_ (v := .bool false) (y_pick (t := true) (by rfl) rfl (by rfl) (by rfl)) ?_
 (try simp only [zP, zN, zA, zB, zC])
 refine nl_ (hK4 _ _ ?_); clear hK4 K4
 refine wp_cond_false rfl ?_
 refine wp_skip ?_
 refine th_norm (hK3 _ _ ?_); try clear hK3 K3
 refine s_ (fun K5 hK5 => ?_)
 refine pu_ (v := .int .i64 L.length) (y_move rfl (by rfl) (by rfl)) ?_
 (try simp only [zP, zN, zA, zB, zC])
 refine pu_ (v := .int .i64 L.length) (y_assign rfl (by rfl) (by rfl)) ?_
 (try simp only [zP, zN, zA, zB, zC])
 refine nl_ (hK5 _ _ ?_); clear hK5 K5
 refine wp_ret ?_
 refine hQ _ _ _ ?_
 refine bodyPost_ret (res1 rfl (rdv_tmp (v := .int .i64 L.length) (by rfl))) rfl ?_
 exact ⟨rfl, rfl⟩
theorem len_true_false (w : World) (base b : Nat) (A : Option Addr) (c : Nat) (L : List Ev) (last : Int) (FB : Hid (Blk w b #[.slice A L.length c, .int .u64 last, .bool true, .bool false] 70)) (OV : Hid (OwnS w base 56 15 (.slice A L.length c) L.length (L.flatMap evC))) (hL : L.length ≤ 1000) : Calls Try.prog 25 #[.pointer (some ⟨b, 0, none⟩)] w fun en w' => en = .returned (.int .i64 ((L.length : Int) + 1)) ∧ w = w' := by
 go_enter Try.func25, Try.ntmps25
 refine q_ (fun Q hQ hP => ?_)
 refine s_ (fun K1 hK1 => ?_)
 refine pu_ (v := .int .i64 0) (y_assign rfl (by rfl) (by rfl)) ?_
 (try simp only [zP, zN, zA, zB, zC])
 refine nl_ (hK1 _ _ ?_); clear hK1 K1
 refine s_ (fun K2 hK2 => ?_)
 refine pu_ (v := .pointer (some ⟨b, 0, none⟩)) (y_move rfl (by rfl) (by rfl)) ?_
 (try simp only [zP, zN, zA, zB, zC])
 refine pu_ (v := .pointer (some ⟨b, 0, none⟩)) (y_nil rfl (by rfl) (by rfl)) ?_
 (try simp only [zP, zN, zA, zB, zC])
 refine pu_ (v := .pointer (some ⟨b, 0, none⟩)) (y_run (by rfl) (fun W => by go_simp)) ?_
 (try simp only [zP, zN, zA, zB, zC])
 refine ld_ (v := .slice A L.length c) rfl (by rfl) (by rfl) (run_load_one ((FB.out.cell 0).trans rfl) Try.underlying41 rfl) ?_
 (try simp only [zP, zN, zA, zB, zC])
 refine pu_ (v := .int .i64 L.length) (y_run (by rfl) (fun W => by go_simp)) ?_
 (try simp only [zP, zN, zA, zB, zC])
 refine pu_ (v := .int .i64 L.length) (y_assign rfl (by rfl) (by rfl)) ?_
 (try simp only [zP, zN, zA, zB, zC])
 refine nl_ (hK2 _ _ ?_); clear hK2 K2
 refine sq_ (fun K3 hK3 => ?_)
 refine s_ (fun K4 hK4 => ?_)
 refine pu_ (v := .pointer (some ⟨b, 0, none⟩)) (y_move rfl (by rfl) (by rfl)) ?_
 (try simp only [zP, zN, zA, zB, zC])
 refine pu_ (v := .pointer (some ⟨b, 0, none⟩)) (y_nil rfl (by rfl) (by rfl)) ?_
 (try simp only [zP, zN, zA, zB, zC])
 refine pu_ (v := .pointer (some ⟨b, 2, none⟩)) (y_run (by rfl) (fun W => by go_simp)) ?_
 (try simp only [zP, zN, zA, zB, zC])
 refine ld_ (v := .bool true) rfl (by rfl) (by rfl) (run_load_one ((FB.out.cell 2).trans rfl) Try.underlying4 rfl) ?_
 (try simp only [zP, zN, zA, zB, zC])
 refine pu_ (v := .bool true) (y_move rfl (by rfl) (by rfl)) ?_
 (try simp only [zP, zN, zA, zB, zC])
 refine pu_ (v := .pointer (some ⟨b, 0, none⟩)) (y_move rfl (by rfl) (by rfl)) ?_
 (try simp only [zP, zN, zA, zB, zC])
 refine pu_ (v := .pointer (some ⟨b, 0, none⟩)) (y_nil rfl (by rfl) (by rfl)) ?_
 (try simp only [zP, zN, zA, zB, zC])
 refine pu_ (v := .pointer (some ⟨b, 3, none⟩)) (y_run (by rfl) (fun W => by go_simp)) ?_
 (try simp only [zP, zN, zA, zB, zC])
 refine ld_ (v := .bool false) rfl (by rfl) (by rfl) (run_load_one ((FB.out.cell 3).trans rfl) Try.underlying4 rfl) ?_
 (try simp only [zP, zN, zA, zB, zC])
 refine pu_ (v := .bool true) (y_run (by rfl) (fun W => by go_simp)) ?_
 (try simp only [zP, zN, zA, zB, zC])
 refine pu_ (v := .bool true) (y_pick (t := true) (by rfl) rfl (by rfl) (by rfl)) ?_
 (try simp only [zP, zN, zA, zB, zC])
 refine nl_ (hK4 _ _ ?_); clear hK4 K4
 refine wp_cond_true rfl ?_
 refine r_ ?_
 refine pu_ (v := .int .i64 L.length) (y_move rfl (by rfl) (by rfl)) ?_
 (try simp only [zP, zN, zA, zB, zC])
 refine pu_ (v := .int .i64 ((L.length : Int) + 1)) (y_run (by rfl) (fun W => by go_simp; exact wr64 (by omega))) ?_
 (try simp only [zP, zN, zA, zB, zC])
 refine pu_ (v := .int .i64 ((L.length : Int) + 1)) (y_assign rfl (by rfl) (by rfl)) ?_
 (try simp only [zP, zN, zA, zB, zC])
 refine nl_ ?_
 refine th_norm (hK3 _ _ ?_); try clear hK3 K3
 refine s_ (fun K5 hK5 => ?_)
 refine pu_ (v := .int .i64 ((L.length : Int) + 1)) (y_move rfl (by rfl) (by rfl)) ?_
 (try simp only [zP, zN, zA, zB, zC])
 refine pu_ (v := .int .i64 ((L.length : Int) + 1)) (y_assign rfl (by rfl) (by rfl)) ?_
 (try simp only [zP, zN, zA, zB, zC])
 refine nl_ (hK5 _ _ ?_); clear hK5 K5
 refine wp_ret ?_
 refine hQ _ _ _ ?_
 refine bodyPost_ret (res1 rfl (rdv_tmp (v := .int .i64 ((L.length : Int) + 1)) (by rfl))) rfl ?_
 exact ⟨rfl, rfl⟩
theorem len_false_true (w : World) (base b : Nat) (A : Option Addr) (c : Nat) (L : List Ev) (last : Int) (FB : Hid (Blk w b #[.slice A L.length c, .int .u64 last, .bool false, .bool true] 70)) (OV : Hid (OwnS w base 56 15 (.slice A L.length c) L.length (L.flatMap evC))) (hL : L.length ≤ 1000) : Calls Try.prog 25 #[.pointer (some ⟨b, 0, none⟩)] w fun en w' => en = .returned (.int .i64 (L.length)) ∧ w = w' := by
 go_enter Try.func25, Try.ntmps25
 refine q_ (fun Q hQ hP => ?_)
 refine s_ (fun K1 hK1 => ?_)
 refine pu_ (v := .int .i64 0) (y_assign rfl (by rfl) (by rfl)) ?_
 (try simp only [zP, zN, zA, zB, zC])
 refine nl_ (hK1 _ _ ?_); clear hK1 K1
 refine s_ (fun K2 hK2 => ?_)
 refine pu_ (v := .pointer (some ⟨b, 0, none⟩)) (y_move rfl (by rfl) (by rfl)) ?_
 (try simp only [zP, zN, zA, zB, zC])
 refine pu_ (v := .pointer (some ⟨b, 0, none⟩)) (y_nil rfl (by rfl) (by rfl)) ?_
 (try simp only [zP, zN, zA, zB, zC])
 refine pu_ (v := .pointer (some ⟨b, 0, none⟩)) (y_run (by rfl) (fun W => by go_simp)) ?_
 (try simp only [zP, zN, zA, zB, zC])
 refine ld_ (v := .slice A L.length c) rfl (by rfl) (by rfl) (run_load_one ((FB.out.cell 0).trans rfl) Try.underlying41 rfl) ?_
 (try simp only [zP, zN, zA, zB, zC])
 refine pu_ (v := .int .i64 L.length) (y_run (by rfl) (fun W => by go_simp)) ?_
 (try simp only [zP, zN, zA, zB, zC])
 refine pu_ (v := .int .i64 L.length) (y_assign rfl (by rfl) (by rfl)) ?_
 (try simp only [zP, zN, zA, zB, zC])
 refine nl_ (hK2 _ _ ?_); clear hK2 K2
 refine sq_ (fun K3 hK3 => ?_)
 refine s_ (fun K4 hK4 => ?_)
 refine pu_ (v := .pointer (some ⟨b, 0, none⟩)) (y_move rfl (by rfl) (by rfl)) ?_
 (try simp only [zP, zN, zA, zB, zC])
 refine pu_ (v := .pointer (some ⟨b, 0, none⟩)) (y_nil rfl (by rfl) (by rfl)) ?_
 (try simp only [zP, zN, zA, zB, zC])
 refine pu_ (v := .pointer (some ⟨b, 2, none⟩)) (y_run (by rfl) (fun W => by go_simp)) ?_
 (try simp only [zP, zN, zA, zB, zC])
 refine ld_ (v := .bool false) rfl (by rfl) (by rfl) (run_load_one ((FB.out.cell 2).trans rfl) Try.underlying4 rfl) ?_
 (try simp only [zP, zN, zA, zB, zC])
 refine pu_ (v := .bool false) (y_move rfl (by rfl) (by rfl)) ?_
 (try simp only [zP, zN, zA, zB, zC])
 refine pu_ (y_off (by rfl)) ?_
 (try simp only [zP, zN, zA, zB, zC])
 refine pu_ (y_off (by rfl)) ?_
 (try simp only [zP, zN, zA, zB, zC])
 refine pu_ (y_off (by rfl)) ?_
 (try simp only [zP, zN, zA, zB, zC])
 refine pu_ (y_off (by rfl)) ?_
 (try simp only [zP, zN, zA, zB, zC])
 refine pu_ (y_off (by rfl)) ?_
 (try simp only [zP, zN, zA, zB, zC])
 refine pu_ (v := .bool false) (y_pick (t := false) (by rfl) rfl (by rfl) (by rfl)) ?_
 (try simp only [zP, zN, zA, zB, zC])
 refine nl_ (hK4 _ _ ?_); clear hK4 K4
 refine wp_cond_false rfl ?_
 refine wp_skip ?_
 refine th_norm (hK3 _ _ ?_); try clear hK3 K3
 refine s_ (fun K5 hK5 => ?_)
 refine pu_ (v := .int .i64 L.length) (y_move rfl (by rfl) (by rfl)) ?_
 (try simp only [zP, zN, zA, zB, zC])
 refine pu_ (v := .int .i64 L.length) (y_assign rfl (by rfl) (by rfl)) ?_
 (try simp only [zP, zN, zA, zB, zC])
 refine nl_ (hK5 _ _ ?_); clear hK5 K5
 refine wp_ret ?_
 refine hQ _ _ _ ?_
 refine bodyPost_ret (res1 rfl (rdv_tmp (v := .int .i64 L.length) (by rfl))) rfl ?_
 exact ⟨rfl, rfl⟩
theorem len_false_false (w : World) (base b : Nat) (A : Option Addr) (c : Nat) (L : List Ev) (last : Int) (FB : Hid (Blk w b #[.slice A L.length c, .int .u64 last, .bool false, .bool false] 70)) (OV : Hid (OwnS w base 56 15 (.slice A L.length c) L.length (L.flatMap evC))) (hL : L.length ≤ 1000) : Calls Try.prog 25 #[.pointer (some ⟨b, 0, none⟩)] w fun en w' => en = .returned (.int .i64 (L.length)) ∧ w = w' := by
 go_enter Try.func25, Try.ntmps25
 refine q_ (fun Q hQ hP => ?_)
 refine s_ (fun K1 hK1 => ?_)
 refine pu_ (v := .int .i64 0) (y_assign rfl (by rfl) (by rfl)) ?_
 (try simp only [zP, zN, zA, zB, zC])
 refine nl_ (hK1 _ _ ?_); clear hK1 K1
 refine s_ (fun K2 hK2 => ?_)
 refine pu_ (v := .pointer (some ⟨b, 0, none⟩)) (y_move rfl (by rfl) (by rfl)) ?_
 (try simp only [zP, zN, zA, zB, zC])
 refine pu_ (v := .pointer (some ⟨b, 0, none⟩)) (y_nil rfl (by rfl) (by rfl)) ?_
 (try simp only [zP, zN, zA, zB, zC])
 refine pu_ (v := .pointer (some ⟨b, 0, none⟩)) (y_run (by rfl) (fun W => by go_simp)) ?_
 (try simp only [zP, zN, zA, zB, zC])
 refine ld_ (v := .slice A L.length c) rfl (by rfl) (by rfl) (run_load_one ((FB.out.cell 0).trans rfl) Try.underlying41 rfl) ?_
 (try simp only [zP, zN, zA, zB, zC])
 refine pu_ (v := .int .i64 L.length) (y_run (by rfl) (fun W => by go_simp)) ?_
 (try simp only [zP, zN, zA, zB, zC])
 refine pu_ (v := .int .i64 L.length) (y_assign rfl (by rfl) (by rfl)) ?_
 (try simp only [zP, zN, zA, zB, zC])
 refine nl_ (hK2 _ _ ?_); clear hK2 K2
 refine sq_ (fun K3 hK3 => ?_)
 refine s_ (fun K4 hK4 => ?_)
 refine pu_ (v := .pointer (some ⟨b, 0, none⟩)) (y_move rfl (by rfl) (by rfl)) ?_
 (try simp only [zP, zN, zA, zB, zC])
 refine pu_ (v := .pointer (some ⟨b, 0, none⟩)) (y_nil rfl (by rfl) (by rfl)) ?_
 (try simp only [zP, zN, zA, zB, zC])
 refine pu_ (v := .pointer (some ⟨b, 2, none⟩)) (y_run (by rfl) (fun W => by go_simp)) ?_
 (try simp only [zP, zN, zA, zB, zC])
 refine ld_ (v := .bool false) rfl (by rfl) (by rfl) (run_load_one ((FB.out.cell 2).trans rfl) Try.underlying4 rfl) ?_
 (try simp only [zP, zN, zA, zB, zC])
 refine pu_ (v := .bool false) (y_move rfl (by rfl) (by rfl)) ?_
 (try simp only [zP, zN, zA, zB, zC])
 refine pu_ (y_off (by rfl)) ?_
 (try simp only [zP, zN, zA, zB, zC])
 refine pu_ (y_off (by rfl)) ?_
 (try simp only [zP, zN, zA, zB, zC])
 refine pu_ (y_off (by rfl)) ?_
 (try simp only [zP, zN, zA, zB, zC])
 refine pu_ (y_off (by rfl)) ?_
 (try simp only [zP, zN, zA, zB, zC])
 refine pu_ (y_off (by rfl)) ?_
 (try simp only [zP, zN, zA, zB, zC])
 refine pu_ (v := .bool false) (y_pick (t := false) (by rfl) rfl (by rfl) (by rfl)) ?_
 (try simp only [zP, zN, zA, zB, zC])
 refine nl_ (hK4 _ _ ?_); clear hK4 K4
 refine wp_cond_false rfl ?_
 refine wp_skip ?_
 refine th_norm (hK3 _ _ ?_); try clear hK3 K3
 refine s_ (fun K5 hK5 => ?_)
 refine pu_ (v := .int .i64 L.length) (y_move rfl (by rfl) (by rfl)) ?_
 (try simp only [zP, zN, zA, zB, zC])
 refine pu_ (v := .int .i64 L.length) (y_assign rfl (by rfl) (by rfl)) ?_
 (try simp only [zP, zN, zA, zB, zC])
 refine nl_ (hK5 _ _ ?_); clear hK5 K5
 refine wp_ret ?_
 refine hQ _ _ _ ?_
 refine bodyPost_ret (res1 rfl (rdv_tmp (v := .int .i64 L.length) (by rfl))) rfl ?_
 exact ⟨rfl, rfl⟩
theorem end_any (w : World) (base b : Nat) (A : Option Addr) (c : Nat) (L : List Ev) (last : Int) (over done : Bool) (FB : Hid (Blk w b #[.slice A L.length c, .int .u64 last, .bool over, .bool done] 70)) (OV : Hid (OwnS w base 56 15 (.slice A L.length c) L.length (L.flatMap evC))) :
  Calls Try.prog 24 #[.pointer (some ⟨b, 0, none⟩)] w (fun en w' => ∃ v', en = .returned (.tuple #[]) ∧ Blk w' b #[v', .int .u64 last, .bool true, .bool done] 70 ∧ OwnS w' base 56 15 v' (L).length ((L).flatMap evC) ∧ Ch (b :: rl (.slice A L.length c)) w w' ∧ ∀ k, k ∈ rl v' → k ∈ b :: rl (.slice A L.length c) ∨ w.heap.size ≤ k) := by
 have C0 := Lib.hid (Ch.refl (b :: rl (.slice A L.length c)) w)
 go_enter Try.func24, Try.ntmps24
 refine q_ (fun Q hQ hP => ?_)
 refine r_ ?_
 refine pu_ (v := .pointer (some ⟨b, 0, none⟩)) (y_move rfl (by rfl) (by rfl)) ?_
 (try simp only [zP, zN, zA, zB, zC])
 refine pu_ (v := .pointer (some ⟨b, 0, none⟩)) (y_nil rfl (by rfl) (by rfl)) ?_
 (try simp only [zP, zN, zA, zB, zC])
 refine pu_ (v := .pointer (some ⟨b, 2, none⟩)) (y_run (by rfl) (fun W => by go_simp)) ?_
 (try simp only [zP, zN, zA, zB, zC])
 refine ef_ (fun K1 hK1 => ?_)
 refine e_store1 (b := b) (j := 2) (v := .bool true) (by rfl) rfl rfl (by rfl) (by rfl) FB.out (show 2 < 4 by omega) (by kernel_rfl) rfl ?_
 rintro w2 B3 C4
 have OV' := Lib.hid (show OwnS w2 base 56 15 (.slice A L.length c) (L.length) (L.flatMap evC) from OV.out.ch C4 (rnin_cons (OV.out.ne FB.out (by decide)) rnin_nil))
 have C0' := Lib.hid (show Ch (b :: rl (.slice A L.length c)) w w2 from C0.out.trans' C4 (inw_cons (.inl List.mem_cons_self) inw_nil))
 clear OV C0
 have OV := OV'; clear OV'
 have C0 := C0'; clear C0'
 clear FB; have FB := Lib.hid (show Blk w2 b (#[.slice A L.length c, .int .u64 last, .bool true, .bool done]) 70 from B3); clear B3 C4
 refine hK1 _ _ ?_; clear hK1 K1
 (try simp only [zP, zN, zA, zB, zC])
 refine nl_ ?_
 refine hQ _ _ _ ?_
 refine bodyPost_end (res0 rfl) rfl ?_
 exact ⟨_, rfl, FB.out, OV.out, C0.out, fun k hk => .inl (List.mem_cons_of_mem _ hk)⟩
theorem put_over (w : World) (base b : Nat) (A : Option Addr) (c : Nat) (L : List Ev) (last : Int) (done : Bool) (e : Ev) (FB : Hid (Blk w b #[.slice A L.length c, .int .u64 last, .bool true, .bool done] 70)) (OV : Hid (OwnS w base 56 15 (.slice A L.length c) L.length (L.flatMap evC))) (hbase : base ≤ w.heap.size) (hL : L.length ≤ 1000)  :
  Calls Try.prog 18 #[.pointer (some ⟨b, 0, none⟩), .agg (evA e)] w (fun en w' => ∃ v', en = .returned (.bool false) ∧ Blk w' b #[v', .int .u64 last, .bool true, .bool done] 70 ∧ OwnS w' base 56 15 v' (L).length ((L).flatMap evC) ∧ Ch (b :: rl (.slice A L.length c)) w w' ∧ ∀ k, k ∈ rl v' → k ∈ b :: rl (.slice A L.length c) ∨ w.heap.size ≤ k) := by
 have C0 := Lib.hid (Ch.refl (b :: rl (.slice A L.length c)) w)
 go_enter Try.func18, Try.ntmps18
 refine q_ (fun Q hQ hP => ?_)
 refine s_ (fun K1 hK1 => ?_)
 refine ef_ (fun K2 hK2 => ?_)
 refine e_boxN (by rfl) rfl rfl (cs := (evA e)) (v := .agg (evA e)) (by rfl) rfl ?_
 rintro g3 w4 HG5 B6 C7
 have nr8 := Lib.hid (OV.out.ne_new HG5)
 have nw9 := Lib.hid (show w.heap.size ≤ g3 by have := C0.out.size; have := HG5.out; omega)
 have FB' := Lib.hid (show Blk w4 b (#[.slice A L.length c, .int .u64 last, .bool true, .bool done]) 70 from C7.blk FB.out nin_nil)
 have OV' := Lib.hid (show OwnS w4 base 56 15 (.slice A L.length c) (L.length) (L.flatMap evC) from OV.out.ch C7 rnin_nil)
 have C0' := Lib.hid (show Ch (b :: rl (.slice A L.length c)) w w4 from C0.out.trans' C7 (fun x hx => absurd hx (by simp)))
 clear FB OV C0
 have FB := FB'; clear FB'
 have OV := OV'; clear OV'
 have C0 := C0'; clear C0'
 have Fg3 := Lib.hid (show Blk w4 g3 ((evA e)) 56 from B6); clear B6 C7
 refine hK2 _ _ ?_; clear hK2 K2
 (try simp only [zP, zN, zA, zB, zC])
 refine pu_ (v := .bool false) (y_assign rfl (by rfl) (by rfl)) ?_
 (try simp only [zP, zN, zA, zB, zC])
 refine nl_ (hK1 _ _ ?_); clear hK1 K1
 refine sq_ (fun K10 hK10 => ?_)
 refine s_ (fun K11 hK11 => ?_)
 refine pu_ (v := .pointer (some ⟨b, 0, none⟩)) (y_move rfl (by rfl) (by rfl)) ?_
 (try simp only [zP, zN, zA, zB, zC])
 refine ef_ (fun K12 hK12 => ?_)
 have CS := Lib.hid C0.out.size
 refine e_call Try.func28 (by kernel_rfl) rfl #[.pointer (some ⟨b, 0, none⟩)] (by rfl) rfl rfl (by first | rfl | (simp only [List.map_toArray, List.map_cons, List.map_nil]; first | done | rfl)) (room_over _ base _ _ _ L last _ FB OV ) ?_
 rintro en w13 ⟨rfl, rfl⟩
 refine ⟨_, rfl, ?_⟩
 refine hK12 _ _ ?_; clear hK12 K12
 (try simp only [zP, zN, zA, zB, zC])
 refine pu_ (v := .bool true) (y_run (by rfl) (fun W => by go_simp)) ?_
 (try simp only [zP, zN, zA, zB, zC])
 refine nl_ (hK11 _ _ ?_); clear hK11 K11
 refine wp_cond_true rfl ?_
 refine s_ (fun K14 hK14 => ?_)
 refine pu_ (v := .pointer (some ⟨b, 0, none⟩)) (y_move rfl (by rfl) (by rfl)) ?_
 (try simp only [zP, zN, zA, zB, zC])
 refine ef_ (fun K15 hK15 => ?_)
 refine e_call Try.func24 (by kernel_rfl) rfl #[.pointer (some ⟨b, 0, none⟩)] (by rfl) rfl rfl (by first | rfl | (simp only [List.map_toArray, List.map_cons, List.map_nil]; first | done | rfl)) (end_any _ base _ _ _ L last _ _ FB OV) ?_
 rintro en w17 ⟨v16, rfl, hb16, ho16, cc16, hr16⟩
 refine ⟨_, rfl, ?_⟩
 have C0' := Lib.hid (show Ch (b :: rl (.slice A L.length c)) w w17 from C0.out.trans' cc16 (inw_cons (.inl List.mem_cons_self) (fun x hx => .inl (List.mem_cons_of_mem _ hx))))
 have Fg3' := Lib.hid (show Blk w17 g3 ((evA e)) 56 from cc16.blk Fg3.out (nin_cons (Blk.ne_type Fg3.out FB.out (by decide)) nr8.out))
 clear C0 Fg3
 have C0 := C0'; clear C0'
 have Fg3 := Fg3'; clear Fg3'
 clear FB OV
 clear cc16
 have FB := Lib.hid (show Blk w17 b (#[v16, .int .u64 last, .bool true, .bool done]) 70 from hb16)
 have OV := Lib.hid (show OwnS w17 base 56 15 (v16) ((L).length) ((L).flatMap evC) from ho16)
 have rw18 := Lib.hid (show ∀ x, x ∈ rl v16 → x ∈ (b :: rl (.slice A L.length c)) ∨ w.heap.size ≤ x from fun x hx => (hr16 x hx).imp id (fun h => Nat.le_trans CS.out h))
 refine hK15 _ _ ?_; clear hK15 K15
 (try simp only [zP, zN, zA, zB, zC])
 refine nl_ (hK14 _ _ ?_); clear hK14 K14
 refine s_ (fun K19 hK19 => ?_)
 refine pu_ (v := .bool false) (y_assign rfl (by rfl) (by rfl)) ?_
 (try simp only [zP, zN, zA, zB, zC])
 refine nl_ (hK19 _ _ ?_); clear hK19 K19
 refine wp_ret ?_
 refine th_ret ?_
 refine hQ _ _ _ ?_
 refine bodyPost_ret (res1 rfl (rdv_tmp (v := .bool false) (by rfl))) rfl ?_
 exact ⟨_, rfl, FB.out, OV.out, C0.out, rw18.out⟩
theorem put_full (w : World) (base b : Nat) (A : Option Addr) (c : Nat) (L : List Ev) (last : Int) (done : Bool) (e : Ev) (FB : Hid (Blk w b #[.slice A L.length c, .int .u64 last, .bool false, .bool done] 70)) (OV : Hid (OwnS w base 56 15 (.slice A L.length c) L.length (L.flatMap evC))) (hbase : base ≤ w.heap.size) (hL : L.length ≤ 1000) (h : 16 ≤ L.length) :
  Calls Try.prog 18 #[.pointer (some ⟨b, 0, none⟩), .agg (evA e)] w (fun en w' => ∃ v', en = .returned (.bool false) ∧ Blk w' b #[v', .int .u64 last, .bool true, .bool done] 70 ∧ OwnS w' base 56 15 v' (L).length ((L).flatMap evC) ∧ Ch (b :: rl (.slice A L.length c)) w w' ∧ ∀ k, k ∈ rl v' → k ∈ b :: rl (.slice A L.length c) ∨ w.heap.size ≤ k) := by
 have C0 := Lib.hid (Ch.refl (b :: rl (.slice A L.length c)) w)
 go_enter Try.func18, Try.ntmps18
 refine q_ (fun Q hQ hP => ?_)
 refine s_ (fun K1 hK1 => ?_)
 refine ef_ (fun K2 hK2 => ?_)
 refine e_boxN (by rfl) rfl rfl (cs := (evA e)) (v := .agg (evA e)) (by rfl) rfl ?_
 rintro g3 w4 HG5 B6 C7
 have nr8 := Lib.hid (OV.out.ne_new HG5)
 have nw9 := Lib.hid (show w.heap.size ≤ g3 by have := C0.out.size; have := HG5.out; omega)
 have FB' := Lib.hid (show Blk w4 b (#[.slice A L.length c, .int .u64 last, .bool false, .bool done]) 70 from C7.blk FB.out nin_nil)
 have OV' := Lib.hid (show OwnS w4 base 56 15 (.slice A L.length c) (L.length) (L.flatMap evC) from OV.out.ch C7 rnin_nil)
 have C0' := Lib.hid (show Ch (b :: rl (.slice A L.length c)) w w4 from C0.out.trans' C7 (fun x hx => absurd hx (by simp)))
 clear FB OV C0
 have FB := FB'; clear FB'
 have OV := OV'; clear OV'
 have C0 := C0'; clear C0'
 have Fg3 := Lib.hid (show Blk w4 g3 ((evA e)) 56 from B6); clear B6 C7
 refine hK2 _ _ ?_; clear hK2 K2
 (try simp only [zP, zN, zA, zB, zC])
 refine pu_ (v := .bool false) (y_assign rfl (by rfl) (by rfl)) ?_
 (try simp only [zP, zN, zA, zB, zC])
 refine nl_ (hK1 _ _ ?_); clear hK1 K1
 refine sq_ (fun K10 hK10 => ?_)
 refine s_ (fun K11 hK11 => ?_)
 refine pu_ (v := .pointer (some ⟨b, 0, none⟩)) (y_move rfl (by rfl) (by rfl)) ?_
 (try simp only [zP, zN, zA, zB, zC])
 refine ef_ (fun K12 hK12 => ?_)
 have CS := Lib.hid C0.out.size
 refine e_call Try.func28 (by kernel_rfl) rfl #[.pointer (some ⟨b, 0, none⟩)] (by rfl) rfl rfl (by first | rfl | (simp only [List.map_toArray, List.map_cons, List.map_nil]; first | done | rfl)) (room_false _ base _ _ _ L last _ FB OV h) ?_
 rintro en w13 ⟨rfl, rfl⟩
 refine ⟨_, rfl, ?_⟩
 refine hK12 _ _ ?_; clear hK12 K12
 (try simp only [zP, zN, zA, zB, zC])
 refine pu_ (v := .bool true) (y_run (by rfl) (fun W => by go_simp)) ?_
 (try simp only [zP, zN, zA, zB, zC])
 refine nl_ (hK11 _ _ ?_); clear hK11 K11
 refine wp_cond_true rfl ?_
 refine s_ (fun K14 hK14 => ?_)
 refine pu_ (v := .pointer (some ⟨b, 0, none⟩)) (y_move rfl (by rfl) (by rfl)) ?_
 (try simp only [zP, zN, zA, zB, zC])
 refine ef_ (fun K15 hK15 => ?_)
 refine e_call Try.func24 (by kernel_rfl) rfl #[.pointer (some ⟨b, 0, none⟩)] (by rfl) rfl rfl (by first | rfl | (simp only [List.map_toArray, List.map_cons, List.map_nil]; first | done | rfl)) (end_any _ base _ _ _ L last _ _ FB OV) ?_
 rintro en w17 ⟨v16, rfl, hb16, ho16, cc16, hr16⟩
 refine ⟨_, rfl, ?_⟩
 have C0' := Lib.hid (show Ch (b :: rl (.slice A L.length c)) w w17 from C0.out.trans' cc16 (inw_cons (.inl List.mem_cons_self) (fun x hx => .inl (List.mem_cons_of_mem _ hx))))
 have Fg3' := Lib.hid (show Blk w17 g3 ((evA e)) 56 from cc16.blk Fg3.out (nin_cons (Blk.ne_type Fg3.out FB.out (by decide)) nr8.out))
 clear C0 Fg3
 have C0 := C0'; clear C0'
 have Fg3 := Fg3'; clear Fg3'
 clear FB OV
 clear cc16
 have FB := Lib.hid (show Blk w17 b (#[v16, .int .u64 last, .bool true, .bool done]) 70 from hb16)
 have OV := Lib.hid (show OwnS w17 base 56 15 (v16) ((L).length) ((L).flatMap evC) from ho16)
 have rw18 := Lib.hid (show ∀ x, x ∈ rl v16 → x ∈ (b :: rl (.slice A L.length c)) ∨ w.heap.size ≤ x from fun x hx => (hr16 x hx).imp id (fun h => Nat.le_trans CS.out h))
 refine hK15 _ _ ?_; clear hK15 K15
 (try simp only [zP, zN, zA, zB, zC])
 refine nl_ (hK14 _ _ ?_); clear hK14 K14
 refine s_ (fun K19 hK19 => ?_)
 refine pu_ (v := .bool false) (y_assign rfl (by rfl) (by rfl)) ?_
 (try simp only [zP, zN, zA, zB, zC])
 refine nl_ (hK19 _ _ ?_); clear hK19 K19
 refine wp_ret ?_
 refine th_ret ?_
 refine hQ _ _ _ ?_
 refine bodyPost_ret (res1 rfl (rdv_tmp (v := .bool false) (by rfl))) rfl ?_
 exact ⟨_, rfl, FB.out, OV.out, C0.out, rw18.out⟩
theorem put_ok (w : World) (base b : Nat) (A : Option Addr) (c : Nat) (L : List Ev) (last : Int) (done : Bool) (e : Ev) (FB : Hid (Blk w b #[.slice A L.length c, .int .u64 last, .bool false, .bool done] 70)) (OV : Hid (OwnS w base 56 15 (.slice A L.length c) L.length (L.flatMap evC))) (hbase : base ≤ w.heap.size) (hL : L.length ≤ 1000) (h : L.length < 16) :
  Calls Try.prog 18 #[.pointer (some ⟨b, 0, none⟩), .agg (evA e)] w (fun en w' => ∃ v', en = .returned (.bool true) ∧ Blk w' b #[v', .int .u64 e.r, .bool false, .bool done] 70 ∧ OwnS w' base 56 15 v' (L ++ [e]).length ((L ++ [e]).flatMap evC) ∧ Ch (b :: rl (.slice A L.length c)) w w' ∧ ∀ k, k ∈ rl v' → k ∈ b :: rl (.slice A L.length c) ∨ w.heap.size ≤ k) := by
 have C0 := Lib.hid (Ch.refl (b :: rl (.slice A L.length c)) w)
 go_enter Try.func18, Try.ntmps18
 refine q_ (fun Q hQ hP => ?_)
 refine s_ (fun K1 hK1 => ?_)
 refine ef_ (fun K2 hK2 => ?_)
 refine e_boxN (by rfl) rfl rfl (cs := (evA e)) (v := .agg (evA e)) (by rfl) rfl ?_
 rintro g3 w4 HG5 B6 C7
 have nr8 := Lib.hid (OV.out.ne_new HG5)
 have nw9 := Lib.hid (show w.heap.size ≤ g3 by have := C0.out.size; have := HG5.out; omega)
 have FB' := Lib.hid (show Blk w4 b (#[.slice A L.length c, .int .u64 last, .bool false, .bool done]) 70 from C7.blk FB.out nin_nil)
 have OV' := Lib.hid (show OwnS w4 base 56 15 (.slice A L.length c) (L.length) (L.flatMap evC) from OV.out.ch C7 rnin_nil)
 have C0' := Lib.hid (show Ch (b :: rl (.slice A L.length c)) w w4 from C0.out.trans' C7 (fun x hx => absurd hx (by simp)))
 clear FB OV C0
 have FB := FB'; clear FB'
 have OV := OV'; clear OV'
 have C0 := C0'; clear C0'
 have Fg3 := Lib.hid (show Blk w4 g3 ((evA e)) 56 from B6); clear B6 C7
 refine hK2 _ _ ?_; clear hK2 K2
 (try simp only [zP, zN, zA, zB, zC])
 refine pu_ (v := .bool false) (y_assign rfl (by rfl) (by rfl)) ?_
 (try simp only [zP, zN, zA, zB, zC])
 refine nl_ (hK1 _ _ ?_); clear hK1 K1
 refine sq_ (fun K10 hK10 => ?_)
 refine s_ (fun K11 hK11 => ?_)
 refine pu_ (v := .pointer (some ⟨b, 0, none⟩)) (y_move rfl (by rfl) (by rfl)) ?_
 (try simp only [zP, zN, zA, zB, zC])
 refine ef_ (fun K12 hK12 => ?_)
 have CS := Lib.hid C0.out.size
 refine e_call Try.func28 (by kernel_rfl) rfl #[.pointer (some ⟨b, 0, none⟩)] (by rfl) rfl rfl (by first | rfl | (simp only [List.map_toArray, List.map_cons, List.map_nil]; first | done | rfl)) (room_true _ base _ _ _ L last _ FB OV h) ?_
 rintro en w13 ⟨rfl, rfl⟩
 refine ⟨_, rfl, ?_⟩
 refine hK12 _ _ ?_; clear hK12 K12
 (try simp only [zP, zN, zA, zB, zC])
 refine pu_ (v := .bool false) (y_run (by rfl) (fun W => by go_simp)) ?_
 (try simp only [zP, zN, zA, zB, zC])
 refine nl_ (hK11 _ _ ?_); clear hK11 K11
 refine wp_cond_false rfl ?_
 refine wp_skip ?_
 refine th_norm (hK10 _ _ ?_); try clear hK10 K10
 refine s_ (fun K14 hK14 => ?_)
 refine pu_ (v := .pointer (some ⟨b, 0, none⟩)) (y_move rfl (by rfl) (by rfl)) ?_
 (try simp only [zP, zN, zA, zB, zC])
 refine ld_ (v := .agg ((evA e))) rfl (by rfl) (by rfl) (run_loadVar_row _ _ 56 56 ((evA e)) (0, 0) _ Fg3.out Try.underlying56 rfl (by kernel_rfl)) ?_
 (try simp only [zP, zN, zA, zB, zC])
 refine ef_ (fun K15 hK15 => ?_)
 refine e_call Try.func31 (by kernel_rfl) rfl #[.pointer (some ⟨b, 0, none⟩), .agg ((evA e))] (by rfl) rfl rfl (by first | rfl | (simp only [List.map_toArray, List.map_cons, List.map_nil]; first | done | rfl)) (push_any _ base _ _ _ L last _ _ e FB OV (by have := CS.out; omega) hL) ?_
 rintro en w17 ⟨v16, rfl, hb16, ho16, cc16, hr16⟩
 refine ⟨_, rfl, ?_⟩
 have C0' := Lib.hid (show Ch (b :: rl (.slice A L.length c)) w w17 from C0.out.trans' cc16 (inw_cons (.inl List.mem_cons_self) (fun x hx => .inl (List.mem_cons_of_mem _ hx))))
 have Fg3' := Lib.hid (show Blk w17 g3 ((evA e)) 56 from cc16.blk Fg3.out (nin_cons (Blk.ne_type Fg3.out FB.out (by decide)) nr8.out))
 clear C0 Fg3
 have C0 := C0'; clear C0'
 have Fg3 := Fg3'; clear Fg3'
 clear FB OV
 clear cc16
 have FB := Lib.hid (show Blk w17 b (#[v16, .int .u64 e.r, .bool false, .bool done]) 70 from hb16)
 have OV := Lib.hid (show OwnS w17 base 56 15 (v16) ((L ++ [e]).length) ((L ++ [e]).flatMap evC) from ho16)
 have rw18 := Lib.hid (show ∀ x, x ∈ rl v16 → x ∈ (b :: rl (.slice A L.length c)) ∨ w.heap.size ≤ x from fun x hx => (hr16 x hx).imp id (fun h => Nat.le_trans CS.out h))
 refine hK15 _ _ ?_; clear hK15 K15
 (try simp only [zP, zN, zA, zB, zC])
 refine pu_ (v := .bool true) (y_assign rfl (by rfl) (by rfl)) ?_
 (try simp only [zP, zN, zA, zB, zC])
 refine nl_ (hK14 _ _ ?_); clear hK14 K14
 refine wp_ret ?_
 refine hQ _ _ _ ?_
 refine bodyPost_ret (res1 rfl (rdv_tmp (v := .bool true) (by rfl))) rfl ?_
 exact ⟨_, rfl, FB.out, OV.out, C0.out, rw18.out⟩
theorem own_head {w : World} {base g n c : Nat} {e : Ev} {T : List Ev} (h : OwnS w base 56 15 (.slice (some ⟨g, 0, none⟩) n c) n ((e :: T).flatMap evC)) (hn : n = T.length + 1) : CellsAt w ⟨g, 0, none⟩ (evC e) := by
 obtain ⟨g', c', he, _, _, _, hc, _⟩ := h.some_ (by omega)
 injection he with e1 _ _
 injection e1 with e1
 injection e1 with e1 _ _
 subst e1
 exact hc.elem evC_len 0 (by simp) |> fun h => by simpa using h
theorem own_tail {w : World} {base g n c : Nat} {e : Ev} {T : List Ev} (h : OwnS w base 56 15 (.slice (some ⟨g, 0, none⟩) n c) n ((e :: T).flatMap evC)) (hn : n = T.length + 1) {A1 : Addr} {c1 : Nat} (hA : 0 < T.length → A1 = ⟨g, 15, none⟩) : SrcIs w (.slice (some A1) T.length c1) T.length (T.flatMap evC) 15 := by
 refine ⟨flat_len evC_len T, .inr ⟨A1, c1, rfl, ?_⟩⟩
 by_cases h0 : 0 < T.length
 ·rw [hA h0]
  obtain ⟨g', c', he, _, _, _, hc, _⟩ := h.some_ (by omega)
  injection he with e1 _ _
  injection e1 with e1
  injection e1 with e1 _ _
  subst e1
  have := hc.part 15 (T.length * 15)
  rw [Nat.zero_add] at this
  refine this.to fun j u hu => ?_
  have e2 : ((e :: T).flatMap evC).drop 15 = T.flatMap evC := by
   have := flat_drop evC_len (e :: T) 1
   simpa using this
  rw [e2, List.take_of_length_le (by rw [flat_len evC_len]; exact Nat.le_refl _)]
  exact hu
 ·have : T = [] := List.eq_nil_of_length_eq_zero (by omega)
  subst this
  exact CellsAt.nil _ _
theorem last_at (I : List Ev) (e : Ev) (j : Nat) (u : Value) (hu : (evC e)[j]? = some u) : ((I ++ [e]).flatMap evC)[I.length * 15 + j]? = some u := by
 rw [List.flatMap_append, List.getElem?_append_right (by rw [flat_len evC_len]; omega), flat_len evC_len]
 simpa using hu
theorem own_last {w : World} {base g n c : Nat} {e : Ev} {I : List Ev} (h : OwnS w base 56 15 (.slice (some ⟨g, 0, none⟩) n c) n ((I ++ [e]).flatMap evC)) (hn : n = I.length + 1) (j : Nat) {u : Value} (hu : (evC e)[j]? = some u) : w.cell? ⟨g, I.length * 15 + j, none⟩ = some u := by
 obtain ⟨g', c', he, _, _, _, hc, _⟩ := h.some_ (by omega)
 injection he with e1 _ _
 injection e1 with e1
 injection e1 with e1 _ _
 subst e1
 have := hc (I.length * 15 + j) u (last_at I e j u hu)
 rwa [add_plain, Nat.zero_add] at this
theorem set_last (I : List Ev) (e : Ev) (r : Int) : ((I ++ [e]).flatMap evC).set (I.length * 15 + 1) (.int .u64 r) = (I ++ [(⟨e.k, r, e.u, e.p⟩ : Ev)]).flatMap evC := by
 rw [List.flatMap_append, List.set_append, if_neg (by rw [flat_len evC_len]; omega), flat_len evC_len, show I.length * 15 + 1 - I.length * 15 = 1 by omega, List.flatMap_append]
 simp [evC]
theorem elem41 : Try.prog.elem 41 = 56 := by kernel_rfl
theorem slice_tail (b o n c : Nat) (hn : 0 < n) (hc : n ≤ c) (hm : c ≤ maxLen) : ∃ A1 c1, (∀ W, (Instr.sliceAt 41 (.slice (some ⟨b, o, none⟩) n c) (some (.int .i64 1)) none none).run Try.prog W = .ok (.slice (some A1) (n - 1) c1) W) ∧ (0 < n - 1 → A1 = ⟨b, o + 15, none⟩) ∧ n - 1 ≤ c1 ∧ c1 ≤ maxLen := by
 refine ⟨if c = 1 then ⟨b, o, none⟩ else (⟨b, o, none⟩ : Addr).add (1 * 15), c - 1, fun W => run_slice_from Try.underlying41 (by kernel_rfl) ⟨b, o, none⟩ 1 n c 1 rfl hn hc hm, fun h => ?_, by omega, by omega⟩
 rw [if_neg (by omega), add_plain]
theorem clone_any (w : World) (p : Addr) (n c : Nat) (xs : List Value) (RS : Hid (SrcIs w (.slice (some p) n c) n xs 15)) (h1 : ∀ u ∈ xs, u.oneCell' = true) (hL : n ≤ 1000) :
  Calls Try.prog 32 #[.slice (some p) n c] w fun en w' => ∃ v', en = .returned v' ∧ OwnS w' w.heap.size 56 15 v' n xs ∧ Ch [] w w' ∧ ∀ k, k ∈ rl v' → w.heap.size ≤ k := by
 have C0 := Lib.hid (Ch.refl [] w)
 have RS0 := RS
 have H1 := Lib.hid h1
 clear h1
 obtain ⟨i56, I56⟩ := Info.of info56
 go_enter Try.func32, Try.ntmps32
 refine q_ (fun Q hQ hP => ?_)
 refine s_ (fun K1 hK1 => ?_)
 refine pu_ (v := .slice none 0 0) (y_assign rfl (by rfl) (by rfl)) ?_
 (try simp only [zP, zN, zA, zB, zC])
 refine nl_ (hK1 _ _ ?_); clear hK1 K1
 refine sq_ (fun K2 hK2 => ?_)
 refine s_ (fun K3 hK3 => ?_)
 refine pu_ (v := .slice (some p) n c) (y_move rfl (by rfl) (by rfl)) ?_
 (try simp only [zP, zN, zA, zB, zC])
 refine pu_ (v := .bool false) (y_run (by rfl) (fun W => by have k := Lib.run_eql_slice_nil (P := Try.prog) W 41 56 (some p) n c 0 0 Try.underlying41; go_simp)) ?_
 (try simp only [zP, zN, zA, zB, zC])
 refine nl_ (hK3 _ _ ?_); clear hK3 K3
 refine wp_cond_false rfl ?_
 refine wp_skip ?_
 refine th_norm (hK2 _ _ ?_); try clear hK2 K2
 refine s_ (fun K4 hK4 => ?_)
 refine ef_ (fun K5 hK5 => ?_)
 refine e_buildS0 (by rfl) rfl rfl Try.underlying41 I56.hi ?_
 rintro g6 w7 HG8 C10
 have C0' := Lib.hid (show Ch [] w w7 from C0.out.trans' C10 (fun x hx => absurd hx (by simp)))
 have RS' := Lib.hid (show SrcIs w7 (.slice (some p) n c) (n) (xs) 15 from RS.out.chx C10 xnin_nil)
 clear C0 RS
 have C0 := C0'; clear C0'
 have RS := RS'; clear RS'
 clear C10
 have Z11 := Lib.hid (show OwnS w7 w.heap.size 56 15 (.slice (some ⟨g6, 0, none⟩) 0 0) (0) ([]) from OwnS.nil _ _ _ _ _)
 refine hK5 _ _ ?_; clear hK5 K5
 (try simp only [zP, zN, zA, zB, zC])
 refine pu_ (v := .slice (some p) n c) (y_move rfl (by rfl) (by rfl)) ?_
 (try simp only [zP, zN, zA, zB, zC])
 refine ef_ (fun K12 hK12 => ?_)
 refine e_append (by rfl) rfl rfl w.heap.size 56 _ _ 15 192 Try.underlying41 I56.hi I56.hz I56.hs I56.hb rfl (by decide) (.slice (some ⟨g6, 0, none⟩) 0 0) (0) ([]) (by rfl) Z11.out (.slice (some p) n c) n (xs) (by rfl) RS.out H1.out (by unfold maxLen; omega) (by omega) (by have := C0.out.size; omega) ?_
 rintro v13 w14 O15 C16 R17 -
 replace C16 : Ch [] _ _ := C16
 replace R17 : ∀ k, k ∈ rl v13 → w7.heap.size ≤ k := fun k hk => (R17 k hk).elim (fun h => absurd h (by simp [rl])) id
 have rw18 := Lib.hid (show ∀ x, x ∈ rl v13 → x ∈ [] ∨ w.heap.size ≤ x from fun x hx => .inr (by have := R17 x hx; have := C0.out.size; omega))
 have xr19 := Lib.hid (show ∀ k, k ∈ xb (.slice (some p) n c) → k ∉ rl v13 from fun k hk hm => by have := R17 k hm; have := RS.out.lt (by decide) k hk; omega)
 have C0' := Lib.hid (show Ch [] w w14 from C0.out.trans' C16 (fun x hx => absurd hx (by simp)))
 have RS' := Lib.hid (show SrcIs w14 (.slice (some p) n c) (n) (xs) 15 from RS.out.chx C16 xnin_nil)
 clear C0 RS
 have C0 := C0'; clear C0'
 have RS := RS'; clear RS'
 clear Z11
 have Z11 := Lib.hid (show OwnS w14 w.heap.size 56 15 (v13) (n) (xs) from (by simpa using O15)); clear O15 C16
 refine hK12 _ _ ?_; clear hK12 K12
 (try simp only [zP, zN, zA, zB, zC])
 refine pu_ (v := v13) (y_assign rfl (by rfl) (by rfl)) ?_
 (try simp only [zP, zN, zA, zB, zC])
 refine nl_ (hK4 _ _ ?_); clear hK4 K4
 refine wp_ret ?_
 refine hQ _ _ _ ?_
 refine bodyPost_ret (res1 rfl (rdv_tmp (v := v13) (by rfl))) rfl ?_
 exact ⟨_, rfl, Z11.out, C0.out, fun k hk => (rw18.out k hk).elim (fun h => absurd h (by simp)) id⟩
theorem event_any (w : World) (k n r : Int) : Calls Try.prog 17 #[.agg #[.int .i64 k, .int .i64 n, .int .u64 r]] w fun en w' => en = .returned (.agg (evA ⟨2, r, 5, r⟩)) ∧ Ch [] w w' := by
 have C0 := Lib.hid (Ch.refl [] w)
 go_enter Try.func17, Try.ntmps17
 refine q_ (fun Q hQ hP => ?_)
 refine s_ (fun K1 hK1 => ?_)
 refine ef_ (fun K2 hK2 => ?_)
 refine e_boxN (by rfl) rfl rfl (cs := #[.int .i64 k, .int .i64 n, .int .u64 r]) (v := .agg #[.int .i64 k, .int .i64 n, .int .u64 r]) (by rfl) rfl ?_
 rintro g3 w4 HG5 B6 C7
 have nw8 := Lib.hid (show w.heap.size ≤ g3 by have := C0.out.size; have := HG5.out; omega)
 have C0' := Lib.hid (show Ch [] w w4 from C0.out.trans' C7 (fun x hx => absurd hx (by simp)))
 clear C0
 have C0 := C0'; clear C0'
 have Fg3 := Lib.hid (show Blk w4 g3 (#[.int .i64 k, .int .i64 n, .int .u64 r]) 46 from B6); clear B6 C7
 refine hK2 _ _ ?_; clear hK2 K2
 (try simp only [zP, zN, zA, zB, zC])
 refine ef_ (fun K9 hK9 => ?_)
 refine e_alloc (by rfl) rfl rfl (cs := #[.int .i64 0, .int .u64 0, .int .i64 0, .int .u64 0, .string ⟨#[]⟩, .slice none 0 0, .slice none 0 0, .slice none 0 0, .int .i64 0, .int .i64 0, .int .i64 0, .int .i64 0, .slice none 0 0, .int .i64 0, .int .i64 0]) (by kernel_rfl) ?_
 rintro g10 w11 HG12 B13 C14
 have nw15 := Lib.hid (show w.heap.size ≤ g10 by have := C0.out.size; have := HG12.out; omega)
 have C0' := Lib.hid (show Ch [] w w11 from C0.out.trans' C14 (fun x hx => absurd hx (by simp)))
 have Fg3' := Lib.hid (show Blk w11 g3 (#[.int .i64 k, .int .i64 n, .int .u64 r]) 46 from C14.blk Fg3.out nin_nil)
 clear C0 Fg3
 have C0 := C0'; clear C0'
 have Fg3 := Fg3'; clear Fg3'
 have Fg10 := Lib.hid (show Blk w11 g10 (#[.int .i64 0, .int .u64 0, .int .i64 0, .int .u64 0, .string ⟨#[]⟩, .slice none 0 0, .slice none 0 0, .slice none 0 0, .int .i64 0, .int .i64 0, .int .i64 0, .int .i64 0, .slice none 0 0, .int .i64 0, .int .i64 0]) 56 from B13); clear B13 C14
 refine hK9 _ _ ?_; clear hK9 K9
 (try simp only [zP, zN, zA, zB, zC])
 refine nl_ (hK1 _ _ ?_); clear hK1 K1
 refine s_ (fun K16 hK16 => ?_)
 refine pu_ (v := .pointer (some ⟨g3, 2, none⟩)) (y_run (by rfl) (fun W => by go_simp)) ?_
 (try simp only [zP, zN, zA, zB, zC])
 refine ld_ (v := .int .u64 r) rfl (by rfl) (by rfl) (run_load_one ((Fg3.out.cell 2).trans rfl) Try.underlying42 rfl) ?_
 (try simp only [zP, zN, zA, zB, zC])
 refine pu_ (v := .pointer (some ⟨g3, 2, none⟩)) (y_run (by rfl) (fun W => by go_simp)) ?_
 (try simp only [zP, zN, zA, zB, zC])
 refine ld_ (v := .int .u64 r) rfl (by rfl) (by rfl) (run_load_one ((Fg3.out.cell 2).trans rfl) Try.underlying42 rfl) ?_
 (try simp only [zP, zN, zA, zB, zC])
 refine pu_ (v := .agg #[.int .i64 5, .int .u64 r, .string ⟨#[]⟩, .slice none 0 0, .slice none 0 0, .slice none 0 0, .int .i64 0, .int .i64 0, .int .i64 0, .int .i64 0, .slice none 0 0, .int .i64 0, .int .i64 0]) (y_build (vs := #[(0, .int .i64 5), (1, .int .u64 r)]) (by rfl) rfl (by first | rfl | (simp only [List.map_toArray, List.map_cons, List.map_nil]; first | done | rfl)) (by kernel_rfl)) ?_
 (try simp only [zP, zN, zA, zB, zC])
 refine pu_ (v := .agg #[.int .i64 2, .int .u64 r, .int .i64 5, .int .u64 r, .string ⟨#[]⟩, .slice none 0 0, .slice none 0 0, .slice none 0 0, .int .i64 0, .int .i64 0, .int .i64 0, .int .i64 0, .slice none 0 0, .int .i64 0, .int .i64 0]) (y_build (vs := #[(0, .int .i64 2), (1, .int .u64 r), (2, .agg #[.int .i64 5, .int .u64 r, .string ⟨#[]⟩, .slice none 0 0, .slice none 0 0, .slice none 0 0, .int .i64 0, .int .i64 0, .int .i64 0, .int .i64 0, .slice none 0 0, .int .i64 0, .int .i64 0])]) (by rfl) rfl (by first | rfl | (simp only [List.map_toArray, List.map_cons, List.map_nil]; first | done | rfl)) (by kernel_rfl)) ?_
 (try simp only [zP, zN, zA, zB, zC])
 refine ef_ (fun K17 hK17 => ?_)
 refine e_storeN (cells := #[.int .i64 2, .int .u64 r, .int .i64 5, .int .u64 r, .string ⟨#[]⟩, .slice none 0 0, .slice none 0 0, .slice none 0 0, .int .i64 0, .int .i64 0, .int .i64 0, .int .i64 0, .slice none 0 0, .int .i64 0, .int .i64 0]) (by rfl) rfl rfl (by rfl) (by rfl) Fg10.out (by kernel_rfl) (by rfl) (ones_cons rfl (ones_cons rfl (ones_cons rfl (ones_cons rfl (ones_cons rfl (ones_cons rfl (ones_cons rfl (ones_cons rfl (ones_cons rfl (ones_cons rfl (ones_cons rfl (ones_cons rfl (ones_cons rfl (ones_cons rfl (ones_cons rfl ones_nil))))))))))))))) ?_
 rintro w18 B19 C20
 have C0' := Lib.hid (show Ch [] w w18 from C0.out.trans' C20 (inw_cons (.inr nw15.out) inw_nil))
 have Fg3' := Lib.hid (show Blk w18 g3 (#[.int .i64 k, .int .i64 n, .int .u64 r]) 46 from C20.blk Fg3.out (nin_cons (Blk.ne_type Fg3.out Fg10.out (by decide)) nin_nil))
 clear C0 Fg3
 have C0 := C0'; clear C0'
 have Fg3 := Fg3'; clear Fg3'
 clear Fg10; have Fg10 := Lib.hid (show Blk w18 g10 (#[.int .i64 2, .int .u64 r, .int .i64 5, .int .u64 r, .string ⟨#[]⟩, .slice none 0 0, .slice none 0 0, .slice none 0 0, .int .i64 0, .int .i64 0, .int .i64 0, .int .i64 0, .slice none 0 0, .int .i64 0, .int .i64 0]) 56 from B19); clear B19 C20
 refine hK17 _ _ ?_; clear hK17 K17
 (try simp only [zP, zN, zA, zB, zC])
 refine nl_ (hK16 _ _ ?_); clear hK16 K16
 refine wp_ret ?_
 refine hQ _ _ _ ?_
 refine bodyPost_ret (res1 rfl (rdv_cell (by rfl) (run_loadVar_row _ _ 56 56 (#[.int .i64 2, .int .u64 r, .int .i64 5, .int .u64 r, .string ⟨#[]⟩, .slice none 0 0, .slice none 0 0, .slice none 0 0, .int .i64 0, .int .i64 0, .int .i64 0, .int .i64 0, .slice none 0 0, .int .i64 0, .int .i64 0]) (0, 0) _ Fg10.out Try.underlying56 rfl (by kernel_rfl)))) rfl ?_
 exact ⟨rfl, C0.out⟩
theorem labels_nil  (w : World) : Calls Try.prog 37 #[.slice none 0 0, .slice none 0 0] w fun en w' => en = .returned (.bool true) ∧ Ch [] w w' := by
 have C0 := Lib.hid (Ch.refl [] w)
 go_enter Try.func37, Try.ntmps37
 refine q_ (fun Q hQ hP => ?_)
 refine s_ (fun K1 hK1 => ?_)
 refine pu_ (v := .bool false) (y_assign rfl (by rfl) (by rfl)) ?_
 (try simp only [zP, zN, zA, zB, zC])
 refine nl_ (hK1 _ _ ?_); clear hK1 K1
 refine s_ (fun K2 hK2 => ?_)
 refine pu_ (v := .slice none 0 0) (y_move rfl (by rfl) (by rfl)) ?_
 (try simp only [zP, zN, zA, zB, zC])
 refine pu_ (v := .int .i64 0) (y_run (by rfl) (fun W => by go_simp)) ?_
 (try simp only [zP, zN, zA, zB, zC])
 refine pu_ (v := .slice none 0 0) (y_move rfl (by rfl) (by rfl)) ?_
 (try simp only [zP, zN, zA, zB, zC])
 refine pu_ (v := .int .i64 0) (y_run (by rfl) (fun W => by go_simp)) ?_
 (try simp only [zP, zN, zA, zB, zC])
 refine pu_ (v := .bool true) (y_run (by rfl) (fun W => by go_simp)) ?_
 (try simp only [zP, zN, zA, zB, zC])
 refine pu_ (v := .bool true) (y_assign rfl (by rfl) (by rfl)) ?_
 (try simp only [zP, zN, zA, zB, zC])
 refine nl_ (hK2 _ _ ?_); clear hK2 K2
 refine sq_ (fun K3 hK3 => ?_)
 refine s_ (fun K4 hK4 => ?_)
 refine pu_ (v := .int .i64 0) (y_assign rfl (by rfl) (by rfl)) ?_
 (try simp only [zP, zN, zA, zB, zC])
 refine nl_ (hK4 _ _ ?_); clear hK4 K4
 refine wp_block ?_
 refine loop_none ?_
 refine sq_ (fun K5 hK5 => ?_)
 refine s_ (fun K6 hK6 => ?_)
 refine pu_ (v := .bool true) (y_move rfl (by rfl) (by rfl)) ?_
 (try simp only [zP, zN, zA, zB, zC])
 refine pu_ (v := .bool true) (y_move rfl (by rfl) (by rfl)) ?_
 (try simp only [zP, zN, zA, zB, zC])
 refine pu_ (v := .int .i64 0) (y_move rfl (by rfl) (by rfl)) ?_
 (try simp only [zP, zN, zA, zB, zC])
 refine pu_ (v := .slice none 0 0) (y_move rfl (by rfl) (by rfl)) ?_
 (try simp only [zP, zN, zA, zB, zC])
 refine pu_ (v := .int .i64 0) (y_run (by rfl) (fun W => by go_simp)) ?_
 (try simp only [zP, zN, zA, zB, zC])
 refine pu_ (v := .bool false) (y_run (by rfl) (fun W => by go_simp)) ?_
 (try simp only [zP, zN, zA, zB, zC])
 refine pu_ (v := .bool false) (y_pick (t := true) (by rfl) rfl (by rfl) (by rfl)) ?_
 (try simp only [zP, zN, zA, zB, zC])
 refine pu_ (v := .bool false) (y_move rfl (by rfl) (by rfl)) ?_
 (try simp only [zP, zN, zA, zB, zC])
 refine pu_ (y_off (by rfl)) ?_
 (try simp only [zP, zN, zA, zB, zC])
 refine pu_ (y_off (by rfl)) ?_
 (try simp only [zP, zN, zA, zB, zC])
 refine pu_ (y_off (by rfl)) ?_
 (try simp only [zP, zN, zA, zB, zC])
 refine pu_ (y_off (by rfl)) ?_
 (try simp only [zP, zN, zA, zB, zC])
 refine pu_ (v := .bool false) (y_pick (t := false) (by rfl) rfl (by rfl) (by rfl)) ?_
 (try simp only [zP, zN, zA, zB, zC])
 refine nl_ (hK6 _ _ ?_); clear hK6 K6
 refine wp_cond_false rfl ?_
 refine wp_exit ?_
 refine th_exit ?_
 refine th_exit ?_
 refine ib_exit ?_
 refine th_norm (hK3 _ _ ?_); try clear hK3 K3
 refine s_ (fun K7 hK7 => ?_)
 refine pu_ (v := .bool true) (y_move rfl (by rfl) (by rfl)) ?_
 (try simp only [zP, zN, zA, zB, zC])
 refine pu_ (v := .bool true) (y_assign rfl (by rfl) (by rfl)) ?_
 (try simp only [zP, zN, zA, zB, zC])
 refine nl_ (hK7 _ _ ?_); clear hK7 K7
 refine wp_ret ?_
 refine hQ _ _ _ ?_
 refine bodyPost_ret (res1 rfl (rdv_tmp (v := .bool true) (by rfl))) rfl ?_
 exact ⟨rfl, C0.out⟩
theorem ctrs_nil  (w : World) : Calls Try.prog 38 #[.slice none 0 0, .slice none 0 0] w fun en w' => en = .returned (.bool true) ∧ Ch [] w w' := by
 have C0 := Lib.hid (Ch.refl [] w)
 go_enter Try.func38, Try.ntmps38
 refine q_ (fun Q hQ hP => ?_)
 refine s_ (fun K1 hK1 => ?_)
 refine pu_ (v := .bool false) (y_assign rfl (by rfl) (by rfl)) ?_
 (try simp only [zP, zN, zA, zB, zC])
 refine nl_ (hK1 _ _ ?_); clear hK1 K1
 refine s_ (fun K2 hK2 => ?_)
 refine pu_ (v := .slice none 0 0) (y_move rfl (by rfl) (by rfl)) ?_
 (try simp only [zP, zN, zA, zB, zC])
 refine pu_ (v := .int .i64 0) (y_run (by rfl) (fun W => by go_simp)) ?_
 (try simp only [zP, zN, zA, zB, zC])
 refine pu_ (v := .slice none 0 0) (y_move rfl (by rfl) (by rfl)) ?_
 (try simp only [zP, zN, zA, zB, zC])
 refine pu_ (v := .int .i64 0) (y_run (by rfl) (fun W => by go_simp)) ?_
 (try simp only [zP, zN, zA, zB, zC])
 refine pu_ (v := .bool true) (y_run (by rfl) (fun W => by go_simp)) ?_
 (try simp only [zP, zN, zA, zB, zC])
 refine pu_ (v := .bool true) (y_assign rfl (by rfl) (by rfl)) ?_
 (try simp only [zP, zN, zA, zB, zC])
 refine nl_ (hK2 _ _ ?_); clear hK2 K2
 refine sq_ (fun K3 hK3 => ?_)
 refine s_ (fun K4 hK4 => ?_)
 refine pu_ (v := .int .i64 0) (y_assign rfl (by rfl) (by rfl)) ?_
 (try simp only [zP, zN, zA, zB, zC])
 refine nl_ (hK4 _ _ ?_); clear hK4 K4
 refine wp_block ?_
 refine loop_none ?_
 refine sq_ (fun K5 hK5 => ?_)
 refine s_ (fun K6 hK6 => ?_)
 refine pu_ (v := .bool true) (y_move rfl (by rfl) (by rfl)) ?_
 (try simp only [zP, zN, zA, zB, zC])
 refine pu_ (v := .bool true) (y_move rfl (by rfl) (by rfl)) ?_
 (try simp only [zP, zN, zA, zB, zC])
 refine pu_ (v := .int .i64 0) (y_move rfl (by rfl) (by rfl)) ?_
 (try simp only [zP, zN, zA, zB, zC])
 refine pu_ (v := .slice none 0 0) (y_move rfl (by rfl) (by rfl)) ?_
 (try simp only [zP, zN, zA, zB, zC])
 refine pu_ (v := .int .i64 0) (y_run (by rfl) (fun W => by go_simp)) ?_
 (try simp only [zP, zN, zA, zB, zC])
 refine pu_ (v := .bool false) (y_run (by rfl) (fun W => by go_simp)) ?_
 (try simp only [zP, zN, zA, zB, zC])
 refine pu_ (v := .bool false) (y_pick (t := true) (by rfl) rfl (by rfl) (by rfl)) ?_
 (try simp only [zP, zN, zA, zB, zC])
 refine pu_ (v := .bool false) (y_move rfl (by rfl) (by rfl)) ?_
 (try simp only [zP, zN, zA, zB, zC])
 refine pu_ (y_off (by rfl)) ?_
 (try simp only [zP, zN, zA, zB, zC])
 refine pu_ (y_off (by rfl)) ?_
 (try simp only [zP, zN, zA, zB, zC])
 refine pu_ (y_off (by rfl)) ?_
 (try simp only [zP, zN, zA, zB, zC])
 refine pu_ (y_off (by rfl)) ?_
 (try simp only [zP, zN, zA, zB, zC])
 refine pu_ (v := .bool false) (y_pick (t := false) (by rfl) rfl (by rfl) (by rfl)) ?_
 (try simp only [zP, zN, zA, zB, zC])
 refine nl_ (hK6 _ _ ?_); clear hK6 K6
 refine wp_cond_false rfl ?_
 refine wp_exit ?_
 refine th_exit ?_
 refine th_exit ?_
 refine ib_exit ?_
 refine th_norm (hK3 _ _ ?_); try clear hK3 K3
 refine s_ (fun K7 hK7 => ?_)
 refine pu_ (v := .bool true) (y_move rfl (by rfl) (by rfl)) ?_
 (try simp only [zP, zN, zA, zB, zC])
 refine pu_ (v := .bool true) (y_assign rfl (by rfl) (by rfl)) ?_
 (try simp only [zP, zN, zA, zB, zC])
 refine nl_ (hK7 _ _ ?_); clear hK7 K7
 refine wp_ret ?_
 refine hQ _ _ _ ?_
 refine bodyPost_ret (res1 rfl (rdv_tmp (v := .bool true) (by rfl))) rfl ?_
 exact ⟨rfl, C0.out⟩
theorem ints_nil  (w : World) : Calls Try.prog 10 #[.slice none 0 0, .slice none 0 0] w fun en w' => en = .returned (.bool true) ∧ Ch [] w w' := by
 have C0 := Lib.hid (Ch.refl [] w)
 go_enter Try.func10, Try.ntmps10
 refine q_ (fun Q hQ hP => ?_)
 refine s_ (fun K1 hK1 => ?_)
 refine pu_ (v := .bool false) (y_assign rfl (by rfl) (by rfl)) ?_
 (try simp only [zP, zN, zA, zB, zC])
 refine nl_ (hK1 _ _ ?_); clear hK1 K1
 refine s_ (fun K2 hK2 => ?_)
 refine pu_ (v := .slice none 0 0) (y_move rfl (by rfl) (by rfl)) ?_
 (try simp only [zP, zN, zA, zB, zC])
 refine pu_ (v := .int .i64 0) (y_run (by rfl) (fun W => by go_simp)) ?_
 (try simp only [zP, zN, zA, zB, zC])
 refine pu_ (v := .slice none 0 0) (y_move rfl (by rfl) (by rfl)) ?_
 (try simp only [zP, zN, zA, zB, zC])
 refine pu_ (v := .int .i64 0) (y_run (by rfl) (fun W => by go_simp)) ?_
 (try simp only [zP, zN, zA, zB, zC])
 refine pu_ (v := .bool true) (y_run (by rfl) (fun W => by go_simp)) ?_
 (try simp only [zP, zN, zA, zB, zC])
 refine pu_ (v := .bool true) (y_assign rfl (by rfl) (by rfl)) ?_
 (try simp only [zP, zN, zA, zB, zC])
 refine nl_ (hK2 _ _ ?_); clear hK2 K2
 refine sq_ (fun K3 hK3 => ?_)
 refine s_ (fun K4 hK4 => ?_)
 refine pu_ (v := .int .i64 0) (y_assign rfl (by rfl) (by rfl)) ?_
 (try simp only [zP, zN, zA, zB, zC])
 refine nl_ (hK4 _ _ ?_); clear hK4 K4
 refine wp_block ?_
 refine loop_none ?_
 refine sq_ (fun K5 hK5 => ?_)
 refine s_ (fun K6 hK6 => ?_)
 refine pu_ (v := .bool true) (y_move rfl (by rfl) (by rfl)) ?_
 (try simp only [zP, zN, zA, zB, zC])
 refine pu_ (v := .bool true) (y_move rfl (by rfl) (by rfl)) ?_
 (try simp only [zP, zN, zA, zB, zC])
 refine pu_ (v := .int .i64 0) (y_move rfl (by rfl) (by rfl)) ?_
 (try simp only [zP, zN, zA, zB, zC])
 refine pu_ (v := .slice none 0 0) (y_move rfl (by rfl) (by rfl)) ?_
 (try simp only [zP, zN, zA, zB, zC])
 refine pu_ (v := .int .i64 0) (y_run (by rfl) (fun W => by go_simp)) ?_
 (try simp only [zP, zN, zA, zB, zC])
 refine pu_ (v := .bool false) (y_run (by rfl) (fun W => by go_simp)) ?_
 (try simp only [zP, zN, zA, zB, zC])
 refine pu_ (v := .bool false) (y_pick (t := true) (by rfl) rfl (by rfl) (by rfl)) ?_
 (try simp only [zP, zN, zA, zB, zC])
 refine pu_ (v := .bool false) (y_move rfl (by rfl) (by rfl)) ?_
 (try simp only [zP, zN, zA, zB, zC])
 refine pu_ (y_off (by rfl)) ?_
 (try simp only [zP, zN, zA, zB, zC])
 refine pu_ (y_off (by rfl)) ?_
 (try simp only [zP, zN, zA, zB, zC])
 refine pu_ (y_off (by rfl)) ?_
 (try simp only [zP, zN, zA, zB, zC])
 refine pu_ (y_off (by rfl)) ?_
 (try simp only [zP, zN, zA, zB, zC])
 refine pu_ (v := .bool false) (y_pick (t := false) (by rfl) rfl (by rfl) (by rfl)) ?_
 (try simp only [zP, zN, zA, zB, zC])
 refine nl_ (hK6 _ _ ?_); clear hK6 K6
 refine wp_cond_false rfl ?_
 refine wp_exit ?_
 refine th_exit ?_
 refine th_exit ?_
 refine ib_exit ?_
 refine th_norm (hK3 _ _ ?_); try clear hK3 K3
 refine s_ (fun K7 hK7 => ?_)
 refine pu_ (v := .bool true) (y_move rfl (by rfl) (by rfl)) ?_
 (try simp only [zP, zN, zA, zB, zC])
 refine pu_ (v := .bool true) (y_assign rfl (by rfl) (by rfl)) ?_
 (try simp only [zP, zN, zA, zB, zC])
 refine nl_ (hK7 _ _ ?_); clear hK7 K7
 refine wp_ret ?_
 refine hQ _ _ _ ?_
 refine bodyPost_ret (res1 rfl (rdv_tmp (v := .bool true) (by rfl))) rfl ?_
 exact ⟨rfl, C0.out⟩
theorem spec_same  (w : World) : Calls Try.prog 36 #[.agg #[.string ⟨#[]⟩, .slice none 0 0, .slice none 0 0, .slice none 0 0, .int .i64 0, .int .i64 0, .int .i64 0], .agg #[.string ⟨#[]⟩, .slice none 0 0, .slice none 0 0, .slice none 0 0, .int .i64 0, .int .i64 0, .int .i64 0]] w fun en w' => en = .returned (.bool true) ∧ Ch [] w w' := by
 have C0 := Lib.hid (Ch.refl [] w)
 go_enter Try.func36, Try.ntmps36
 refine q_ (fun Q hQ hP => ?_)
 refine s_ (fun K1 hK1 => ?_)
 refine ef_ (fun K2 hK2 => ?_)
 refine e_boxN (by rfl) rfl rfl (cs := #[.string ⟨#[]⟩, .slice none 0 0, .slice none 0 0, .slice none 0 0, .int .i64 0, .int .i64 0, .int .i64 0]) (v := .agg #[.string ⟨#[]⟩, .slice none 0 0, .slice none 0 0, .slice none 0 0, .int .i64 0, .int .i64 0, .int .i64 0]) (by rfl) rfl ?_
 rintro g3 w4 HG5 B6 C7
 have nw8 := Lib.hid (show w.heap.size ≤ g3 by have := C0.out.size; have := HG5.out; omega)
 have C0' := Lib.hid (show Ch [] w w4 from C0.out.trans' C7 (fun x hx => absurd hx (by simp)))
 clear C0
 have C0 := C0'; clear C0'
 have Fg3 := Lib.hid (show Blk w4 g3 (#[.string ⟨#[]⟩, .slice none 0 0, .slice none 0 0, .slice none 0 0, .int .i64 0, .int .i64 0, .int .i64 0]) 52 from B6); clear B6 C7
 refine hK2 _ _ ?_; clear hK2 K2
 (try simp only [zP, zN, zA, zB, zC])
 refine ef_ (fun K9 hK9 => ?_)
 refine e_boxN (by rfl) rfl rfl (cs := #[.string ⟨#[]⟩, .slice none 0 0, .slice none 0 0, .slice none 0 0, .int .i64 0, .int .i64 0, .int .i64 0]) (v := .agg #[.string ⟨#[]⟩, .slice none 0 0, .slice none 0 0, .slice none 0 0, .int .i64 0, .int .i64 0, .int .i64 0]) (by rfl) rfl ?_
 rintro g10 w11 HG12 B13 C14
 have nw15 := Lib.hid (show w.heap.size ≤ g10 by have := C0.out.size; have := HG12.out; omega)
 have ne16 := Lib.hid (Fg3.out.ne_new HG12)
 have C0' := Lib.hid (show Ch [] w w11 from C0.out.trans' C14 (fun x hx => absurd hx (by simp)))
 have Fg3' := Lib.hid (show Blk w11 g3 (#[.string ⟨#[]⟩, .slice none 0 0, .slice none 0 0, .slice none 0 0, .int .i64 0, .int .i64 0, .int .i64 0]) 52 from C14.blk Fg3.out nin_nil)
 clear C0 Fg3
 have C0 := C0'; clear C0'
 have Fg3 := Fg3'; clear Fg3'
 have Fg10 := Lib.hid (show Blk w11 g10 (#[.string ⟨#[]⟩, .slice none 0 0, .slice none 0 0, .slice none 0 0, .int .i64 0, .int .i64 0, .int .i64 0]) 52 from B13); clear B13 C14
 refine hK9 _ _ ?_; clear hK9 K9
 (try simp only [zP, zN, zA, zB, zC])
 refine pu_ (v := .bool false) (y_assign rfl (by rfl) (by rfl)) ?_
 (try simp only [zP, zN, zA, zB, zC])
 refine nl_ (hK1 _ _ ?_); clear hK1 K1
 refine s_ (fun K17 hK17 => ?_)
 refine pu_ (v := .pointer (some ⟨g3, 0, none⟩)) (y_run (by rfl) (fun W => by go_simp)) ?_
 (try simp only [zP, zN, zA, zB, zC])
 refine ld_ (v := .string ⟨#[]⟩) rfl (by rfl) (by rfl) (run_load_one ((Fg3.out.cell 0).trans rfl) Try.underlying9 rfl) ?_
 (try simp only [zP, zN, zA, zB, zC])
 refine pu_ (v := .pointer (some ⟨g10, 0, none⟩)) (y_run (by rfl) (fun W => by go_simp)) ?_
 (try simp only [zP, zN, zA, zB, zC])
 refine ld_ (v := .string ⟨#[]⟩) rfl (by rfl) (by rfl) (run_load_one ((Fg10.out.cell 0).trans rfl) Try.underlying9 rfl) ?_
 (try simp only [zP, zN, zA, zB, zC])
 refine pu_ (v := .bool true) (y_run (by rfl) (fun W => by go_simp)) ?_
 (try simp only [zP, zN, zA, zB, zC])
 refine pu_ (v := .bool true) (y_move rfl (by rfl) (by rfl)) ?_
 (try simp only [zP, zN, zA, zB, zC])
 refine pu_ (v := .pointer (some ⟨g3, 1, none⟩)) (y_run (by rfl) (fun W => by go_simp)) ?_
 (try simp only [zP, zN, zA, zB, zC])
 refine ld_ (v := .slice none 0 0) rfl (by rfl) (by rfl) (run_load_one ((Fg3.out.cell 1).trans rfl) Try.underlying49 rfl) ?_
 (try simp only [zP, zN, zA, zB, zC])
 refine pu_ (v := .pointer (some ⟨g10, 1, none⟩)) (y_run (by rfl) (fun W => by go_simp)) ?_
 (try simp only [zP, zN, zA, zB, zC])
 refine ld_ (v := .slice none 0 0) rfl (by rfl) (by rfl) (run_load_one ((Fg10.out.cell 1).trans rfl) Try.underlying49 rfl) ?_
 (try simp only [zP, zN, zA, zB, zC])
 refine ef_ (fun K18 hK18 => ?_)
 refine e_call Try.func37 (by kernel_rfl) rfl #[.slice none 0 0, .slice none 0 0] (by rfl) rfl rfl (by first | rfl | (simp only [List.map_toArray, List.map_cons, List.map_nil]; first | done | rfl)) (labels_nil _) ?_
 rintro en w19 ⟨rfl, cc18⟩
 refine ⟨_, rfl, ?_⟩
 have C0' := Lib.hid (show Ch [] w w19 from C0.out.trans' cc18 (fun x hx => absurd hx (by simp)))
 have Fg3' := Lib.hid (show Blk w19 g3 (#[.string ⟨#[]⟩, .slice none 0 0, .slice none 0 0, .slice none 0 0, .int .i64 0, .int .i64 0, .int .i64 0]) 52 from cc18.blk Fg3.out nin_nil)
 have Fg10' := Lib.hid (show Blk w19 g10 (#[.string ⟨#[]⟩, .slice none 0 0, .slice none 0 0, .slice none 0 0, .int .i64 0, .int .i64 0, .int .i64 0]) 52 from cc18.blk Fg10.out nin_nil)
 clear C0 Fg3 Fg10
 have C0 := C0'; clear C0'
 have Fg3 := Fg3'; clear Fg3'
 have Fg10 := Fg10'; clear Fg10'
 clear cc18
 refine hK18 _ _ ?_; clear hK18 K18
 (try simp only [zP, zN, zA, zB, zC])
 refine pu_ (v := .bool true) (y_pick (t := true) (by rfl) rfl (by rfl) (by rfl)) ?_
 (try simp only [zP, zN, zA, zB, zC])
 refine pu_ (v := .bool true) (y_move rfl (by rfl) (by rfl)) ?_
 (try simp only [zP, zN, zA, zB, zC])
 refine pu_ (v := .pointer (some ⟨g3, 2, none⟩)) (y_run (by rfl) (fun W => by go_simp)) ?_
 (try simp only [zP, zN, zA, zB, zC])
 refine ld_ (v := .slice none 0 0) rfl (by rfl) (by rfl) (run_load_one ((Fg3.out.cell 2).trans rfl) Try.underlying50 rfl) ?_
 (try simp only [zP, zN, zA, zB, zC])
 refine pu_ (v := .pointer (some ⟨g10, 2, none⟩)) (y_run (by rfl) (fun W => by go_simp)) ?_
 (try simp only [zP, zN, zA, zB, zC])
 refine ld_ (v := .slice none 0 0) rfl (by rfl) (by rfl) (run_load_one ((Fg10.out.cell 2).trans rfl) Try.underlying50 rfl) ?_
 (try simp only [zP, zN, zA, zB, zC])
 refine ef_ (fun K20 hK20 => ?_)
 refine e_call Try.func38 (by kernel_rfl) rfl #[.slice none 0 0, .slice none 0 0] (by rfl) rfl rfl (by first | rfl | (simp only [List.map_toArray, List.map_cons, List.map_nil]; first | done | rfl)) (ctrs_nil _) ?_
 rintro en w21 ⟨rfl, cc20⟩
 refine ⟨_, rfl, ?_⟩
 have C0' := Lib.hid (show Ch [] w w21 from C0.out.trans' cc20 (fun x hx => absurd hx (by simp)))
 have Fg3' := Lib.hid (show Blk w21 g3 (#[.string ⟨#[]⟩, .slice none 0 0, .slice none 0 0, .slice none 0 0, .int .i64 0, .int .i64 0, .int .i64 0]) 52 from cc20.blk Fg3.out nin_nil)
 have Fg10' := Lib.hid (show Blk w21 g10 (#[.string ⟨#[]⟩, .slice none 0 0, .slice none 0 0, .slice none 0 0, .int .i64 0, .int .i64 0, .int .i64 0]) 52 from cc20.blk Fg10.out nin_nil)
 clear C0 Fg3 Fg10
 have C0 := C0'; clear C0'
 have Fg3 := Fg3'; clear Fg3'
 have Fg10 := Fg10'; clear Fg10'
 clear cc20
 refine hK20 _ _ ?_; clear hK20 K20
 (try simp only [zP, zN, zA, zB, zC])
 refine pu_ (v := .bool true) (y_pick (t := true) (by rfl) rfl (by rfl) (by rfl)) ?_
 (try simp only [zP, zN, zA, zB, zC])
 refine pu_ (v := .bool true) (y_move rfl (by rfl) (by rfl)) ?_
 (try simp only [zP, zN, zA, zB, zC])
 refine pu_ (v := .pointer (some ⟨g3, 3, none⟩)) (y_run (by rfl) (fun W => by go_simp)) ?_
 (try simp only [zP, zN, zA, zB, zC])
 refine ld_ (v := .slice none 0 0) rfl (by rfl) (by rfl) (run_load_one ((Fg3.out.cell 3).trans rfl) Try.underlying50 rfl) ?_
 (try simp only [zP, zN, zA, zB, zC])
 refine pu_ (v := .pointer (some ⟨g10, 3, none⟩)) (y_run (by rfl) (fun W => by go_simp)) ?_
 (try simp only [zP, zN, zA, zB, zC])
 refine ld_ (v := .slice none 0 0) rfl (by rfl) (by rfl) (run_load_one ((Fg10.out.cell 3).trans rfl) Try.underlying50 rfl) ?_
 (try simp only [zP, zN, zA, zB, zC])
 refine ef_ (fun K22 hK22 => ?_)
 refine e_call Try.func38 (by kernel_rfl) rfl #[.slice none 0 0, .slice none 0 0] (by rfl) rfl rfl (by first | rfl | (simp only [List.map_toArray, List.map_cons, List.map_nil]; first | done | rfl)) (ctrs_nil _) ?_
 rintro en w23 ⟨rfl, cc22⟩
 refine ⟨_, rfl, ?_⟩
 have C0' := Lib.hid (show Ch [] w w23 from C0.out.trans' cc22 (fun x hx => absurd hx (by simp)))
 have Fg3' := Lib.hid (show Blk w23 g3 (#[.string ⟨#[]⟩, .slice none 0 0, .slice none 0 0, .slice none 0 0, .int .i64 0, .int .i64 0, .int .i64 0]) 52 from cc22.blk Fg3.out nin_nil)
 have Fg10' := Lib.hid (show Blk w23 g10 (#[.string ⟨#[]⟩, .slice none 0 0, .slice none 0 0, .slice none 0 0, .int .i64 0, .int .i64 0, .int .i64 0]) 52 from cc22.blk Fg10.out nin_nil)
 clear C0 Fg3 Fg10
 have C0 := C0'; clear C0'
 have Fg3 := Fg3'; clear Fg3'
 have Fg10 := Fg10'; clear Fg10'
 clear cc22
 refine hK22 _ _ ?_; clear hK22 K22
 (try simp only [zP, zN, zA, zB, zC])
 refine pu_ (v := .bool true) (y_pick (t := true) (by rfl) rfl (by rfl) (by rfl)) ?_
 (try simp only [zP, zN, zA, zB, zC])
 refine pu_ (v := .bool true) (y_move rfl (by rfl) (by rfl)) ?_
 (try simp only [zP, zN, zA, zB, zC])
 refine pu_ (v := .pointer (some ⟨g3, 4, none⟩)) (y_run (by rfl) (fun W => by go_simp)) ?_
 (try simp only [zP, zN, zA, zB, zC])
 refine ld_ (v := .int .i64 0) rfl (by rfl) (by rfl) (run_load_one ((Fg3.out.cell 4).trans rfl) Try.underlying3 rfl) ?_
 (try simp only [zP, zN, zA, zB, zC])
 refine pu_ (v := .pointer (some ⟨g10, 4, none⟩)) (y_run (by rfl) (fun W => by go_simp)) ?_
 (try simp only [zP, zN, zA, zB, zC])
 refine ld_ (v := .int .i64 0) rfl (by rfl) (by rfl) (run_load_one ((Fg10.out.cell 4).trans rfl) Try.underlying3 rfl) ?_
 (try simp only [zP, zN, zA, zB, zC])
 refine pu_ (v := .bool true) (y_run (by rfl) (fun W => by go_simp)) ?_
 (try simp only [zP, zN, zA, zB, zC])
 refine pu_ (v := .bool true) (y_pick (t := true) (by rfl) rfl (by rfl) (by rfl)) ?_
 (try simp only [zP, zN, zA, zB, zC])
 refine pu_ (v := .bool true) (y_move rfl (by rfl) (by rfl)) ?_
 (try simp only [zP, zN, zA, zB, zC])
 refine pu_ (v := .pointer (some ⟨g3, 5, none⟩)) (y_run (by rfl) (fun W => by go_simp)) ?_
 (try simp only [zP, zN, zA, zB, zC])
 refine ld_ (v := .int .i64 0) rfl (by rfl) (by rfl) (run_load_one ((Fg3.out.cell 5).trans rfl) Try.underlying3 rfl) ?_
 (try simp only [zP, zN, zA, zB, zC])
 refine pu_ (v := .pointer (some ⟨g10, 5, none⟩)) (y_run (by rfl) (fun W => by go_simp)) ?_
 (try simp only [zP, zN, zA, zB, zC])
 refine ld_ (v := .int .i64 0) rfl (by rfl) (by rfl) (run_load_one ((Fg10.out.cell 5).trans rfl) Try.underlying3 rfl) ?_
 (try simp only [zP, zN, zA, zB, zC])
 refine pu_ (v := .bool true) (y_run (by rfl) (fun W => by go_simp)) ?_
 (try simp only [zP, zN, zA, zB, zC])
 refine pu_ (v := .bool true) (y_pick (t := true) (by rfl) rfl (by rfl) (by rfl)) ?_
 (try simp only [zP, zN, zA, zB, zC])
 refine pu_ (v := .bool true) (y_move rfl (by rfl) (by rfl)) ?_
 (try simp only [zP, zN, zA, zB, zC])
 refine pu_ (v := .pointer (some ⟨g3, 6, none⟩)) (y_run (by rfl) (fun W => by go_simp)) ?_
 (try simp only [zP, zN, zA, zB, zC])
 refine ld_ (v := .int .i64 0) rfl (by rfl) (by rfl) (run_load_one ((Fg3.out.cell 6).trans rfl) Try.underlying3 rfl) ?_
 (try simp only [zP, zN, zA, zB, zC])
 refine pu_ (v := .pointer (some ⟨g10, 6, none⟩)) (y_run (by rfl) (fun W => by go_simp)) ?_
 (try simp only [zP, zN, zA, zB, zC])
 refine ld_ (v := .int .i64 0) rfl (by rfl) (by rfl) (run_load_one ((Fg10.out.cell 6).trans rfl) Try.underlying3 rfl) ?_
 (try simp only [zP, zN, zA, zB, zC])
 refine pu_ (v := .bool true) (y_run (by rfl) (fun W => by go_simp)) ?_
 (try simp only [zP, zN, zA, zB, zC])
 refine pu_ (v := .bool true) (y_pick (t := true) (by rfl) rfl (by rfl) (by rfl)) ?_
 (try simp only [zP, zN, zA, zB, zC])
 refine pu_ (v := .bool true) (y_assign rfl (by rfl) (by rfl)) ?_
 (try simp only [zP, zN, zA, zB, zC])
 refine nl_ (hK17 _ _ ?_); clear hK17 K17
 refine wp_ret ?_
 refine hQ _ _ _ ?_
 refine bodyPost_ret (res1 rfl (rdv_tmp (v := .bool true) (by rfl))) rfl ?_
 exact ⟨rfl, C0.out⟩
theorem pod_same (e : Ev) (w : World) : Calls Try.prog 33 #[.agg #[.int .i64 e.u, .int .u64 e.p, .string ⟨#[]⟩, .slice none 0 0, .slice none 0 0, .slice none 0 0, .int .i64 0, .int .i64 0, .int .i64 0, .int .i64 0, .slice none 0 0, .int .i64 0, .int .i64 0], .agg #[.int .i64 e.u, .int .u64 e.p, .string ⟨#[]⟩, .slice none 0 0, .slice none 0 0, .slice none 0 0, .int .i64 0, .int .i64 0, .int .i64 0, .int .i64 0, .slice none 0 0, .int .i64 0, .int .i64 0]] w fun en w' => en = .returned (.bool true) ∧ Ch [] w w' := by
 have C0 := Lib.hid (Ch.refl [] w)
 go_enter Try.func33, Try.ntmps33
 refine q_ (fun Q hQ hP => ?_)
 refine s_ (fun K1 hK1 => ?_)
 refine ef_ (fun K2 hK2 => ?_)
 refine e_boxN (by rfl) rfl rfl (cs := #[.int .i64 e.u, .int .u64 e.p, .string ⟨#[]⟩, .slice none 0 0, .slice none 0 0, .slice none 0 0, .int .i64 0, .int .i64 0, .int .i64 0, .int .i64 0, .slice none 0 0, .int .i64 0, .int .i64 0]) (v := .agg #[.int .i64 e.u, .int .u64 e.p, .string ⟨#[]⟩, .slice none 0 0, .slice none 0 0, .slice none 0 0, .int .i64 0, .int .i64 0, .int .i64 0, .int .i64 0, .slice none 0 0, .int .i64 0, .int .i64 0]) (by rfl) rfl ?_
 rintro g3 w4 HG5 B6 C7
 have nw8 := Lib.hid (show w.heap.size ≤ g3 by have := C0.out.size; have := HG5.out; omega)
 have C0' := Lib.hid (show Ch [] w w4 from C0.out.trans' C7 (fun x hx => absurd hx (by simp)))
 clear C0
 have C0 := C0'; clear C0'
 have Fg3 := Lib.hid (show Blk w4 g3 (#[.int .i64 e.u, .int .u64 e.p, .string ⟨#[]⟩, .slice none 0 0, .slice none 0 0, .slice none 0 0, .int .i64 0, .int .i64 0, .int .i64 0, .int .i64 0, .slice none 0 0, .int .i64 0, .int .i64 0]) 54 from B6); clear B6 C7
 refine hK2 _ _ ?_; clear hK2 K2
 (try simp only [zP, zN, zA, zB, zC])
 refine ef_ (fun K9 hK9 => ?_)
 refine e_boxN (by rfl) rfl rfl (cs := #[.int .i64 e.u, .int .u64 e.p, .string ⟨#[]⟩, .slice none 0 0, .slice none 0 0, .slice none 0 0, .int .i64 0, .int .i64 0, .int .i64 0, .int .i64 0, .slice none 0 0, .int .i64 0, .int .i64 0]) (v := .agg #[.int .i64 e.u, .int .u64 e.p, .string ⟨#[]⟩, .slice none 0 0, .slice none 0 0, .slice none 0 0, .int .i64 0, .int .i64 0, .int .i64 0, .int .i64 0, .slice none 0 0, .int .i64 0, .int .i64 0]) (by rfl) rfl ?_
 rintro g10 w11 HG12 B13 C14
 have nw15 := Lib.hid (show w.heap.size ≤ g10 by have := C0.out.size; have := HG12.out; omega)
 have ne16 := Lib.hid (Fg3.out.ne_new HG12)
 have C0' := Lib.hid (show Ch [] w w11 from C0.out.trans' C14 (fun x hx => absurd hx (by simp)))
 have Fg3' := Lib.hid (show Blk w11 g3 (#[.int .i64 e.u, .int .u64 e.p, .string ⟨#[]⟩, .slice none 0 0, .slice none 0 0, .slice none 0 0, .int .i64 0, .int .i64 0, .int .i64 0, .int .i64 0, .slice none 0 0, .int .i64 0, .int .i64 0]) 54 from C14.blk Fg3.out nin_nil)
 clear C0 Fg3
 have C0 := C0'; clear C0'
 have Fg3 := Fg3'; clear Fg3'
 have Fg10 := Lib.hid (show Blk w11 g10 (#[.int .i64 e.u, .int .u64 e.p, .string ⟨#[]⟩, .slice none 0 0, .slice none 0 0, .slice none 0 0, .int .i64 0, .int .i64 0, .int .i64 0, .int .i64 0, .slice none 0 0, .int .i64 0, .int .i64 0]) 54 from B13); clear B13 C14
 refine hK9 _ _ ?_; clear hK9 K9
 (try simp only [zP, zN, zA, zB, zC])
 refine pu_ (v := .bool false) (y_assign rfl (by rfl) (by rfl)) ?_
 (try simp only [zP, zN, zA, zB, zC])
 refine nl_ (hK1 _ _ ?_); clear hK1 K1
 refine s_ (fun K17 hK17 => ?_)
 refine pu_ (v := .pointer (some ⟨g3, 0, none⟩)) (y_run (by rfl) (fun W => by go_simp)) ?_
 (try simp only [zP, zN, zA, zB, zC])
 refine ld_ (v := .int .i64 e.u) rfl (by rfl) (by rfl) (run_load_one ((Fg3.out.cell 0).trans rfl) Try.underlying3 rfl) ?_
 (try simp only [zP, zN, zA, zB, zC])
 refine pu_ (v := .pointer (some ⟨g10, 0, none⟩)) (y_run (by rfl) (fun W => by go_simp)) ?_
 (try simp only [zP, zN, zA, zB, zC])
 refine ld_ (v := .int .i64 e.u) rfl (by rfl) (by rfl) (run_load_one ((Fg10.out.cell 0).trans rfl) Try.underlying3 rfl) ?_
 (try simp only [zP, zN, zA, zB, zC])
 refine pu_ (v := .bool true) (y_run (by rfl) (fun W => by go_simp)) ?_
 (try simp only [zP, zN, zA, zB, zC])
 refine pu_ (v := .bool true) (y_move rfl (by rfl) (by rfl)) ?_
 (try simp only [zP, zN, zA, zB, zC])
 refine pu_ (v := .pointer (some ⟨g3, 1, none⟩)) (y_run (by rfl) (fun W => by go_simp)) ?_
 (try simp only [zP, zN, zA, zB, zC])
 refine ld_ (v := .int .u64 e.p) rfl (by rfl) (by rfl) (run_load_one ((Fg3.out.cell 1).trans rfl) Try.underlying42 rfl) ?_
 (try simp only [zP, zN, zA, zB, zC])
 refine pu_ (v := .pointer (some ⟨g10, 1, none⟩)) (y_run (by rfl) (fun W => by go_simp)) ?_
 (try simp only [zP, zN, zA, zB, zC])
 refine ld_ (v := .int .u64 e.p) rfl (by rfl) (by rfl) (run_load_one ((Fg10.out.cell 1).trans rfl) Try.underlying42 rfl) ?_
 (try simp only [zP, zN, zA, zB, zC])
 refine pu_ (v := .bool true) (y_run (by rfl) (fun W => by go_simp)) ?_
 (try simp only [zP, zN, zA, zB, zC])
 refine pu_ (v := .bool true) (y_pick (t := true) (by rfl) rfl (by rfl) (by rfl)) ?_
 (try simp only [zP, zN, zA, zB, zC])
 refine pu_ (v := .bool true) (y_move rfl (by rfl) (by rfl)) ?_
 (try simp only [zP, zN, zA, zB, zC])
 refine pu_ (v := .pointer (some ⟨g3, 2, none⟩)) (y_run (by rfl) (fun W => by go_simp)) ?_
 (try simp only [zP, zN, zA, zB, zC])
 refine ld_ (v := .agg #[.string ⟨#[]⟩, .slice none 0 0, .slice none 0 0, .slice none 0 0, .int .i64 0, .int .i64 0, .int .i64 0]) rfl (by rfl) (by rfl) (run_loadVar_at (cs := [.string ⟨#[]⟩, .slice none 0 0, .slice none 0 0, .slice none 0 0, .int .i64 0, .int .i64 0, .int .i64 0]) (cells_part Fg3.out 2 (by rfl)) Try.underlying52 rfl (by kernel_rfl)) ?_
 (try simp only [zP, zN, zA, zB, zC])
 refine pu_ (v := .pointer (some ⟨g10, 2, none⟩)) (y_run (by rfl) (fun W => by go_simp)) ?_
 (try simp only [zP, zN, zA, zB, zC])
 refine ld_ (v := .agg #[.string ⟨#[]⟩, .slice none 0 0, .slice none 0 0, .slice none 0 0, .int .i64 0, .int .i64 0, .int .i64 0]) rfl (by rfl) (by rfl) (run_loadVar_at (cs := [.string ⟨#[]⟩, .slice none 0 0, .slice none 0 0, .slice none 0 0, .int .i64 0, .int .i64 0, .int .i64 0]) (cells_part Fg10.out 2 (by rfl)) Try.underlying52 rfl (by kernel_rfl)) ?_
 (try simp only [zP, zN, zA, zB, zC])
 refine ef_ (fun K18 hK18 => ?_)
 refine e_call Try.func36 (by kernel_rfl) rfl #[.agg #[.string ⟨#[]⟩, .slice none 0 0, .slice none 0 0, .slice none 0 0, .int .i64 0, .int .i64 0, .int .i64 0], .agg #[.string ⟨#[]⟩, .slice none 0 0, .slice none 0 0, .slice none 0 0, .int .i64 0, .int .i64 0, .int .i64 0]] (by rfl) rfl rfl (by first | rfl | (simp only [List.map_toArray, List.map_cons, List.map_nil]; first | done | rfl)) (spec_same _) ?_
 rintro en w19 ⟨rfl, cc18⟩
 refine ⟨_, rfl, ?_⟩
 have C0' := Lib.hid (show Ch [] w w19 from C0.out.trans' cc18 (fun x hx => absurd hx (by simp)))
 have Fg3' := Lib.hid (show Blk w19 g3 (#[.int .i64 e.u, .int .u64 e.p, .string ⟨#[]⟩, .slice none 0 0, .slice none 0 0, .slice none 0 0, .int .i64 0, .int .i64 0, .int .i64 0, .int .i64 0, .slice none 0 0, .int .i64 0, .int .i64 0]) 54 from cc18.blk Fg3.out nin_nil)
 have Fg10' := Lib.hid (show Blk w19 g10 (#[.int .i64 e.u, .int .u64 e.p, .string ⟨#[]⟩, .slice none 0 0, .slice none 0 0, .slice none 0 0, .int .i64 0, .int .i64 0, .int .i64 0, .int .i64 0, .slice none 0 0, .int .i64 0, .int .i64 0]) 54 from cc18.blk Fg10.out nin_nil)
 clear C0 Fg3 Fg10
 have C0 := C0'; clear C0'
 have Fg3 := Fg3'; clear Fg3'
 have Fg10 := Fg10'; clear Fg10'
 clear cc18
 refine hK18 _ _ ?_; clear hK18 K18
 (try simp only [zP, zN, zA, zB, zC])
 refine pu_ (v := .bool true) (y_pick (t := true) (by rfl) rfl (by rfl) (by rfl)) ?_
 (try simp only [zP, zN, zA, zB, zC])
 refine pu_ (v := .bool true) (y_move rfl (by rfl) (by rfl)) ?_
 (try simp only [zP, zN, zA, zB, zC])
 refine pu_ (v := .pointer (some ⟨g3, 9, none⟩)) (y_run (by rfl) (fun W => by go_simp)) ?_
 (try simp only [zP, zN, zA, zB, zC])
 refine ld_ (v := .int .i64 0) rfl (by rfl) (by rfl) (run_load_one ((Fg3.out.cell 9).trans rfl) Try.underlying3 rfl) ?_
 (try simp only [zP, zN, zA, zB, zC])
 refine pu_ (v := .pointer (some ⟨g10, 9, none⟩)) (y_run (by rfl) (fun W => by go_simp)) ?_
 (try simp only [zP, zN, zA, zB, zC])
 refine ld_ (v := .int .i64 0) rfl (by rfl) (by rfl) (run_load_one ((Fg10.out.cell 9).trans rfl) Try.underlying3 rfl) ?_
 (try simp only [zP, zN, zA, zB, zC])
 refine pu_ (v := .bool true) (y_run (by rfl) (fun W => by go_simp)) ?_
 (try simp only [zP, zN, zA, zB, zC])
 refine pu_ (v := .bool true) (y_pick (t := true) (by rfl) rfl (by rfl) (by rfl)) ?_
 (try simp only [zP, zN, zA, zB, zC])
 refine pu_ (v := .bool true) (y_move rfl (by rfl) (by rfl)) ?_
 (try simp only [zP, zN, zA, zB, zC])
 refine pu_ (v := .pointer (some ⟨g3, 10, none⟩)) (y_run (by rfl) (fun W => by go_simp)) ?_
 (try simp only [zP, zN, zA, zB, zC])
 refine ld_ (v := .slice none 0 0) rfl (by rfl) (by rfl) (run_load_one ((Fg3.out.cell 10).trans rfl) Try.underlying23 rfl) ?_
 (try simp only [zP, zN, zA, zB, zC])
 refine pu_ (v := .pointer (some ⟨g10, 10, none⟩)) (y_run (by rfl) (fun W => by go_simp)) ?_
 (try simp only [zP, zN, zA, zB, zC])
 refine ld_ (v := .slice none 0 0) rfl (by rfl) (by rfl) (run_load_one ((Fg10.out.cell 10).trans rfl) Try.underlying23 rfl) ?_
 (try simp only [zP, zN, zA, zB, zC])
 refine ef_ (fun K20 hK20 => ?_)
 refine e_call Try.func10 (by kernel_rfl) rfl #[.slice none 0 0, .slice none 0 0] (by rfl) rfl rfl (by first | rfl | (simp only [List.map_toArray, List.map_cons, List.map_nil]; first | done | rfl)) (ints_nil _) ?_
 rintro en w21 ⟨rfl, cc20⟩
 refine ⟨_, rfl, ?_⟩
 have C0' := Lib.hid (show Ch [] w w21 from C0.out.trans' cc20 (fun x hx => absurd hx (by simp)))
 have Fg3' := Lib.hid (show Blk w21 g3 (#[.int .i64 e.u, .int .u64 e.p, .string ⟨#[]⟩, .slice none 0 0, .slice none 0 0, .slice none 0 0, .int .i64 0, .int .i64 0, .int .i64 0, .int .i64 0, .slice none 0 0, .int .i64 0, .int .i64 0]) 54 from cc20.blk Fg3.out nin_nil)
 have Fg10' := Lib.hid (show Blk w21 g10 (#[.int .i64 e.u, .int .u64 e.p, .string ⟨#[]⟩, .slice none 0 0, .slice none 0 0, .slice none 0 0, .int .i64 0, .int .i64 0, .int .i64 0, .int .i64 0, .slice none 0 0, .int .i64 0, .int .i64 0]) 54 from cc20.blk Fg10.out nin_nil)
 clear C0 Fg3 Fg10
 have C0 := C0'; clear C0'
 have Fg3 := Fg3'; clear Fg3'
 have Fg10 := Fg10'; clear Fg10'
 clear cc20
 refine hK20 _ _ ?_; clear hK20 K20
 (try simp only [zP, zN, zA, zB, zC])
 refine pu_ (v := .bool true) (y_pick (t := true) (by rfl) rfl (by rfl) (by rfl)) ?_
 (try simp only [zP, zN, zA, zB, zC])
 refine pu_ (v := .bool true) (y_move rfl (by rfl) (by rfl)) ?_
 (try simp only [zP, zN, zA, zB, zC])
 refine pu_ (v := .pointer (some ⟨g3, 11, none⟩)) (y_run (by rfl) (fun W => by go_simp)) ?_
 (try simp only [zP, zN, zA, zB, zC])
 refine ld_ (v := .int .i64 0) rfl (by rfl) (by rfl) (run_load_one ((Fg3.out.cell 11).trans rfl) Try.underlying3 rfl) ?_
 (try simp only [zP, zN, zA, zB, zC])
 refine pu_ (v := .pointer (some ⟨g10, 11, none⟩)) (y_run (by rfl) (fun W => by go_simp)) ?_
 (try simp only [zP, zN, zA, zB, zC])
 refine ld_ (v := .int .i64 0) rfl (by rfl) (by rfl) (run_load_one ((Fg10.out.cell 11).trans rfl) Try.underlying3 rfl) ?_
 (try simp only [zP, zN, zA, zB, zC])
 refine pu_ (v := .bool true) (y_run (by rfl) (fun W => by go_simp)) ?_
 (try simp only [zP, zN, zA, zB, zC])
 refine pu_ (v := .bool true) (y_pick (t := true) (by rfl) rfl (by rfl) (by rfl)) ?_
 (try simp only [zP, zN, zA, zB, zC])
 refine pu_ (v := .bool true) (y_move rfl (by rfl) (by rfl)) ?_
 (try simp only [zP, zN, zA, zB, zC])
 refine pu_ (v := .pointer (some ⟨g3, 12, none⟩)) (y_run (by rfl) (fun W => by go_simp)) ?_
 (try simp only [zP, zN, zA, zB, zC])
 refine ld_ (v := .int .i64 0) rfl (by rfl) (by rfl) (run_load_one ((Fg3.out.cell 12).trans rfl) Try.underlying3 rfl) ?_
 (try simp only [zP, zN, zA, zB, zC])
 refine pu_ (v := .pointer (some ⟨g10, 12, none⟩)) (y_run (by rfl) (fun W => by go_simp)) ?_
 (try simp only [zP, zN, zA, zB, zC])
 refine ld_ (v := .int .i64 0) rfl (by rfl) (by rfl) (run_load_one ((Fg10.out.cell 12).trans rfl) Try.underlying3 rfl) ?_
 (try simp only [zP, zN, zA, zB, zC])
 refine pu_ (v := .bool true) (y_run (by rfl) (fun W => by go_simp)) ?_
 (try simp only [zP, zN, zA, zB, zC])
 refine pu_ (v := .bool true) (y_pick (t := true) (by rfl) rfl (by rfl) (by rfl)) ?_
 (try simp only [zP, zN, zA, zB, zC])
 refine pu_ (v := .bool true) (y_assign rfl (by rfl) (by rfl)) ?_
 (try simp only [zP, zN, zA, zB, zC])
 refine nl_ (hK17 _ _ ?_); clear hK17 K17
 refine wp_ret ?_
 refine hQ _ _ _ ?_
 refine bodyPost_ret (res1 rfl (rdv_tmp (v := .bool true) (by rfl))) rfl ?_
 exact ⟨rfl, C0.out⟩
theorem event_same (e : Ev) (w : World) : Calls Try.prog 23 #[.agg (evA e), .agg (evA e)] w fun en w' => en = .returned (.bool true) ∧ Ch [] w w' := by
 have C0 := Lib.hid (Ch.refl [] w)
 go_enter Try.func23, Try.ntmps23
 refine q_ (fun Q hQ hP => ?_)
 refine s_ (fun K1 hK1 => ?_)
 refine ef_ (fun K2 hK2 => ?_)
 refine e_boxN (by rfl) rfl rfl (cs := (evA e)) (v := .agg (evA e)) (by rfl) rfl ?_
 rintro g3 w4 HG5 B6 C7
 have nw8 := Lib.hid (show w.heap.size ≤ g3 by have := C0.out.size; have := HG5.out; omega)
 have C0' := Lib.hid (show Ch [] w w4 from C0.out.trans' C7 (fun x hx => absurd hx (by simp)))
 clear C0
 have C0 := C0'; clear C0'
 have Fg3 := Lib.hid (show Blk w4 g3 ((evA e)) 56 from B6); clear B6 C7
 refine hK2 _ _ ?_; clear hK2 K2
 (try simp only [zP, zN, zA, zB, zC])
 refine ef_ (fun K9 hK9 => ?_)
 refine e_boxN (by rfl) rfl rfl (cs := (evA e)) (v := .agg (evA e)) (by rfl) rfl ?_
 rintro g10 w11 HG12 B13 C14
 have nw15 := Lib.hid (show w.heap.size ≤ g10 by have := C0.out.size; have := HG12.out; omega)
 have ne16 := Lib.hid (Fg3.out.ne_new HG12)
 have C0' := Lib.hid (show Ch [] w w11 from C0.out.trans' C14 (fun x hx => absurd hx (by simp)))
 have Fg3' := Lib.hid (show Blk w11 g3 ((evA e)) 56 from C14.blk Fg3.out nin_nil)
 clear C0 Fg3
 have C0 := C0'; clear C0'
 have Fg3 := Fg3'; clear Fg3'
 have Fg10 := Lib.hid (show Blk w11 g10 ((evA e)) 56 from B13); clear B13 C14
 refine hK9 _ _ ?_; clear hK9 K9
 (try simp only [zP, zN, zA, zB, zC])
 refine pu_ (v := .bool false) (y_assign rfl (by rfl) (by rfl)) ?_
 (try simp only [zP, zN, zA, zB, zC])
 refine nl_ (hK1 _ _ ?_); clear hK1 K1
 refine s_ (fun K17 hK17 => ?_)
 refine pu_ (v := .pointer (some ⟨g3, 0, none⟩)) (y_run (by rfl) (fun W => by go_simp)) ?_
 (try simp only [zP, zN, zA, zB, zC])
 refine ld_ (v := .int .i64 e.k) rfl (by rfl) (by rfl) (run_load_one ((Fg3.out.cell 0).trans rfl) Try.underlying3 rfl) ?_
 (try simp only [zP, zN, zA, zB, zC])
 refine pu_ (v := .pointer (some ⟨g10, 0, none⟩)) (y_run (by rfl) (fun W => by go_simp)) ?_
 (try simp only [zP, zN, zA, zB, zC])
 refine ld_ (v := .int .i64 e.k) rfl (by rfl) (by rfl) (run_load_one ((Fg10.out.cell 0).trans rfl) Try.underlying3 rfl) ?_
 (try simp only [zP, zN, zA, zB, zC])
 refine pu_ (v := .bool true) (y_run (by rfl) (fun W => by go_simp)) ?_
 (try simp only [zP, zN, zA, zB, zC])
 refine pu_ (v := .bool true) (y_move rfl (by rfl) (by rfl)) ?_
 (try simp only [zP, zN, zA, zB, zC])
 refine pu_ (v := .pointer (some ⟨g3, 1, none⟩)) (y_run (by rfl) (fun W => by go_simp)) ?_
 (try simp only [zP, zN, zA, zB, zC])
 refine ld_ (v := .int .u64 e.r) rfl (by rfl) (by rfl) (run_load_one ((Fg3.out.cell 1).trans rfl) Try.underlying42 rfl) ?_
 (try simp only [zP, zN, zA, zB, zC])
 refine pu_ (v := .pointer (some ⟨g10, 1, none⟩)) (y_run (by rfl) (fun W => by go_simp)) ?_
 (try simp only [zP, zN, zA, zB, zC])
 refine ld_ (v := .int .u64 e.r) rfl (by rfl) (by rfl) (run_load_one ((Fg10.out.cell 1).trans rfl) Try.underlying42 rfl) ?_
 (try simp only [zP, zN, zA, zB, zC])
 refine pu_ (v := .bool true) (y_run (by rfl) (fun W => by go_simp)) ?_
 (try simp only [zP, zN, zA, zB, zC])
 refine pu_ (v := .bool true) (y_pick (t := true) (by rfl) rfl (by rfl) (by rfl)) ?_
 (try simp only [zP, zN, zA, zB, zC])
 refine pu_ (v := .bool true) (y_move rfl (by rfl) (by rfl)) ?_
 (try simp only [zP, zN, zA, zB, zC])
 refine pu_ (v := .pointer (some ⟨g3, 2, none⟩)) (y_run (by rfl) (fun W => by go_simp)) ?_
 (try simp only [zP, zN, zA, zB, zC])
 refine ld_ (v := .agg #[.int .i64 e.u, .int .u64 e.p, .string ⟨#[]⟩, .slice none 0 0, .slice none 0 0, .slice none 0 0, .int .i64 0, .int .i64 0, .int .i64 0, .int .i64 0, .slice none 0 0, .int .i64 0, .int .i64 0]) rfl (by rfl) (by rfl) (run_loadVar_at (cs := [.int .i64 e.u, .int .u64 e.p, .string ⟨#[]⟩, .slice none 0 0, .slice none 0 0, .slice none 0 0, .int .i64 0, .int .i64 0, .int .i64 0, .int .i64 0, .slice none 0 0, .int .i64 0, .int .i64 0]) (cells_part Fg3.out 2 (by rfl)) Try.underlying54 rfl (by kernel_rfl)) ?_
 (try simp only [zP, zN, zA, zB, zC])
 refine pu_ (v := .pointer (some ⟨g10, 2, none⟩)) (y_run (by rfl) (fun W => by go_simp)) ?_
 (try simp only [zP, zN, zA, zB, zC])
 refine ld_ (v := .agg #[.int .i64 e.u, .int .u64 e.p, .string ⟨#[]⟩, .slice none 0 0, .slice none 0 0, .slice none 0 0, .int .i64 0, .int .i64 0, .int .i64 0, .int .i64 0, .slice none 0 0, .int .i64 0, .int .i64 0]) rfl (by rfl) (by rfl) (run_loadVar_at (cs := [.int .i64 e.u, .int .u64 e.p, .string ⟨#[]⟩, .slice none 0 0, .slice none 0 0, .slice none 0 0, .int .i64 0, .int .i64 0, .int .i64 0, .int .i64 0, .slice none 0 0, .int .i64 0, .int .i64 0]) (cells_part Fg10.out 2 (by rfl)) Try.underlying54 rfl (by kernel_rfl)) ?_
 (try simp only [zP, zN, zA, zB, zC])
 refine ef_ (fun K18 hK18 => ?_)
 refine e_call Try.func33 (by kernel_rfl) rfl #[.agg #[.int .i64 e.u, .int .u64 e.p, .string ⟨#[]⟩, .slice none 0 0, .slice none 0 0, .slice none 0 0, .int .i64 0, .int .i64 0, .int .i64 0, .int .i64 0, .slice none 0 0, .int .i64 0, .int .i64 0], .agg #[.int .i64 e.u, .int .u64 e.p, .string ⟨#[]⟩, .slice none 0 0, .slice none 0 0, .slice none 0 0, .int .i64 0, .int .i64 0, .int .i64 0, .int .i64 0, .slice none 0 0, .int .i64 0, .int .i64 0]] (by rfl) rfl rfl (by first | rfl | (simp only [List.map_toArray, List.map_cons, List.map_nil]; first | done | rfl)) (pod_same e _) ?_
 rintro en w19 ⟨rfl, cc18⟩
 refine ⟨_, rfl, ?_⟩
 have C0' := Lib.hid (show Ch [] w w19 from C0.out.trans' cc18 (fun x hx => absurd hx (by simp)))
 have Fg3' := Lib.hid (show Blk w19 g3 ((evA e)) 56 from cc18.blk Fg3.out nin_nil)
 have Fg10' := Lib.hid (show Blk w19 g10 ((evA e)) 56 from cc18.blk Fg10.out nin_nil)
 clear C0 Fg3 Fg10
 have C0 := C0'; clear C0'
 have Fg3 := Fg3'; clear Fg3'
 have Fg10 := Fg10'; clear Fg10'
 clear cc18
 refine hK18 _ _ ?_; clear hK18 K18
 (try simp only [zP, zN, zA, zB, zC])
 refine pu_ (v := .bool true) (y_pick (t := true) (by rfl) rfl (by rfl) (by rfl)) ?_
 (try simp only [zP, zN, zA, zB, zC])
 refine pu_ (v := .bool true) (y_assign rfl (by rfl) (by rfl)) ?_
 (try simp only [zP, zN, zA, zB, zC])
 refine nl_ (hK17 _ _ ?_); clear hK17 K17
 refine wp_ret ?_
 refine hQ _ _ _ ?_
 refine bodyPost_ret (res1 rfl (rdv_tmp (v := .bool true) (by rfl))) rfl ?_
 exact ⟨rfl, C0.out⟩
theorem take_some (w : World) (base b g n c : Nat) (e : Ev) (T : List Ev) (last : Int) (over done : Bool) (FB : Hid (Blk w b #[.slice (some ⟨g, 0, none⟩) n c, .int .u64 last, .bool over, .bool done] 70)) (OV : Hid (OwnS w base 56 15 (.slice (some ⟨g, 0, none⟩) n c) n ((e :: T).flatMap evC))) (hn : n = T.length + 1) (hbase : base ≤ w.heap.size) (hL : n ≤ 1000) :
  Calls Try.prog 22 #[.pointer (some ⟨b, 0, none⟩)] w (fun en w' => ∃ v', en = .returned (.tuple #[.agg (evA e), .bool true]) ∧ Blk w' b #[v', .int .u64 last, .bool over, .bool done] 70 ∧ OwnS w' base 56 15 v' (T).length ((T).flatMap evC) ∧ Ch (b :: rl (.slice (some ⟨g, 0, none⟩) n c)) w w' ∧ ∀ k, k ∈ rl v' → k ∈ b :: rl (.slice (some ⟨g, 0, none⟩) n c) ∨ w.heap.size ≤ k) := by
 have C0 := Lib.hid (Ch.refl (b :: rl (.slice (some ⟨g, 0, none⟩) n c)) w)
 have HN := Lib.hid hn
 have DP := Lib.hid (show 0 < n by omega)
 have D0 := Lib.hid (show ¬ n = 0 by omega)
 obtain ⟨A, cA, hs, hcn, hcm⟩ := OV.out.slice
 obtain ⟨A1, c1, hSL, hT, _, _⟩ := slice_tail g 0 n c (by omega) (by injection hs with _ _ h; omega) (by injection hs with _ _ h; omega)
 have SL := Lib.hid hSL
 have HT := Lib.hid (show 0 < T.length → A1 = ⟨g, 15, none⟩ from fun h => by have := hT (by omega); simpa using this)
 rw [show n - 1 = T.length by omega] at SL
 clear hs hSL hT hn
 go_enter Try.func22, Try.ntmps22
 refine q_ (fun Q hQ hP => ?_)
 refine s_ (fun K1 hK1 => ?_)
 refine ef_ (fun K2 hK2 => ?_)
 refine e_alloc (by rfl) rfl rfl (cs := #[.int .i64 0, .int .u64 0, .int .i64 0, .int .u64 0, .string ⟨#[]⟩, .slice none 0 0, .slice none 0 0, .slice none 0 0, .int .i64 0, .int .i64 0, .int .i64 0, .int .i64 0, .slice none 0 0, .int .i64 0, .int .i64 0]) (by kernel_rfl) ?_
 rintro g3 w4 HG5 B6 C7
 have nr8 := Lib.hid (OV.out.ne_new HG5)
 have nw9 := Lib.hid (show w.heap.size ≤ g3 by have := C0.out.size; have := HG5.out; omega)
 have FB' := Lib.hid (show Blk w4 b (#[.slice (some ⟨g, 0, none⟩) n c, .int .u64 last, .bool over, .bool done]) 70 from C7.blk FB.out nin_nil)
 have OV' := Lib.hid (show OwnS w4 base 56 15 (.slice (some ⟨g, 0, none⟩) n c) (n) ((e :: T).flatMap evC) from OV.out.ch C7 rnin_nil)
 have C0' := Lib.hid (show Ch (b :: rl (.slice (some ⟨g, 0, none⟩) n c)) w w4 from C0.out.trans' C7 (fun x hx => absurd hx (by simp)))
 clear FB OV C0
 have FB := FB'; clear FB'
 have OV := OV'; clear OV'
 have C0 := C0'; clear C0'
 have Fg3 := Lib.hid (show Blk w4 g3 (#[.int .i64 0, .int .u64 0, .int .i64 0, .int .u64 0, .string ⟨#[]⟩, .slice none 0 0, .slice none 0 0, .slice none 0 0, .int .i64 0, .int .i64 0, .int .i64 0, .int .i64 0, .slice none 0 0, .int .i64 0, .int .i64 0]) 56 from B6); clear B6 C7
 refine hK2 _ _ ?_; clear hK2 K2
 (try simp only [zP, zN, zA, zB, zC])
 refine pu_ (v := .bool false) (y_assign rfl (by rfl) (by rfl)) ?_
 (try simp only [zP, zN, zA, zB, zC])
 refine nl_ (hK1 _ _ ?_); clear hK1 K1
 refine sq_ (fun K10 hK10 => ?_)
 refine s_ (fun K11 hK11 => ?_)
 refine pu_ (v := .pointer (some ⟨b, 0, none⟩)) (y_move rfl (by rfl) (by rfl)) ?_
 (try simp only [zP, zN, zA, zB, zC])
 refine pu_ (v := .pointer (some ⟨b, 0, none⟩)) (y_nil rfl (by rfl) (by rfl)) ?_
 (try simp only [zP, zN, zA, zB, zC])
 refine pu_ (v := .pointer (some ⟨b, 0, none⟩)) (y_run (by rfl) (fun W => by go_simp)) ?_
 (try simp only [zP, zN, zA, zB, zC])
 refine ld_ (v := .slice (some ⟨g, 0, none⟩) n c) rfl (by rfl) (by rfl) (run_load_one ((FB.out.cell 0).trans rfl) Try.underlying41 rfl) ?_
 (try simp only [zP, zN, zA, zB, zC])
 refine pu_ (v := .int .i64 n) (y_run (by rfl) (fun W => by go_simp)) ?_
 (try simp only [zP, zN, zA, zB, zC])
 refine pu_ (v := .bool true) (y_run (by rfl) (fun W => by have d := DP.out; go_simp)) ?_
 (try simp only [zP, zN, zA, zB, zC])
 refine nl_ (hK11 _ _ ?_); clear hK11 K11
 refine wp_cond_true rfl ?_
 refine s_ (fun K12 hK12 => ?_)
 refine pu_ (v := .pointer (some ⟨b, 0, none⟩)) (y_move rfl (by rfl) (by rfl)) ?_
 (try simp only [zP, zN, zA, zB, zC])
 refine pu_ (v := .pointer (some ⟨b, 0, none⟩)) (y_nil rfl (by rfl) (by rfl)) ?_
 (try simp only [zP, zN, zA, zB, zC])
 refine pu_ (v := .pointer (some ⟨b, 0, none⟩)) (y_run (by rfl) (fun W => by go_simp)) ?_
 (try simp only [zP, zN, zA, zB, zC])
 refine ld_ (v := .slice (some ⟨g, 0, none⟩) n c) rfl (by rfl) (by rfl) (run_load_one ((FB.out.cell 0).trans rfl) Try.underlying41 rfl) ?_
 (try simp only [zP, zN, zA, zB, zC])
 refine pu_ (v := .pointer (some ⟨g, 0, none⟩)) (y_run (by rfl) (fun W => by have d := DP.out; have d0 := D0.out; go_simp)) ?_
 (try simp only [zP, zN, zA, zB, zC])
 refine ld_ (v := .agg (evA e)) rfl (by rfl) (by rfl) (run_loadVar_at (cs := evC e) (own_head OV.out HN.out) Try.underlying56 rfl (by kernel_rfl)) ?_
 (try simp only [zP, zN, zA, zB, zC])
 refine ef_ (fun K13 hK13 => ?_)
 refine e_alloc (by rfl) rfl rfl (cs := #[.int .i64 0, .int .u64 0, .int .i64 0, .int .u64 0, .string ⟨#[]⟩, .slice none 0 0, .slice none 0 0, .slice none 0 0, .int .i64 0, .int .i64 0, .int .i64 0, .int .i64 0, .slice none 0 0, .int .i64 0, .int .i64 0]) (by kernel_rfl) ?_
 rintro g14 w15 HG16 B17 C18
 have nr19 := Lib.hid (OV.out.ne_new HG16)
 have nw20 := Lib.hid (show w.heap.size ≤ g14 by have := C0.out.size; have := HG16.out; omega)
 have ne21 := Lib.hid (Fg3.out.ne_new HG16)
 have FB' := Lib.hid (show Blk w15 b (#[.slice (some ⟨g, 0, none⟩) n c, .int .u64 last, .bool over, .bool done]) 70 from C18.blk FB.out nin_nil)
 have OV' := Lib.hid (show OwnS w15 base 56 15 (.slice (some ⟨g, 0, none⟩) n c) (n) ((e :: T).flatMap evC) from OV.out.ch C18 rnin_nil)
 have C0' := Lib.hid (show Ch (b :: rl (.slice (some ⟨g, 0, none⟩) n c)) w w15 from C0.out.trans' C18 (fun x hx => absurd hx (by simp)))
 have Fg3' := Lib.hid (show Blk w15 g3 (#[.int .i64 0, .int .u64 0, .int .i64 0, .int .u64 0, .string ⟨#[]⟩, .slice none 0 0, .slice none 0 0, .slice none 0 0, .int .i64 0, .int .i64 0, .int .i64 0, .int .i64 0, .slice none 0 0, .int .i64 0, .int .i64 0]) 56 from C18.blk Fg3.out nin_nil)
 clear FB OV C0 Fg3
 have FB := FB'; clear FB'
 have OV := OV'; clear OV'
 have C0 := C0'; clear C0'
 have Fg3 := Fg3'; clear Fg3'
 have Fg14 := Lib.hid (show Blk w15 g14 (#[.int .i64 0, .int .u64 0, .int .i64 0, .int .u64 0, .string ⟨#[]⟩, .slice none 0 0, .slice none 0 0, .slice none 0 0, .int .i64 0, .int .i64 0, .int .i64 0, .int .i64 0, .slice none 0 0, .int .i64 0, .int .i64 0]) 56 from B17); clear B17 C18
 refine hK13 _ _ ?_; clear hK13 K13
 (try simp only [zP, zN, zA, zB, zC])
 refine ef_ (fun K22 hK22 => ?_)
 refine e_storeN (cells := (evA e)) (by rfl) rfl rfl (by rfl) (by rfl) Fg14.out (by kernel_rfl) (by rfl) (ones_cons rfl (ones_cons rfl (ones_cons rfl (ones_cons rfl (ones_cons rfl (ones_cons rfl (ones_cons rfl (ones_cons rfl (ones_cons rfl (ones_cons rfl (ones_cons rfl (ones_cons rfl (ones_cons rfl (ones_cons rfl (ones_cons rfl ones_nil))))))))))))))) ?_
 rintro w23 B24 C25
 have FB' := Lib.hid (show Blk w23 b (#[.slice (some ⟨g, 0, none⟩) n c, .int .u64 last, .bool over, .bool done]) 70 from C25.blk FB.out (nin_cons (Blk.ne_type FB.out Fg14.out (by decide)) nin_nil))
 have OV' := Lib.hid (show OwnS w23 base 56 15 (.slice (some ⟨g, 0, none⟩) n c) (n) ((e :: T).flatMap evC) from OV.out.ch C25 (rnin_cons nr19.out rnin_nil))
 have C0' := Lib.hid (show Ch (b :: rl (.slice (some ⟨g, 0, none⟩) n c)) w w23 from C0.out.trans' C25 (inw_cons (.inr nw20.out) inw_nil))
 have Fg3' := Lib.hid (show Blk w23 g3 (#[.int .i64 0, .int .u64 0, .int .i64 0, .int .u64 0, .string ⟨#[]⟩, .slice none 0 0, .slice none 0 0, .slice none 0 0, .int .i64 0, .int .i64 0, .int .i64 0, .int .i64 0, .slice none 0 0, .int .i64 0, .int .i64 0]) 56 from C25.blk Fg3.out (nin_cons ne21.out nin_nil))
 clear FB OV C0 Fg3
 have FB := FB'; clear FB'
 have OV := OV'; clear OV'
 have C0 := C0'; clear C0'
 have Fg3 := Fg3'; clear Fg3'
 clear Fg14; have Fg14 := Lib.hid (show Blk w23 g14 ((evA e)) 56 from B24); clear B24 C25
 refine hK22 _ _ ?_; clear hK22 K22
 (try simp only [zP, zN, zA, zB, zC])
 refine nl_ (hK12 _ _ ?_); clear hK12 K12
 refine s_ (fun K26 hK26 => ?_)
 refine pu_ (v := .pointer (some ⟨b, 0, none⟩)) (y_move rfl (by rfl) (by rfl)) ?_
 (try simp only [zP, zN, zA, zB, zC])
 refine pu_ (v := .pointer (some ⟨b, 0, none⟩)) (y_move rfl (by rfl) (by rfl)) ?_
 (try simp only [zP, zN, zA, zB, zC])
 refine pu_ (v := .pointer (some ⟨b, 0, none⟩)) (y_nil rfl (by rfl) (by rfl)) ?_
 (try simp only [zP, zN, zA, zB, zC])
 refine pu_ (v := .pointer (some ⟨b, 0, none⟩)) (y_run (by rfl) (fun W => by go_simp)) ?_
 (try simp only [zP, zN, zA, zB, zC])
 refine ld_ (v := .slice (some ⟨g, 0, none⟩) n c) rfl (by rfl) (by rfl) (run_load_one ((FB.out.cell 0).trans rfl) Try.underlying41 rfl) ?_
 (try simp only [zP, zN, zA, zB, zC])
 refine pu_ (v := .slice (some A1) T.length c1) (y_run (by rfl) (fun W => by have h := SL.out; go_simp)) ?_
 (try simp only [zP, zN, zA, zB, zC])
 refine ef_ (fun K27 hK27 => ?_)
 have hwk := C0.out.size
 refine e_call Try.func32 (by kernel_rfl) rfl #[.slice (some A1) T.length c1] (by rfl) rfl rfl (by first | rfl | (simp only [List.map_toArray, List.map_cons, List.map_nil]; first | done | rfl)) (clone_any _ A1 _ c1 _ (Lib.hid (own_tail OV.out HN.out HT.out)) (flat_one evC_one T) (by have := HN.out; omega)) ?_
 rintro en w32 ⟨v28, rfl, ho30, cc29, hr31⟩
 refine ⟨_, rfl, ?_⟩
 have rr33 := Lib.hid (show ∀ k, k ∈ rl (.slice (some ⟨g, 0, none⟩) n c) → k ∉ rl v28 from fun k hk hm => by have := hr31 k hm; have := (OV.out.lt k hk).2; omega)
 have rw34 := Lib.hid (show ∀ x, x ∈ rl v28 → x ∈ (b :: rl (.slice (some ⟨g, 0, none⟩) n c)) ∨ w.heap.size ≤ x from fun x hx => .inr (by have := hr31 x hx; have := C0.out.size; omega))
 have nr35 := Lib.hid (show g3 ∉ rl v28 from fun hk => by have := hr31 _ hk; have := Fg3.out.lt; omega)
 have nr36 := Lib.hid (show g14 ∉ rl v28 from fun hk => by have := hr31 _ hk; have := Fg14.out.lt; omega)
 have FB' := Lib.hid (show Blk w32 b (#[.slice (some ⟨g, 0, none⟩) n c, .int .u64 last, .bool over, .bool done]) 70 from cc29.blk FB.out nin_nil)
 have C0' := Lib.hid (show Ch (b :: rl (.slice (some ⟨g, 0, none⟩) n c)) w w32 from C0.out.trans' cc29 (fun x hx => absurd hx (by simp)))
 have Fg3' := Lib.hid (show Blk w32 g3 (#[.int .i64 0, .int .u64 0, .int .i64 0, .int .u64 0, .string ⟨#[]⟩, .slice none 0 0, .slice none 0 0, .slice none 0 0, .int .i64 0, .int .i64 0, .int .i64 0, .int .i64 0, .slice none 0 0, .int .i64 0, .int .i64 0]) 56 from cc29.blk Fg3.out nin_nil)
 have Fg14' := Lib.hid (show Blk w32 g14 ((evA e)) 56 from cc29.blk Fg14.out nin_nil)
 clear FB C0 Fg3 Fg14
 have FB := FB'; clear FB'
 have C0 := C0'; clear C0'
 have Fg3 := Fg3'; clear Fg3'
 have Fg14 := Fg14'; clear Fg14'
 clear OV
 clear cc29
 have OV := Lib.hid (show OwnS w32 base 56 15 (v28) (T.length) (T.flatMap evC) from ho30.lower (by omega))
 refine hK27 _ _ ?_; clear hK27 K27
 (try simp only [zP, zN, zA, zB, zC])
 refine pu_ (v := .pointer (some ⟨b, 0, none⟩)) (y_nil rfl (by rfl) (by rfl)) ?_
 (try simp only [zP, zN, zA, zB, zC])
 refine pu_ (v := .pointer (some ⟨b, 0, none⟩)) (y_run (by rfl) (fun W => by go_simp)) ?_
 (try simp only [zP, zN, zA, zB, zC])
 refine ef_ (fun K37 hK37 => ?_)
 refine e_store1 (b := b) (j := 0) (v := v28) (by rfl) rfl rfl (by rfl) (by rfl) FB.out (show 0 < 4 by omega) (by kernel_rfl) OV.out.one ?_
 rintro w38 B39 C40
 have C0' := Lib.hid (show Ch (b :: rl (.slice (some ⟨g, 0, none⟩) n c)) w w38 from C0.out.trans' C40 (inw_cons (.inl List.mem_cons_self) inw_nil))
 have Fg3' := Lib.hid (show Blk w38 g3 (#[.int .i64 0, .int .u64 0, .int .i64 0, .int .u64 0, .string ⟨#[]⟩, .slice none 0 0, .slice none 0 0, .slice none 0 0, .int .i64 0, .int .i64 0, .int .i64 0, .int .i64 0, .slice none 0 0, .int .i64 0, .int .i64 0]) 56 from C40.blk Fg3.out (nin_cons (Blk.ne_type Fg3.out FB.out (by decide)) nin_nil))
 have Fg14' := Lib.hid (show Blk w38 g14 ((evA e)) 56 from C40.blk Fg14.out (nin_cons (Blk.ne_type Fg14.out FB.out (by decide)) nin_nil))
 have OV' := Lib.hid (show OwnS w38 base 56 15 (v28) (T.length) (T.flatMap evC) from OV.out.ch C40 (rnin_cons (OV.out.ne FB.out (by decide)) rnin_nil))
 clear C0 Fg3 Fg14 OV
 have C0 := C0'; clear C0'
 have Fg3 := Fg3'; clear Fg3'
 have Fg14 := Fg14'; clear Fg14'
 have OV := OV'; clear OV'
 clear FB; have FB := Lib.hid (show Blk w38 b (#[v28, .int .u64 last, .bool over, .bool done]) 70 from B39); clear B39 C40
 refine hK37 _ _ ?_; clear hK37 K37
 (try simp only [zP, zN, zA, zB, zC])
 refine nl_ (hK26 _ _ ?_); clear hK26 K26
 refine s_ (fun K41 hK41 => ?_)
 refine ld_ (v := .agg ((evA e))) rfl (by rfl) (by rfl) (run_loadVar_row _ _ 56 56 ((evA e)) (0, 0) _ Fg14.out Try.underlying56 rfl (by kernel_rfl)) ?_
 (try simp only [zP, zN, zA, zB, zC])
 refine ef_ (fun K42 hK42 => ?_)
 refine e_storeN (cells := ((evA e))) (by rfl) rfl rfl (by rfl) (by rfl) Fg3.out (by kernel_rfl) (by rfl) (ones_cons rfl (ones_cons rfl (ones_cons rfl (ones_cons rfl (ones_cons rfl (ones_cons rfl (ones_cons rfl (ones_cons rfl (ones_cons rfl (ones_cons rfl (ones_cons rfl (ones_cons rfl (ones_cons rfl (ones_cons rfl (ones_cons rfl ones_nil))))))))))))))) ?_
 rintro w43 B44 C45
 have FB' := Lib.hid (show Blk w43 b (#[v28, .int .u64 last, .bool over, .bool done]) 70 from C45.blk FB.out (nin_cons (Blk.ne_type FB.out Fg3.out (by decide)) nin_nil))
 have C0' := Lib.hid (show Ch (b :: rl (.slice (some ⟨g, 0, none⟩) n c)) w w43 from C0.out.trans' C45 (inw_cons (.inr nw9.out) inw_nil))
 have Fg14' := Lib.hid (show Blk w43 g14 ((evA e)) 56 from C45.blk Fg14.out (nin_cons (Ne.symm ne21.out) nin_nil))
 have OV' := Lib.hid (show OwnS w43 base 56 15 (v28) (T.length) (T.flatMap evC) from OV.out.ch C45 (rnin_cons nr35.out rnin_nil))
 clear FB C0 Fg14 OV
 have FB := FB'; clear FB'
 have C0 := C0'; clear C0'
 have Fg14 := Fg14'; clear Fg14'
 have OV := OV'; clear OV'
 clear Fg3; have Fg3 := Lib.hid (show Blk w43 g3 (((evA e))) 56 from B44); clear B44 C45
 refine hK42 _ _ ?_; clear hK42 K42
 (try simp only [zP, zN, zA, zB, zC])
 refine pu_ (v := .bool true) (y_assign rfl (by rfl) (by rfl)) ?_
 (try simp only [zP, zN, zA, zB, zC])
 refine nl_ (hK41 _ _ ?_); clear hK41 K41
 refine wp_ret ?_
 refine th_ret ?_
 refine hQ _ _ _ ?_
 refine bodyPost_ret (res2 rfl (rdv_cell (by rfl) (run_loadVar_row _ _ 56 56 (((evA e))) (0, 0) _ Fg3.out Try.underlying56 rfl (by kernel_rfl))) (rdv_tmp (v := .bool true) (by rfl))) rfl ?_
 exact ⟨_, rfl, FB.out, OV.out, C0.out, rw34.out⟩
theorem take_none_true_true (w : World) (base b : Nat) (A : Option Addr) (c : Nat) (last : Int) (FB : Hid (Blk w b #[.slice A 0 c, .int .u64 last, .bool true, .bool true] 70)) :
  Calls Try.prog 22 #[.pointer (some ⟨b, 0, none⟩)] w (fun en w' => en = .returned (.tuple #[.agg (evA ⟨0, 0, 0, 0⟩), .bool false]) ∧ Blk w' b #[.slice A 0 c, .int .u64 last, .bool true, .bool true] 70 ∧ Ch [b] w w') := by
 have C0 := Lib.hid (Ch.refl [b] w)
 go_enter Try.func22, Try.ntmps22
 refine q_ (fun Q hQ hP => ?_)
 refine s_ (fun K1 hK1 => ?_)
 refine ef_ (fun K2 hK2 => ?_)
 refine e_alloc (by rfl) rfl rfl (cs := #[.int .i64 0, .int .u64 0, .int .i64 0, .int .u64 0, .string ⟨#[]⟩, .slice none 0 0, .slice none 0 0, .slice none 0 0, .int .i64 0, .int .i64 0, .int .i64 0, .int .i64 0, .slice none 0 0, .int .i64 0, .int .i64 0]) (by kernel_rfl) ?_
 rintro g3 w4 HG5 B6 C7
 have nw8 := Lib.hid (show w.heap.size ≤ g3 by have := C0.out.size; have := HG5.out; omega)
 have FB' := Lib.hid (show Blk w4 b (#[.slice A 0 c, .int .u64 last, .bool true, .bool true]) 70 from C7.blk FB.out nin_nil)
 have C0' := Lib.hid (show Ch [b] w w4 from C0.out.trans' C7 (fun x hx => absurd hx (by simp)))
 clear FB C0
 have FB := FB'; clear FB'
 have C0 := C0'; clear C0'
 have Fg3 := Lib.hid (show Blk w4 g3 (#[.int .i64 0, .int .u64 0, .int .i64 0, .int .u64 0, .string ⟨#[]⟩, .slice none 0 0, .slice none 0 0, .slice none 0 0, .int .i64 0, .int .i64 0, .int .i64 0, .int .i64 0, .slice none 0 0, .int .i64 0, .int .i64 0]) 56 from B6); clear B6 C7
 refine hK2 _ _ ?_; clear hK2 K2
 (try simp only [zP, zN, zA, zB, zC])
 refine pu_ (v := .bool false) (y_assign rfl (by rfl) (by rfl)) ?_
 (try simp only [zP, zN, zA, zB, zC])
 refine nl_ (hK1 _ _ ?_); clear hK1 K1
 refine sq_ (fun K9 hK9 => ?_)
 refine s_ (fun K10 hK10 => ?_)
 refine pu_ (v := .pointer (some ⟨b, 0, none⟩)) (y_move rfl (by rfl) (by rfl)) ?_
 (try simp only [zP, zN, zA, zB, zC])
 refine pu_ (v := .pointer (some ⟨b, 0, none⟩)) (y_nil rfl (by rfl) (by rfl)) ?_
 (try simp only [zP, zN, zA, zB, zC])
 refine pu_ (v := .pointer (some ⟨b, 0, none⟩)) (y_run (by rfl) (fun W => by go_simp)) ?_
 (try simp only [zP, zN, zA, zB, zC])
 refine ld_ (v := .slice A 0 c) rfl (by rfl) (by rfl) (run_load_one ((FB.out.cell 0).trans rfl) Try.underlying41 rfl) ?_
 (try simp only [zP, zN, zA, zB, zC])
 refine pu_ (v := .int .i64 0) (y_run (by rfl) (fun W => by go_simp)) ?_
 (try simp only [zP, zN, zA, zB, zC])
 refine pu_ (v := .bool false) (y_run (by rfl) (fun W => by go_simp)) ?_
 (try simp only [zP, zN, zA, zB, zC])
 refine nl_ (hK10 _ _ ?_); clear hK10 K10
 refine wp_cond_false rfl ?_
 refine wp_skip ?_
 refine th_norm (hK9 _ _ ?_); try clear hK9 K9
 refine sq_ (fun K11 hK11 => ?_)
 refine s_ (fun K12 hK12 => ?_)
 refine pu_ (v := .pointer (some ⟨b, 0, none⟩)) (y_move rfl (by rfl) (by rfl)) ?_
 (try simp only [zP, zN, zA, zB, zC])
 refine pu_ (v := .pointer (some ⟨b, 0, none⟩)) (y_nil rfl (by rfl) (by rfl)) ?_
 (try simp only [zP, zN, zA, zB, zC])
 refine pu_ (v := .pointer (some ⟨b, 2, none⟩)) (y_run (by rfl) (fun W => by go_simp)) ?_
 (try simp only [zP, zN, zA, zB, zC])
 refine ld_ (v := .bool true) rfl (by rfl) (by rfl) (run_load_one ((FB.out.cell 2).trans rfl) Try.underlying4 rfl) ?_
 (try simp only [zP, zN, zA, zB, zC])
 refine pu_ (v := .bool false) (y_run (by rfl) (fun W => by go_simp)) ?_
 (try simp only [zP, zN, zA, zB, zC])
 refine pu_ (v := .bool false) (y_move rfl (by rfl) (by rfl)) ?_
 (try simp only [zP, zN, zA, zB, zC])
 refine pu_ (v := .pointer (some ⟨b, 0, none⟩)) (y_move rfl (by rfl) (by rfl)) ?_
 (try simp only [zP, zN, zA, zB, zC])
 refine pu_ (v := .pointer (some ⟨b, 0, none⟩)) (y_nil rfl (by rfl) (by rfl)) ?_
 (try simp only [zP, zN, zA, zB, zC])
 refine pu_ (v := .pointer (some ⟨b, 3, none⟩)) (y_run (by rfl) (fun W => by go_simp)) ?_
 (try simp only [zP, zN, zA, zB, zC])
 refine ld_ (v := .bool true) rfl (by rfl) (by rfl) (run_load_one ((FB.out.cell 3).trans rfl) Try.underlying4 rfl) ?_
 (try simp only [zP, zN, zA, zB, zC])
 refine pu_ (v := .bool true) (y_pick (t := false) (by rfl) rfl (by rfl) (by rfl)) ?_
 (try simp only [zP, zN, zA, zB, zC])
 refine nl_ (hK12 _ _ ?_); clear hK12 K12
 refine wp_cond_true rfl ?_
 refine s_ (fun K13 hK13 => ?_)
 refine pu_ (v := .agg #[.int .i64 0, .int .u64 0, .int .i64 0, .int .u64 0, .string ⟨#[]⟩, .slice none 0 0, .slice none 0 0, .slice none 0 0, .int .i64 0, .int .i64 0, .int .i64 0, .int .i64 0, .slice none 0 0, .int .i64 0, .int .i64 0]) (y_build (vs := #[]) (by rfl) rfl (by first | rfl | (simp only [List.map_toArray, List.map_cons, List.map_nil]; first | done | rfl)) (by kernel_rfl)) ?_
 (try simp only [zP, zN, zA, zB, zC])
 refine ef_ (fun K14 hK14 => ?_)
 refine e_storeN (cells := #[.int .i64 0, .int .u64 0, .int .i64 0, .int .u64 0, .string ⟨#[]⟩, .slice none 0 0, .slice none 0 0, .slice none 0 0, .int .i64 0, .int .i64 0, .int .i64 0, .int .i64 0, .slice none 0 0, .int .i64 0, .int .i64 0]) (by rfl) rfl rfl (by rfl) (by rfl) Fg3.out (by kernel_rfl) (by rfl) (ones_cons rfl (ones_cons rfl (ones_cons rfl (ones_cons rfl (ones_cons rfl (ones_cons rfl (ones_cons rfl (ones_cons rfl (ones_cons rfl (ones_cons rfl (ones_cons rfl (ones_cons rfl (ones_cons rfl (ones_cons rfl (ones_cons rfl ones_nil))))))))))))))) ?_
 rintro w15 B16 C17
 have FB' := Lib.hid (show Blk w15 b (#[.slice A 0 c, .int .u64 last, .bool true, .bool true]) 70 from C17.blk FB.out (nin_cons (Blk.ne_type FB.out Fg3.out (by decide)) nin_nil))
 have C0' := Lib.hid (show Ch [b] w w15 from C0.out.trans' C17 (inw_cons (.inr nw8.out) inw_nil))
 clear FB C0
 have FB := FB'; clear FB'
 have C0 := C0'; clear C0'
 clear Fg3; have Fg3 := Lib.hid (show Blk w15 g3 (#[.int .i64 0, .int .u64 0, .int .i64 0, .int .u64 0, .string ⟨#[]⟩, .slice none 0 0, .slice none 0 0, .slice none 0 0, .int .i64 0, .int .i64 0, .int .i64 0, .int .i64 0, .slice none 0 0, .int .i64 0, .int .i64 0]) 56 from B16); clear B16 C17
 refine hK14 _ _ ?_; clear hK14 K14
 (try simp only [zP, zN, zA, zB, zC])
 refine pu_ (v := .bool false) (y_assign rfl (by rfl) (by rfl)) ?_
 (try simp only [zP, zN, zA, zB, zC])
 refine nl_ (hK13 _ _ ?_); clear hK13 K13
 refine wp_ret ?_
 refine th_ret ?_
 refine hQ _ _ _ ?_
 refine bodyPost_ret (res2 rfl (rdv_cell (by rfl) (run_loadVar_row _ _ 56 56 (#[.int .i64 0, .int .u64 0, .int .i64 0, .int .u64 0, .string ⟨#[]⟩, .slice none 0 0, .slice none 0 0, .slice none 0 0, .int .i64 0, .int .i64 0, .int .i64 0, .int .i64 0, .slice none 0 0, .int .i64 0, .int .i64 0]) (0, 0) _ Fg3.out Try.underlying56 rfl (by kernel_rfl))) (rdv_tmp (v := .bool false) (by rfl))) rfl ?_
 exact ⟨rfl, FB.out, C0.out⟩
theorem take_none_true_false (w : World) (base b : Nat) (A : Option Addr) (c : Nat) (last : Int) (FB : Hid (Blk w b #[.slice A 0 c, .int .u64 last, .bool true, .bool false] 70)) :
  Calls Try.prog 22 #[.pointer (some ⟨b, 0, none⟩)] w (fun en w' => en = .returned (.tuple #[.agg (evA ⟨5, last, 0, 0⟩), .bool true]) ∧ Blk w' b #[.slice A 0 c, .int .u64 last, .bool true, .bool true] 70 ∧ Ch [b] w w') := by
 have C0 := Lib.hid (Ch.refl [b] w)
 go_enter Try.func22, Try.ntmps22
 refine q_ (fun Q hQ hP => ?_)
 refine s_ (fun K1 hK1 => ?_)
 refine ef_ (fun K2 hK2 => ?_)
 refine e_alloc (by rfl) rfl rfl (cs := #[.int .i64 0, .int .u64 0, .int .i64 0, .int .u64 0, .string ⟨#[]⟩, .slice none 0 0, .slice none 0 0, .slice none 0 0, .int .i64 0, .int .i64 0, .int .i64 0, .int .i64 0, .slice none 0 0, .int .i64 0, .int .i64 0]) (by kernel_rfl) ?_
 rintro g3 w4 HG5 B6 C7
 have nw8 := Lib.hid (show w.heap.size ≤ g3 by have := C0.out.size; have := HG5.out; omega)
 have FB' := Lib.hid (show Blk w4 b (#[.slice A 0 c, .int .u64 last, .bool true, .bool false]) 70 from C7.blk FB.out nin_nil)
 have C0' := Lib.hid (show Ch [b] w w4 from C0.out.trans' C7 (fun x hx => absurd hx (by simp)))
 clear FB C0
 have FB := FB'; clear FB'
 have C0 := C0'; clear C0'
 have Fg3 := Lib.hid (show Blk w4 g3 (#[.int .i64 0, .int .u64 0, .int .i64 0, .int .u64 0, .string ⟨#[]⟩, .slice none 0 0, .slice none 0 0, .slice none 0 0, .int .i64 0, .int .i64 0, .int .i64 0, .int .i64 0, .slice none 0 0, .int .i64 0, .int .i64 0]) 56 from B6); clear B6 C7
 refine hK2 _ _ ?_; clear hK2 K2
 (try simp only [zP, zN, zA, zB, zC])
 refine pu_ (v := .bool false) (y_assign rfl (by rfl) (by rfl)) ?_
 (try simp only [zP, zN, zA, zB, zC])
 refine nl_ (hK1 _ _ ?_); clear hK1 K1
 refine sq_ (fun K9 hK9 => ?_)
 refine s_ (fun K10 hK10 => ?_)
 refine pu_ (v := .pointer (some ⟨b, 0, none⟩)) (y_move rfl (by rfl) (by rfl)) ?_
 (try simp only [zP, zN, zA, zB, zC])
 refine pu_ (v := .pointer (some ⟨b, 0, none⟩)) (y_nil rfl (by rfl) (by rfl)) ?_
 (try simp only [zP, zN, zA, zB, zC])
 refine pu_ (v := .pointer (some ⟨b, 0, none⟩)) (y_run (by rfl) (fun W => by go_simp)) ?_
 (try simp only [zP, zN, zA, zB, zC])
 refine ld_ (v := .slice A 0 c) rfl (by rfl) (by rfl) (run_load_one ((FB.out.cell 0).trans rfl) Try.underlying41 rfl) ?_
 (try simp only [zP, zN, zA, zB, zC])
 refine pu_ (v := .int .i64 0) (y_run (by rfl) (fun W => by go_simp)) ?_
 (try simp only [zP, zN, zA, zB, zC])
 refine pu_ (v := .bool false) (y_run (by rfl) (fun W => by go_simp)) ?_
 (try simp only [zP, zN, zA, zB, zC])
 refine nl_ (hK10 _ _ ?_); clear hK10 K10
 refine wp_cond_false rfl ?_
 refine wp_skip ?_
 refine th_norm (hK9 _ _ ?_); try clear hK9 K9
 refine sq_ (fun K11 hK11 => ?_)
 refine s_ (fun K12 hK12 => ?_)
 refine pu_ (v := .pointer (some ⟨b, 0, none⟩)) (y_move rfl (by rfl) (by rfl)) ?_
 (try simp only [zP, zN, zA, zB, zC])
 refine pu_ (v := .pointer (some ⟨b, 0, none⟩)) (y_nil rfl (by rfl) (by rfl)) ?_
 (try simp only [zP, zN, zA, zB, zC])
 refine pu_ (v := .pointer (some ⟨b, 2, none⟩)) (y_run (by rfl) (fun W => by go_simp)) ?_
 (try simp only [zP, zN, zA, zB, zC])
 refine ld_ (v := .bool true) rfl (by rfl) (by rfl) (run_load_one ((FB.out.cell 2).trans rfl) Try.underlying4 rfl) ?_
 (try simp only [zP, zN, zA, zB, zC])
 refine pu_ (v := .bool false) (y_run (by rfl) (fun W => by go_simp)) ?_
 (try simp only [zP, zN, zA, zB, zC])
 refine pu_ (v := .bool false) (y_move rfl (by rfl) (by rfl)) ?_
 (try simp only [zP, zN, zA, zB, zC])
 refine pu_ (v := .pointer (some ⟨b, 0, none⟩)) (y_move rfl (by rfl) (by rfl)) ?_
 (try simp only [zP, zN, zA, zB, zC])
 refine pu_ (v := .pointer (some ⟨b, 0, none⟩)) (y_nil rfl (by rfl) (by rfl)) ?_
 (try simp only [zP, zN, zA, zB, zC])
 refine pu_ (v := .pointer (some ⟨b, 3, none⟩)) (y_run (by rfl) (fun W => by go_simp)) ?_
 (try simp only [zP, zN, zA, zB, zC])
 refine ld_ (v := .bool false) rfl (by rfl) (by rfl) (run_load_one ((FB.out.cell 3).trans rfl) Try.underlying4 rfl) ?_
 (try simp only [zP, zN, zA, zB, zC])
 refine pu_ (v := .bool false) (y_pick (t := false) (by rfl) rfl (by rfl) (by rfl)) ?_
 (try simp only [zP, zN, zA, zB, zC])
 refine nl_ (hK12 _ _ ?_); clear hK12 K12
 refine wp_cond_false rfl ?_
 refine wp_skip ?_
 refine th_norm (hK11 _ _ ?_); try clear hK11 K11
 refine s_ (fun K13 hK13 => ?_)
 refine pu_ (v := .pointer (some ⟨b, 0, none⟩)) (y_move rfl (by rfl) (by rfl)) ?_
 (try simp only [zP, zN, zA, zB, zC])
 refine pu_ (v := .pointer (some ⟨b, 0, none⟩)) (y_nil rfl (by rfl) (by rfl)) ?_
 (try simp only [zP, zN, zA, zB, zC])
 refine pu_ (v := .pointer (some ⟨b, 3, none⟩)) (y_run (by rfl) (fun W => by go_simp)) ?_
 (try simp only [zP, zN, zA, zB, zC])
 refine ef_ (fun K14 hK14 => ?_)
 refine e_store1 (b := b) (j := 3) (v := .bool true) (by rfl) rfl rfl (by rfl) (by rfl) FB.out (show 3 < 4 by omega) (by kernel_rfl) rfl ?_
 rintro w15 B16 C17
 have C0' := Lib.hid (show Ch [b] w w15 from C0.out.trans' C17 (inw_cons (.inl List.mem_cons_self) inw_nil))
 have Fg3' := Lib.hid (show Blk w15 g3 (#[.int .i64 0, .int .u64 0, .int .i64 0, .int .u64 0, .string ⟨#[]⟩, .slice none 0 0, .slice none 0 0, .slice none 0 0, .int .i64 0, .int .i64 0, .int .i64 0, .int .i64 0, .slice none 0 0, .int .i64 0, .int .i64 0]) 56 from C17.blk Fg3.out (nin_cons (Blk.ne_type Fg3.out FB.out (by decide)) nin_nil))
 clear C0 Fg3
 have C0 := C0'; clear C0'
 have Fg3 := Fg3'; clear Fg3'
 clear FB; have FB := Lib.hid (show Blk w15 b (#[.slice A 0 c, .int .u64 last, .bool true, .bool true]) 70 from B16); clear B16 C17
 refine hK14 _ _ ?_; clear hK14 K14
 (try simp only [zP, zN, zA, zB, zC])
 refine nl_ (hK13 _ _ ?_); clear hK13 K13
 refine s_ (fun K18 hK18 => ?_)
 refine pu_ (v := .pointer (some ⟨b, 0, none⟩)) (y_move rfl (by rfl) (by rfl)) ?_
 (try simp only [zP, zN, zA, zB, zC])
 refine pu_ (v := .pointer (some ⟨b, 0, none⟩)) (y_nil rfl (by rfl) (by rfl)) ?_
 (try simp only [zP, zN, zA, zB, zC])
 refine pu_ (v := .pointer (some ⟨b, 1, none⟩)) (y_run (by rfl) (fun W => by go_simp)) ?_
 (try simp only [zP, zN, zA, zB, zC])
 refine ld_ (v := .int .u64 last) rfl (by rfl) (by rfl) (run_load_one ((FB.out.cell 1).trans rfl) Try.underlying42 rfl) ?_
 (try simp only [zP, zN, zA, zB, zC])
 refine pu_ (v := .agg #[.int .i64 5, .int .u64 last, .int .i64 0, .int .u64 0, .string ⟨#[]⟩, .slice none 0 0, .slice none 0 0, .slice none 0 0, .int .i64 0, .int .i64 0, .int .i64 0, .int .i64 0, .slice none 0 0, .int .i64 0, .int .i64 0]) (y_build (vs := #[(0, .int .i64 5), (1, .int .u64 last)]) (by rfl) rfl (by first | rfl | (simp only [List.map_toArray, List.map_cons, List.map_nil]; first | done | rfl)) (by kernel_rfl)) ?_
 (try simp only [zP, zN, zA, zB, zC])
 refine ef_ (fun K19 hK19 => ?_)
 refine e_storeN (cells := #[.int .i64 5, .int .u64 last, .int .i64 0, .int .u64 0, .string ⟨#[]⟩, .slice none 0 0, .slice none 0 0, .slice none 0 0, .int .i64 0, .int .i64 0, .int .i64 0, .int .i64 0, .slice none 0 0, .int .i64 0, .int .i64 0]) (by rfl) rfl rfl (by rfl) (by rfl) Fg3.out (by kernel_rfl) (by rfl) (ones_cons rfl (ones_cons rfl (ones_cons rfl (ones_cons rfl (ones_cons rfl (ones_cons rfl (ones_cons rfl (ones_cons rfl (ones_cons rfl (ones_cons rfl (ones_cons rfl (ones_cons rfl (ones_cons rfl (ones_cons rfl (ones_cons rfl ones_nil))))))))))))))) ?_
 rintro w20 B21 C22
 have FB' := Lib.hid (show Blk w20 b (#[.slice A 0 c, .int .u64 last, .bool true, .bool true]) 70 from C22.blk FB.out (nin_cons (Blk.ne_type FB.out Fg3.out (by decide)) nin_nil))
 have C0' := Lib.hid (show Ch [b] w w20 from C0.out.trans' C22 (inw_cons (.inr nw8.out) inw_nil))
 clear FB C0
 have FB := FB'; clear FB'
 have C0 := C0'; clear C0'
 clear Fg3; have Fg3 := Lib.hid (show Blk w20 g3 (#[.int .i64 5, .int .u64 last, .int .i64 0, .int .u64 0, .string ⟨#[]⟩, .slice none 0 0, .slice none 0 0, .slice none 0 0, .int .i64 0, .int .i64 0, .int .i64 0, .int .i64 0, .slice none 0 0, .int .i64 0, .int .i64 0]) 56 from B21); clear B21 C22
 refine hK19 _ _ ?_; clear hK19 K19
 (try simp only [zP, zN, zA, zB, zC])
 refine pu_ (v := .bool true) (y_assign rfl (by rfl) (by rfl)) ?_
 (try simp only [zP, zN, zA, zB, zC])
 refine nl_ (hK18 _ _ ?_); clear hK18 K18
 refine wp_ret ?_
 refine hQ _ _ _ ?_
 refine bodyPost_ret (res2 rfl (rdv_cell (by rfl) (run_loadVar_row _ _ 56 56 (#[.int .i64 5, .int .u64 last, .int .i64 0, .int .u64 0, .string ⟨#[]⟩, .slice none 0 0, .slice none 0 0, .slice none 0 0, .int .i64 0, .int .i64 0, .int .i64 0, .int .i64 0, .slice none 0 0, .int .i64 0, .int .i64 0]) (0, 0) _ Fg3.out Try.underlying56 rfl (by kernel_rfl))) (rdv_tmp (v := .bool true) (by rfl))) rfl ?_
 exact ⟨rfl, FB.out, C0.out⟩
theorem take_none_false_true (w : World) (base b : Nat) (A : Option Addr) (c : Nat) (last : Int) (FB : Hid (Blk w b #[.slice A 0 c, .int .u64 last, .bool false, .bool true] 70)) :
  Calls Try.prog 22 #[.pointer (some ⟨b, 0, none⟩)] w (fun en w' => en = .returned (.tuple #[.agg (evA ⟨0, 0, 0, 0⟩), .bool false]) ∧ Blk w' b #[.slice A 0 c, .int .u64 last, .bool false, .bool true] 70 ∧ Ch [b] w w') := by
 have C0 := Lib.hid (Ch.refl [b] w)
 go_enter Try.func22, Try.ntmps22
 refine q_ (fun Q hQ hP => ?_)
 refine s_ (fun K1 hK1 => ?_)
 refine ef_ (fun K2 hK2 => ?_)
 refine e_alloc (by rfl) rfl rfl (cs := #[.int .i64 0, .int .u64 0, .int .i64 0, .int .u64 0, .string ⟨#[]⟩, .slice none 0 0, .slice none 0 0, .slice none 0 0, .int .i64 0, .int .i64 0, .int .i64 0, .int .i64 0, .slice none 0 0, .int .i64 0, .int .i64 0]) (by kernel_rfl) ?_
 rintro g3 w4 HG5 B6 C7
 have nw8 := Lib.hid (show w.heap.size ≤ g3 by have := C0.out.size; have := HG5.out; omega)
 have FB' := Lib.hid (show Blk w4 b (#[.slice A 0 c, .int .u64 last, .bool false, .bool true]) 70 from C7.blk FB.out nin_nil)
 have C0' := Lib.hid (show Ch [b] w w4 from C0.out.trans' C7 (fun x hx => absurd hx (by simp)))
 clear FB C0
 have FB := FB'; clear FB'
 have C0 := C0'; clear C0'
 have Fg3 := Lib.hid (show Blk w4 g3 (#[.int .i64 0, .int .u64 0, .int .i64 0, .int .u64 0, .string ⟨#[]⟩, .slice none 0 0, .slice none 0 0, .slice none 0 0, .int .i64 0, .int .i64 0, .int .i64 0, .int .i64 0, .slice none 0 0, .int .i64 0, .int .i64 0]) 56 from B6); clear B6 C7
 refine hK2 _ _ ?_; clear hK2 K2
 (try simp only [zP, zN, zA, zB, zC])
 refine pu_ (v := .bool false) (y_assign rfl (by rfl) (by rfl)) ?_
 (try simp only [zP, zN, zA, zB, zC])
 refine nl_ (hK1 _ _ ?_); clear hK1 K1
 refine sq_ (fun K9 hK9 => ?_)
 refine s_ (fun K10 hK10 => ?_)
 refine pu_ (v := .pointer (some ⟨b, 0, none⟩)) (y_move rfl (by rfl) (by rfl)) ?_
 (try simp only [zP, zN, zA, zB, zC])
 refine pu_ (v := .pointer (some ⟨b, 0, none⟩)) (y_nil rfl (by rfl) (by rfl)) ?_
 (try simp only [zP, zN, zA, zB, zC])
 refine pu_ (v := .pointer (some ⟨b, 0, none⟩)) (y_run (by rfl) (fun W => by go_simp)) ?_
 (try simp only [zP, zN, zA, zB, zC])
 refine ld_ (v := .slice A 0 c) rfl (by rfl) (by rfl) (run_load_one ((FB.out.cell 0).trans rfl) Try.underlying41 rfl) ?_
 (try simp only [zP, zN, zA, zB, zC])
 refine pu_ (v := .int .i64 0) (y_run (by rfl) (fun W => by go_simp)) ?_
 (try simp only [zP, zN, zA, zB, zC])
 refine pu_ (v := .bool false) (y_run (by rfl) (fun W => by go_simp)) ?_
 (try simp only [zP, zN, zA, zB, zC])
 refine nl_ (hK10 _ _ ?_); clear hK10 K10
 refine wp_cond_false rfl ?_
 refine wp_skip ?_
 refine th_norm (hK9 _ _ ?_); try clear hK9 K9
 refine sq_ (fun K11 hK11 => ?_)
 refine s_ (fun K12 hK12 => ?_)
 refine pu_ (v := .pointer (some ⟨b, 0, none⟩)) (y_move rfl (by rfl) (by rfl)) ?_
 (try simp only [zP, zN, zA, zB, zC])
 refine pu_ (v := .pointer (some ⟨b, 0, none⟩)) (y_nil rfl (by rfl) (by rfl)) ?_
 (try simp only [zP, zN, zA, zB, zC])
 refine pu_ (v := .pointer (some ⟨b, 2, none⟩)) (y_run (by rfl) (fun W => by go_simp)) ?_
 (try simp only [zP, zN, zA, zB, zC])
 refine ld_ (v := .bool false) rfl (by rfl) (by rfl) (run_load_one ((FB.out.cell 2).trans rfl) Try.underlying4 rfl) ?_
 (try simp only [zP, zN, zA, zB, zC])
 refine pu_ (v := .bool true) (y_run (by rfl) (fun W => by go_simp)) ?_
 (try simp only [zP, zN, zA, zB, zC])
 refine pu_ (v := .bool true) (y_move rfl (by rfl) (by rfl)) ?_
 (try simp only [zP, zN, zA, zB, zC])
 refine pu_ (y_off (by rfl)) ?_
 (try simp only [zP, zN, zA, zB, zC])
 refine pu_ (y_off (by rfl)) ?_
 (try simp only [zP, zN, zA, zB, zC])
 refine pu_ (y_off (by rfl)) ?_
 (try simp only [zP, zN, zA, zB, zC])
 refine pu_ (y_off (by rfl)) ?_
 (try simp only [zP, zN, zA, zB, zC])
 refine pu_ (v := .bool true) (y_pick (t := true) (by rfl) rfl (by rfl) (by rfl)) ?_
 (try simp only [zP, zN, zA, zB, zC])
 refine nl_ (hK12 _ _ ?_); clear hK12 K12
 refine wp_cond_true rfl ?_
 refine s_ (fun K13 hK13 => ?_)
 refine pu_ (v := .agg #[.int .i64 0, .int .u64 0, .int .i64 0, .int .u64 0, .string ⟨#[]⟩, .slice none 0 0, .slice none 0 0, .slice none 0 0, .int .i64 0, .int .i64 0, .int .i64 0, .int .i64 0, .slice none 0 0, .int .i64 0, .int .i64 0]) (y_build (vs := #[]) (by rfl) rfl (by first | rfl | (simp only [List.map_toArray, List.map_cons, List.map_nil]; first | done | rfl)) (by kernel_rfl)) ?_
 (try simp only [zP, zN, zA, zB, zC])
 refine ef_ (fun K14 hK14 => ?_)
 refine e_storeN (cells := #[.int .i64 0, .int .u64 0, .int .i64 0, .int .u64 0, .string ⟨#[]⟩, .slice none 0 0, .slice none 0 0, .slice none 0 0, .int .i64 0, .int .i64 0, .int .i64 0, .int .i64 0, .slice none 0 0, .int .i64 0, .int .i64 0]) (by rfl) rfl rfl (by rfl) (by rfl) Fg3.out (by kernel_rfl) (by rfl) (ones_cons rfl (ones_cons rfl (ones_cons rfl (ones_cons rfl (ones_cons rfl (ones_cons rfl (ones_cons rfl (ones_cons rfl (ones_cons rfl (ones_cons rfl (ones_cons rfl (ones_cons rfl (ones_cons rfl (ones_cons rfl (ones_cons rfl ones_nil))))))))))))))) ?_
 rintro w15 B16 C17
 have FB' := Lib.hid (show Blk w15 b (#[.slice A 0 c, .int .u64 last, .bool false, .bool true]) 70 from C17.blk FB.out (nin_cons (Blk.ne_type FB.out Fg3.out (by decide)) nin_nil))
 have C0' := Lib.hid (show Ch [b] w w15 from C0.out.trans' C17 (inw_cons (.inr nw8.out) inw_nil))
 clear FB C0
 have FB := FB'; clear FB'
 have C0 := C0'; clear C0'
 clear Fg3; have Fg3 := Lib.hid (show Blk w15 g3 (#[.int .i64 0, .int .u64 0, .int .i64 0, .int .u64 0, .string ⟨#[]⟩, .slice none 0 0, .slice none 0 0, .slice none 0 0, .int .i64 0, .int .i64 0, .int .i64 0, .int .i64 0, .slice none 0 0, .int .i64 0, .int .i64 0]) 56 from B16); clear B16 C17
 refine hK14 _ _ ?_; clear hK14 K14
 (try simp only [zP, zN, zA, zB, zC])
 refine pu_ (v := .bool false) (y_assign rfl (by rfl) (by rfl)) ?_
 (try simp only [zP, zN, zA, zB, zC])
 refine nl_ (hK13 _ _ ?_); clear hK13 K13
 refine wp_ret ?_
 refine th_ret ?_
 refine hQ _ _ _ ?_
 refine bodyPost_ret (res2 rfl (rdv_cell (by rfl) (run_loadVar_row _ _ 56 56 (#[.int .i64 0, .int .u64 0, .int .i64 0, .int .u64 0, .string ⟨#[]⟩, .slice none 0 0, .slice none 0 0, .slice none 0 0, .int .i64 0, .int .i64 0, .int .i64 0, .int .i64 0, .slice none 0 0, .int .i64 0, .int .i64 0]) (0, 0) _ Fg3.out Try.underlying56 rfl (by kernel_rfl))) (rdv_tmp (v := .bool false) (by rfl))) rfl ?_
 exact ⟨rfl, FB.out, C0.out⟩
theorem take_none_false_false (w : World) (base b : Nat) (A : Option Addr) (c : Nat) (last : Int) (FB : Hid (Blk w b #[.slice A 0 c, .int .u64 last, .bool false, .bool false] 70)) :
  Calls Try.prog 22 #[.pointer (some ⟨b, 0, none⟩)] w (fun en w' => en = .returned (.tuple #[.agg (evA ⟨0, 0, 0, 0⟩), .bool false]) ∧ Blk w' b #[.slice A 0 c, .int .u64 last, .bool false, .bool false] 70 ∧ Ch [b] w w') := by
 have C0 := Lib.hid (Ch.refl [b] w)
 go_enter Try.func22, Try.ntmps22
 refine q_ (fun Q hQ hP => ?_)
 refine s_ (fun K1 hK1 => ?_)
 refine ef_ (fun K2 hK2 => ?_)
 refine e_alloc (by rfl) rfl rfl (cs := #[.int .i64 0, .int .u64 0, .int .i64 0, .int .u64 0, .string ⟨#[]⟩, .slice none 0 0, .slice none 0 0, .slice none 0 0, .int .i64 0, .int .i64 0, .int .i64 0, .int .i64 0, .slice none 0 0, .int .i64 0, .int .i64 0]) (by kernel_rfl) ?_
 rintro g3 w4 HG5 B6 C7
 have nw8 := Lib.hid (show w.heap.size ≤ g3 by have := C0.out.size; have := HG5.out; omega)
 have FB' := Lib.hid (show Blk w4 b (#[.slice A 0 c, .int .u64 last, .bool false, .bool false]) 70 from C7.blk FB.out nin_nil)
 have C0' := Lib.hid (show Ch [b] w w4 from C0.out.trans' C7 (fun x hx => absurd hx (by simp)))
 clear FB C0
 have FB := FB'; clear FB'
 have C0 := C0'; clear C0'
 have Fg3 := Lib.hid (show Blk w4 g3 (#[.int .i64 0, .int .u64 0, .int .i64 0, .int .u64 0, .string ⟨#[]⟩, .slice none 0 0, .slice none 0 0, .slice none 0 0, .int .i64 0, .int .i64 0, .int .i64 0, .int .i64 0, .slice none 0 0, .int .i64 0, .int .i64 0]) 56 from B6); clear B6 C7
 refine hK2 _ _ ?_; clear hK2 K2
 (try simp only [zP, zN, zA, zB, zC])
 refine pu_ (v := .bool false) (y_assign rfl (by rfl) (by rfl)) ?_
 (try simp only [zP, zN, zA, zB, zC])
 refine nl_ (hK1 _ _ ?_); clear hK1 K1
 refine sq_ (fun K9 hK9 => ?_)
 refine s_ (fun K10 hK10 => ?_)
 refine pu_ (v := .pointer (some ⟨b, 0, none⟩)) (y_move rfl (by rfl) (by rfl)) ?_
 (try simp only [zP, zN, zA, zB, zC])
 refine pu_ (v := .pointer (some ⟨b, 0, none⟩)) (y_nil rfl (by rfl) (by rfl)) ?_
 (try simp only [zP, zN, zA, zB, zC])
 refine pu_ (v := .pointer (some ⟨b, 0, none⟩)) (y_run (by rfl) (fun W => by go_simp)) ?_
 (try simp only [zP, zN, zA, zB, zC])
 refine ld_ (v := .slice A 0 c) rfl (by rfl) (by rfl) (run_load_one ((FB.out.cell 0).trans rfl) Try.underlying41 rfl) ?_
 (try simp only [zP, zN, zA, zB, zC])
 refine pu_ (v := .int .i64 0) (y_run (by rfl) (fun W => by go_simp)) ?_
 (try simp only [zP, zN, zA, zB, zC])
 refine pu_ (v := .bool false) (y_run (by rfl) (fun W => by go_simp)) ?_
 (try simp only [zP, zN, zA, zB, zC])
 refine nl_ (hK10 _ _ ?_); clear hK10 K10
 refine wp_cond_false rfl ?_
 refine wp_skip ?_
 refine th_norm (hK9 _ _ ?_); try clear hK9 K9
 refine sq_ (fun K11 hK11 => ?_)
 refine s_ (fun K12 hK12 => ?_)
 refine pu_ (v := .pointer (some ⟨b, 0, none⟩)) (y_move rfl (by rfl) (by rfl)) ?_
 (try simp only [zP, zN, zA, zB, zC])
 refine pu_ (v := .pointer (some ⟨b, 0, none⟩)) (y_nil rfl (by rfl) (by rfl)) ?_
 (try simp only [zP, zN, zA, zB, zC])
 refine pu_ (v := .pointer (some ⟨b, 2, none⟩)) (y_run (by rfl) (fun W => by go_simp)) ?_
 (try simp only [zP, zN, zA, zB, zC])
 refine ld_ (v := .bool false) rfl (by rfl) (by rfl) (run_load_one ((FB.out.cell 2).trans rfl) Try.underlying4 rfl) ?_
 (try simp only [zP, zN, zA, zB, zC])
 refine pu_ (v := .bool true) (y_run (by rfl) (fun W => by go_simp)) ?_
 (try simp only [zP, zN, zA, zB, zC])
 refine pu_ (v := .bool true) (y_move rfl (by rfl) (by rfl)) ?_
 (try simp only [zP, zN, zA, zB, zC])
 refine pu_ (y_off (by rfl)) ?_
 (try simp only [zP, zN, zA, zB, zC])
 refine pu_ (y_off (by rfl)) ?_
 (try simp only [zP, zN, zA, zB, zC])
 refine pu_ (y_off (by rfl)) ?_
 (try simp only [zP, zN, zA, zB, zC])
 refine pu_ (y_off (by rfl)) ?_
 (try simp only [zP, zN, zA, zB, zC])
 refine pu_ (v := .bool true) (y_pick (t := true) (by rfl) rfl (by rfl) (by rfl)) ?_
 (try simp only [zP, zN, zA, zB, zC])
 refine nl_ (hK12 _ _ ?_); clear hK12 K12
 refine wp_cond_true rfl ?_
 refine s_ (fun K13 hK13 => ?_)
 refine pu_ (v := .agg #[.int .i64 0, .int .u64 0, .int .i64 0, .int .u64 0, .string ⟨#[]⟩, .slice none 0 0, .slice none 0 0, .slice none 0 0, .int .i64 0, .int .i64 0, .int .i64 0, .int .i64 0, .slice none 0 0, .int .i64 0, .int .i64 0]) (y_build (vs := #[]) (by rfl) rfl (by first | rfl | (simp only [List.map_toArray, List.map_cons, List.map_nil]; first | done | rfl)) (by kernel_rfl)) ?_
 (try simp only [zP, zN, zA, zB, zC])
 refine ef_ (fun K14 hK14 => ?_)
 refine e_storeN (cells := #[.int .i64 0, .int .u64 0, .int .i64 0, .int .u64 0, .string ⟨#[]⟩, .slice none 0 0, .slice none 0 0, .slice none 0 0, .int .i64 0, .int .i64 0, .int .i64 0, .int .i64 0, .slice none 0 0, .int .i64 0, .int .i64 0]) (by rfl) rfl rfl (by rfl) (by rfl) Fg3.out (by kernel_rfl) (by rfl) (ones_cons rfl (ones_cons rfl (ones_cons rfl (ones_cons rfl (ones_cons rfl (ones_cons rfl (ones_cons rfl (ones_cons rfl (ones_cons rfl (ones_cons rfl (ones_cons rfl (ones_cons rfl (ones_cons rfl (ones_cons rfl (ones_cons rfl ones_nil))))))))))))))) ?_
 rintro w15 B16 C17
 have FB' := Lib.hid (show Blk w15 b (#[.slice A 0 c, .int .u64 last, .bool false, .bool false]) 70 from C17.blk FB.out (nin_cons (Blk.ne_type FB.out Fg3.out (by decide)) nin_nil))
 have C0' := Lib.hid (show Ch [b] w w15 from C0.out.trans' C17 (inw_cons (.inr nw8.out) inw_nil))
 clear FB C0
 have FB := FB'; clear FB'
 have C0 := C0'; clear C0'
 clear Fg3; have Fg3 := Lib.hid (show Blk w15 g3 (#[.int .i64 0, .int .u64 0, .int .i64 0, .int .u64 0, .string ⟨#[]⟩, .slice none 0 0, .slice none 0 0, .slice none 0 0, .int .i64 0, .int .i64 0, .int .i64 0, .int .i64 0, .slice none 0 0, .int .i64 0, .int .i64 0]) 56 from B16); clear B16 C17
 refine hK14 _ _ ?_; clear hK14 K14
 (try simp only [zP, zN, zA, zB, zC])
 refine pu_ (v := .bool false) (y_assign rfl (by rfl) (by rfl)) ?_
 (try simp only [zP, zN, zA, zB, zC])
 refine nl_ (hK13 _ _ ?_); clear hK13 K13
 refine wp_ret ?_
 refine th_ret ?_
 refine hQ _ _ _ ?_
 refine bodyPost_ret (res2 rfl (rdv_cell (by rfl) (run_loadVar_row _ _ 56 56 (#[.int .i64 0, .int .u64 0, .int .i64 0, .int .u64 0, .string ⟨#[]⟩, .slice none 0 0, .slice none 0 0, .slice none 0 0, .int .i64 0, .int .i64 0, .int .i64 0, .int .i64 0, .slice none 0 0, .int .i64 0, .int .i64 0]) (0, 0) _ Fg3.out Try.underlying56 rfl (by kernel_rfl))) (rdv_tmp (v := .bool false) (by rfl))) rfl ?_
 exact ⟨rfl, FB.out, C0.out⟩
theorem mark_over (w : World) (base b : Nat) (A : Option Addr) (c : Nat) (L : List Ev) (last rev : Int) (done : Bool) (FB : Hid (Blk w b #[.slice A L.length c, .int .u64 last, .bool true, .bool done] 70)) (OV : Hid (OwnS w base 56 15 (.slice A L.length c) L.length (L.flatMap evC))) :
  Calls Try.prog 20 #[.pointer (some ⟨b, 0, none⟩), .int .u64 rev] w fun en w' => en = .returned (.bool false) ∧ w = w' := by
 go_enter Try.func20, Try.ntmps20
 refine q_ (fun Q hQ hP => ?_)
 refine s_ (fun K1 hK1 => ?_)
 refine pu_ (v := .bool false) (y_assign rfl (by rfl) (by rfl)) ?_
 (try simp only [zP, zN, zA, zB, zC])
 refine nl_ (hK1 _ _ ?_); clear hK1 K1
 refine s_ (fun K2 hK2 => ?_)
 refine pu_ (v := .pointer (some ⟨b, 0, none⟩)) (y_move rfl (by rfl) (by rfl)) ?_
 (try simp only [zP, zN, zA, zB, zC])
 refine pu_ (v := .pointer (some ⟨b, 0, none⟩)) (y_nil rfl (by rfl) (by rfl)) ?_
 (try simp only [zP, zN, zA, zB, zC])
 refine pu_ (v := .pointer (some ⟨b, 0, none⟩)) (y_run (by rfl) (fun W => by go_simp)) ?_
 (try simp only [zP, zN, zA, zB, zC])
 refine ld_ (v := .slice A L.length c) rfl (by rfl) (by rfl) (run_load_one ((FB.out.cell 0).trans rfl) Try.underlying41 rfl) ?_
 (try simp only [zP, zN, zA, zB, zC])
 refine pu_ (v := .int .i64 L.length) (y_run (by rfl) (fun W => by go_simp)) ?_
 (try simp only [zP, zN, zA, zB, zC])
 refine pu_ (v := .int .i64 L.length) (y_assign rfl (by rfl) (by rfl)) ?_
 (try simp only [zP, zN, zA, zB, zC])
 refine nl_ (hK2 _ _ ?_); clear hK2 K2
 refine sq_ (fun K3 hK3 => ?_)
 refine wp_block ?_
 refine s_ (fun K4 hK4 => ?_)
 refine pu_ (v := .pointer (some ⟨b, 0, none⟩)) (y_move rfl (by rfl) (by rfl)) ?_
 (try simp only [zP, zN, zA, zB, zC])
 refine pu_ (v := .pointer (some ⟨b, 0, none⟩)) (y_nil rfl (by rfl) (by rfl)) ?_
 (try simp only [zP, zN, zA, zB, zC])
 refine pu_ (v := .pointer (some ⟨b, 2, none⟩)) (y_run (by rfl) (fun W => by go_simp)) ?_
 (try simp only [zP, zN, zA, zB, zC])
 refine ld_ (v := .bool true) rfl (by rfl) (by rfl) (run_load_one ((FB.out.cell 2).trans rfl) Try.underlying4 rfl) ?_
 (try simp only [zP, zN, zA, zB, zC])
 refine pu_ (v := .bool true) (y_assign rfl (by rfl) (by rfl)) ?_
 (try simp only [zP, zN, zA, zB, zC])
 refine nl_ (hK4 _ _ ?_); clear hK4 K4
 refine wp_cond_true rfl ?_
 refine s_ (fun K5 hK5 => ?_)
 refine pu_ (v := .bool false) (y_assign rfl (by rfl) (by rfl)) ?_
 (try simp only [zP, zN, zA, zB, zC])
 refine nl_ (hK5 _ _ ?_); clear hK5 K5
 refine wp_ret ?_
 refine ib_ret ?_
 refine th_ret ?_
 refine hQ _ _ _ ?_
 refine bodyPost_ret (res1 rfl (rdv_tmp (v := .bool false) (by rfl))) rfl ?_
 exact ⟨rfl, rfl⟩
theorem mark_last (w : World) (base b g n c : Nat) (e : Ev) (I : List Ev) (last : Int) (rev : Int) (done : Bool) (FB : Hid (Blk w b #[.slice (some ⟨g, 0, none⟩) n c, .int .u64 last, .bool false, .bool done] 70)) (OV : Hid (OwnS w base 56 15 (.slice (some ⟨g, 0, none⟩) n c) n ((I ++ [e]).flatMap evC))) (hn : n = I.length + 1) (hc : n ≤ c) (hk : e.k = 4) (hL : n ≤ 1000) :
  Calls Try.prog 20 #[.pointer (some ⟨b, 0, none⟩), .int .u64 rev] w (fun en w' => en = .returned (.bool true) ∧ Blk w' b #[.slice (some ⟨g, 0, none⟩) n c, .int .u64 rev, .bool false, .bool done] 70 ∧ OwnS w' base 56 15 (.slice (some ⟨g, 0, none⟩) n c) n ((I ++ [(⟨e.k, rev, e.u, e.p⟩ : Ev)]).flatMap evC) ∧ Ch (b :: rl (.slice (some ⟨g, 0, none⟩) n c)) w w') := by
 have C0 := Lib.hid (Ch.refl (b :: rl (.slice (some ⟨g, 0, none⟩) n c)) w)
 have DC := Lib.hid (show 0 < c by omega)
 have DK := Lib.hid (show (e.k == 4) = true by rw [hk]; rfl)
 clear hk
 have HN := Lib.hid hn
 have DP := Lib.hid (show 0 < n by omega)
 have WS := Lib.hid (show IntKind.i64.wrap ((n : Int) - 1) = I.length by rw [wr64 (by omega)]; omega)
 have WI := Lib.hid (show (I.length : Int) < n by omega)
 clear hn
 go_enter Try.func20, Try.ntmps20
 refine q_ (fun Q hQ hP => ?_)
 refine s_ (fun K1 hK1 => ?_)
 refine pu_ (v := .bool false) (y_assign rfl (by rfl) (by rfl)) ?_
 (try simp only [zP, zN, zA, zB, zC])
 refine nl_ (hK1 _ _ ?_); clear hK1 K1
 refine s_ (fun K2 hK2 => ?_)
 refine pu_ (v := .pointer (some ⟨b, 0, none⟩)) (y_move rfl (by rfl) (by rfl)) ?_
 (try simp only [zP, zN, zA, zB, zC])
 refine pu_ (v := .pointer (some ⟨b, 0, none⟩)) (y_nil rfl (by rfl) (by rfl)) ?_
 (try simp only [zP, zN, zA, zB, zC])
 refine pu_ (v := .pointer (some ⟨b, 0, none⟩)) (y_run (by rfl) (fun W => by go_simp)) ?_
 (try simp only [zP, zN, zA, zB, zC])
 refine ld_ (v := .slice (some ⟨g, 0, none⟩) n c) rfl (by rfl) (by rfl) (run_load_one ((FB.out.cell 0).trans rfl) Try.underlying41 rfl) ?_
 (try simp only [zP, zN, zA, zB, zC])
 refine pu_ (v := .int .i64 n) (y_run (by rfl) (fun W => by go_simp)) ?_
 (try simp only [zP, zN, zA, zB, zC])
 refine pu_ (v := .int .i64 n) (y_assign rfl (by rfl) (by rfl)) ?_
 (try simp only [zP, zN, zA, zB, zC])
 refine nl_ (hK2 _ _ ?_); clear hK2 K2
 refine sq_ (fun K3 hK3 => ?_)
 refine wp_block ?_
 refine s_ (fun K4 hK4 => ?_)
 refine pu_ (v := .pointer (some ⟨b, 0, none⟩)) (y_move rfl (by rfl) (by rfl)) ?_
 (try simp only [zP, zN, zA, zB, zC])
 refine pu_ (v := .pointer (some ⟨b, 0, none⟩)) (y_nil rfl (by rfl) (by rfl)) ?_
 (try simp only [zP, zN, zA, zB, zC])
 refine pu_ (v := .pointer (some ⟨b, 2, none⟩)) (y_run (by rfl) (fun W => by go_simp)) ?_
 (try simp only [zP, zN, zA, zB, zC])
 refine ld_ (v := .bool false) rfl (by rfl) (by rfl) (run_load_one ((FB.out.cell 2).trans rfl) Try.underlying4 rfl) ?_
 (try simp only [zP, zN, zA, zB, zC])
 refine pu_ (v := .bool false) (y_assign rfl (by rfl) (by rfl)) ?_
 (try simp only [zP, zN, zA, zB, zC])
 refine nl_ (hK4 _ _ ?_); clear hK4 K4
 refine wp_cond_false rfl ?_
 refine s_ (fun K5 hK5 => ?_)
 refine pu_ (v := .int .i64 n) (y_move rfl (by rfl) (by rfl)) ?_
 (try simp only [zP, zN, zA, zB, zC])
 refine pu_ (v := .bool true) (y_run (by rfl) (fun W => by have d := DP.out; go_simp)) ?_
 (try simp only [zP, zN, zA, zB, zC])
 refine pu_ (v := .bool true) (y_move rfl (by rfl) (by rfl)) ?_
 (try simp only [zP, zN, zA, zB, zC])
 refine pu_ (v := .pointer (some ⟨b, 0, none⟩)) (y_move rfl (by rfl) (by rfl)) ?_
 (try simp only [zP, zN, zA, zB, zC])
 refine pu_ (v := .pointer (some ⟨b, 0, none⟩)) (y_nil rfl (by rfl) (by rfl)) ?_
 (try simp only [zP, zN, zA, zB, zC])
 refine pu_ (v := .pointer (some ⟨b, 0, none⟩)) (y_run (by rfl) (fun W => by go_simp)) ?_
 (try simp only [zP, zN, zA, zB, zC])
 refine ld_ (v := .slice (some ⟨g, 0, none⟩) n c) rfl (by rfl) (by rfl) (run_load_one ((FB.out.cell 0).trans rfl) Try.underlying41 rfl) ?_
 (try simp only [zP, zN, zA, zB, zC])
 refine pu_ (v := .int .i64 n) (y_move rfl (by rfl) (by rfl)) ?_
 (try simp only [zP, zN, zA, zB, zC])
 refine pu_ (v := .int .i64 I.length) (y_run (by rfl) (fun W => by have d := WS.out; go_simp)) ?_
 (try simp only [zP, zN, zA, zB, zC])
 refine pu_ (v := .pointer (some ⟨g, I.length * 15, none⟩)) (y_run (by rfl) (fun W => by have d := WI.out; go_simp)) ?_
 (try simp only [zP, zN, zA, zB, zC])
 refine pu_ (v := .pointer (some ⟨g, I.length * 15, none⟩)) (y_run (by rfl) (fun W => by go_simp)) ?_
 (try simp only [zP, zN, zA, zB, zC])
 refine ld_ (v := .int .i64 e.k) rfl (by rfl) (by rfl) (run_load_one (own_last OV.out HN.out 0 rfl) Try.underlying3 rfl) ?_
 (try simp only [zP, zN, zA, zB, zC])
 refine pu_ (v := .bool true) (y_run (by rfl) (fun W => by have d := DK.out; go_simp)) ?_
 (try simp only [zP, zN, zA, zB, zC])
 refine pu_ (v := .bool true) (y_pick (t := true) (by rfl) rfl (by rfl) (by rfl)) ?_
 (try simp only [zP, zN, zA, zB, zC])
 refine pu_ (v := .bool true) (y_assign rfl (by rfl) (by rfl)) ?_
 (try simp only [zP, zN, zA, zB, zC])
 refine nl_ (hK5 _ _ ?_); clear hK5 K5
 refine wp_cond_true rfl ?_
 refine s_ (fun K6 hK6 => ?_)
 refine pu_ (v := .pointer (some ⟨b, 0, none⟩)) (y_move rfl (by rfl) (by rfl)) ?_
 (try simp only [zP, zN, zA, zB, zC])
 refine pu_ (v := .pointer (some ⟨b, 0, none⟩)) (y_nil rfl (by rfl) (by rfl)) ?_
 (try simp only [zP, zN, zA, zB, zC])
 refine pu_ (v := .pointer (some ⟨b, 0, none⟩)) (y_run (by rfl) (fun W => by go_simp)) ?_
 (try simp only [zP, zN, zA, zB, zC])
 refine ld_ (v := .slice (some ⟨g, 0, none⟩) n c) rfl (by rfl) (by rfl) (run_load_one ((FB.out.cell 0).trans rfl) Try.underlying41 rfl) ?_
 (try simp only [zP, zN, zA, zB, zC])
 refine pu_ (v := .int .i64 n) (y_move rfl (by rfl) (by rfl)) ?_
 (try simp only [zP, zN, zA, zB, zC])
 refine pu_ (v := .int .i64 I.length) (y_run (by rfl) (fun W => by have d := WS.out; go_simp)) ?_
 (try simp only [zP, zN, zA, zB, zC])
 refine pu_ (v := .int .u64 rev) (y_move rfl (by rfl) (by rfl)) ?_
 (try simp only [zP, zN, zA, zB, zC])
 refine pu_ (v := .pointer (some ⟨g, I.length * 15, none⟩)) (y_run (by rfl) (fun W => by have d := WI.out; go_simp)) ?_
 (try simp only [zP, zN, zA, zB, zC])
 refine pu_ (v := .pointer (some ⟨g, I.length * 15 + 1, none⟩)) (y_run (by rfl) (fun W => by go_simp)) ?_
 (try simp only [zP, zN, zA, zB, zC])
 refine ef_ (fun K7 hK7 => ?_)
 refine e_storeS1 (by rfl) rfl rfl OV.out (I.length * 15 + 1) (.int .u64 rev) (by rfl) (by rfl) (by kernel_rfl) (by have := HN.out; omega) rfl ?_
 rintro w8 O9 C10
 have RC10 := Lib.hid (show Ch (rl (.slice (some ⟨g, 0, none⟩) n c)) w w8 from by rw [rl_some g n c (by have := DC.out; omega)]; exact C10)
 have FB' := Lib.hid (show Blk w8 b (#[.slice (some ⟨g, 0, none⟩) n c, .int .u64 last, .bool false, .bool done]) 70 from RC10.out.blk FB.out (OV.out.ne FB.out (by decide)))
 have C0' := Lib.hid (show Ch (b :: rl (.slice (some ⟨g, 0, none⟩) n c)) w w8 from C0.out.trans' RC10.out (fun x hx => .inl (List.mem_cons_of_mem _ hx)))
 clear FB C0
 have FB := FB'; clear FB'
 have C0 := C0'; clear C0'
 clear OV
 have OV := Lib.hid (show OwnS w8 base 56 15 (.slice (some ⟨g, 0, none⟩) n c) (n) ((I ++ [(⟨e.k, rev, e.u, e.p⟩ : Ev)]).flatMap evC) from by rw [← set_last]; exact O9); clear O9 C10 RC10
 refine hK7 _ _ ?_; clear hK7 K7
 (try simp only [zP, zN, zA, zB, zC])
 refine nl_ (hK6 _ _ ?_); clear hK6 K6
 refine s_ (fun K11 hK11 => ?_)
 refine pu_ (v := .pointer (some ⟨b, 0, none⟩)) (y_move rfl (by rfl) (by rfl)) ?_
 (try simp only [zP, zN, zA, zB, zC])
 refine pu_ (v := .int .u64 rev) (y_move rfl (by rfl) (by rfl)) ?_
 (try simp only [zP, zN, zA, zB, zC])
 refine pu_ (v := .pointer (some ⟨b, 0, none⟩)) (y_nil rfl (by rfl) (by rfl)) ?_
 (try simp only [zP, zN, zA, zB, zC])
 refine pu_ (v := .pointer (some ⟨b, 1, none⟩)) (y_run (by rfl) (fun W => by go_simp)) ?_
 (try simp only [zP, zN, zA, zB, zC])
 refine ef_ (fun K12 hK12 => ?_)
 refine e_store1 (b := b) (j := 1) (v := .int .u64 rev) (by rfl) rfl rfl (by rfl) (by rfl) FB.out (show 1 < 4 by omega) (by kernel_rfl) rfl ?_
 rintro w13 B14 C15
 have OV' := Lib.hid (show OwnS w13 base 56 15 (.slice (some ⟨g, 0, none⟩) n c) (n) ((I ++ [(⟨e.k, rev, e.u, e.p⟩ : Ev)]).flatMap evC) from OV.out.ch C15 (rnin_cons (OV.out.ne FB.out (by decide)) rnin_nil))
 have C0' := Lib.hid (show Ch (b :: rl (.slice (some ⟨g, 0, none⟩) n c)) w w13 from C0.out.trans' C15 (inw_cons (.inl List.mem_cons_self) inw_nil))
 clear OV C0
 have OV := OV'; clear OV'
 have C0 := C0'; clear C0'
 clear FB; have FB := Lib.hid (show Blk w13 b (#[.slice (some ⟨g, 0, none⟩) n c, .int .u64 rev, .bool false, .bool done]) 70 from B14); clear B14 C15
 refine hK12 _ _ ?_; clear hK12 K12
 (try simp only [zP, zN, zA, zB, zC])
 refine nl_ (hK11 _ _ ?_); clear hK11 K11
 refine s_ (fun K16 hK16 => ?_)
 refine pu_ (v := .bool true) (y_assign rfl (by rfl) (by rfl)) ?_
 (try simp only [zP, zN, zA, zB, zC])
 refine nl_ (hK16 _ _ ?_); clear hK16 K16
 refine wp_ret ?_
 refine ib_ret ?_
 refine th_ret ?_
 refine hQ _ _ _ ?_
 refine bodyPost_ret (res1 rfl (rdv_tmp (v := .bool true) (by rfl))) rfl ?_
 exact ⟨rfl, FB.out, OV.out, C0.out⟩
theorem mark_full (w : World) (base b g n c : Nat) (e : Ev) (I : List Ev) (last : Int) (rev : Int) (done : Bool) (FB : Hid (Blk w b #[.slice (some ⟨g, 0, none⟩) n c, .int .u64 last, .bool false, .bool done] 70)) (OV : Hid (OwnS w base 56 15 (.slice (some ⟨g, 0, none⟩) n c) n ((I ++ [e]).flatMap evC))) (hn : n = I.length + 1) (hk : e.k ≠ 4) (h16 : 16 ≤ n) (hbase : base ≤ w.heap.size) (hL : n ≤ 1000) :
  Calls Try.prog 20 #[.pointer (some ⟨b, 0, none⟩), .int .u64 rev] w (fun en w' => en = .returned (.bool false) ∧ w = w') := by
 have C0 := Lib.hid (Ch.refl (b :: rl (.slice (some ⟨g, 0, none⟩) n c)) w)
 have HL := Lib.hid (show n = (I ++ [e]).length by simpa using hn)
 have HLE := Lib.hid (show (I ++ [e]).length ≤ 1000 by rw [← HL.out]; exact hL)
 have H16 := Lib.hid (show 16 ≤ (I ++ [e]).length by rw [← HL.out]; exact h16)
 have DK := Lib.hid (show (e.k == 4) = false from beq_eq_false_iff_ne.2 hk)
 clear hk h16
 have HN := Lib.hid hn
 have DP := Lib.hid (show 0 < n by omega)
 have WS := Lib.hid (show IntKind.i64.wrap ((n : Int) - 1) = I.length by rw [wr64 (by omega)]; omega)
 have WI := Lib.hid (show (I.length : Int) < n by omega)
 clear hn
 go_enter Try.func20, Try.ntmps20
 refine q_ (fun Q hQ hP => ?_)
 refine s_ (fun K1 hK1 => ?_)
 refine pu_ (v := .bool false) (y_assign rfl (by rfl) (by rfl)) ?_
 (try simp only [zP, zN, zA, zB, zC])
 refine nl_ (hK1 _ _ ?_); clear hK1 K1
 refine s_ (fun K2 hK2 => ?_)
 refine pu_ (v := .pointer (some ⟨b, 0, none⟩)) (y_move rfl (by rfl) (by rfl)) ?_
 (try simp only [zP, zN, zA, zB, zC])
 refine pu_ (v := .pointer (some ⟨b, 0, none⟩)) (y_nil rfl (by rfl) (by rfl)) ?_
 (try simp only [zP, zN, zA, zB, zC])
 refine pu_ (v := .pointer (some ⟨b, 0, none⟩)) (y_run (by rfl) (fun W => by go_simp)) ?_
 (try simp only [zP, zN, zA, zB, zC])
 refine ld_ (v := .slice (some ⟨g, 0, none⟩) n c) rfl (by rfl) (by rfl) (run_load_one ((FB.out.cell 0).trans rfl) Try.underlying41 rfl) ?_
 (try simp only [zP, zN, zA, zB, zC])
 refine pu_ (v := .int .i64 n) (y_run (by rfl) (fun W => by go_simp)) ?_
 (try simp only [zP, zN, zA, zB, zC])
 refine pu_ (v := .int .i64 n) (y_assign rfl (by rfl) (by rfl)) ?_
 (try simp only [zP, zN, zA, zB, zC])
 refine nl_ (hK2 _ _ ?_); clear hK2 K2
 refine sq_ (fun K3 hK3 => ?_)
 refine wp_block ?_
 refine s_ (fun K4 hK4 => ?_)
 refine pu_ (v := .pointer (some ⟨b, 0, none⟩)) (y_move rfl (by rfl) (by rfl)) ?_
 (try simp only [zP, zN, zA, zB, zC])
 refine pu_ (v := .pointer (some ⟨b, 0, none⟩)) (y_nil rfl (by rfl) (by rfl)) ?_
 (try simp only [zP, zN, zA, zB, zC])
 refine pu_ (v := .pointer (some ⟨b, 2, none⟩)) (y_run (by rfl) (fun W => by go_simp)) ?_
 (try simp only [zP, zN, zA, zB, zC])
 refine ld_ (v := .bool false) rfl (by rfl) (by rfl) (run_load_one ((FB.out.cell 2).trans rfl) Try.underlying4 rfl) ?_
 (try simp only [zP, zN, zA, zB, zC])
 refine pu_ (v := .bool false) (y_assign rfl (by rfl) (by rfl)) ?_
 (try simp only [zP, zN, zA, zB, zC])
 refine nl_ (hK4 _ _ ?_); clear hK4 K4
 refine wp_cond_false rfl ?_
 refine s_ (fun K5 hK5 => ?_)
 refine pu_ (v := .int .i64 n) (y_move rfl (by rfl) (by rfl)) ?_
 (try simp only [zP, zN, zA, zB, zC])
 refine pu_ (v := .bool true) (y_run (by rfl) (fun W => by have d := DP.out; go_simp)) ?_
 (try simp only [zP, zN, zA, zB, zC])
 refine pu_ (v := .bool true) (y_move rfl (by rfl) (by rfl)) ?_
 (try simp only [zP, zN, zA, zB, zC])
 refine pu_ (v := .pointer (some ⟨b, 0, none⟩)) (y_move rfl (by rfl) (by rfl)) ?_
 (try simp only [zP, zN, zA, zB, zC])
 refine pu_ (v := .pointer (some ⟨b, 0, none⟩)) (y_nil rfl (by rfl) (by rfl)) ?_
 (try simp only [zP, zN, zA, zB, zC])
 refine pu_ (v := .pointer (some ⟨b, 0, none⟩)) (y_run (by rfl) (fun W => by go_simp)) ?_
 (try simp only [zP, zN, zA, zB, zC])
 refine ld_ (v := .slice (some ⟨g, 0, none⟩) n c) rfl (by rfl) (by rfl) (run_load_one ((FB.out.cell 0).trans rfl) Try.underlying41 rfl) ?_
 (try simp only [zP, zN, zA, zB, zC])
 refine pu_ (v := .int .i64 n) (y_move rfl (by rfl) (by rfl)) ?_
 (try simp only [zP, zN, zA, zB, zC])
 refine pu_ (v := .int .i64 I.length) (y_run (by rfl) (fun W => by have d := WS.out; go_simp)) ?_
 (try simp only [zP, zN, zA, zB, zC])
 refine pu_ (v := .pointer (some ⟨g, I.length * 15, none⟩)) (y_run (by rfl) (fun W => by have d := WI.out; go_simp)) ?_
 (try simp only [zP, zN, zA, zB, zC])
 refine pu_ (v := .pointer (some ⟨g, I.length * 15, none⟩)) (y_run (by rfl) (fun W => by go_simp)) ?_
 (try simp only [zP, zN, zA, zB, zC])
 refine ld_ (v := .int .i64 e.k) rfl (by rfl) (by rfl) (run_load_one (own_last OV.out HN.out 0 rfl) Try.underlying3 rfl) ?_
 (try simp only [zP, zN, zA, zB, zC])
 refine pu_ (v := .bool false) (y_run (by rfl) (fun W => by have d := DK.out; go_simp)) ?_
 (try simp only [zP, zN, zA, zB, zC])
 refine pu_ (v := .bool false) (y_pick (t := true) (by rfl) rfl (by rfl) (by rfl)) ?_
 (try simp only [zP, zN, zA, zB, zC])
 refine pu_ (v := .bool false) (y_assign rfl (by rfl) (by rfl)) ?_
 (try simp only [zP, zN, zA, zB, zC])
 refine nl_ (hK5 _ _ ?_); clear hK5 K5
 refine wp_cond_false rfl ?_
 refine s_ (fun K6 hK6 => ?_)
 refine pu_ (v := .pointer (some ⟨b, 0, none⟩)) (y_move rfl (by rfl) (by rfl)) ?_
 (try simp only [zP, zN, zA, zB, zC])
 refine ef_ (fun K7 hK7 => ?_)
 refine e_call Try.func28 (by kernel_rfl) rfl #[.pointer (some ⟨b, 0, none⟩)] (by rfl) rfl rfl (by first | rfl | (simp only [List.map_toArray, List.map_cons, List.map_nil]; first | done | rfl)) (room_false _ base _ _ _ (I ++ [e]) last _ (by have h := FB; rw [HL.out] at h; exact h) (by have h := OV; rw [HL.out] at h; exact h) H16.out) ?_
 rintro en w8 ⟨rfl, rfl⟩
 refine ⟨_, rfl, ?_⟩
 refine hK7 _ _ ?_; clear hK7 K7
 (try simp only [zP, zN, zA, zB, zC])
 refine pu_ (v := .bool true) (y_run (by rfl) (fun W => by go_simp)) ?_
 (try simp only [zP, zN, zA, zB, zC])
 refine pu_ (v := .bool true) (y_assign rfl (by rfl) (by rfl)) ?_
 (try simp only [zP, zN, zA, zB, zC])
 refine nl_ (hK6 _ _ ?_); clear hK6 K6
 refine wp_cond_true rfl ?_
 refine s_ (fun K9 hK9 => ?_)
 refine pu_ (v := .bool false) (y_assign rfl (by rfl) (by rfl)) ?_
 (try simp only [zP, zN, zA, zB, zC])
 refine nl_ (hK9 _ _ ?_); clear hK9 K9
 refine wp_ret ?_
 refine ib_ret ?_
 refine th_ret ?_
 refine hQ _ _ _ ?_
 refine bodyPost_ret (res1 rfl (rdv_tmp (v := .bool false) (by rfl))) rfl ?_
 exact ⟨rfl, rfl⟩
theorem mark_push (w : World) (base b g n c : Nat) (e : Ev) (I : List Ev) (last : Int) (rev : Int) (done : Bool) (FB : Hid (Blk w b #[.slice (some ⟨g, 0, none⟩) n c, .int .u64 last, .bool false, .bool done] 70)) (OV : Hid (OwnS w base 56 15 (.slice (some ⟨g, 0, none⟩) n c) n ((I ++ [e]).flatMap evC))) (hn : n = I.length + 1) (hk : e.k ≠ 4) (h16 : n < 16) (hbase : base ≤ w.heap.size) (hL : n ≤ 1000) :
  Calls Try.prog 20 #[.pointer (some ⟨b, 0, none⟩), .int .u64 rev] w (fun en w' => ∃ v', en = .returned (.bool true) ∧ Blk w' b #[v', .int .u64 rev, .bool false, .bool done] 70 ∧ OwnS w' base 56 15 v' (I ++ [e] ++ [(⟨4, rev, 0, 0⟩ : Ev)]).length ((I ++ [e] ++ [(⟨4, rev, 0, 0⟩ : Ev)]).flatMap evC) ∧ Ch (b :: rl (.slice (some ⟨g, 0, none⟩) n c)) w w' ∧ ∀ k, k ∈ rl v' → k ∈ b :: rl (.slice (some ⟨g, 0, none⟩) n c) ∨ w.heap.size ≤ k) := by
 have C0 := Lib.hid (Ch.refl (b :: rl (.slice (some ⟨g, 0, none⟩) n c)) w)
 have HL := Lib.hid (show n = (I ++ [e]).length by simpa using hn)
 have HLE := Lib.hid (show (I ++ [e]).length ≤ 1000 by rw [← HL.out]; exact hL)
 have H16 := Lib.hid (show (I ++ [e]).length < 16 by rw [← HL.out]; exact h16)
 have DK := Lib.hid (show (e.k == 4) = false from beq_eq_false_iff_ne.2 hk)
 clear hk h16
 have HN := Lib.hid hn
 have DP := Lib.hid (show 0 < n by omega)
 have WS := Lib.hid (show IntKind.i64.wrap ((n : Int) - 1) = I.length by rw [wr64 (by omega)]; omega)
 have WI := Lib.hid (show (I.length : Int) < n by omega)
 clear hn
 go_enter Try.func20, Try.ntmps20
 refine q_ (fun Q hQ hP => ?_)
 refine s_ (fun K1 hK1 => ?_)
 refine pu_ (v := .bool false) (y_assign rfl (by rfl) (by rfl)) ?_
 (try simp only [zP, zN, zA, zB, zC])
 refine nl_ (hK1 _ _ ?_); clear hK1 K1
 refine s_ (fun K2 hK2 => ?_)
 refine pu_ (v := .pointer (some ⟨b, 0, none⟩)) (y_move rfl (by rfl) (by rfl)) ?_
 (try simp only [zP, zN, zA, zB, zC])
 refine pu_ (v := .pointer (some ⟨b, 0, none⟩)) (y_nil rfl (by rfl) (by rfl)) ?_
 (try simp only [zP, zN, zA, zB, zC])
 refine pu_ (v := .pointer (some ⟨b, 0, none⟩)) (y_run (by rfl) (fun W => by go_simp)) ?_
 (try simp only [zP, zN, zA, zB, zC])
 refine ld_ (v := .slice (some ⟨g, 0, none⟩) n c) rfl (by rfl) (by rfl) (run_load_one ((FB.out.cell 0).trans rfl) Try.underlying41 rfl) ?_
 (try simp only [zP, zN, zA, zB, zC])
 refine pu_ (v := .int .i64 n) (y_run (by rfl) (fun W => by go_simp)) ?_
 (try simp only [zP, zN, zA, zB, zC])
 refine pu_ (v := .int .i64 n) (y_assign rfl (by rfl) (by rfl)) ?_
 (try simp only [zP, zN, zA, zB, zC])
 refine nl_ (hK2 _ _ ?_); clear hK2 K2
 refine sq_ (fun K3 hK3 => ?_)
 refine wp_block ?_
 refine s_ (fun K4 hK4 => ?_)
 refine pu_ (v := .pointer (some ⟨b, 0, none⟩)) (y_move rfl (by rfl) (by rfl)) ?_
 (try simp only [zP, zN, zA, zB, zC])
 refine pu_ (v := .pointer (some ⟨b, 0, none⟩)) (y_nil rfl (by rfl) (by rfl)) ?_
 (try simp only [zP, zN, zA, zB, zC])
 refine pu_ (v := .pointer (some ⟨b, 2, none⟩)) (y_run (by rfl) (fun W => by go_simp)) ?_
 (try simp only [zP, zN, zA, zB, zC])
 refine ld_ (v := .bool false) rfl (by rfl) (by rfl) (run_load_one ((FB.out.cell 2).trans rfl) Try.underlying4 rfl) ?_
 (try simp only [zP, zN, zA, zB, zC])
 refine pu_ (v := .bool false) (y_assign rfl (by rfl) (by rfl)) ?_
 (try simp only [zP, zN, zA, zB, zC])
 refine nl_ (hK4 _ _ ?_); clear hK4 K4
 refine wp_cond_false rfl ?_
 refine s_ (fun K5 hK5 => ?_)
 refine pu_ (v := .int .i64 n) (y_move rfl (by rfl) (by rfl)) ?_
 (try simp only [zP, zN, zA, zB, zC])
 refine pu_ (v := .bool true) (y_run (by rfl) (fun W => by have d := DP.out; go_simp)) ?_
 (try simp only [zP, zN, zA, zB, zC])
 refine pu_ (v := .bool true) (y_move rfl (by rfl) (by rfl)) ?_
 (try simp only [zP, zN, zA, zB, zC])
 refine pu_ (v := .pointer (some ⟨b, 0, none⟩)) (y_move rfl (by rfl) (by rfl)) ?_
 (try simp only [zP, zN, zA, zB, zC])
 refine pu_ (v := .pointer (some ⟨b, 0, none⟩)) (y_nil rfl (by rfl) (by rfl)) ?_
 (try simp only [zP, zN, zA, zB, zC])
 refine pu_ (v := .pointer (some ⟨b, 0, none⟩)) (y_run (by rfl) (fun W => by go_simp)) ?_
 (try simp only [zP, zN, zA, zB, zC])
 refine ld_ (v := .slice (some ⟨g, 0, none⟩) n c) rfl (by rfl) (by rfl) (run_load_one ((FB.out.cell 0).trans rfl) Try.underlying41 rfl) ?_
 (try simp only [zP, zN, zA, zB, zC])
 refine pu_ (v := .int .i64 n) (y_move rfl (by rfl) (by rfl)) ?_
 (try simp only [zP, zN, zA, zB, zC])
 refine pu_ (v := .int .i64 I.length) (y_run (by rfl) (fun W => by have d := WS.out; go_simp)) ?_
 (try simp only [zP, zN, zA, zB, zC])
 refine pu_ (v := .pointer (some ⟨g, I.length * 15, none⟩)) (y_run (by rfl) (fun W => by have d := WI.out; go_simp)) ?_
 (try simp only [zP, zN, zA, zB, zC])
 refine pu_ (v := .pointer (some ⟨g, I.length * 15, none⟩)) (y_run (by rfl) (fun W => by go_simp)) ?_
 (try simp only [zP, zN, zA, zB, zC])
 refine ld_ (v := .int .i64 e.k) rfl (by rfl) (by rfl) (run_load_one (own_last OV.out HN.out 0 rfl) Try.underlying3 rfl) ?_
 (try simp only [zP, zN, zA, zB, zC])
 refine pu_ (v := .bool false) (y_run (by rfl) (fun W => by have d := DK.out; go_simp)) ?_
 (try simp only [zP, zN, zA, zB, zC])
 refine pu_ (v := .bool false) (y_pick (t := true) (by rfl) rfl (by rfl) (by rfl)) ?_
 (try simp only [zP, zN, zA, zB, zC])
 refine pu_ (v := .bool false) (y_assign rfl (by rfl) (by rfl)) ?_
 (try simp only [zP, zN, zA, zB, zC])
 refine nl_ (hK5 _ _ ?_); clear hK5 K5
 refine wp_cond_false rfl ?_
 refine s_ (fun K6 hK6 => ?_)
 refine pu_ (v := .pointer (some ⟨b, 0, none⟩)) (y_move rfl (by rfl) (by rfl)) ?_
 (try simp only [zP, zN, zA, zB, zC])
 refine ef_ (fun K7 hK7 => ?_)
 refine e_call Try.func28 (by kernel_rfl) rfl #[.pointer (some ⟨b, 0, none⟩)] (by rfl) rfl rfl (by first | rfl | (simp only [List.map_toArray, List.map_cons, List.map_nil]; first | done | rfl)) (room_true _ base _ _ _ (I ++ [e]) last _ (by have h := FB; rw [HL.out] at h; exact h) (by have h := OV; rw [HL.out] at h; exact h) H16.out) ?_
 rintro en w8 ⟨rfl, rfl⟩
 refine ⟨_, rfl, ?_⟩
 refine hK7 _ _ ?_; clear hK7 K7
 (try simp only [zP, zN, zA, zB, zC])
 refine pu_ (v := .bool false) (y_run (by rfl) (fun W => by go_simp)) ?_
 (try simp only [zP, zN, zA, zB, zC])
 refine pu_ (v := .bool false) (y_assign rfl (by rfl) (by rfl)) ?_
 (try simp only [zP, zN, zA, zB, zC])
 refine nl_ (hK6 _ _ ?_); clear hK6 K6
 refine wp_cond_false rfl ?_
 refine wp_skip ?_
 refine ib_norm ?_
 refine th_norm (hK3 _ _ ?_); try clear hK3 K3
 refine s_ (fun K9 hK9 => ?_)
 refine pu_ (v := .pointer (some ⟨b, 0, none⟩)) (y_move rfl (by rfl) (by rfl)) ?_
 (try simp only [zP, zN, zA, zB, zC])
 refine pu_ (v := .int .u64 rev) (y_move rfl (by rfl) (by rfl)) ?_
 (try simp only [zP, zN, zA, zB, zC])
 refine pu_ (v := .agg #[.int .i64 4, .int .u64 rev, .int .i64 0, .int .u64 0, .string ⟨#[]⟩, .slice none 0 0, .slice none 0 0, .slice none 0 0, .int .i64 0, .int .i64 0, .int .i64 0, .int .i64 0, .slice none 0 0, .int .i64 0, .int .i64 0]) (y_build (vs := #[(0, .int .i64 4), (1, .int .u64 rev)]) (by rfl) rfl (by first | rfl | (simp only [List.map_toArray, List.map_cons, List.map_nil]; first | done | rfl)) (by kernel_rfl)) ?_
 (try simp only [zP, zN, zA, zB, zC])
 refine ef_ (fun K10 hK10 => ?_)
 refine e_call Try.func31 (by kernel_rfl) rfl #[.pointer (some ⟨b, 0, none⟩), .agg #[.int .i64 4, .int .u64 rev, .int .i64 0, .int .u64 0, .string ⟨#[]⟩, .slice none 0 0, .slice none 0 0, .slice none 0 0, .int .i64 0, .int .i64 0, .int .i64 0, .int .i64 0, .slice none 0 0, .int .i64 0, .int .i64 0]] (by rfl) rfl rfl (by first | rfl | (simp only [List.map_toArray, List.map_cons, List.map_nil]; first | done | rfl)) (push_any _ base _ _ _ (I ++ [e]) last _ _ ⟨4, rev, 0, 0⟩ (by have h := FB; rw [HL.out] at h; exact h) (by have h := OV; rw [HL.out] at h; exact h) (by have := C0.out.size; omega) (by have := HLE.out; omega)) ?_
 rintro en w16 ⟨v11, rfl, hb13, ho14, cc12, hr15⟩
 refine ⟨_, rfl, ?_⟩
 rw [← HL.out] at cc12 hr15
 have rw17 := Lib.hid (show ∀ x, x ∈ rl v11 → x ∈ (b :: rl (.slice (some ⟨g, 0, none⟩) n c)) ∨ w.heap.size ≤ x from fun x hx => (hr15 x hx).imp id (fun h => Nat.le_trans C0.out.size h))
 have C0' := Lib.hid (show Ch (b :: rl (.slice (some ⟨g, 0, none⟩) n c)) w w16 from C0.out.trans' cc12 (inw_cons (.inl List.mem_cons_self) (fun x hx => .inl (List.mem_cons_of_mem _ hx))))
 clear C0
 have C0 := C0'; clear C0'
 clear FB OV
 clear cc12
 have FB := Lib.hid (show Blk w16 b (#[v11, .int .u64 rev, .bool false, .bool done]) 70 from hb13)
 have OV := Lib.hid (show OwnS w16 base 56 15 (v11) (((I ++ [e]) ++ [(⟨4, rev, 0, 0⟩ : Ev)]).length) (((I ++ [e]) ++ [(⟨4, rev, 0, 0⟩ : Ev)]).flatMap evC) from ho14)
 refine hK10 _ _ ?_; clear hK10 K10
 (try simp only [zP, zN, zA, zB, zC])
 refine pu_ (v := .bool true) (y_assign rfl (by rfl) (by rfl)) ?_
 (try simp only [zP, zN, zA, zB, zC])
 refine nl_ (hK9 _ _ ?_); clear hK9 K9
 refine wp_ret ?_
 refine hQ _ _ _ ?_
 refine bodyPost_ret (res1 rfl (rdv_tmp (v := .bool true) (by rfl))) rfl ?_
 exact ⟨_, rfl, FB.out, OV.out, C0.out, rw17.out⟩
end Go.Proofs.Ytanlbnipbbjheaa.V
