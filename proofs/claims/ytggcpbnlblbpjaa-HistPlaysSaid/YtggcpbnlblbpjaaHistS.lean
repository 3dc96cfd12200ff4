/- What is told of an operation; a book and the document's book, compared. -/
import Derived.Test.YtggcpbnlblbpjaaSameR
import Derived.Test.YtggcpbnlblbpjaaHistX
import Derived.Test.YtggcpbnlblbpjaaDocA
import Derived.Test.YtggcpbnlblbpjaaHistC
namespace Go.Proofs.Ytggcpbnlblbpjaa.L
open Go Go.RowKit Go.Proofs.Ytggcpbnlblbpjaa.K Go.Proofs.Ytggcpbnlblbpjaa.H Go.Proofs.YtggcpbnlblbpjaaW.PrintLast
set_option linter.unusedVariables false
set_option linter.unusedSimpArgs false
set_option maxRecDepth 100000
set_option maxHeartbeats 1600000
section
variable {w : World}
theorem SameC.up {w w' : World} {cs : List Value} (h : SameC w cs) (hb : Below w.heap.size w w') : SameC w' cs := fun w2 hb2 => h w2 (hb.trans (hb2.mono hb.size))
theorem SameP.up {w w' : World} {cs : List Value} (h : SameP w cs) (hb : Below w.heap.size w w') : SameP w' cs := fun w2 hb2 => h w2 (hb.trans (hb2.mono hb.size))
theorem is_all {W w : World} {o : HOp} (h : OpOk W o) (hb : Below W.heap.size W w) : Calls Try.prog 26 #[.agg (opC o).toArray, .agg (opC o).toArray] w fun en w' => en = .returned (.bool true) ∧ Ch [] w w' := by
  obtain ⟨c, n, a, d, t, ⟨cl, h1, h2⟩, ⟨rp, h3, h4⟩⟩ := o
  obtain ⟨x0, x1, x2, x3, x4, x5, x6, x7, x8, x9, x10, x11, x12, x13, x14, x15, rfl⟩ := list16 h1
  obtain ⟨x16, x17, x18, x19, x20, x21, x22, rfl⟩ := list7 h3
  exact is_ c n a d t x0 x1 x2 x3 x4 x5 x6 x7 x8 x9 x10 x11 x12 x13 x14 x15 x16 x17 x18 x19 x20 x21 x22 (h2 _ (by simp)) (h2 _ (by simp)) (h2 _ (by simp)) (h2 _ (by simp)) (h2 _ (by simp)) (h2 _ (by simp)) (h2 _ (by simp)) (h2 _ (by simp)) (h2 _ (by simp)) (h2 _ (by simp)) (h2 _ (by simp)) (h2 _ (by simp)) (h2 _ (by simp)) (h2 _ (by simp)) (h2 _ (by simp)) (h2 _ (by simp)) (h4 _ (by simp)) (h4 _ (by simp)) (h4 _ (by simp)) (h4 _ (by simp)) (h4 _ (by simp)) (h4 _ (by simp)) (h4 _ (by simp)) (Lib.hid (h.1.up hb)) (Lib.hid (h.2.up hb))
theorem op_cells59 {L : List HOp} {j : Nat} {o : HOp} (h : L[j]? = some o) {w : World} {base g n c : Nat} (ho : OwnS w base 59 28 (.slice (some ⟨g, 0, none⟩) n c) n (L.flatMap opC)) : CellsAt w ⟨g, j * 28, none⟩ (opC o) := by
  have := src_elem ho.src h
  rwa [add_plain, Nat.zero_add] at this
theorem op_at' {L : List HOp} {k : Nat} (h : k ≤ L.length) : (∃ o, k < L.length ∧ L[k]? = some o) ∨ k = L.length := by
  rcases Nat.lt_or_ge k L.length with h1 | h1
  · exact .inl ⟨_, h1, List.getElem?_eq_getElem h1⟩
  · exact .inr (by omega)
abbrev zO : HOp := ⟨0, 0, 0, 0, 0, ZC, ZR⟩
theorem of_none {b m now base : Nat} {v u : Value} {c n : Int} {L : List HOp} (HK : Hid (okK (c, n))) (HJ : Hid (idx c n 0 L = none)) (FB : Hid (Blk w b (#[.int .i64 now, v, .map (some m), u]) 84)) (FM : Hid (MapIs w m (kv) (Value.int .i64) (okK) (keysOf 0 L))) :
    Calls Try.prog 24 #[.pointer (some ⟨b, 0, none⟩), .int .i64 c, .int .i64 n] w fun en w' => en = .returned (.tuple #[.agg (opC zO).toArray, .bool false]) ∧ Ch [] w w' := by
  have C0 := Lib.hid (Ch.refl [] w)
  go_enter Try.func24, Try.ntmps24
  refine q_ (fun Q hQ hP => ?_)
  refine s_ (fun K1 hK1 => ?_)
  refine ef_ (fun K2 hK2 => ?_)
  refine e_alloc (by rfl) rfl rfl (cs := #[.int .i64 0, .int .i64 0, .int .i64 0, .int .i64 0, .int .i64 0, .int .i64 0, .int .i64 0, .int .u64 0, .string ⟨#[]⟩, .slice none 0 0, .slice none 0 0, .slice none 0 0, .int .i64 0, .int .i64 0, .int .i64 0, .int .i64 0, .int .i64 0, .int .i64 0, .int .i64 0, .string ⟨#[]⟩, .slice none 0 0, .int .i64 0, .int .i64 0, .int .i64 0, .int .u64 0, .string ⟨#[]⟩, .slice none 0 0, .slice none 0 0]) (by kernel_rfl) ?_
  rintro g3 w4 HG5 B6 C7
  have nw8 := Lib.hid (show w.heap.size ≤ g3 by have := C0.out.size; have := HG5.out; omega)
  have nm9 := Lib.hid (FM.out.ne_new HG5)
  have C0' := Lib.hid (show Ch [] w w4 from C0.out.trans' C7 (fun x hx => absurd hx (by simp)))
  have FB' := Lib.hid (show Blk w4 b (#[.int .i64 now, v, .map (some m), u]) 84 from C7.blk FB.out nin_nil)
  have FM' := Lib.hid (show MapIs w4 m (kv) (Value.int .i64) (okK) (keysOf 0 L) from FM.out.keep C7 nin_nil)
  clear C0 FB FM
  have C0 := C0'; clear C0'
  have FB := FB'; clear FB'
  have FM := FM'; clear FM'
  have Fg3 := Lib.hid (show Blk w4 g3 (#[.int .i64 0, .int .i64 0, .int .i64 0, .int .i64 0, .int .i64 0, .int .i64 0, .int .i64 0, .int .u64 0, .string ⟨#[]⟩, .slice none 0 0, .slice none 0 0, .slice none 0 0, .int .i64 0, .int .i64 0, .int .i64 0, .int .i64 0, .int .i64 0, .int .i64 0, .int .i64 0, .string ⟨#[]⟩, .slice none 0 0, .int .i64 0, .int .i64 0, .int .i64 0, .int .u64 0, .string ⟨#[]⟩, .slice none 0 0, .slice none 0 0]) 49 from B6); clear B6 C7
  refine hK2 _ _ ?_; clear hK2 K2
  (try simp only [zP, zN, zA, zB, zC])
  refine pu_ (v := .bool false) (y_assign rfl (by rfl) (by rfl)) ?_
  (try simp only [zP, zN, zA, zB, zC])
  refine nl_ (hK1 _ _ ?_); clear hK1 K1
  refine s_ (fun K10 hK10 => ?_)
  refine pu_ (v := .pointer (some ⟨b, 0, none⟩)) (y_move rfl (by rfl) (by rfl)) ?_
  (try simp only [zP, zN, zA, zB, zC])
  refine pu_ (v := .int .i64 c) (y_move rfl (by rfl) (by rfl)) ?_
  (try simp only [zP, zN, zA, zB, zC])
  refine pu_ (v := .int .i64 n) (y_move rfl (by rfl) (by rfl)) ?_
  (try simp only [zP, zN, zA, zB, zC])
  refine ef_ (fun K11 hK11 => ?_)
  refine e_call Try.func44 (by kernel_rfl) rfl #[.pointer (some ⟨b, 0, none⟩), .int .i64 c, .int .i64 n] (by rfl) rfl rfl (by first | rfl | (simp only [List.map_toArray, List.map_cons, List.map_nil]; first | done | rfl)) ((op_none HK HJ FB FM)) ?_
  rintro en w13 ⟨rfl, cc12⟩
  refine ⟨_, rfl, ?_⟩
  have C0' := Lib.hid (show Ch [] w w13 from C0.out.trans' cc12 (fun x hx => absurd hx (by simp)))
  have FB' := Lib.hid (show Blk w13 b (#[.int .i64 now, v, .map (some m), u]) 84 from cc12.blk FB.out nin_nil)
  have FM' := Lib.hid (show MapIs w13 m (kv) (Value.int .i64) (okK) (keysOf 0 L) from FM.out.keep cc12 nin_nil)
  have Fg3' := Lib.hid (show Blk w13 g3 (#[.int .i64 0, .int .i64 0, .int .i64 0, .int .i64 0, .int .i64 0, .int .i64 0, .int .i64 0, .int .u64 0, .string ⟨#[]⟩, .slice none 0 0, .slice none 0 0, .slice none 0 0, .int .i64 0, .int .i64 0, .int .i64 0, .int .i64 0, .int .i64 0, .int .i64 0, .int .i64 0, .string ⟨#[]⟩, .slice none 0 0, .int .i64 0, .int .i64 0, .int .i64 0, .int .u64 0, .string ⟨#[]⟩, .slice none 0 0, .slice none 0 0]) 49 from cc12.blk Fg3.out nin_nil)
  clear C0 FB FM Fg3
  have C0 := C0'; clear C0'
  have FB := FB'; clear FB'
  have FM := FM'; clear FM'
  have Fg3 := Fg3'; clear Fg3'
  clear cc12
  refine hK11 _ _ ?_; clear hK11 K11
  (try simp only [zP, zN, zA, zB, zC])
  refine pu_ (v := .pointer none) (y_assign rfl (by rfl) (by rfl)) ?_
  (try simp only [zP, zN, zA, zB, zC])
  refine nl_ (hK10 _ _ ?_); clear hK10 K10
  refine sq_ (fun K14 hK14 => ?_)
  refine s_ (fun K15 hK15 => ?_)
  refine pu_ (v := .pointer none) (y_move rfl (by rfl) (by rfl)) ?_
  (try simp only [zP, zN, zA, zB, zC])
  refine pu_ (v := .bool true) (y_run (by rfl) (fun W => by go_simp)) ?_
  (try simp only [zP, zN, zA, zB, zC])
  refine nl_ (hK15 _ _ ?_); clear hK15 K15
  refine wp_cond_true rfl ?_
  refine s_ (fun K16 hK16 => ?_)
  refine pu_ (v := .agg #[.int .i64 0, .int .i64 0, .int .i64 0, .int .i64 0, .int .i64 0, .int .i64 0, .int .i64 0, .int .u64 0, .string ⟨#[]⟩, .slice none 0 0, .slice none 0 0, .slice none 0 0, .int .i64 0, .int .i64 0, .int .i64 0, .int .i64 0, .int .i64 0, .int .i64 0, .int .i64 0, .string ⟨#[]⟩, .slice none 0 0, .int .i64 0, .int .i64 0, .int .i64 0, .int .u64 0, .string ⟨#[]⟩, .slice none 0 0, .slice none 0 0]) (y_build (vs := #[]) (by rfl) rfl (by first | rfl | (simp only [List.map_toArray, List.map_cons, List.map_nil]; first | done | rfl)) (by kernel_rfl)) ?_
  (try simp only [zP, zN, zA, zB, zC])
  refine ef_ (fun K17 hK17 => ?_)
  refine e_storeN (cells := (opC zO).toArray) (by rfl) rfl rfl (by rfl) (by rfl) Fg3.out (sz49 zO) (by rfl) (by simpa using opC_one zO) ?_
  rintro w18 B19 C20
  have C0' := Lib.hid (show Ch [] w w18 from C0.out.trans' C20 (inw_cons (.inr nw8.out) inw_nil))
  have FB' := Lib.hid (show Blk w18 b (#[.int .i64 now, v, .map (some m), u]) 84 from C20.blk FB.out (nin_cons (Blk.ne_type FB.out Fg3.out (by decide)) nin_nil))
  have FM' := Lib.hid (show MapIs w18 m (kv) (Value.int .i64) (okK) (keysOf 0 L) from FM.out.keep C20 (nin_cons nm9.out nin_nil))
  clear C0 FB FM
  have C0 := C0'; clear C0'
  have FB := FB'; clear FB'
  have FM := FM'; clear FM'
  clear Fg3; have Fg3 := Lib.hid (show Blk w18 g3 ((opC zO).toArray) 49 from B19); clear B19 C20
  refine hK17 _ _ ?_; clear hK17 K17
  (try simp only [zP, zN, zA, zB, zC])
  refine pu_ (v := .bool false) (y_assign rfl (by rfl) (by rfl)) ?_
  (try simp only [zP, zN, zA, zB, zC])
  refine nl_ (hK16 _ _ ?_); clear hK16 K16
  refine wp_ret ?_
  refine th_ret ?_
  refine hQ _ _ _ ?_
  refine bodyPost_ret (res2 rfl (rdv_cell (by rfl) (run_loadVar_row _ _ 49 49 ((opC zO).toArray) (0, 0) _ Fg3.out Try.underlying49 rfl (sz49 zO))) (rdv_tmp (v := .bool false) (by rfl))) rfl ?_
  exact ⟨rfl, C0.out⟩
theorem of_some {b m now base : Nat} {v u : Value} {c n : Int} {L : List HOp} {g cap j : Nat} {o : HOp} (HK : Hid (okK (c, n))) (HJ : Hid (idx c n 0 L = some j)) (HL : Hid (j < L.length ∧ L.length ≤ 1000)) (HO : Hid (L[j]? = some o)) (FB : Hid (Blk w b (#[.int .i64 now, .slice (some ⟨g, 0, none⟩) L.length cap, .map (some m), u]) 84)) (FM : Hid (MapIs w m (kv) (Value.int .i64) (okK) (keysOf 0 L))) (OL : Hid (OwnS w base 49 28 (.slice (some ⟨g, 0, none⟩) L.length cap) (L.length) (L.flatMap opC))) :
    Calls Try.prog 24 #[.pointer (some ⟨b, 0, none⟩), .int .i64 c, .int .i64 n] w fun en w' => en = .returned (.tuple #[.agg (opC o).toArray, .bool true]) ∧ Ch [] w w' := by
  have C0 := Lib.hid (Ch.refl [] w)
  go_enter Try.func24, Try.ntmps24
  refine q_ (fun Q hQ hP => ?_)
  refine s_ (fun K1 hK1 => ?_)
  refine ef_ (fun K2 hK2 => ?_)
  refine e_alloc (by rfl) rfl rfl (cs := #[.int .i64 0, .int .i64 0, .int .i64 0, .int .i64 0, .int .i64 0, .int .i64 0, .int .i64 0, .int .u64 0, .string ⟨#[]⟩, .slice none 0 0, .slice none 0 0, .slice none 0 0, .int .i64 0, .int .i64 0, .int .i64 0, .int .i64 0, .int .i64 0, .int .i64 0, .int .i64 0, .string ⟨#[]⟩, .slice none 0 0, .int .i64 0, .int .i64 0, .int .i64 0, .int .u64 0, .string ⟨#[]⟩, .slice none 0 0, .slice none 0 0]) (by kernel_rfl) ?_
  rintro g3 w4 HG5 B6 C7
  have nw8 := Lib.hid (show w.heap.size ≤ g3 by have := C0.out.size; have := HG5.out; omega)
  have nm9 := Lib.hid (FM.out.ne_new HG5)
  have nr10 := Lib.hid (OL.out.ne_new HG5)
  have C0' := Lib.hid (show Ch [] w w4 from C0.out.trans' C7 (fun x hx => absurd hx (by simp)))
  have FB' := Lib.hid (show Blk w4 b (#[.int .i64 now, .slice (some ⟨g, 0, none⟩) L.length cap, .map (some m), u]) 84 from C7.blk FB.out nin_nil)
  have FM' := Lib.hid (show MapIs w4 m (kv) (Value.int .i64) (okK) (keysOf 0 L) from FM.out.keep C7 nin_nil)
  have OL' := Lib.hid (show OwnS w4 base 49 28 (.slice (some ⟨g, 0, none⟩) L.length cap) (L.length) (L.flatMap opC) from OL.out.ch C7 rnin_nil)
  clear C0 FB FM OL
  have C0 := C0'; clear C0'
  have FB := FB'; clear FB'
  have FM := FM'; clear FM'
  have OL := OL'; clear OL'
  have Fg3 := Lib.hid (show Blk w4 g3 (#[.int .i64 0, .int .i64 0, .int .i64 0, .int .i64 0, .int .i64 0, .int .i64 0, .int .i64 0, .int .u64 0, .string ⟨#[]⟩, .slice none 0 0, .slice none 0 0, .slice none 0 0, .int .i64 0, .int .i64 0, .int .i64 0, .int .i64 0, .int .i64 0, .int .i64 0, .int .i64 0, .string ⟨#[]⟩, .slice none 0 0, .int .i64 0, .int .i64 0, .int .i64 0, .int .u64 0, .string ⟨#[]⟩, .slice none 0 0, .slice none 0 0]) 49 from B6); clear B6 C7
  refine hK2 _ _ ?_; clear hK2 K2
  (try simp only [zP, zN, zA, zB, zC])
  refine pu_ (v := .bool false) (y_assign rfl (by rfl) (by rfl)) ?_
  (try simp only [zP, zN, zA, zB, zC])
  refine nl_ (hK1 _ _ ?_); clear hK1 K1
  refine s_ (fun K11 hK11 => ?_)
  refine pu_ (v := .pointer (some ⟨b, 0, none⟩)) (y_move rfl (by rfl) (by rfl)) ?_
  (try simp only [zP, zN, zA, zB, zC])
  refine pu_ (v := .int .i64 c) (y_move rfl (by rfl) (by rfl)) ?_
  (try simp only [zP, zN, zA, zB, zC])
  refine pu_ (v := .int .i64 n) (y_move rfl (by rfl) (by rfl)) ?_
  (try simp only [zP, zN, zA, zB, zC])
  refine ef_ (fun K12 hK12 => ?_)
  refine e_call Try.func44 (by kernel_rfl) rfl #[.pointer (some ⟨b, 0, none⟩), .int .i64 c, .int .i64 n] (by rfl) rfl rfl (by first | rfl | (simp only [List.map_toArray, List.map_cons, List.map_nil]; first | done | rfl)) ((op_some HK HJ HL FB FM)) ?_
  rintro en w14 ⟨rfl, cc13⟩
  refine ⟨_, rfl, ?_⟩
  have C0' := Lib.hid (show Ch [] w w14 from C0.out.trans' cc13 (fun x hx => absurd hx (by simp)))
  have FB' := Lib.hid (show Blk w14 b (#[.int .i64 now, .slice (some ⟨g, 0, none⟩) L.length cap, .map (some m), u]) 84 from cc13.blk FB.out nin_nil)
  have FM' := Lib.hid (show MapIs w14 m (kv) (Value.int .i64) (okK) (keysOf 0 L) from FM.out.keep cc13 nin_nil)
  have OL' := Lib.hid (show OwnS w14 base 49 28 (.slice (some ⟨g, 0, none⟩) L.length cap) (L.length) (L.flatMap opC) from OL.out.ch cc13 rnin_nil)
  have Fg3' := Lib.hid (show Blk w14 g3 (#[.int .i64 0, .int .i64 0, .int .i64 0, .int .i64 0, .int .i64 0, .int .i64 0, .int .i64 0, .int .u64 0, .string ⟨#[]⟩, .slice none 0 0, .slice none 0 0, .slice none 0 0, .int .i64 0, .int .i64 0, .int .i64 0, .int .i64 0, .int .i64 0, .int .i64 0, .int .i64 0, .string ⟨#[]⟩, .slice none 0 0, .int .i64 0, .int .i64 0, .int .i64 0, .int .u64 0, .string ⟨#[]⟩, .slice none 0 0, .slice none 0 0]) 49 from cc13.blk Fg3.out nin_nil)
  clear C0 FB FM OL Fg3
  have C0 := C0'; clear C0'
  have FB := FB'; clear FB'
  have FM := FM'; clear FM'
  have OL := OL'; clear OL'
  have Fg3 := Fg3'; clear Fg3'
  clear cc13
  refine hK12 _ _ ?_; clear hK12 K12
  (try simp only [zP, zN, zA, zB, zC])
  refine pu_ (v := .pointer (some ⟨g, j * 28, none⟩)) (y_assign rfl (by rfl) (by rfl)) ?_
  (try simp only [zP, zN, zA, zB, zC])
  refine nl_ (hK11 _ _ ?_); clear hK11 K11
  refine sq_ (fun K15 hK15 => ?_)
  refine s_ (fun K16 hK16 => ?_)
  refine pu_ (v := .pointer (some ⟨g, j * 28, none⟩)) (y_move rfl (by rfl) (by rfl)) ?_
  (try simp only [zP, zN, zA, zB, zC])
  refine pu_ (v := .bool false) (y_run (by rfl) (fun W => by go_simp)) ?_
  (try simp only [zP, zN, zA, zB, zC])
  refine nl_ (hK16 _ _ ?_); clear hK16 K16
  refine wp_cond_false rfl ?_
  refine wp_skip ?_
  refine th_norm (hK15 _ _ ?_); try clear hK15 K15
  refine s_ (fun K17 hK17 => ?_)
  refine pu_ (v := .pointer (some ⟨g, j * 28, none⟩)) (y_move rfl (by rfl) (by rfl)) ?_
  (try simp only [zP, zN, zA, zB, zC])
  refine pu_ (v := .pointer (some ⟨g, j * 28, none⟩)) (y_nil rfl (by rfl) (by rfl)) ?_
  (try simp only [zP, zN, zA, zB, zC])
  refine ld_ (v := .agg (opC o).toArray) rfl (by rfl) (by rfl) (run_loadVar_at (op_cells HO.out OL.out) Try.underlying49 rfl (by rw [opC_len]; kernel_rfl)) ?_
  (try simp only [zP, zN, zA, zB, zC])
  refine ef_ (fun K18 hK18 => ?_)
  refine e_storeN (cells := (opC o).toArray) (by rfl) rfl rfl (by rfl) (by rfl) Fg3.out (sz49 o) (by rw [show (opC o).toArray.size = 28 by rw [List.size_toArray, opC_len]]; rfl) (by simpa using opC_one o) ?_
  rintro w19 B20 C21
  have C0' := Lib.hid (show Ch [] w w19 from C0.out.trans' C21 (inw_cons (.inr nw8.out) inw_nil))
  have FB' := Lib.hid (show Blk w19 b (#[.int .i64 now, .slice (some ⟨g, 0, none⟩) L.length cap, .map (some m), u]) 84 from C21.blk FB.out (nin_cons (Blk.ne_type FB.out Fg3.out (by decide)) nin_nil))
  have FM' := Lib.hid (show MapIs w19 m (kv) (Value.int .i64) (okK) (keysOf 0 L) from FM.out.keep C21 (nin_cons nm9.out nin_nil))
  have OL' := Lib.hid (show OwnS w19 base 49 28 (.slice (some ⟨g, 0, none⟩) L.length cap) (L.length) (L.flatMap opC) from OL.out.ch C21 (rnin_cons nr10.out rnin_nil))
  clear C0 FB FM OL
  have C0 := C0'; clear C0'
  have FB := FB'; clear FB'
  have FM := FM'; clear FM'
  have OL := OL'; clear OL'
  clear Fg3; have Fg3 := Lib.hid (show Blk w19 g3 ((opC o).toArray) 49 from B20); clear B20 C21
  refine hK18 _ _ ?_; clear hK18 K18
  (try simp only [zP, zN, zA, zB, zC])
  refine pu_ (v := .bool true) (y_assign rfl (by rfl) (by rfl)) ?_
  (try simp only [zP, zN, zA, zB, zC])
  refine nl_ (hK17 _ _ ?_); clear hK17 K17
  refine wp_ret ?_
  refine hQ _ _ _ ?_
  refine bodyPost_ret (res2 rfl (rdv_cell (by rfl) (run_loadVar_row _ _ 49 49 ((opC o).toArray) (0, 0) _ Fg3.out Try.underlying49 rfl (sz49 o))) (rdv_tmp (v := .bool true) (by rfl))) rfl ?_
  exact ⟨rfl, C0.out⟩
/-- What Of answers. -/
def ofR (S : HB) (c n : Int) : HOp × Bool := match idx c n 0 S.L with | none => (zO, false) | some j => match S.L[j]? with | none => (zO, false) | some o => (o, true)
theorem of_l {lo b : Nat} {Bs : List Nat} {S : HB} {c n : Int} (h : BookL w lo Bs b S) (hk : okK (c, n)) (hs : S.L.length ≤ 1000) : Calls Try.prog 24 #[.pointer (some ⟨b, 0, none⟩), .int .i64 c, .int .i64 n] w fun en w' => en = .returned (.tuple #[.agg (opC (ofR S c n).1).toArray, .bool (ofR S c n).2]) ∧ Ch [] w w' := by
  obtain ⟨m, v, u, rfl, _, _, h7, h8, h9, _⟩ := h
  unfold ofR
  cases hi0 : idx c n 0 S.L with
  | none => exact of_none (base := 0) (Lib.hid hk) (Lib.hid hi0) (Lib.hid h7) (Lib.hid h8)
  | some j =>
    obtain ⟨o, -, ho, hc, hn⟩ := idx_some hi0
    rw [Nat.sub_zero] at ho
    have hj : j < S.L.length := (List.getElem?_eq_some_iff.1 ho).1
    obtain ⟨g, cap, rfl, hcap, -, -, -, -⟩ := h9.some_ (by omega)
    simp only [ho]
    exact of_some (v := .bool true) (Lib.hid hk) (Lib.hid hi0) (Lib.hid ⟨hj, hs⟩) (Lib.hid ho) (Lib.hid h7) (Lib.hid h8) (Lib.hid h9)
theorem same_all {W : World} {lo b : Nat} {Bs : List Nat} {S : HB} {v u : Value} (HL : Hid (S.L.length ≤ 1000)) (HI : Hid (S.I.length ≤ 1000)) (HO : Hid (∀ o ∈ S.L, OpOk W o)) (HB : Hid (Below W.heap.size W w)) (BF : Hid (BookL w lo Bs b (S))) (DF : Hid (DocIs w lo Bs (S) (v) (u))) :
    Calls Try.prog 23 #[.pointer (some ⟨b, 0, none⟩), .agg #[.int .i64 S.now, v, u]] w fun en w' => en = .returned (.bool true) ∧ Ch [] w w' := by
  have C0 := Lib.hid (Ch.refl [] w)
  go_enter Try.func23, Try.ntmps23
  refine q_ (fun Q hQ hP => ?_)
  skip
  · obtain ⟨Av, cv, hv, -, -⟩ := DF.out.1.slice
    obtain ⟨Au, cu, hu, -, -⟩ := DF.out.2.1.slice
    subst hv hu
    refine s_ (fun K1 hK1 => ?_)
    refine ef_ (fun K2 hK2 => ?_)
    refine e_boxN (by rfl) rfl rfl (cs := #[.int .i64 S.now, (.slice Av S.L.length cv), (.slice Au S.I.length cu)]) (v := .agg #[.int .i64 S.now, (.slice Av S.L.length cv), (.slice Au S.I.length cu)]) (by rfl) rfl ?_
    rintro g3 w4 HG5 B6 C7
    have nw8 := Lib.hid (show w.heap.size ≤ g3 by have := C0.out.size; have := HG5.out; omega)
    have hs9 := Lib.hid (show g3 ∉ Bs from BF.out.ne_new HG5)
    have C0' := Lib.hid (show Ch [] w w4 from C0.out.trans' C7 (fun x hx => absurd hx (by simp)))
    have BF' := Lib.hid (show BookL w4 lo Bs b (S) from BF.out.ch C7 (fun _ _ h => absurd h (by simp)))
    have DF' := Lib.hid (show DocIs w4 lo Bs (S) (.slice Av S.L.length cv) (.slice Au S.I.length cu) from DF.out.ch0 C7)
    clear C0 BF DF
    have C0 := C0'; clear C0'
    have BF := BF'; clear BF'
    have DF := DF'; clear DF'
    have Fg3 := Lib.hid (show Blk w4 g3 (#[.int .i64 S.now, (.slice Av S.L.length cv), (.slice Au S.I.length cu)]) 53 from B6); clear B6 C7
    refine hK2 _ _ ?_; clear hK2 K2
    (try simp only [zP, zN, zA, zB, zC])
    refine pu_ (v := .bool false) (y_assign rfl (by rfl) (by rfl)) ?_
    (try simp only [zP, zN, zA, zB, zC])
    refine nl_ (hK1 _ _ ?_); clear hK1 K1
    refine s_ (fun K10 hK10 => ?_)
    refine pu_ (v := .pointer (some ⟨b, 0, none⟩)) (y_move rfl (by rfl) (by rfl)) ?_
    (try simp only [zP, zN, zA, zB, zC])
    refine ef_ (fun K11 hK11 => ?_)
    refine e_call Try.func15 (by kernel_rfl) rfl #[.pointer (some ⟨b, 0, none⟩)] (by rfl) rfl rfl (by first | rfl | (simp only [List.map_toArray, List.map_cons, List.map_nil]; first | done | rfl)) (ops_l BF.out HL.out) ?_
    rintro en w14 ⟨vo, rfl, OO0, cc13⟩
    refine ⟨_, rfl, ?_⟩
    have hr12 := OO0.lt
    have rw15 := Lib.hid (show ∀ x, x ∈ rl vo → x ∈ [] ∨ w.heap.size ≤ x from fun x hx => .inr (by have := (fun k hk => (hr12 k hk).1) x hx; have := C0.out.size; omega))
    have C0' := Lib.hid (show Ch [] w w14 from C0.out.trans' cc13 (fun x hx => absurd hx (by simp)))
    have BF' := Lib.hid (show BookL w14 lo Bs b (S) from BF.out.ch cc13 (fun _ _ h => absurd h (by simp)))
    have DF' := Lib.hid (show DocIs w14 lo Bs (S) (.slice Av S.L.length cv) (.slice Au S.I.length cu) from DF.out.ch0 cc13)
    have Fg3' := Lib.hid (show Blk w14 g3 (#[.int .i64 S.now, (.slice Av S.L.length cv), (.slice Au S.I.length cu)]) 53 from cc13.blk Fg3.out nin_nil)
    clear C0 BF DF Fg3
    have C0 := C0'; clear C0'
    have BF := BF'; clear BF'
    have DF := DF'; clear DF'
    have Fg3 := Fg3'; clear Fg3'
    clear cc13
    have OO := Lib.hid (show OwnS w14 w4.heap.size 49 28 (vo) (S.L.length) ((S.L).flatMap opC) from OO0)
    refine hK11 _ _ ?_; clear hK11 K11
    (try simp only [zP, zN, zA, zB, zC])
    refine pu_ (v := vo) (y_assign rfl (by rfl) (by rfl)) ?_
    (try simp only [zP, zN, zA, zB, zC])
    refine nl_ (hK10 _ _ ?_); clear hK10 K10
    refine sq_ (fun K16 hK16 => ?_)
    skip
    · obtain ⟨Ao, co, hvo, -, -⟩ := OO.out.slice
      subst hvo
      refine sq_ (fun K17 hK17 => ?_)
      refine startk_ (S := fun W => Blk W g3 (#[.int .i64 S.now, (.slice Av S.L.length cv), (.slice Au S.I.length cu)]) 53 ∧ True) (ds := []) #[false, false, false, false, false, false, false, false, false, false, false, false, false, false, false, false, false, false, false, false, false] (by kernel_rfl) rfl rfl (fun W c => ⟨c.blk Fg3.out nin_nil, trivial⟩) (fun w18 C19 hS20 => ?_)
      have C0' := Lib.hid (show Ch [] w w18 from C0.out.trans' C19 (fun x hx => absurd hx (by simp)))
      have BF' := Lib.hid (show BookL w18 lo Bs b (S) from BF.out.ch C19 (fun _ _ h => absurd h (by simp)))
      have DF' := Lib.hid (show DocIs w18 lo Bs (S) (.slice Av S.L.length cv) (.slice Au S.I.length cu) from DF.out.ch0 C19)
      have Fg3' := Lib.hid (show Blk w18 g3 (#[.int .i64 S.now, (.slice Av S.L.length cv), (.slice Au S.I.length cu)]) 53 from C19.blk Fg3.out nin_nil)
      have OO' := Lib.hid (show OwnS w18 w4.heap.size 49 28 (.slice Ao S.L.length co) (S.L.length) ((S.L).flatMap opC) from OO.out.ch C19 rnin_nil)
      clear C0 BF DF Fg3 OO
      have C0 := C0'; clear C0'
      have BF := BF'; clear BF'
      have DF := DF'; clear DF'
      have Fg3 := Fg3'; clear Fg3'
      have OO := OO'; clear OO'
      clear C19
      refine pure_ (i := 0) (N := some 9) (v := .slice Ao S.L.length co) #[true, false, false, false, false, false, false, false, false, false, false, false, false, false, false, false, false, false, false, false, false] rfl rfl (by kernel_rfl) (fun c a w h => hP c a _ _ w h) (y_move rfl (by rfl) (by rfl)) rfl ?_
      (try simp only [zP, zN, zA, zB, zC])
      refine pure_ (i := 1) (N := some 10) (v := .int .i64 S.L.length) #[true, true, false, false, false, false, false, false, false, false, false, false, false, false, false, false, false, false, false, false, false] rfl rfl (by kernel_rfl) (fun c a w h => hP c a _ _ w h) (y_run (by rfl) (fun W => by go_simp)) rfl ?_
      (try simp only [zP, zN, zA, zB, zC])
      refine pure_ (i := 2) (N := some 11) (v := .pointer (some ⟨g3, 1, none⟩)) #[true, true, true, false, false, false, false, false, false, false, false, false, false, false, false, false, false, false, false, false, false] rfl rfl (by kernel_rfl) (fun c a w h => hP c a _ _ w h) (y_run (by rfl) (fun W => by go_simp)) rfl ?_
      (try simp only [zP, zN, zA, zB, zC])
      refine take_ (i := 3) (N := some 12) (v := .slice Av S.L.length cv) #[true, true, true, true, false, false, false, false, false, false, false, false, false, false, false, false, false, false, false, false, false] rfl rfl (by kernel_rfl) (fun c a w h => hP c a _ _ w h) (y_load (p := ⟨g3, 1, none⟩) rfl (by rfl) (by rfl) (fun W hS => run_load_one ((hS.1.cell 1).trans rfl) Try.underlying51 rfl)) hS20 rfl ?_
      (try simp only [zP, zN, zA, zB, zC])
      refine pure_ (i := 4) (N := some 13) (v := .int .i64 S.L.length) #[true, true, true, true, true, false, false, false, false, false, false, false, false, false, false, false, false, false, false, false, false] rfl rfl (by kernel_rfl) (fun c a w h => hP c a _ _ w h) (y_run (by rfl) (fun W => by go_simp)) rfl ?_
      (try simp only [zP, zN, zA, zB, zC])
      refine pure_ (i := 5) (N := some 14) (v := .bool false) #[true, true, true, true, true, true, false, false, false, false, false, false, false, false, false, false, false, false, false, false, false] rfl rfl (by kernel_rfl) (fun c a w h => hP c a _ _ w h) (y_run (by rfl) (fun W => by go_simp)) rfl ?_
      (try simp only [zP, zN, zA, zB, zC])
      refine pure_ (i := 6) (N := some 15) (v := .bool false) #[true, true, true, true, true, true, true, false, false, false, false, false, false, false, false, false, false, false, false, false, false] rfl rfl (by kernel_rfl) (fun c a w h => hP c a _ _ w h) (y_move rfl (by rfl) (by rfl)) rfl ?_
      (try simp only [zP, zN, zA, zB, zC])
      refine pure_ (i := 7) (N := some 16) (v := .pointer (some ⟨b, 0, none⟩)) #[true, true, true, true, true, true, true, true, false, false, false, false, false, false, false, false, false, false, false, false, false] rfl rfl (by kernel_rfl) (fun c a w h => hP c a _ _ w h) (y_move rfl (by rfl) (by rfl)) rfl ?_
      (try simp only [zP, zN, zA, zB, zC])
      refine pure_ (i := 9) (N := some 18) (v := .pointer (some ⟨g3, 0, none⟩)) #[true, true, true, true, true, true, true, true, false, true, false, false, false, false, false, false, false, false, false, false, false] rfl rfl (by kernel_rfl) (fun c a w h => hP c a _ _ w h) (y_run (by rfl) (fun W => by go_simp)) rfl ?_
      (try simp only [zP, zN, zA, zB, zC])
      refine take_ (i := 10) (N := some 19) (v := .int .i64 S.now) #[true, true, true, true, true, true, true, true, false, true, true, false, false, false, false, false, false, false, false, false, false] rfl rfl (by kernel_rfl) (fun c a w h => hP c a _ _ w h) (y_load (p := ⟨g3, 0, none⟩) rfl (by rfl) (by rfl) (fun W hS => run_load_one ((hS.1.cell 0).trans rfl) Try.underlying3 rfl)) hS20 rfl ?_
      (try simp only [zP, zN, zA, zB, zC])
      refine one_ (i := 8) (N := some 17) #[true, true, true, true, true, true, true, true, true, true, true, false, false, false, false, false, false, false, false, false, false] rfl rfl (by kernel_rfl) (by simp) (fun K21 hK21 => ?_)
      refine e_call Try.func14 (by kernel_rfl) rfl #[.pointer (some ⟨b, 0, none⟩)] (by rfl) rfl rfl (by first | rfl | (simp only [List.map_toArray, List.map_cons, List.map_nil]; first | done | rfl)) ((now_l BF.out)) ?_
      rintro en w23 ⟨rfl, cc22⟩
      refine ⟨_, rfl, ?_⟩
      have C0' := Lib.hid (show Ch [] w w23 from C0.out.trans' cc22 (fun x hx => absurd hx (by simp)))
      have BF' := Lib.hid (show BookL w23 lo Bs b (S) from BF.out.ch cc22 (fun _ _ h => absurd h (by simp)))
      have DF' := Lib.hid (show DocIs w23 lo Bs (S) (.slice Av S.L.length cv) (.slice Au S.I.length cu) from DF.out.ch0 cc22)
      have Fg3' := Lib.hid (show Blk w23 g3 (#[.int .i64 S.now, (.slice Av S.L.length cv), (.slice Au S.I.length cu)]) 53 from cc22.blk Fg3.out nin_nil)
      have OO' := Lib.hid (show OwnS w23 w4.heap.size 49 28 (.slice Ao S.L.length co) (S.L.length) ((S.L).flatMap opC) from OO.out.ch cc22 rnin_nil)
      clear C0 BF DF Fg3 OO
      have C0 := C0'; clear C0'
      have BF := BF'; clear BF'
      have DF := DF'; clear DF'
      have Fg3 := Fg3'; clear Fg3'
      have OO := OO'; clear OO'
      clear cc22
      refine hK21.out _ _ ⟨Fg3.out, trivial⟩ (fun hS24 => ?_); clear hK21 K21
      (try simp only [zP, zN, zA, zB, zC])
      refine pure_ (i := 11) (N := some 20) (v := .bool false) #[true, true, true, true, true, true, true, true, true, true, true, true, false, false, false, false, false, false, false, false, false] rfl rfl (by kernel_rfl) (fun c a w h => hP c a _ _ w h) (y_run (by rfl) (fun W => by go_simp)) rfl ?_
      (try simp only [zP, zN, zA, zB, zC])
      refine pure_ (i := 12) (N := some 21) (v := .bool false) #[true, true, true, true, true, true, true, true, true, true, true, true, true, false, false, false, false, false, false, false, false] rfl rfl (by kernel_rfl) (fun c a w h => hP c a _ _ w h) (y_pick (t := false) (by rfl) rfl (by rfl) (by rfl)) rfl ?_
      (try simp only [zP, zN, zA, zB, zC])
      refine pure_ (i := 13) (N := some 22) (v := .bool false) #[true, true, true, true, true, true, true, true, true, true, true, true, true, true, false, false, false, false, false, false, false] rfl rfl (by kernel_rfl) (fun c a w h => hP c a _ _ w h) (y_move rfl (by rfl) (by rfl)) rfl ?_
      (try simp only [zP, zN, zA, zB, zC])
      refine pure_ (i := 14) (N := some 23) (v := .pointer (some ⟨b, 0, none⟩)) #[true, true, true, true, true, true, true, true, true, true, true, true, true, true, true, false, false, false, false, false, false] rfl rfl (by kernel_rfl) (fun c a w h => hP c a _ _ w h) (y_move rfl (by rfl) (by rfl)) rfl ?_
      (try simp only [zP, zN, zA, zB, zC])
      refine pure_ (i := 16) (N := some 25) (v := .pointer (some ⟨g3, 2, none⟩)) #[true, true, true, true, true, true, true, true, true, true, true, true, true, true, true, false, true, false, false, false, false] rfl rfl (by kernel_rfl) (fun c a w h => hP c a _ _ w h) (y_run (by rfl) (fun W => by go_simp)) rfl ?_
      (try simp only [zP, zN, zA, zB, zC])
      refine take_ (i := 17) (N := some 26) (v := .slice Au S.I.length cu) #[true, true, true, true, true, true, true, true, true, true, true, true, true, true, true, false, true, true, false, false, false] rfl rfl (by kernel_rfl) (fun c a w h => hP c a _ _ w h) (y_load (p := ⟨g3, 2, none⟩) rfl (by rfl) (by rfl) (fun W hS => run_load_one ((hS.1.cell 2).trans rfl) Try.underlying44 rfl)) hS24 rfl ?_
      (try simp only [zP, zN, zA, zB, zC])
      refine one_ (i := 15) (N := some 24) #[true, true, true, true, true, true, true, true, true, true, true, true, true, true, true, true, true, true, false, false, false] rfl rfl (by kernel_rfl) (by simp) (fun K25 hK25 => ?_)
      refine e_call Try.func16 (by kernel_rfl) rfl #[.pointer (some ⟨b, 0, none⟩)] (by rfl) rfl rfl (by first | rfl | (simp only [List.map_toArray, List.map_cons, List.map_nil]; first | done | rfl)) (inners_l BF.out HI.out) ?_
      rintro en w28 ⟨vi_, rfl, OI0, cc27⟩
      refine ⟨_, rfl, ?_⟩
      have hr26 := OI0.lt
      have rw29 := Lib.hid (show ∀ x, x ∈ rl vi_ → x ∈ [] ∨ w.heap.size ≤ x from fun x hx => .inr (by have := (fun k hk => (hr26 k hk).1) x hx; have := C0.out.size; omega))
      have C0' := Lib.hid (show Ch [] w w28 from C0.out.trans' cc27 (fun x hx => absurd hx (by simp)))
      have BF' := Lib.hid (show BookL w28 lo Bs b (S) from BF.out.ch cc27 (fun _ _ h => absurd h (by simp)))
      have DF' := Lib.hid (show DocIs w28 lo Bs (S) (.slice Av S.L.length cv) (.slice Au S.I.length cu) from DF.out.ch0 cc27)
      have Fg3' := Lib.hid (show Blk w28 g3 (#[.int .i64 S.now, (.slice Av S.L.length cv), (.slice Au S.I.length cu)]) 53 from cc27.blk Fg3.out nin_nil)
      have OO' := Lib.hid (show OwnS w28 w4.heap.size 49 28 (.slice Ao S.L.length co) (S.L.length) ((S.L).flatMap opC) from OO.out.ch cc27 rnin_nil)
      clear C0 BF DF Fg3 OO
      have C0 := C0'; clear C0'
      have BF := BF'; clear BF'
      have DF := DF'; clear DF'
      have Fg3 := Fg3'; clear Fg3'
      have OO := OO'; clear OO'
      clear cc27
      have OI := Lib.hid (show OwnS w28 w23.heap.size 3 1 (vi_) (S.I.length) ((S.I).map (Value.int .i64)) from OI0)
      refine hK25.out _ _ ⟨Fg3.out, trivial⟩ (fun hS30 => ?_); clear hK25 K25
      (try simp only [zP, zN, zA, zB, zC])
      refine one_ (i := 18) (N := some 27) #[true, true, true, true, true, true, true, true, true, true, true, true, true, true, true, true, true, true, true, false, false] rfl rfl (by kernel_rfl) (by simp) (fun K31 hK31 => ?_)
      refine e_call Try.func36 (by kernel_rfl) rfl #[vi_, .slice Au S.I.length cu] (by rfl) rfl rfl (by first | rfl | (simp only [List.map_toArray, List.map_cons, List.map_nil]; first | done | rfl)) ((by obtain ⟨Ai, ci, hvi, -, -⟩ := OI.out.slice; subst hvi; exact same_ (Lib.hid (by have := HI.out; omega)) (Lib.hid OI.out.src) (Lib.hid DF.out.2.1.src))) ?_
      rintro en w33 ⟨rfl, cc32⟩
      refine ⟨_, rfl, ?_⟩
      have C0' := Lib.hid (show Ch [] w w33 from C0.out.trans' cc32 (fun x hx => absurd hx (by simp)))
      have BF' := Lib.hid (show BookL w33 lo Bs b (S) from BF.out.ch cc32 (fun _ _ h => absurd h (by simp)))
      have DF' := Lib.hid (show DocIs w33 lo Bs (S) (.slice Av S.L.length cv) (.slice Au S.I.length cu) from DF.out.ch0 cc32)
      have Fg3' := Lib.hid (show Blk w33 g3 (#[.int .i64 S.now, (.slice Av S.L.length cv), (.slice Au S.I.length cu)]) 53 from cc32.blk Fg3.out nin_nil)
      have OO' := Lib.hid (show OwnS w33 w4.heap.size 49 28 (.slice Ao S.L.length co) (S.L.length) ((S.L).flatMap opC) from OO.out.ch cc32 rnin_nil)
      have OI' := Lib.hid (show OwnS w33 w23.heap.size 3 1 (vi_) (S.I.length) ((S.I).map (Value.int .i64)) from OI.out.ch cc32 rnin_nil)
      clear C0 BF DF Fg3 OO OI
      have C0 := C0'; clear C0'
      have BF := BF'; clear BF'
      have DF := DF'; clear DF'
      have Fg3 := Fg3'; clear Fg3'
      have OO := OO'; clear OO'
      have OI := OI'; clear OI'
      clear cc32
      refine hK31.out _ _ ⟨Fg3.out, trivial⟩ (fun hS34 => ?_); clear hK31 K31
      (try simp only [zP, zN, zA, zB, zC])
      refine pure_ (i := 19) (N := some 28) (v := .bool false) #[true, true, true, true, true, true, true, true, true, true, true, true, true, true, true, true, true, true, true, true, false] rfl rfl (by kernel_rfl) (fun c a w h => hP c a _ _ w h) (y_run (by rfl) (fun W => by go_simp)) rfl ?_
      (try simp only [zP, zN, zA, zB, zC])
      refine pure_ (i := 20) (N := some 29) (v := .bool false) #[true, true, true, true, true, true, true, true, true, true, true, true, true, true, true, true, true, true, true, true, true] rfl rfl (by kernel_rfl) (fun c a w h => hP c a _ _ w h) (y_pick (t := false) (by rfl) rfl (by rfl) (by rfl)) rfl ?_
      (try simp only [zP, zN, zA, zB, zC])
      refine done_ (by kernel_rfl) (th_norm (hK17 _ _ ?_)); clear hK17 K17
      refine wp_cond_false rfl ?_
      refine wp_skip ?_
      refine th_norm (hK16 _ _ ?_); try clear hK16 K16
      refine sq_ (fun K35 hK35 => ?_)
      refine s_ (fun K36 hK36 => ?_)
      refine pu_ (v := .int .i64 0) (y_assign rfl (by rfl) (by rfl)) ?_
      (try simp only [zP, zN, zA, zB, zC])
      refine nl_ (hK36 _ _ ?_); clear hK36 K36
      refine wp_block ?_
      refine loopk_ (fun (kq : Nat) (a' : Act) (w' : World) => ∃ (k : Nat), ∃ (us : Nat → Value), a' = ⟨#[us 0, us 1, us 2, .pointer (some ⟨g3, 0, none⟩), .bool false, .slice Ao S.L.length co, .int .i64 k, us 7, us 8, us 9, us 10, us 11, us 12, us 13, us 14, us 15, us 16, us 17, us 18, us 19, us 20, us 21, us 22, us 23, us 24, us 25, us 26, us 27, us 28, us 29, us 30, us 31, us 32, us 33, us 34, us 35, us 36, us 37, us 38, us 39, us 40, us 41, us 42, us 43, us 44, us 45, us 46, us 47, us 48, us 49, us 50, us 51, us 52, us 53], []⟩ ∧ Hid (Ch [] w w') ∧ Hid (BookL w' lo Bs b (S)) ∧ Hid (DocIs w' lo Bs (S) (.slice Av S.L.length cv) (.slice Au S.I.length cu)) ∧ Hid (Blk w' g3 (#[.int .i64 S.now, (.slice Av S.L.length cv), (.slice Au S.I.length cu)]) 53) ∧ Hid (OwnS w' w4.heap.size 49 28 (.slice Ao S.L.length co) (S.L.length) ((S.L).flatMap opC)) ∧ Hid (k ≤ S.L.length ∧ kq + k = S.L.length)) (S.L.length) (⟨0, fun us_ => (#[.pointer (some ⟨b, 0, none⟩), .agg #[.int .i64 S.now, (.slice Av S.L.length cv), (.slice Au S.I.length cu)], undef, .pointer (some ⟨g3, 0, none⟩), .bool false, .slice Ao S.L.length co, .int .i64 0, .pointer (some ⟨b, 0, none⟩), .slice Ao S.L.length co, .slice Ao S.L.length co, .int .i64 S.L.length, .pointer (some ⟨g3, 1, none⟩), .slice Av S.L.length cv, .int .i64 S.L.length, .bool false, .bool false, .pointer (some ⟨b, 0, none⟩), .int .i64 S.now, .pointer (some ⟨g3, 0, none⟩), .int .i64 S.now, .bool false, .bool false, .bool false, .pointer (some ⟨b, 0, none⟩), vi_, .pointer (some ⟨g3, 2, none⟩), .slice Au S.I.length cu, .bool true, .bool false, .bool false, undef, undef, undef, undef, undef, undef, undef, undef, undef, undef, undef, undef, undef, undef, undef, undef, undef, undef, undef, undef, undef, undef, undef, undef] : Array Value).getD us_ undef, rfl, C0, BF, DF, Fg3, OO, Lib.hid ⟨by omega, by omega⟩⟩) ?_
      rintro kq _ w37 ⟨k, us, rfl, C0, BF, DF, Fg3, OO, hk⟩ K38 hK38
      refine sq_ (fun K39 hK39 => ?_)
      rcases op_at' hk.out.1 with ⟨o, hlt0, ho0⟩ | h
      · have hlt := Lib.hid hlt0
        have ho := Lib.hid ho0
        clear hlt0 ho0
        obtain ⟨gv, cv2, hv, -, -, -, -, -⟩ := DF.out.1.some_ (by have := hlt.out; omega)
        obtain ⟨go, co2, hvo, -, -, -, -, -⟩ := OO.out.some_ (by have := hlt.out; omega)
        injection hv with hv1 _ hv3
        injection hvo with hvo1 _ hvo3
        subst hv1 hv3 hvo1 hvo3
        have D33 := Lib.hid (show (k : Int) < (S.L.length : Int) by have := hlt.out; omega)
        have Wk := Lib.hid (show IntKind.i64.wrap ((k : Int) + 1) = ((k + 1 : Nat) : Int) by rw [wr64 (by have := hlt.out; have := HL.out; omega)]; omega)
        refine s_ (fun K40 hK40 => ?_)
        refine pu_ (v := .int .i64 k) (y_move rfl (by rfl) (by rfl)) ?_
        (try simp only [zP, zN, zA, zB, zC])
        refine pu_ (v := .slice (some ⟨go, 0, none⟩) S.L.length co) (y_move rfl (by rfl) (by rfl)) ?_
        (try simp only [zP, zN, zA, zB, zC])
        refine pu_ (v := .int .i64 S.L.length) (y_run (by rfl) (fun W => by go_simp)) ?_
        (try simp only [zP, zN, zA, zB, zC])
        refine pu_ (v := .bool true) (y_run (by rfl) (fun W => by have d := D33.out; go_simp)) ?_
        (try simp only [zP, zN, zA, zB, zC])
        refine pu_ (v := .bool true) (y_move rfl (by rfl) (by rfl)) ?_
        (try simp only [zP, zN, zA, zB, zC])
        refine pu_ (v := .int .i64 k) (y_move rfl (by rfl) (by rfl)) ?_
        (try simp only [zP, zN, zA, zB, zC])
        refine pu_ (v := .pointer (some ⟨g3, 1, none⟩)) (y_run (by rfl) (fun W => by go_simp)) ?_
        (try simp only [zP, zN, zA, zB, zC])
        refine ld_ (v := .slice (some ⟨gv, 0, none⟩) S.L.length cv) rfl (by rfl) (by rfl) (run_load_one ((Fg3.out.cell 1).trans rfl) Try.underlying51 rfl) ?_
        (try simp only [zP, zN, zA, zB, zC])
        refine pu_ (v := .int .i64 S.L.length) (y_run (by rfl) (fun W => by go_simp)) ?_
        (try simp only [zP, zN, zA, zB, zC])
        refine pu_ (v := .bool true) (y_run (by rfl) (fun W => by have d := D33.out; go_simp)) ?_
        (try simp only [zP, zN, zA, zB, zC])
        refine pu_ (v := .bool true) (y_pick (t := true) (by rfl) rfl (by rfl) (by rfl)) ?_
        (try simp only [zP, zN, zA, zB, zC])
        refine nl_ (hK40 _ _ ?_); clear hK40 K40
        refine wp_cond_true rfl ?_
        refine wp_skip ?_
        refine th_norm (hK39 _ _ ?_); try clear hK39 K39
        refine sq_ (fun K41 hK41 => ?_)
        refine wp_block ?_
        refine sq_ (fun K42 hK42 => ?_)
        refine startk_ (S := fun W => DocIs W lo Bs (S) (.slice (some ⟨gv, 0, none⟩) S.L.length cv) (.slice Au S.I.length cu) ∧ Blk W g3 (#[.int .i64 S.now, (.slice (some ⟨gv, 0, none⟩) S.L.length cv), (.slice Au S.I.length cu)]) 53 ∧ OwnS W w4.heap.size 49 28 (.slice (some ⟨go, 0, none⟩) S.L.length co) (S.L.length) ((S.L).flatMap opC) ∧ True) (ds := []) #[false, false, false, false, false, false, false, false, false, false, false] (by kernel_rfl) rfl rfl (fun W c => ⟨DF.out.ch0 c, c.blk Fg3.out nin_nil, OO.out.ch c rnin_nil, trivial⟩) (fun w43 C44 hS45 => ?_)
        have C0' := Lib.hid (show Ch [] w w43 from C0.out.trans' C44 (fun x hx => absurd hx (by simp)))
        have BF' := Lib.hid (show BookL w43 lo Bs b (S) from BF.out.ch C44 (fun _ _ h => absurd h (by simp)))
        have DF' := Lib.hid (show DocIs w43 lo Bs (S) (.slice (some ⟨gv, 0, none⟩) S.L.length cv) (.slice Au S.I.length cu) from DF.out.ch0 C44)
        have Fg3' := Lib.hid (show Blk w43 g3 (#[.int .i64 S.now, (.slice (some ⟨gv, 0, none⟩) S.L.length cv), (.slice Au S.I.length cu)]) 53 from C44.blk Fg3.out nin_nil)
        have OO' := Lib.hid (show OwnS w43 w4.heap.size 49 28 (.slice (some ⟨go, 0, none⟩) S.L.length co) (S.L.length) ((S.L).flatMap opC) from OO.out.ch C44 rnin_nil)
        clear C0 BF DF Fg3 OO
        have C0 := C0'; clear C0'
        have BF := BF'; clear BF'
        have DF := DF'; clear DF'
        have Fg3 := Fg3'; clear Fg3'
        have OO := OO'; clear OO'
        clear C44
        refine pure_ (i := 0) (N := some 43) (v := .slice (some ⟨go, 0, none⟩) S.L.length co) #[true, false, false, false, false, false, false, false, false, false, false] rfl rfl (by kernel_rfl) (fun c a w h => hP c a _ _ w h) (y_move rfl (by rfl) (by rfl)) rfl ?_
        (try simp only [zP, zN, zA, zB, zC])
        refine pure_ (i := 1) (N := some 44) (v := .int .i64 k) #[true, true, false, false, false, false, false, false, false, false, false] rfl rfl (by kernel_rfl) (fun c a w h => hP c a _ _ w h) (y_move rfl (by rfl) (by rfl)) rfl ?_
        (try simp only [zP, zN, zA, zB, zC])
        refine pure_ (i := 2) (N := some 45) (v := .pointer (some ⟨go, k * 28, none⟩)) #[true, true, true, false, false, false, false, false, false, false, false] rfl rfl (by kernel_rfl) (fun c a w h => hP c a _ _ w h) (y_run (by rfl) (fun W => by have d := D33.out; go_simp)) rfl ?_
        (try simp only [zP, zN, zA, zB, zC])
        refine take_ (i := 3) (N := some 46) (v := .agg (opC o).toArray) #[true, true, true, true, false, false, false, false, false, false, false] rfl rfl (by kernel_rfl) (fun c a w h => hP c a _ _ w h) (y_load (p := ⟨go, k * 28, none⟩) rfl (by rfl) (by rfl) (fun W hS => run_loadVar_at (op_cells ho.out hS.2.2.1) Try.underlying49 rfl (by rw [opC_len]; kernel_rfl))) hS45 rfl ?_
        (try simp only [zP, zN, zA, zB, zC])
        refine pure_ (i := 4) (N := some 47) (v := .pointer (some ⟨g3, 1, none⟩)) #[true, true, true, true, true, false, false, false, false, false, false] rfl rfl (by kernel_rfl) (fun c a w h => hP c a _ _ w h) (y_run (by rfl) (fun W => by go_simp)) rfl ?_
        (try simp only [zP, zN, zA, zB, zC])
        refine take_ (i := 5) (N := some 48) (v := .slice (some ⟨gv, 0, none⟩) S.L.length cv) #[true, true, true, true, true, true, false, false, false, false, false] rfl rfl (by kernel_rfl) (fun c a w h => hP c a _ _ w h) (y_load (p := ⟨g3, 1, none⟩) rfl (by rfl) (by rfl) (fun W hS => run_load_one ((hS.2.1.cell 1).trans rfl) Try.underlying51 rfl)) hS45 rfl ?_
        (try simp only [zP, zN, zA, zB, zC])
        refine pure_ (i := 6) (N := some 49) (v := .int .i64 k) #[true, true, true, true, true, true, true, false, false, false, false] rfl rfl (by kernel_rfl) (fun c a w h => hP c a _ _ w h) (y_move rfl (by rfl) (by rfl)) rfl ?_
        (try simp only [zP, zN, zA, zB, zC])
        refine pure_ (i := 7) (N := some 50) (v := .pointer (some ⟨gv, k * 28, none⟩)) #[true, true, true, true, true, true, true, true, false, false, false] rfl rfl (by kernel_rfl) (fun c a w h => hP c a _ _ w h) (y_run (by rfl) (fun W => by have d := D33.out; go_simp)) rfl ?_
        (try simp only [zP, zN, zA, zB, zC])
        refine take_ (i := 8) (N := some 51) (v := .agg (opC o).toArray) #[true, true, true, true, true, true, true, true, true, false, false] rfl rfl (by kernel_rfl) (fun c a w h => hP c a _ _ w h) (y_load (p := ⟨gv, k * 28, none⟩) rfl (by rfl) (by rfl) (fun W hS => run_loadVar_at (op_cells59 ho.out hS.1.1) Try.underlying59 rfl (by rw [opC_len]; kernel_rfl))) hS45 rfl ?_
        (try simp only [zP, zN, zA, zB, zC])
        refine one_ (i := 9) (N := some 52) #[true, true, true, true, true, true, true, true, true, true, false] rfl rfl (by kernel_rfl) (by simp) (fun K46 hK46 => ?_)
        refine e_call Try.func26 (by kernel_rfl) rfl #[.agg (opC o).toArray, .agg (opC o).toArray] (by rfl) rfl rfl (by first | rfl | (simp only [List.map_toArray, List.map_cons, List.map_nil]; first | done | rfl)) ((is_all (HO.out _ (List.mem_of_getElem? ho.out)) (HB.out.trans (C0.out.below0.mono HB.out.size)))) ?_
        rintro en w48 ⟨rfl, cc47⟩
        refine ⟨_, rfl, ?_⟩
        have C0' := Lib.hid (show Ch [] w w48 from C0.out.trans' cc47 (fun x hx => absurd hx (by simp)))
        have BF' := Lib.hid (show BookL w48 lo Bs b (S) from BF.out.ch cc47 (fun _ _ h => absurd h (by simp)))
        have DF' := Lib.hid (show DocIs w48 lo Bs (S) (.slice (some ⟨gv, 0, none⟩) S.L.length cv) (.slice Au S.I.length cu) from DF.out.ch0 cc47)
        have Fg3' := Lib.hid (show Blk w48 g3 (#[.int .i64 S.now, (.slice (some ⟨gv, 0, none⟩) S.L.length cv), (.slice Au S.I.length cu)]) 53 from cc47.blk Fg3.out nin_nil)
        have OO' := Lib.hid (show OwnS w48 w4.heap.size 49 28 (.slice (some ⟨go, 0, none⟩) S.L.length co) (S.L.length) ((S.L).flatMap opC) from OO.out.ch cc47 rnin_nil)
        clear C0 BF DF Fg3 OO
        have C0 := C0'; clear C0'
        have BF := BF'; clear BF'
        have DF := DF'; clear DF'
        have Fg3 := Fg3'; clear Fg3'
        have OO := OO'; clear OO'
        clear cc47
        refine hK46.out _ _ ⟨DF.out, Fg3.out, OO.out, trivial⟩ (fun hS49 => ?_); clear hK46 K46
        (try simp only [zP, zN, zA, zB, zC])
        refine pure_ (i := 10) (N := some 53) (v := .bool false) #[true, true, true, true, true, true, true, true, true, true, true] rfl rfl (by kernel_rfl) (fun c a w h => hP c a _ _ w h) (y_run (by rfl) (fun W => by go_simp)) rfl ?_
        (try simp only [zP, zN, zA, zB, zC])
        refine done_ (by kernel_rfl) (th_norm (hK42 _ _ ?_)); clear hK42 K42
        refine wp_cond_false rfl ?_
        refine wp_skip ?_
        refine ib_norm ?_
        refine th_norm (hK41 _ _ ?_); try clear hK41 K41
        refine r_ ?_
        refine pu_ (v := .int .i64 k) (y_move rfl (by rfl) (by rfl)) ?_
        (try simp only [zP, zN, zA, zB, zC])
        refine pu_ (v := .int .i64 (k + 1 : Nat)) (y_run (by rfl) (fun W => by have d := Wk.out; go_simp)) ?_
        (try simp only [zP, zN, zA, zB, zC])
        refine pu_ (v := .int .i64 (k + 1 : Nat)) (y_assign rfl (by rfl) (by rfl)) ?_
        (try simp only [zP, zN, zA, zB, zC])
        refine nl_ ?_
        exact th_norm (hK38 (kq - 1) _ _ (by have := hlt.out; have := hk.out; omega) ⟨k + 1, fun us_ => (#[us 0, us 1, us 2, .pointer (some ⟨g3, 0, none⟩), .bool false, .slice (some ⟨go, 0, none⟩) S.L.length co, .int .i64 (k + 1 : Nat), us 7, us 8, us 9, us 10, us 11, us 12, us 13, us 14, us 15, us 16, us 17, us 18, us 19, us 20, us 21, us 22, us 23, us 24, us 25, us 26, us 27, us 28, us 29, .int .i64 k, .slice (some ⟨go, 0, none⟩) S.L.length co, .int .i64 S.L.length, .bool true, .bool true, .int .i64 k, .pointer (some ⟨g3, 1, none⟩), .slice (some ⟨gv, 0, none⟩) S.L.length cv, .int .i64 S.L.length, .bool true, .bool true, .int .i64 k, .int .i64 (k + 1 : Nat), .slice (some ⟨go, 0, none⟩) S.L.length co, .int .i64 k, .pointer (some ⟨go, k * 28, none⟩), .agg (opC o).toArray, .pointer (some ⟨g3, 1, none⟩), .slice (some ⟨gv, 0, none⟩) S.L.length cv, .int .i64 k, .pointer (some ⟨gv, k * 28, none⟩), .agg (opC o).toArray, .bool true, .bool false] : Array Value).getD us_ undef, rfl, C0, BF, DF, Fg3, OO, Lib.hid ⟨by have := hlt.out; omega, by have := hlt.out; have := hk.out; omega⟩⟩)
      · have D33 := Lib.hid (show ¬ k < S.L.length by omega)
        clear h
        refine s_ (fun K50 hK50 => ?_)
        refine pu_ (v := .int .i64 k) (y_move rfl (by rfl) (by rfl)) ?_
        (try simp only [zP, zN, zA, zB, zC])
        refine pu_ (v := .slice Ao S.L.length co) (y_move rfl (by rfl) (by rfl)) ?_
        (try simp only [zP, zN, zA, zB, zC])
        refine pu_ (v := .int .i64 S.L.length) (y_run (by rfl) (fun W => by go_simp)) ?_
        (try simp only [zP, zN, zA, zB, zC])
        refine pu_ (v := .bool false) (y_run (by rfl) (fun W => by have d := D33.out; go_simp)) ?_
        (try simp only [zP, zN, zA, zB, zC])
        refine pu_ (v := .bool false) (y_move rfl (by rfl) (by rfl)) ?_
        (try simp only [zP, zN, zA, zB, zC])
        refine pu_ (y_off (by rfl)) ?_
        (try simp only [zP, zN, zA, zB, zC])
        refine pu_ (y_off (by rfl)) ?_
        (try simp only [zP, zN, zA, zB, zC])
        refine pu_ (y_off (by rfl)) ?_
        (try simp only [zP, zN, zA, zB, zC])
        refine pu_ (y_off (by rfl)) ?_
        (try simp only [zP, zN, zA, zB, zC])
        refine pu_ (y_off (by rfl)) ?_
        (try simp only [zP, zN, zA, zB, zC])
        refine pu_ (v := .bool false) (y_pick (t := false) (by rfl) rfl (by rfl) (by rfl)) ?_
        (try simp only [zP, zN, zA, zB, zC])
        refine nl_ (hK50 _ _ ?_); clear hK50 K50
        refine wp_cond_false rfl ?_
        refine wp_exit ?_
        refine th_exit ?_
        refine th_exit ?_
        refine ib_exit ?_
        refine th_norm (hK35 _ _ ?_); try clear hK35 K35
        refine s_ (fun K51 hK51 => ?_)
        refine pu_ (v := .bool true) (y_assign rfl (by rfl) (by rfl)) ?_
        (try simp only [zP, zN, zA, zB, zC])
        refine nl_ (hK51 _ _ ?_); clear hK51 K51
        refine wp_ret ?_
        refine hQ _ _ _ ?_
        refine bodyPost_ret (res1 rfl (rdv_tmp (v := .bool true) (by rfl))) rfl ?_
        exact ⟨rfl, C0.out⟩
end
end Go.Proofs.Ytggcpbnlblbpjaa.L
