/- The walks of package res. -/
import Derived.Test.YtmoelehhofmhcaaPrP
namespace Go.Proofs.Ytmoelehhofmhcaa.V
open Go Go.RowKit Go.Proofs.Ytmoelehhofmhcaa.K Go.Proofs.YtmoelehhofmhcaaW.PrintLast
set_option linter.unusedVariables false
set_option linter.unusedSimpArgs false
set_option maxRecDepth 100000
set_option maxHeartbeats 1600000
section
variable {w : World}
theorem max_ {x0 x1 x2 y0 y1 y2 : Int}  :
  Calls Try.prog 56 #[.agg #[.int .i64 x0, .int .i64 x1, .int .i64 x2], .agg #[.int .i64 y0, .int .i64 y1, .int .i64 y2]] w fun en w' => en = .returned (.agg #[.int .i64 (max x0 y0), .int .i64 (max x1 y1), .int .i64 (max x2 y2)]) ∧ Ch [] w w' := by
 have C0 := qh (Ch.refl [] w)
 go_enter Try.func56, Try.ntmps56
 refine q_ (fun Q hQ hP => ?_)
 refine s_ (fun K1 hK1 => ?_)
 refine ef_ (fun K2 hK2 => ?_)
 refine e_boxN (by rfl) rfl rfl (cs := #[.int .i64 x0, .int .i64 x1, .int .i64 x2]) (v := .agg #[.int .i64 x0, .int .i64 x1, .int .i64 x2]) (by rfl) rfl ?_
 rintro g3 w4 HG5 B6 C7
 have nw8 := qh (show w.heap.size ≤ g3 by have := C0.out.size; have := HG5.out; omega)
 replace C0 := qh (C0.out.trans' C7 inw_nil)
 have Fg3 := qh (show Blk w4 g3 (#[.int .i64 x0, .int .i64 x1, .int .i64 x2]) 23 from B6); clear B6 C7
 refine hK2 _ _ ?_; clear hK2 K2
 try simp only [zP,zN,zA,zB,zC]
 refine ef_ (fun K9 hK9 => ?_)
 refine e_boxN (by rfl) rfl rfl (cs := #[.int .i64 y0, .int .i64 y1, .int .i64 y2]) (v := .agg #[.int .i64 y0, .int .i64 y1, .int .i64 y2]) (by rfl) rfl ?_
 rintro g10 w11 HG12 B13 C14
 have nw15 := qh (show w.heap.size ≤ g10 by have := C0.out.size; have := HG12.out; omega)
 have ne16 := qh (Fg3.out.ne_new HG12)
 replace C0 := qh (C0.out.trans' C14 inw_nil)
 replace Fg3 := qh (C14.blk Fg3.out nin_nil)
 have Fg10 := qh (show Blk w11 g10 (#[.int .i64 y0, .int .i64 y1, .int .i64 y2]) 23 from B13); clear B13 C14
 refine hK9 _ _ ?_; clear hK9 K9
 try simp only [zP,zN,zA,zB,zC]
 refine ef_ (fun K17 hK17 => ?_)
 refine e_alloc (by rfl) rfl rfl (cs := #[.int .i64 0, .int .i64 0, .int .i64 0]) (by kernel_rfl) ?_
 rintro gr w18 HG19 B20 C21
 have nw22 := qh (show w.heap.size ≤ gr by have := C0.out.size; have := HG19.out; omega)
 have ne23 := qh (Fg3.out.ne_new HG19)
 have ne24 := qh (Fg10.out.ne_new HG19)
 replace C0 := qh (C0.out.trans' C21 inw_nil)
 replace Fg3 := qh (C21.blk Fg3.out nin_nil)
 replace Fg10 := qh (C21.blk Fg10.out nin_nil)
 have Fgr := qh (show Blk w18 gr (#[.int .i64 0, .int .i64 0, .int .i64 0]) 23 from B20); clear B20 C21
 refine hK17 _ _ ?_; clear hK17 K17
 try simp only [zP,zN,zA,zB,zC]
 refine nl_ (hK1 _ _ ?_); clear hK1 K1
 refine cutk_ (fun (a' : Act) (w' : World) => ∃ (ga : Nat), ∃ (gb : Nat), a' = ⟨#[uo a' 0, uo a' 1, uo a' 2, uo a' 3, .pointer (some ⟨gr, 0, none⟩), .pointer (some ⟨ga, 0, none⟩), .pointer (some ⟨gb, 0, none⟩), uo a' 7, uo a' 8, uo a' 9, uo a' 10, uo a' 11, uo a' 12, uo a' 13, uo a' 14, uo a' 15, uo a' 16, uo a' 17, uo a' 18, uo a' 19, uo a' 20, uo a' 21, uo a' 22, uo a' 23, uo a' 24, uo a' 25, uo a' 26], []⟩ ∧ Hid (Ch [] w w') ∧ Hid (Blk w' gr (#[.int .i64 0, .int .i64 0, .int .i64 0]) 23) ∧ Hid (Blk w' ga (#[.int .i64 x0, .int .i64 x1, .int .i64 x2]) 99) ∧ Hid (Blk w' gb (#[.int .i64 y0, .int .i64 y1, .int .i64 y2]) 99) ∧ Hid (ga ≠ gb) ∧ Hid (w.heap.size ≤ ga)) (fun K25 hK25 => ?_) ?_
 ·refine startk_ (S := fun W => Blk W g3 (#[.int .i64 x0, .int .i64 x1, .int .i64 x2]) 23 ∧ Blk W g10 (#[.int .i64 y0, .int .i64 y1, .int .i64 y2]) 23 ∧ True) (ds := []) (msk 8 0) (by kernel_rfl) rfl (by kernel_rfl) (fun W c => ⟨c.blk Fg3.out nin_nil, c.blk Fg10.out nin_nil, trivial⟩) (fun w27 C28 hS29 => ?_)
  replace C0 := qh (C0.out.trans' C28 inw_nil)
  replace Fg3 := qh (C28.blk Fg3.out nin_nil)
  replace Fg10 := qh (C28.blk Fg10.out nin_nil)
  replace Fgr := qh (C28.blk Fgr.out nin_nil)
  clear C28
  refine takeh_ (i := 0) (N := some 8) (v := .agg (#[.int .i64 x0, .int .i64 x1, .int .i64 x2])) (msk 8 1) rfl rfl (by kernel_rfl) hP (y_load (p := ⟨g3, 0, none⟩) rfl (by rfl) (by rfl) (fun W hS => run_loadVar_row _ _ 23 23 (#[.int .i64 x0, .int .i64 x1, .int .i64 x2]) (0, 0) _ hS.1 Try.underlying23 rfl (by kernel_rfl))) hS29 rfl ?_
  try simp only [zP,zN,zA,zB,zC]
  refine takeh_ (i := 2) (N := some 10) (v := .agg (#[.int .i64 y0, .int .i64 y1, .int .i64 y2])) (msk 8 5) rfl rfl (by kernel_rfl) hP (y_load (p := ⟨g10, 0, none⟩) rfl (by rfl) (by rfl) (fun W hS => run_loadVar_row _ _ 23 23 (#[.int .i64 y0, .int .i64 y1, .int .i64 y2]) (0, 0) _ hS.2.1 Try.underlying23 rfl (by kernel_rfl))) hS29 rfl ?_
  try simp only [zP,zN,zA,zB,zC]
  refine three_ (i := 1) (j := 4) (k := 5) (Ni := some 9) (Nj := some 5) (Nk := some 6) (msk 8 7) (msk 8 21) (msk 8 37) rfl rfl rfl rfl rfl rfl (by kernel_rfl) (by simp) (by simp) (by simp) (fun K30 hK30 => ?_) (fun K31 hK31 => ?_) (fun K32 hK32 => ?_)
  ·refine e_call Try.func57 (by kernel_rfl) rfl #[.agg (#[.int .i64 x0, .int .i64 x1, .int .i64 x2])] (by rfl) rfl rfl (mp1 rfl) (of_) ?_
   rintro en w34 ⟨rfl, cc33⟩
   refine ⟨_, rfl, ?_⟩
   replace C0 := qh (C0.out.trans' cc33 inw_nil)
   replace Fg3 := qh (cc33.blk Fg3.out nin_nil)
   replace Fg10 := qh (cc33.blk Fg10.out nin_nil)
   replace Fgr := qh (cc33.blk Fgr.out nin_nil)
   clear cc33
   refine hK30.out _ _ ⟨Fg3.out, Fg10.out, trivial⟩ (fun hS35 => ?_); clear hK30 K30
   try simp only [zP,zN,zA,zB,zC]
   refine three_ (i := 3) (j := 4) (k := 5) (Ni := some 11) (Nj := some 5) (Nk := some 6) (msk 8 15) (msk 8 23) (msk 8 39) rfl rfl rfl rfl rfl rfl (by kernel_rfl) (by simp) (by simp) (by simp) (fun K36 hK36 => ?_) (fun K37 hK37 => ?_) (fun K38 hK38 => ?_)
   ·refine e_call Try.func57 (by kernel_rfl) rfl #[.agg (#[.int .i64 y0, .int .i64 y1, .int .i64 y2])] (by rfl) rfl rfl (mp1 rfl) (of_) ?_
    rintro en w40 ⟨rfl, cc39⟩
    refine ⟨_, rfl, ?_⟩
    replace C0 := qh (C0.out.trans' cc39 inw_nil)
    replace Fg3 := qh (cc39.blk Fg3.out nin_nil)
    replace Fg10 := qh (cc39.blk Fg10.out nin_nil)
    replace Fgr := qh (cc39.blk Fgr.out nin_nil)
    clear cc39
    refine hK36.out _ _ ⟨Fg3.out, Fg10.out, trivial⟩ (fun hS41 => ?_); clear hK36 K36
    try simp only [zP,zN,zA,zB,zC]
    refine two_ (i := 4) (j := 5) (Ni := some 5) (Nj := some 6) (msk 8 31) (msk 8 47) rfl rfl rfl rfl (by kernel_rfl) (by simp) (by simp) (fun K42 hK42 => ?_) (fun K43 hK43 => ?_)
    ·refine e_alloc (by rfl) rfl rfl (cs := #[.int .i64 0, .int .i64 0, .int .i64 0]) (by kernel_rfl) ?_
     rintro g44 w45 HG46 B47 C48
     have nw49 := qh (show w.heap.size ≤ g44 by have := C0.out.size; have := HG46.out; omega)
     replace C0 := qh (C0.out.trans' C48 inw_nil)
     replace Fg3 := qh (C48.blk Fg3.out nin_nil)
     replace Fg10 := qh (C48.blk Fg10.out nin_nil)
     replace Fgr := qh (C48.blk Fgr.out nin_nil)
     have Fg44 := qh (show Blk w45 g44 (#[.int .i64 0, .int .i64 0, .int .i64 0]) 99 from B47); clear B47 C48
     refine hK42.out _ _ ⟨Fg3.out, Fg10.out, trivial⟩ (fun hS50 => ?_); clear hK42 K42
     try simp only [zP,zN,zA,zB,zC]
     refine one_ (i := 5) (N := some 6) (msk 8 63) rfl rfl (by kernel_rfl) (by simp) (fun K51 hK51 => ?_)
     refine e_alloc (by rfl) rfl rfl (cs := #[.int .i64 0, .int .i64 0, .int .i64 0]) (by kernel_rfl) ?_
     rintro g52 w53 HG54 B55 C56
     have nw57 := qh (show w.heap.size ≤ g52 by have := C0.out.size; have := HG54.out; omega)
     have ne58 := qh (Fg44.out.ne_new HG54)
     replace C0 := qh (C0.out.trans' C56 inw_nil)
     replace Fg3 := qh (C56.blk Fg3.out nin_nil)
     replace Fg10 := qh (C56.blk Fg10.out nin_nil)
     replace Fgr := qh (C56.blk Fgr.out nin_nil)
     replace Fg44 := qh (C56.blk Fg44.out nin_nil)
     have Fg52 := qh (show Blk w53 g52 (#[.int .i64 0, .int .i64 0, .int .i64 0]) 99 from B55); clear B55 C56
     refine hK51.out _ _ ⟨Fg3.out, Fg10.out, trivial⟩ (fun hS59 => ?_); clear hK51 K51
     try simp only [zP,zN,zA,zB,zC]
     refine one_ (i := 6) (N := none) (msk 8 127) rfl rfl (by kernel_rfl) (by simp) (fun K60 hK60 => ?_)
     refine e_storeN (cells := #[.int .i64 x0, .int .i64 x1, .int .i64 x2]) (by rfl) rfl rfl (by rfl) (by rfl) Fg44.out (by kernel_rfl) (by rfl) (ones_cons rfl (ones_cons rfl (ones_cons rfl ones_nil))) ?_
     rintro w61 B62 C63
     replace C0 := qh (C0.out.trans' C63 (inw_cons (.inr nw49.out) inw_nil))
     replace Fg3 := qh (C63.blk Fg3.out (nin_cons (Blk.ne_type Fg3.out Fg44.out (by decide)) nin_nil))
     replace Fg10 := qh (C63.blk Fg10.out (nin_cons (Blk.ne_type Fg10.out Fg44.out (by decide)) nin_nil))
     replace Fgr := qh (C63.blk Fgr.out (nin_cons (Blk.ne_type Fgr.out Fg44.out (by decide)) nin_nil))
     replace Fg52 := qh (C63.blk Fg52.out (nin_cons (Ne.symm ne58.out) nin_nil))
     clear Fg44; have Fg44 := qh (show Blk w61 g44 (#[.int .i64 x0, .int .i64 x1, .int .i64 x2]) 99 from B62); clear B62 C63
     refine hK60.out _ _ ⟨Fg3.out, Fg10.out, trivial⟩ (fun hS64 => ?_); clear hK60 K60
     try simp only [zP,zN,zA,zB,zC]
     refine one_ (i := 7) (N := none) (msk 8 255) rfl rfl (by kernel_rfl) (by simp) (fun K65 hK65 => ?_)
     refine e_storeN (cells := #[.int .i64 y0, .int .i64 y1, .int .i64 y2]) (by rfl) rfl rfl (by rfl) (by rfl) Fg52.out (by kernel_rfl) (by rfl) (ones_cons rfl (ones_cons rfl (ones_cons rfl ones_nil))) ?_
     rintro w66 B67 C68
     replace C0 := qh (C0.out.trans' C68 (inw_cons (.inr nw57.out) inw_nil))
     replace Fg3 := qh (C68.blk Fg3.out (nin_cons (Blk.ne_type Fg3.out Fg52.out (by decide)) nin_nil))
     replace Fg10 := qh (C68.blk Fg10.out (nin_cons (Blk.ne_type Fg10.out Fg52.out (by decide)) nin_nil))
     replace Fgr := qh (C68.blk Fgr.out (nin_cons (Blk.ne_type Fgr.out Fg52.out (by decide)) nin_nil))
     replace Fg44 := qh (C68.blk Fg44.out (nin_cons ne58.out nin_nil))
     clear Fg52; have Fg52 := qh (show Blk w66 g52 (#[.int .i64 y0, .int .i64 y1, .int .i64 y2]) 99 from B67); clear B67 C68
     refine hK65.out _ _ ⟨Fg3.out, Fg10.out, trivial⟩ (fun hS69 => ?_); clear hK65 K65
     try simp only [zP,zN,zA,zB,zC]
     refine done_ (by kernel_rfl) ?_
     exact th_norm (hK25 _ _ ⟨_, _, rfl, C0, Fgr, Fg44, Fg52, qh (ne58.out), nw49⟩)
    ·refine e_alloc (by rfl) rfl rfl (cs := #[.int .i64 0, .int .i64 0, .int .i64 0]) (by kernel_rfl) ?_
     rintro g70 w71 HG72 B73 C74
     have nw75 := qh (show w.heap.size ≤ g70 by have := C0.out.size; have := HG72.out; omega)
     replace C0 := qh (C0.out.trans' C74 inw_nil)
     replace Fg3 := qh (C74.blk Fg3.out nin_nil)
     replace Fg10 := qh (C74.blk Fg10.out nin_nil)
     replace Fgr := qh (C74.blk Fgr.out nin_nil)
     have Fg70 := qh (show Blk w71 g70 (#[.int .i64 0, .int .i64 0, .int .i64 0]) 99 from B73); clear B73 C74
     refine hK43.out _ _ ⟨Fg3.out, Fg10.out, trivial⟩ (fun hS76 => ?_); clear hK43 K43
     try simp only [zP,zN,zA,zB,zC]
     refine one_ (i := 4) (N := some 5) (msk 8 63) rfl rfl (by kernel_rfl) (by simp) (fun K77 hK77 => ?_)
     refine e_alloc (by rfl) rfl rfl (cs := #[.int .i64 0, .int .i64 0, .int .i64 0]) (by kernel_rfl) ?_
     rintro g78 w79 HG80 B81 C82
     have nw83 := qh (show w.heap.size ≤ g78 by have := C0.out.size; have := HG80.out; omega)
     have ne84 := qh (Fg70.out.ne_new HG80)
     replace C0 := qh (C0.out.trans' C82 inw_nil)
     replace Fg3 := qh (C82.blk Fg3.out nin_nil)
     replace Fg10 := qh (C82.blk Fg10.out nin_nil)
     replace Fgr := qh (C82.blk Fgr.out nin_nil)
     replace Fg70 := qh (C82.blk Fg70.out nin_nil)
     have Fg78 := qh (show Blk w79 g78 (#[.int .i64 0, .int .i64 0, .int .i64 0]) 99 from B81); clear B81 C82
     refine hK77.out _ _ ⟨Fg3.out, Fg10.out, trivial⟩ (fun hS85 => ?_); clear hK77 K77
     try simp only [zP,zN,zA,zB,zC]
     refine one_ (i := 6) (N := none) (msk 8 127) rfl rfl (by kernel_rfl) (by simp) (fun K86 hK86 => ?_)
     refine e_storeN (cells := #[.int .i64 x0, .int .i64 x1, .int .i64 x2]) (by rfl) rfl rfl (by rfl) (by rfl) Fg78.out (by kernel_rfl) (by rfl) (ones_cons rfl (ones_cons rfl (ones_cons rfl ones_nil))) ?_
     rintro w87 B88 C89
     replace C0 := qh (C0.out.trans' C89 (inw_cons (.inr nw83.out) inw_nil))
     replace Fg3 := qh (C89.blk Fg3.out (nin_cons (Blk.ne_type Fg3.out Fg78.out (by decide)) nin_nil))
     replace Fg10 := qh (C89.blk Fg10.out (nin_cons (Blk.ne_type Fg10.out Fg78.out (by decide)) nin_nil))
     replace Fgr := qh (C89.blk Fgr.out (nin_cons (Blk.ne_type Fgr.out Fg78.out (by decide)) nin_nil))
     replace Fg70 := qh (C89.blk Fg70.out (nin_cons ne84.out nin_nil))
     clear Fg78; have Fg78 := qh (show Blk w87 g78 (#[.int .i64 x0, .int .i64 x1, .int .i64 x2]) 99 from B88); clear B88 C89
     refine hK86.out _ _ ⟨Fg3.out, Fg10.out, trivial⟩ (fun hS90 => ?_); clear hK86 K86
     try simp only [zP,zN,zA,zB,zC]
     refine one_ (i := 7) (N := none) (msk 8 255) rfl rfl (by kernel_rfl) (by simp) (fun K91 hK91 => ?_)
     refine e_storeN (cells := #[.int .i64 y0, .int .i64 y1, .int .i64 y2]) (by rfl) rfl rfl (by rfl) (by rfl) Fg70.out (by kernel_rfl) (by rfl) (ones_cons rfl (ones_cons rfl (ones_cons rfl ones_nil))) ?_
     rintro w92 B93 C94
     replace C0 := qh (C0.out.trans' C94 (inw_cons (.inr nw75.out) inw_nil))
     replace Fg3 := qh (C94.blk Fg3.out (nin_cons (Blk.ne_type Fg3.out Fg70.out (by decide)) nin_nil))
     replace Fg10 := qh (C94.blk Fg10.out (nin_cons (Blk.ne_type Fg10.out Fg70.out (by decide)) nin_nil))
     replace Fgr := qh (C94.blk Fgr.out (nin_cons (Blk.ne_type Fgr.out Fg70.out (by decide)) nin_nil))
     replace Fg78 := qh (C94.blk Fg78.out (nin_cons (Ne.symm ne84.out) nin_nil))
     clear Fg70; have Fg70 := qh (show Blk w92 g70 (#[.int .i64 y0, .int .i64 y1, .int .i64 y2]) 99 from B93); clear B93 C94
     refine hK91.out _ _ ⟨Fg3.out, Fg10.out, trivial⟩ (fun hS95 => ?_); clear hK91 K91
     try simp only [zP,zN,zA,zB,zC]
     refine done_ (by kernel_rfl) ?_
     exact th_norm (hK25 _ _ ⟨_, _, rfl, C0, Fgr, Fg78, Fg70, qh ((Ne.symm ne84.out)), nw83⟩)
   ·refine e_alloc (by rfl) rfl rfl (cs := #[.int .i64 0, .int .i64 0, .int .i64 0]) (by kernel_rfl) ?_
    rintro g96 w97 HG98 B99 C100
    have nw101 := qh (show w.heap.size ≤ g96 by have := C0.out.size; have := HG98.out; omega)
    replace C0 := qh (C0.out.trans' C100 inw_nil)
    replace Fg3 := qh (C100.blk Fg3.out nin_nil)
    replace Fg10 := qh (C100.blk Fg10.out nin_nil)
    replace Fgr := qh (C100.blk Fgr.out nin_nil)
    have Fg96 := qh (show Blk w97 g96 (#[.int .i64 0, .int .i64 0, .int .i64 0]) 99 from B99); clear B99 C100
    refine hK37.out _ _ ⟨Fg3.out, Fg10.out, trivial⟩ (fun hS102 => ?_); clear hK37 K37
    try simp only [zP,zN,zA,zB,zC]
    refine two_ (i := 3) (j := 5) (Ni := some 11) (Nj := some 6) (msk 8 31) (msk 8 55) rfl rfl rfl rfl (by kernel_rfl) (by simp) (by simp) (fun K103 hK103 => ?_) (fun K104 hK104 => ?_)
    ·refine e_call Try.func57 (by kernel_rfl) rfl #[.agg (#[.int .i64 y0, .int .i64 y1, .int .i64 y2])] (by rfl) rfl rfl (mp1 rfl) (of_) ?_
     rintro en w106 ⟨rfl, cc105⟩
     refine ⟨_, rfl, ?_⟩
     replace C0 := qh (C0.out.trans' cc105 inw_nil)
     replace Fg3 := qh (cc105.blk Fg3.out nin_nil)
     replace Fg10 := qh (cc105.blk Fg10.out nin_nil)
     replace Fgr := qh (cc105.blk Fgr.out nin_nil)
     replace Fg96 := qh (cc105.blk Fg96.out nin_nil)
     clear cc105
     refine hK103.out _ _ ⟨Fg3.out, Fg10.out, trivial⟩ (fun hS107 => ?_); clear hK103 K103
     try simp only [zP,zN,zA,zB,zC]
     refine one_ (i := 5) (N := some 6) (msk 8 63) rfl rfl (by kernel_rfl) (by simp) (fun K108 hK108 => ?_)
     refine e_alloc (by rfl) rfl rfl (cs := #[.int .i64 0, .int .i64 0, .int .i64 0]) (by kernel_rfl) ?_
     rintro g109 w110 HG111 B112 C113
     have nw114 := qh (show w.heap.size ≤ g109 by have := C0.out.size; have := HG111.out; omega)
     have ne115 := qh (Fg96.out.ne_new HG111)
     replace C0 := qh (C0.out.trans' C113 inw_nil)
     replace Fg3 := qh (C113.blk Fg3.out nin_nil)
     replace Fg10 := qh (C113.blk Fg10.out nin_nil)
     replace Fgr := qh (C113.blk Fgr.out nin_nil)
     replace Fg96 := qh (C113.blk Fg96.out nin_nil)
     have Fg109 := qh (show Blk w110 g109 (#[.int .i64 0, .int .i64 0, .int .i64 0]) 99 from B112); clear B112 C113
     refine hK108.out _ _ ⟨Fg3.out, Fg10.out, trivial⟩ (fun hS116 => ?_); clear hK108 K108
     try simp only [zP,zN,zA,zB,zC]
     refine one_ (i := 6) (N := none) (msk 8 127) rfl rfl (by kernel_rfl) (by simp) (fun K117 hK117 => ?_)
     refine e_storeN (cells := #[.int .i64 x0, .int .i64 x1, .int .i64 x2]) (by rfl) rfl rfl (by rfl) (by rfl) Fg96.out (by kernel_rfl) (by rfl) (ones_cons rfl (ones_cons rfl (ones_cons rfl ones_nil))) ?_
     rintro w118 B119 C120
     replace C0 := qh (C0.out.trans' C120 (inw_cons (.inr nw101.out) inw_nil))
     replace Fg3 := qh (C120.blk Fg3.out (nin_cons (Blk.ne_type Fg3.out Fg96.out (by decide)) nin_nil))
     replace Fg10 := qh (C120.blk Fg10.out (nin_cons (Blk.ne_type Fg10.out Fg96.out (by decide)) nin_nil))
     replace Fgr := qh (C120.blk Fgr.out (nin_cons (Blk.ne_type Fgr.out Fg96.out (by decide)) nin_nil))
     replace Fg109 := qh (C120.blk Fg109.out (nin_cons (Ne.symm ne115.out) nin_nil))
     clear Fg96; have Fg96 := qh (show Blk w118 g96 (#[.int .i64 x0, .int .i64 x1, .int .i64 x2]) 99 from B119); clear B119 C120
     refine hK117.out _ _ ⟨Fg3.out, Fg10.out, trivial⟩ (fun hS121 => ?_); clear hK117 K117
     try simp only [zP,zN,zA,zB,zC]
     refine one_ (i := 7) (N := none) (msk 8 255) rfl rfl (by kernel_rfl) (by simp) (fun K122 hK122 => ?_)
     refine e_storeN (cells := #[.int .i64 y0, .int .i64 y1, .int .i64 y2]) (by rfl) rfl rfl (by rfl) (by rfl) Fg109.out (by kernel_rfl) (by rfl) (ones_cons rfl (ones_cons rfl (ones_cons rfl ones_nil))) ?_
     rintro w123 B124 C125
     replace C0 := qh (C0.out.trans' C125 (inw_cons (.inr nw114.out) inw_nil))
     replace Fg3 := qh (C125.blk Fg3.out (nin_cons (Blk.ne_type Fg3.out Fg109.out (by decide)) nin_nil))
     replace Fg10 := qh (C125.blk Fg10.out (nin_cons (Blk.ne_type Fg10.out Fg109.out (by decide)) nin_nil))
     replace Fgr := qh (C125.blk Fgr.out (nin_cons (Blk.ne_type Fgr.out Fg109.out (by decide)) nin_nil))
     replace Fg96 := qh (C125.blk Fg96.out (nin_cons ne115.out nin_nil))
     clear Fg109; have Fg109 := qh (show Blk w123 g109 (#[.int .i64 y0, .int .i64 y1, .int .i64 y2]) 99 from B124); clear B124 C125
     refine hK122.out _ _ ⟨Fg3.out, Fg10.out, trivial⟩ (fun hS126 => ?_); clear hK122 K122
     try simp only [zP,zN,zA,zB,zC]
     refine done_ (by kernel_rfl) ?_
     exact th_norm (hK25 _ _ ⟨_, _, rfl, C0, Fgr, Fg96, Fg109, qh (ne115.out), nw101⟩)
    ·refine e_alloc (by rfl) rfl rfl (cs := #[.int .i64 0, .int .i64 0, .int .i64 0]) (by kernel_rfl) ?_
     rintro g127 w128 HG129 B130 C131
     have nw132 := qh (show w.heap.size ≤ g127 by have := C0.out.size; have := HG129.out; omega)
     have ne133 := qh (Fg96.out.ne_new HG129)
     replace C0 := qh (C0.out.trans' C131 inw_nil)
     replace Fg3 := qh (C131.blk Fg3.out nin_nil)
     replace Fg10 := qh (C131.blk Fg10.out nin_nil)
     replace Fgr := qh (C131.blk Fgr.out nin_nil)
     replace Fg96 := qh (C131.blk Fg96.out nin_nil)
     have Fg127 := qh (show Blk w128 g127 (#[.int .i64 0, .int .i64 0, .int .i64 0]) 99 from B130); clear B130 C131
     refine hK104.out _ _ ⟨Fg3.out, Fg10.out, trivial⟩ (fun hS134 => ?_); clear hK104 K104
     try simp only [zP,zN,zA,zB,zC]
     refine one_ (i := 3) (N := some 11) (msk 8 63) rfl rfl (by kernel_rfl) (by simp) (fun K135 hK135 => ?_)
     refine e_call Try.func57 (by kernel_rfl) rfl #[.agg (#[.int .i64 y0, .int .i64 y1, .int .i64 y2])] (by rfl) rfl rfl (mp1 rfl) (of_) ?_
     rintro en w137 ⟨rfl, cc136⟩
     refine ⟨_, rfl, ?_⟩
     replace C0 := qh (C0.out.trans' cc136 inw_nil)
     replace Fg3 := qh (cc136.blk Fg3.out nin_nil)
     replace Fg10 := qh (cc136.blk Fg10.out nin_nil)
     replace Fgr := qh (cc136.blk Fgr.out nin_nil)
     replace Fg96 := qh (cc136.blk Fg96.out nin_nil)
     replace Fg127 := qh (cc136.blk Fg127.out nin_nil)
     clear cc136
     refine hK135.out _ _ ⟨Fg3.out, Fg10.out, trivial⟩ (fun hS138 => ?_); clear hK135 K135
     try simp only [zP,zN,zA,zB,zC]
     refine one_ (i := 6) (N := none) (msk 8 127) rfl rfl (by kernel_rfl) (by simp) (fun K139 hK139 => ?_)
     refine e_storeN (cells := #[.int .i64 x0, .int .i64 x1, .int .i64 x2]) (by rfl) rfl rfl (by rfl) (by rfl) Fg96.out (by kernel_rfl) (by rfl) (ones_cons rfl (ones_cons rfl (ones_cons rfl ones_nil))) ?_
     rintro w140 B141 C142
     replace C0 := qh (C0.out.trans' C142 (inw_cons (.inr nw101.out) inw_nil))
     replace Fg3 := qh (C142.blk Fg3.out (nin_cons (Blk.ne_type Fg3.out Fg96.out (by decide)) nin_nil))
     replace Fg10 := qh (C142.blk Fg10.out (nin_cons (Blk.ne_type Fg10.out Fg96.out (by decide)) nin_nil))
     replace Fgr := qh (C142.blk Fgr.out (nin_cons (Blk.ne_type Fgr.out Fg96.out (by decide)) nin_nil))
     replace Fg127 := qh (C142.blk Fg127.out (nin_cons (Ne.symm ne133.out) nin_nil))
     clear Fg96; have Fg96 := qh (show Blk w140 g96 (#[.int .i64 x0, .int .i64 x1, .int .i64 x2]) 99 from B141); clear B141 C142
     refine hK139.out _ _ ⟨Fg3.out, Fg10.out, trivial⟩ (fun hS143 => ?_); clear hK139 K139
     try simp only [zP,zN,zA,zB,zC]
     refine one_ (i := 7) (N := none) (msk 8 255) rfl rfl (by kernel_rfl) (by simp) (fun K144 hK144 => ?_)
     refine e_storeN (cells := #[.int .i64 y0, .int .i64 y1, .int .i64 y2]) (by rfl) rfl rfl (by rfl) (by rfl) Fg127.out (by kernel_rfl) (by rfl) (ones_cons rfl (ones_cons rfl (ones_cons rfl ones_nil))) ?_
     rintro w145 B146 C147
     replace C0 := qh (C0.out.trans' C147 (inw_cons (.inr nw132.out) inw_nil))
     replace Fg3 := qh (C147.blk Fg3.out (nin_cons (Blk.ne_type Fg3.out Fg127.out (by decide)) nin_nil))
     replace Fg10 := qh (C147.blk Fg10.out (nin_cons (Blk.ne_type Fg10.out Fg127.out (by decide)) nin_nil))
     replace Fgr := qh (C147.blk Fgr.out (nin_cons (Blk.ne_type Fgr.out Fg127.out (by decide)) nin_nil))
     replace Fg96 := qh (C147.blk Fg96.out (nin_cons ne133.out nin_nil))
     clear Fg127; have Fg127 := qh (show Blk w145 g127 (#[.int .i64 y0, .int .i64 y1, .int .i64 y2]) 99 from B146); clear B146 C147
     refine hK144.out _ _ ⟨Fg3.out, Fg10.out, trivial⟩ (fun hS148 => ?_); clear hK144 K144
     try simp only [zP,zN,zA,zB,zC]
     refine done_ (by kernel_rfl) ?_
     exact th_norm (hK25 _ _ ⟨_, _, rfl, C0, Fgr, Fg96, Fg127, qh (ne133.out), nw101⟩)
   ·refine e_alloc (by rfl) rfl rfl (cs := #[.int .i64 0, .int .i64 0, .int .i64 0]) (by kernel_rfl) ?_
    rintro g149 w150 HG151 B152 C153
    have nw154 := qh (show w.heap.size ≤ g149 by have := C0.out.size; have := HG151.out; omega)
    replace C0 := qh (C0.out.trans' C153 inw_nil)
    replace Fg3 := qh (C153.blk Fg3.out nin_nil)
    replace Fg10 := qh (C153.blk Fg10.out nin_nil)
    replace Fgr := qh (C153.blk Fgr.out nin_nil)
    have Fg149 := qh (show Blk w150 g149 (#[.int .i64 0, .int .i64 0, .int .i64 0]) 99 from B152); clear B152 C153
    refine hK38.out _ _ ⟨Fg3.out, Fg10.out, trivial⟩ (fun hS155 => ?_); clear hK38 K38
    try simp only [zP,zN,zA,zB,zC]
    refine two_ (i := 3) (j := 4) (Ni := some 11) (Nj := some 5) (msk 8 47) (msk 8 55) rfl rfl rfl rfl (by kernel_rfl) (by simp) (by simp) (fun K156 hK156 => ?_) (fun K157 hK157 => ?_)
    ·refine e_call Try.func57 (by kernel_rfl) rfl #[.agg (#[.int .i64 y0, .int .i64 y1, .int .i64 y2])] (by rfl) rfl rfl (mp1 rfl) (of_) ?_
     rintro en w159 ⟨rfl, cc158⟩
     refine ⟨_, rfl, ?_⟩
     replace C0 := qh (C0.out.trans' cc158 inw_nil)
     replace Fg3 := qh (cc158.blk Fg3.out nin_nil)
     replace Fg10 := qh (cc158.blk Fg10.out nin_nil)
     replace Fgr := qh (cc158.blk Fgr.out nin_nil)
     replace Fg149 := qh (cc158.blk Fg149.out nin_nil)
     clear cc158
     refine hK156.out _ _ ⟨Fg3.out, Fg10.out, trivial⟩ (fun hS160 => ?_); clear hK156 K156
     try simp only [zP,zN,zA,zB,zC]
     refine one_ (i := 4) (N := some 5) (msk 8 63) rfl rfl (by kernel_rfl) (by simp) (fun K161 hK161 => ?_)
     refine e_alloc (by rfl) rfl rfl (cs := #[.int .i64 0, .int .i64 0, .int .i64 0]) (by kernel_rfl) ?_
     rintro g162 w163 HG164 B165 C166
     have nw167 := qh (show w.heap.size ≤ g162 by have := C0.out.size; have := HG164.out; omega)
     have ne168 := qh (Fg149.out.ne_new HG164)
     replace C0 := qh (C0.out.trans' C166 inw_nil)
     replace Fg3 := qh (C166.blk Fg3.out nin_nil)
     replace Fg10 := qh (C166.blk Fg10.out nin_nil)
     replace Fgr := qh (C166.blk Fgr.out nin_nil)
     replace Fg149 := qh (C166.blk Fg149.out nin_nil)
     have Fg162 := qh (show Blk w163 g162 (#[.int .i64 0, .int .i64 0, .int .i64 0]) 99 from B165); clear B165 C166
     refine hK161.out _ _ ⟨Fg3.out, Fg10.out, trivial⟩ (fun hS169 => ?_); clear hK161 K161
     try simp only [zP,zN,zA,zB,zC]
     refine one_ (i := 6) (N := none) (msk 8 127) rfl rfl (by kernel_rfl) (by simp) (fun K170 hK170 => ?_)
     refine e_storeN (cells := #[.int .i64 x0, .int .i64 x1, .int .i64 x2]) (by rfl) rfl rfl (by rfl) (by rfl) Fg162.out (by kernel_rfl) (by rfl) (ones_cons rfl (ones_cons rfl (ones_cons rfl ones_nil))) ?_
     rintro w171 B172 C173
     replace C0 := qh (C0.out.trans' C173 (inw_cons (.inr nw167.out) inw_nil))
     replace Fg3 := qh (C173.blk Fg3.out (nin_cons (Blk.ne_type Fg3.out Fg162.out (by decide)) nin_nil))
     replace Fg10 := qh (C173.blk Fg10.out (nin_cons (Blk.ne_type Fg10.out Fg162.out (by decide)) nin_nil))
     replace Fgr := qh (C173.blk Fgr.out (nin_cons (Blk.ne_type Fgr.out Fg162.out (by decide)) nin_nil))
     replace Fg149 := qh (C173.blk Fg149.out (nin_cons ne168.out nin_nil))
     clear Fg162; have Fg162 := qh (show Blk w171 g162 (#[.int .i64 x0, .int .i64 x1, .int .i64 x2]) 99 from B172); clear B172 C173
     refine hK170.out _ _ ⟨Fg3.out, Fg10.out, trivial⟩ (fun hS174 => ?_); clear hK170 K170
     try simp only [zP,zN,zA,zB,zC]
     refine one_ (i := 7) (N := none) (msk 8 255) rfl rfl (by kernel_rfl) (by simp) (fun K175 hK175 => ?_)
     refine e_storeN (cells := #[.int .i64 y0, .int .i64 y1, .int .i64 y2]) (by rfl) rfl rfl (by rfl) (by rfl) Fg149.out (by kernel_rfl) (by rfl) (ones_cons rfl (ones_cons rfl (ones_cons rfl ones_nil))) ?_
     rintro w176 B177 C178
     replace C0 := qh (C0.out.trans' C178 (inw_cons (.inr nw154.out) inw_nil))
     replace Fg3 := qh (C178.blk Fg3.out (nin_cons (Blk.ne_type Fg3.out Fg149.out (by decide)) nin_nil))
     replace Fg10 := qh (C178.blk Fg10.out (nin_cons (Blk.ne_type Fg10.out Fg149.out (by decide)) nin_nil))
     replace Fgr := qh (C178.blk Fgr.out (nin_cons (Blk.ne_type Fgr.out Fg149.out (by decide)) nin_nil))
     replace Fg162 := qh (C178.blk Fg162.out (nin_cons (Ne.symm ne168.out) nin_nil))
     clear Fg149; have Fg149 := qh (show Blk w176 g149 (#[.int .i64 y0, .int .i64 y1, .int .i64 y2]) 99 from B177); clear B177 C178
     refine hK175.out _ _ ⟨Fg3.out, Fg10.out, trivial⟩ (fun hS179 => ?_); clear hK175 K175
     try simp only [zP,zN,zA,zB,zC]
     refine done_ (by kernel_rfl) ?_
     exact th_norm (hK25 _ _ ⟨_, _, rfl, C0, Fgr, Fg162, Fg149, qh ((Ne.symm ne168.out)), nw167⟩)
    ·refine e_alloc (by rfl) rfl rfl (cs := #[.int .i64 0, .int .i64 0, .int .i64 0]) (by kernel_rfl) ?_
     rintro g180 w181 HG182 B183 C184
     have nw185 := qh (show w.heap.size ≤ g180 by have := C0.out.size; have := HG182.out; omega)
     have ne186 := qh (Fg149.out.ne_new HG182)
     replace C0 := qh (C0.out.trans' C184 inw_nil)
     replace Fg3 := qh (C184.blk Fg3.out nin_nil)
     replace Fg10 := qh (C184.blk Fg10.out nin_nil)
     replace Fgr := qh (C184.blk Fgr.out nin_nil)
     replace Fg149 := qh (C184.blk Fg149.out nin_nil)
     have Fg180 := qh (show Blk w181 g180 (#[.int .i64 0, .int .i64 0, .int .i64 0]) 99 from B183); clear B183 C184
     refine hK157.out _ _ ⟨Fg3.out, Fg10.out, trivial⟩ (fun hS187 => ?_); clear hK157 K157
     try simp only [zP,zN,zA,zB,zC]
     refine one_ (i := 3) (N := some 11) (msk 8 63) rfl rfl (by kernel_rfl) (by simp) (fun K188 hK188 => ?_)
     refine e_call Try.func57 (by kernel_rfl) rfl #[.agg (#[.int .i64 y0, .int .i64 y1, .int .i64 y2])] (by rfl) rfl rfl (mp1 rfl) (of_) ?_
     rintro en w190 ⟨rfl, cc189⟩
     refine ⟨_, rfl, ?_⟩
     replace C0 := qh (C0.out.trans' cc189 inw_nil)
     replace Fg3 := qh (cc189.blk Fg3.out nin_nil)
     replace Fg10 := qh (cc189.blk Fg10.out nin_nil)
     replace Fgr := qh (cc189.blk Fgr.out nin_nil)
     replace Fg149 := qh (cc189.blk Fg149.out nin_nil)
     replace Fg180 := qh (cc189.blk Fg180.out nin_nil)
     clear cc189
     refine hK188.out _ _ ⟨Fg3.out, Fg10.out, trivial⟩ (fun hS191 => ?_); clear hK188 K188
     try simp only [zP,zN,zA,zB,zC]
     refine one_ (i := 6) (N := none) (msk 8 127) rfl rfl (by kernel_rfl) (by simp) (fun K192 hK192 => ?_)
     refine e_storeN (cells := #[.int .i64 x0, .int .i64 x1, .int .i64 x2]) (by rfl) rfl rfl (by rfl) (by rfl) Fg180.out (by kernel_rfl) (by rfl) (ones_cons rfl (ones_cons rfl (ones_cons rfl ones_nil))) ?_
     rintro w193 B194 C195
     replace C0 := qh (C0.out.trans' C195 (inw_cons (.inr nw185.out) inw_nil))
     replace Fg3 := qh (C195.blk Fg3.out (nin_cons (Blk.ne_type Fg3.out Fg180.out (by decide)) nin_nil))
     replace Fg10 := qh (C195.blk Fg10.out (nin_cons (Blk.ne_type Fg10.out Fg180.out (by decide)) nin_nil))
     replace Fgr := qh (C195.blk Fgr.out (nin_cons (Blk.ne_type Fgr.out Fg180.out (by decide)) nin_nil))
     replace Fg149 := qh (C195.blk Fg149.out (nin_cons ne186.out nin_nil))
     clear Fg180; have Fg180 := qh (show Blk w193 g180 (#[.int .i64 x0, .int .i64 x1, .int .i64 x2]) 99 from B194); clear B194 C195
     refine hK192.out _ _ ⟨Fg3.out, Fg10.out, trivial⟩ (fun hS196 => ?_); clear hK192 K192
     try simp only [zP,zN,zA,zB,zC]
     refine one_ (i := 7) (N := none) (msk 8 255) rfl rfl (by kernel_rfl) (by simp) (fun K197 hK197 => ?_)
     refine e_storeN (cells := #[.int .i64 y0, .int .i64 y1, .int .i64 y2]) (by rfl) rfl rfl (by rfl) (by rfl) Fg149.out (by kernel_rfl) (by rfl) (ones_cons rfl (ones_cons rfl (ones_cons rfl ones_nil))) ?_
     rintro w198 B199 C200
     replace C0 := qh (C0.out.trans' C200 (inw_cons (.inr nw154.out) inw_nil))
     replace Fg3 := qh (C200.blk Fg3.out (nin_cons (Blk.ne_type Fg3.out Fg149.out (by decide)) nin_nil))
     replace Fg10 := qh (C200.blk Fg10.out (nin_cons (Blk.ne_type Fg10.out Fg149.out (by decide)) nin_nil))
     replace Fgr := qh (C200.blk Fgr.out (nin_cons (Blk.ne_type Fgr.out Fg149.out (by decide)) nin_nil))
     replace Fg180 := qh (C200.blk Fg180.out (nin_cons (Ne.symm ne186.out) nin_nil))
     clear Fg149; have Fg149 := qh (show Blk w198 g149 (#[.int .i64 y0, .int .i64 y1, .int .i64 y2]) 99 from B199); clear B199 C200
     refine hK197.out _ _ ⟨Fg3.out, Fg10.out, trivial⟩ (fun hS201 => ?_); clear hK197 K197
     try simp only [zP,zN,zA,zB,zC]
     refine done_ (by kernel_rfl) ?_
     exact th_norm (hK25 _ _ ⟨_, _, rfl, C0, Fgr, Fg180, Fg149, qh ((Ne.symm ne186.out)), nw185⟩)
  ·refine e_alloc (by rfl) rfl rfl (cs := #[.int .i64 0, .int .i64 0, .int .i64 0]) (by kernel_rfl) ?_
   rintro g202 w203 HG204 B205 C206
   have nw207 := qh (show w.heap.size ≤ g202 by have := C0.out.size; have := HG204.out; omega)
   replace C0 := qh (C0.out.trans' C206 inw_nil)
   replace Fg3 := qh (C206.blk Fg3.out nin_nil)
   replace Fg10 := qh (C206.blk Fg10.out nin_nil)
   replace Fgr := qh (C206.blk Fgr.out nin_nil)
   have Fg202 := qh (show Blk w203 g202 (#[.int .i64 0, .int .i64 0, .int .i64 0]) 99 from B205); clear B205 C206
   refine hK31.out _ _ ⟨Fg3.out, Fg10.out, trivial⟩ (fun hS208 => ?_); clear hK31 K31
   try simp only [zP,zN,zA,zB,zC]
   refine two_ (i := 1) (j := 5) (Ni := some 9) (Nj := some 6) (msk 8 23) (msk 8 53) rfl rfl rfl rfl (by kernel_rfl) (by simp) (by simp) (fun K209 hK209 => ?_) (fun K210 hK210 => ?_)
   ·refine e_call Try.func57 (by kernel_rfl) rfl #[.agg (#[.int .i64 x0, .int .i64 x1, .int .i64 x2])] (by rfl) rfl rfl (mp1 rfl) (of_) ?_
    rintro en w212 ⟨rfl, cc211⟩
    refine ⟨_, rfl, ?_⟩
    replace C0 := qh (C0.out.trans' cc211 inw_nil)
    replace Fg3 := qh (cc211.blk Fg3.out nin_nil)
    replace Fg10 := qh (cc211.blk Fg10.out nin_nil)
    replace Fgr := qh (cc211.blk Fgr.out nin_nil)
    replace Fg202 := qh (cc211.blk Fg202.out nin_nil)
    clear cc211
    refine hK209.out _ _ ⟨Fg3.out, Fg10.out, trivial⟩ (fun hS213 => ?_); clear hK209 K209
    try simp only [zP,zN,zA,zB,zC]
    refine two_ (i := 3) (j := 5) (Ni := some 11) (Nj := some 6) (msk 8 31) (msk 8 55) rfl rfl rfl rfl (by kernel_rfl) (by simp) (by simp) (fun K214 hK214 => ?_) (fun K215 hK215 => ?_)
    ·refine e_call Try.func57 (by kernel_rfl) rfl #[.agg (#[.int .i64 y0, .int .i64 y1, .int .i64 y2])] (by rfl) rfl rfl (mp1 rfl) (of_) ?_
     rintro en w217 ⟨rfl, cc216⟩
     refine ⟨_, rfl, ?_⟩
     replace C0 := qh (C0.out.trans' cc216 inw_nil)
     replace Fg3 := qh (cc216.blk Fg3.out nin_nil)
     replace Fg10 := qh (cc216.blk Fg10.out nin_nil)
     replace Fgr := qh (cc216.blk Fgr.out nin_nil)
     replace Fg202 := qh (cc216.blk Fg202.out nin_nil)
     clear cc216
     refine hK214.out _ _ ⟨Fg3.out, Fg10.out, trivial⟩ (fun hS218 => ?_); clear hK214 K214
     try simp only [zP,zN,zA,zB,zC]
     refine one_ (i := 5) (N := some 6) (msk 8 63) rfl rfl (by kernel_rfl) (by simp) (fun K219 hK219 => ?_)
     refine e_alloc (by rfl) rfl rfl (cs := #[.int .i64 0, .int .i64 0, .int .i64 0]) (by kernel_rfl) ?_
     rintro g220 w221 HG222 B223 C224
     have nw225 := qh (show w.heap.size ≤ g220 by have := C0.out.size; have := HG222.out; omega)
     have ne226 := qh (Fg202.out.ne_new HG222)
     replace C0 := qh (C0.out.trans' C224 inw_nil)
     replace Fg3 := qh (C224.blk Fg3.out nin_nil)
     replace Fg10 := qh (C224.blk Fg10.out nin_nil)
     replace Fgr := qh (C224.blk Fgr.out nin_nil)
     replace Fg202 := qh (C224.blk Fg202.out nin_nil)
     have Fg220 := qh (show Blk w221 g220 (#[.int .i64 0, .int .i64 0, .int .i64 0]) 99 from B223); clear B223 C224
     refine hK219.out _ _ ⟨Fg3.out, Fg10.out, trivial⟩ (fun hS227 => ?_); clear hK219 K219
     try simp only [zP,zN,zA,zB,zC]
     refine one_ (i := 6) (N := none) (msk 8 127) rfl rfl (by kernel_rfl) (by simp) (fun K228 hK228 => ?_)
     refine e_storeN (cells := #[.int .i64 x0, .int .i64 x1, .int .i64 x2]) (by rfl) rfl rfl (by rfl) (by rfl) Fg202.out (by kernel_rfl) (by rfl) (ones_cons rfl (ones_cons rfl (ones_cons rfl ones_nil))) ?_
     rintro w229 B230 C231
     replace C0 := qh (C0.out.trans' C231 (inw_cons (.inr nw207.out) inw_nil))
     replace Fg3 := qh (C231.blk Fg3.out (nin_cons (Blk.ne_type Fg3.out Fg202.out (by decide)) nin_nil))
     replace Fg10 := qh (C231.blk Fg10.out (nin_cons (Blk.ne_type Fg10.out Fg202.out (by decide)) nin_nil))
     replace Fgr := qh (C231.blk Fgr.out (nin_cons (Blk.ne_type Fgr.out Fg202.out (by decide)) nin_nil))
     replace Fg220 := qh (C231.blk Fg220.out (nin_cons (Ne.symm ne226.out) nin_nil))
     clear Fg202; have Fg202 := qh (show Blk w229 g202 (#[.int .i64 x0, .int .i64 x1, .int .i64 x2]) 99 from B230); clear B230 C231
     refine hK228.out _ _ ⟨Fg3.out, Fg10.out, trivial⟩ (fun hS232 => ?_); clear hK228 K228
     try simp only [zP,zN,zA,zB,zC]
     refine one_ (i := 7) (N := none) (msk 8 255) rfl rfl (by kernel_rfl) (by simp) (fun K233 hK233 => ?_)
     refine e_storeN (cells := #[.int .i64 y0, .int .i64 y1, .int .i64 y2]) (by rfl) rfl rfl (by rfl) (by rfl) Fg220.out (by kernel_rfl) (by rfl) (ones_cons rfl (ones_cons rfl (ones_cons rfl ones_nil))) ?_
     rintro w234 B235 C236
     replace C0 := qh (C0.out.trans' C236 (inw_cons (.inr nw225.out) inw_nil))
     replace Fg3 := qh (C236.blk Fg3.out (nin_cons (Blk.ne_type Fg3.out Fg220.out (by decide)) nin_nil))
     replace Fg10 := qh (C236.blk Fg10.out (nin_cons (Blk.ne_type Fg10.out Fg220.out (by decide)) nin_nil))
     replace Fgr := qh (C236.blk Fgr.out (nin_cons (Blk.ne_type Fgr.out Fg220.out (by decide)) nin_nil))
     replace Fg202 := qh (C236.blk Fg202.out (nin_cons ne226.out nin_nil))
     clear Fg220; have Fg220 := qh (show Blk w234 g220 (#[.int .i64 y0, .int .i64 y1, .int .i64 y2]) 99 from B235); clear B235 C236
     refine hK233.out _ _ ⟨Fg3.out, Fg10.out, trivial⟩ (fun hS237 => ?_); clear hK233 K233
     try simp only [zP,zN,zA,zB,zC]
     refine done_ (by kernel_rfl) ?_
     exact th_norm (hK25 _ _ ⟨_, _, rfl, C0, Fgr, Fg202, Fg220, qh (ne226.out), nw207⟩)
    ·refine e_alloc (by rfl) rfl rfl (cs := #[.int .i64 0, .int .i64 0, .int .i64 0]) (by kernel_rfl) ?_
     rintro g238 w239 HG240 B241 C242
     have nw243 := qh (show w.heap.size ≤ g238 by have := C0.out.size; have := HG240.out; omega)
     have ne244 := qh (Fg202.out.ne_new HG240)
     replace C0 := qh (C0.out.trans' C242 inw_nil)
     replace Fg3 := qh (C242.blk Fg3.out nin_nil)
     replace Fg10 := qh (C242.blk Fg10.out nin_nil)
     replace Fgr := qh (C242.blk Fgr.out nin_nil)
     replace Fg202 := qh (C242.blk Fg202.out nin_nil)
     have Fg238 := qh (show Blk w239 g238 (#[.int .i64 0, .int .i64 0, .int .i64 0]) 99 from B241); clear B241 C242
     refine hK215.out _ _ ⟨Fg3.out, Fg10.out, trivial⟩ (fun hS245 => ?_); clear hK215 K215
     try simp only [zP,zN,zA,zB,zC]
     refine one_ (i := 3) (N := some 11) (msk 8 63) rfl rfl (by kernel_rfl) (by simp) (fun K246 hK246 => ?_)
     refine e_call Try.func57 (by kernel_rfl) rfl #[.agg (#[.int .i64 y0, .int .i64 y1, .int .i64 y2])] (by rfl) rfl rfl (mp1 rfl) (of_) ?_
     rintro en w248 ⟨rfl, cc247⟩
     refine ⟨_, rfl, ?_⟩
     replace C0 := qh (C0.out.trans' cc247 inw_nil)
     replace Fg3 := qh (cc247.blk Fg3.out nin_nil)
     replace Fg10 := qh (cc247.blk Fg10.out nin_nil)
     replace Fgr := qh (cc247.blk Fgr.out nin_nil)
     replace Fg202 := qh (cc247.blk Fg202.out nin_nil)
     replace Fg238 := qh (cc247.blk Fg238.out nin_nil)
     clear cc247
     refine hK246.out _ _ ⟨Fg3.out, Fg10.out, trivial⟩ (fun hS249 => ?_); clear hK246 K246
     try simp only [zP,zN,zA,zB,zC]
     refine one_ (i := 6) (N := none) (msk 8 127) rfl rfl (by kernel_rfl) (by simp) (fun K250 hK250 => ?_)
     refine e_storeN (cells := #[.int .i64 x0, .int .i64 x1, .int .i64 x2]) (by rfl) rfl rfl (by rfl) (by rfl) Fg202.out (by kernel_rfl) (by rfl) (ones_cons rfl (ones_cons rfl (ones_cons rfl ones_nil))) ?_
     rintro w251 B252 C253
     replace C0 := qh (C0.out.trans' C253 (inw_cons (.inr nw207.out) inw_nil))
     replace Fg3 := qh (C253.blk Fg3.out (nin_cons (Blk.ne_type Fg3.out Fg202.out (by decide)) nin_nil))
     replace Fg10 := qh (C253.blk Fg10.out (nin_cons (Blk.ne_type Fg10.out Fg202.out (by decide)) nin_nil))
     replace Fgr := qh (C253.blk Fgr.out (nin_cons (Blk.ne_type Fgr.out Fg202.out (by decide)) nin_nil))
     replace Fg238 := qh (C253.blk Fg238.out (nin_cons (Ne.symm ne244.out) nin_nil))
     clear Fg202; have Fg202 := qh (show Blk w251 g202 (#[.int .i64 x0, .int .i64 x1, .int .i64 x2]) 99 from B252); clear B252 C253
     refine hK250.out _ _ ⟨Fg3.out, Fg10.out, trivial⟩ (fun hS254 => ?_); clear hK250 K250
     try simp only [zP,zN,zA,zB,zC]
     refine one_ (i := 7) (N := none) (msk 8 255) rfl rfl (by kernel_rfl) (by simp) (fun K255 hK255 => ?_)
     refine e_storeN (cells := #[.int .i64 y0, .int .i64 y1, .int .i64 y2]) (by rfl) rfl rfl (by rfl) (by rfl) Fg238.out (by kernel_rfl) (by rfl) (ones_cons rfl (ones_cons rfl (ones_cons rfl ones_nil))) ?_
     rintro w256 B257 C258
     replace C0 := qh (C0.out.trans' C258 (inw_cons (.inr nw243.out) inw_nil))
     replace Fg3 := qh (C258.blk Fg3.out (nin_cons (Blk.ne_type Fg3.out Fg238.out (by decide)) nin_nil))
     replace Fg10 := qh (C258.blk Fg10.out (nin_cons (Blk.ne_type Fg10.out Fg238.out (by decide)) nin_nil))
     replace Fgr := qh (C258.blk Fgr.out (nin_cons (Blk.ne_type Fgr.out Fg238.out (by decide)) nin_nil))
     replace Fg202 := qh (C258.blk Fg202.out (nin_cons ne244.out nin_nil))
     clear Fg238; have Fg238 := qh (show Blk w256 g238 (#[.int .i64 y0, .int .i64 y1, .int .i64 y2]) 99 from B257); clear B257 C258
     refine hK255.out _ _ ⟨Fg3.out, Fg10.out, trivial⟩ (fun hS259 => ?_); clear hK255 K255
     try simp only [zP,zN,zA,zB,zC]
     refine done_ (by kernel_rfl) ?_
     exact th_norm (hK25 _ _ ⟨_, _, rfl, C0, Fgr, Fg202, Fg238, qh (ne244.out), nw207⟩)
   ·refine e_alloc (by rfl) rfl rfl (cs := #[.int .i64 0, .int .i64 0, .int .i64 0]) (by kernel_rfl) ?_
    rintro g260 w261 HG262 B263 C264
    have nw265 := qh (show w.heap.size ≤ g260 by have := C0.out.size; have := HG262.out; omega)
    have ne266 := qh (Fg202.out.ne_new HG262)
    replace C0 := qh (C0.out.trans' C264 inw_nil)
    replace Fg3 := qh (C264.blk Fg3.out nin_nil)
    replace Fg10 := qh (C264.blk Fg10.out nin_nil)
    replace Fgr := qh (C264.blk Fgr.out nin_nil)
    replace Fg202 := qh (C264.blk Fg202.out nin_nil)
    have Fg260 := qh (show Blk w261 g260 (#[.int .i64 0, .int .i64 0, .int .i64 0]) 99 from B263); clear B263 C264
    refine hK210.out _ _ ⟨Fg3.out, Fg10.out, trivial⟩ (fun hS267 => ?_); clear hK210 K210
    try simp only [zP,zN,zA,zB,zC]
    refine one_ (i := 1) (N := some 9) (msk 8 55) rfl rfl (by kernel_rfl) (by simp) (fun K268 hK268 => ?_)
    refine e_call Try.func57 (by kernel_rfl) rfl #[.agg (#[.int .i64 x0, .int .i64 x1, .int .i64 x2])] (by rfl) rfl rfl (mp1 rfl) (of_) ?_
    rintro en w270 ⟨rfl, cc269⟩
    refine ⟨_, rfl, ?_⟩
    replace C0 := qh (C0.out.trans' cc269 inw_nil)
    replace Fg3 := qh (cc269.blk Fg3.out nin_nil)
    replace Fg10 := qh (cc269.blk Fg10.out nin_nil)
    replace Fgr := qh (cc269.blk Fgr.out nin_nil)
    replace Fg202 := qh (cc269.blk Fg202.out nin_nil)
    replace Fg260 := qh (cc269.blk Fg260.out nin_nil)
    clear cc269
    refine hK268.out _ _ ⟨Fg3.out, Fg10.out, trivial⟩ (fun hS271 => ?_); clear hK268 K268
    try simp only [zP,zN,zA,zB,zC]
    refine one_ (i := 3) (N := some 11) (msk 8 63) rfl rfl (by kernel_rfl) (by simp) (fun K272 hK272 => ?_)
    refine e_call Try.func57 (by kernel_rfl) rfl #[.agg (#[.int .i64 y0, .int .i64 y1, .int .i64 y2])] (by rfl) rfl rfl (mp1 rfl) (of_) ?_
    rintro en w274 ⟨rfl, cc273⟩
    refine ⟨_, rfl, ?_⟩
    replace C0 := qh (C0.out.trans' cc273 inw_nil)
    replace Fg3 := qh (cc273.blk Fg3.out nin_nil)
    replace Fg10 := qh (cc273.blk Fg10.out nin_nil)
    replace Fgr := qh (cc273.blk Fgr.out nin_nil)
    replace Fg202 := qh (cc273.blk Fg202.out nin_nil)
    replace Fg260 := qh (cc273.blk Fg260.out nin_nil)
    clear cc273
    refine hK272.out _ _ ⟨Fg3.out, Fg10.out, trivial⟩ (fun hS275 => ?_); clear hK272 K272
    try simp only [zP,zN,zA,zB,zC]
    refine one_ (i := 6) (N := none) (msk 8 127) rfl rfl (by kernel_rfl) (by simp) (fun K276 hK276 => ?_)
    refine e_storeN (cells := #[.int .i64 x0, .int .i64 x1, .int .i64 x2]) (by rfl) rfl rfl (by rfl) (by rfl) Fg202.out (by kernel_rfl) (by rfl) (ones_cons rfl (ones_cons rfl (ones_cons rfl ones_nil))) ?_
    rintro w277 B278 C279
    replace C0 := qh (C0.out.trans' C279 (inw_cons (.inr nw207.out) inw_nil))
    replace Fg3 := qh (C279.blk Fg3.out (nin_cons (Blk.ne_type Fg3.out Fg202.out (by decide)) nin_nil))
    replace Fg10 := qh (C279.blk Fg10.out (nin_cons (Blk.ne_type Fg10.out Fg202.out (by decide)) nin_nil))
    replace Fgr := qh (C279.blk Fgr.out (nin_cons (Blk.ne_type Fgr.out Fg202.out (by decide)) nin_nil))
    replace Fg260 := qh (C279.blk Fg260.out (nin_cons (Ne.symm ne266.out) nin_nil))
    clear Fg202; have Fg202 := qh (show Blk w277 g202 (#[.int .i64 x0, .int .i64 x1, .int .i64 x2]) 99 from B278); clear B278 C279
    refine hK276.out _ _ ⟨Fg3.out, Fg10.out, trivial⟩ (fun hS280 => ?_); clear hK276 K276
    try simp only [zP,zN,zA,zB,zC]
    refine one_ (i := 7) (N := none) (msk 8 255) rfl rfl (by kernel_rfl) (by simp) (fun K281 hK281 => ?_)
    refine e_storeN (cells := #[.int .i64 y0, .int .i64 y1, .int .i64 y2]) (by rfl) rfl rfl (by rfl) (by rfl) Fg260.out (by kernel_rfl) (by rfl) (ones_cons rfl (ones_cons rfl (ones_cons rfl ones_nil))) ?_
    rintro w282 B283 C284
    replace C0 := qh (C0.out.trans' C284 (inw_cons (.inr nw265.out) inw_nil))
    replace Fg3 := qh (C284.blk Fg3.out (nin_cons (Blk.ne_type Fg3.out Fg260.out (by decide)) nin_nil))
    replace Fg10 := qh (C284.blk Fg10.out (nin_cons (Blk.ne_type Fg10.out Fg260.out (by decide)) nin_nil))
    replace Fgr := qh (C284.blk Fgr.out (nin_cons (Blk.ne_type Fgr.out Fg260.out (by decide)) nin_nil))
    replace Fg202 := qh (C284.blk Fg202.out (nin_cons ne266.out nin_nil))
    clear Fg260; have Fg260 := qh (show Blk w282 g260 (#[.int .i64 y0, .int .i64 y1, .int .i64 y2]) 99 from B283); clear B283 C284
    refine hK281.out _ _ ⟨Fg3.out, Fg10.out, trivial⟩ (fun hS285 => ?_); clear hK281 K281
    try simp only [zP,zN,zA,zB,zC]
    refine done_ (by kernel_rfl) ?_
    exact th_norm (hK25 _ _ ⟨_, _, rfl, C0, Fgr, Fg202, Fg260, qh (ne266.out), nw207⟩)
  ·refine e_alloc (by rfl) rfl rfl (cs := #[.int .i64 0, .int .i64 0, .int .i64 0]) (by kernel_rfl) ?_
   rintro g286 w287 HG288 B289 C290
   have nw291 := qh (show w.heap.size ≤ g286 by have := C0.out.size; have := HG288.out; omega)
   replace C0 := qh (C0.out.trans' C290 inw_nil)
   replace Fg3 := qh (C290.blk Fg3.out nin_nil)
   replace Fg10 := qh (C290.blk Fg10.out nin_nil)
   replace Fgr := qh (C290.blk Fgr.out nin_nil)
   have Fg286 := qh (show Blk w287 g286 (#[.int .i64 0, .int .i64 0, .int .i64 0]) 99 from B289); clear B289 C290
   refine hK32.out _ _ ⟨Fg3.out, Fg10.out, trivial⟩ (fun hS292 => ?_); clear hK32 K32
   try simp only [zP,zN,zA,zB,zC]
   refine two_ (i := 1) (j := 4) (Ni := some 9) (Nj := some 5) (msk 8 39) (msk 8 53) rfl rfl rfl rfl (by kernel_rfl) (by simp) (by simp) (fun K293 hK293 => ?_) (fun K294 hK294 => ?_)
   ·refine e_call Try.func57 (by kernel_rfl) rfl #[.agg (#[.int .i64 x0, .int .i64 x1, .int .i64 x2])] (by rfl) rfl rfl (mp1 rfl) (of_) ?_
    rintro en w296 ⟨rfl, cc295⟩
    refine ⟨_, rfl, ?_⟩
    replace C0 := qh (C0.out.trans' cc295 inw_nil)
    replace Fg3 := qh (cc295.blk Fg3.out nin_nil)
    replace Fg10 := qh (cc295.blk Fg10.out nin_nil)
    replace Fgr := qh (cc295.blk Fgr.out nin_nil)
    replace Fg286 := qh (cc295.blk Fg286.out nin_nil)
    clear cc295
    refine hK293.out _ _ ⟨Fg3.out, Fg10.out, trivial⟩ (fun hS297 => ?_); clear hK293 K293
    try simp only [zP,zN,zA,zB,zC]
    refine two_ (i := 3) (j := 4) (Ni := some 11) (Nj := some 5) (msk 8 47) (msk 8 55) rfl rfl rfl rfl (by kernel_rfl) (by simp) (by simp) (fun K298 hK298 => ?_) (fun K299 hK299 => ?_)
    ·refine e_call Try.func57 (by kernel_rfl) rfl #[.agg (#[.int .i64 y0, .int .i64 y1, .int .i64 y2])] (by rfl) rfl rfl (mp1 rfl) (of_) ?_
     rintro en w301 ⟨rfl, cc300⟩
     refine ⟨_, rfl, ?_⟩
     replace C0 := qh (C0.out.trans' cc300 inw_nil)
     replace Fg3 := qh (cc300.blk Fg3.out nin_nil)
     replace Fg10 := qh (cc300.blk Fg10.out nin_nil)
     replace Fgr := qh (cc300.blk Fgr.out nin_nil)
     replace Fg286 := qh (cc300.blk Fg286.out nin_nil)
     clear cc300
     refine hK298.out _ _ ⟨Fg3.out, Fg10.out, trivial⟩ (fun hS302 => ?_); clear hK298 K298
     try simp only [zP,zN,zA,zB,zC]
     refine one_ (i := 4) (N := some 5) (msk 8 63) rfl rfl (by kernel_rfl) (by simp) (fun K303 hK303 => ?_)
     refine e_alloc (by rfl) rfl rfl (cs := #[.int .i64 0, .int .i64 0, .int .i64 0]) (by kernel_rfl) ?_
     rintro g304 w305 HG306 B307 C308
     have nw309 := qh (show w.heap.size ≤ g304 by have := C0.out.size; have := HG306.out; omega)
     have ne310 := qh (Fg286.out.ne_new HG306)
     replace C0 := qh (C0.out.trans' C308 inw_nil)
     replace Fg3 := qh (C308.blk Fg3.out nin_nil)
     replace Fg10 := qh (C308.blk Fg10.out nin_nil)
     replace Fgr := qh (C308.blk Fgr.out nin_nil)
     replace Fg286 := qh (C308.blk Fg286.out nin_nil)
     have Fg304 := qh (show Blk w305 g304 (#[.int .i64 0, .int .i64 0, .int .i64 0]) 99 from B307); clear B307 C308
     refine hK303.out _ _ ⟨Fg3.out, Fg10.out, trivial⟩ (fun hS311 => ?_); clear hK303 K303
     try simp only [zP,zN,zA,zB,zC]
     refine one_ (i := 6) (N := none) (msk 8 127) rfl rfl (by kernel_rfl) (by simp) (fun K312 hK312 => ?_)
     refine e_storeN (cells := #[.int .i64 x0, .int .i64 x1, .int .i64 x2]) (by rfl) rfl rfl (by rfl) (by rfl) Fg304.out (by kernel_rfl) (by rfl) (ones_cons rfl (ones_cons rfl (ones_cons rfl ones_nil))) ?_
     rintro w313 B314 C315
     replace C0 := qh (C0.out.trans' C315 (inw_cons (.inr nw309.out) inw_nil))
     replace Fg3 := qh (C315.blk Fg3.out (nin_cons (Blk.ne_type Fg3.out Fg304.out (by decide)) nin_nil))
     replace Fg10 := qh (C315.blk Fg10.out (nin_cons (Blk.ne_type Fg10.out Fg304.out (by decide)) nin_nil))
     replace Fgr := qh (C315.blk Fgr.out (nin_cons (Blk.ne_type Fgr.out Fg304.out (by decide)) nin_nil))
     replace Fg286 := qh (C315.blk Fg286.out (nin_cons ne310.out nin_nil))
     clear Fg304; have Fg304 := qh (show Blk w313 g304 (#[.int .i64 x0, .int .i64 x1, .int .i64 x2]) 99 from B314); clear B314 C315
     refine hK312.out _ _ ⟨Fg3.out, Fg10.out, trivial⟩ (fun hS316 => ?_); clear hK312 K312
     try simp only [zP,zN,zA,zB,zC]
     refine one_ (i := 7) (N := none) (msk 8 255) rfl rfl (by kernel_rfl) (by simp) (fun K317 hK317 => ?_)
     refine e_storeN (cells := #[.int .i64 y0, .int .i64 y1, .int .i64 y2]) (by rfl) rfl rfl (by rfl) (by rfl) Fg286.out (by kernel_rfl) (by rfl) (ones_cons rfl (ones_cons rfl (ones_cons rfl ones_nil))) ?_
     rintro w318 B319 C320
     replace C0 := qh (C0.out.trans' C320 (inw_cons (.inr nw291.out) inw_nil))
     replace Fg3 := qh (C320.blk Fg3.out (nin_cons (Blk.ne_type Fg3.out Fg286.out (by decide)) nin_nil))
     replace Fg10 := qh (C320.blk Fg10.out (nin_cons (Blk.ne_type Fg10.out Fg286.out (by decide)) nin_nil))
     replace Fgr := qh (C320.blk Fgr.out (nin_cons (Blk.ne_type Fgr.out Fg286.out (by decide)) nin_nil))
     replace Fg304 := qh (C320.blk Fg304.out (nin_cons (Ne.symm ne310.out) nin_nil))
     clear Fg286; have Fg286 := qh (show Blk w318 g286 (#[.int .i64 y0, .int .i64 y1, .int .i64 y2]) 99 from B319); clear B319 C320
     refine hK317.out _ _ ⟨Fg3.out, Fg10.out, trivial⟩ (fun hS321 => ?_); clear hK317 K317
     try simp only [zP,zN,zA,zB,zC]
     refine done_ (by kernel_rfl) ?_
     exact th_norm (hK25 _ _ ⟨_, _, rfl, C0, Fgr, Fg304, Fg286, qh ((Ne.symm ne310.out)), nw309⟩)
    ·refine e_alloc (by rfl) rfl rfl (cs := #[.int .i64 0, .int .i64 0, .int .i64 0]) (by kernel_rfl) ?_
     rintro g322 w323 HG324 B325 C326
     have nw327 := qh (show w.heap.size ≤ g322 by have := C0.out.size; have := HG324.out; omega)
     have ne328 := qh (Fg286.out.ne_new HG324)
     replace C0 := qh (C0.out.trans' C326 inw_nil)
     replace Fg3 := qh (C326.blk Fg3.out nin_nil)
     replace Fg10 := qh (C326.blk Fg10.out nin_nil)
     replace Fgr := qh (C326.blk Fgr.out nin_nil)
     replace Fg286 := qh (C326.blk Fg286.out nin_nil)
     have Fg322 := qh (show Blk w323 g322 (#[.int .i64 0, .int .i64 0, .int .i64 0]) 99 from B325); clear B325 C326
     refine hK299.out _ _ ⟨Fg3.out, Fg10.out, trivial⟩ (fun hS329 => ?_); clear hK299 K299
     try simp only [zP,zN,zA,zB,zC]
     refine one_ (i := 3) (N := some 11) (msk 8 63) rfl rfl (by kernel_rfl) (by simp) (fun K330 hK330 => ?_)
     refine e_call Try.func57 (by kernel_rfl) rfl #[.agg (#[.int .i64 y0, .int .i64 y1, .int .i64 y2])] (by rfl) rfl rfl (mp1 rfl) (of_) ?_
     rintro en w332 ⟨rfl, cc331⟩
     refine ⟨_, rfl, ?_⟩
     replace C0 := qh (C0.out.trans' cc331 inw_nil)
     replace Fg3 := qh (cc331.blk Fg3.out nin_nil)
     replace Fg10 := qh (cc331.blk Fg10.out nin_nil)
     replace Fgr := qh (cc331.blk Fgr.out nin_nil)
     replace Fg286 := qh (cc331.blk Fg286.out nin_nil)
     replace Fg322 := qh (cc331.blk Fg322.out nin_nil)
     clear cc331
     refine hK330.out _ _ ⟨Fg3.out, Fg10.out, trivial⟩ (fun hS333 => ?_); clear hK330 K330
     try simp only [zP,zN,zA,zB,zC]
     refine one_ (i := 6) (N := none) (msk 8 127) rfl rfl (by kernel_rfl) (by simp) (fun K334 hK334 => ?_)
     refine e_storeN (cells := #[.int .i64 x0, .int .i64 x1, .int .i64 x2]) (by rfl) rfl rfl (by rfl) (by rfl) Fg322.out (by kernel_rfl) (by rfl) (ones_cons rfl (ones_cons rfl (ones_cons rfl ones_nil))) ?_
     rintro w335 B336 C337
     replace C0 := qh (C0.out.trans' C337 (inw_cons (.inr nw327.out) inw_nil))
     replace Fg3 := qh (C337.blk Fg3.out (nin_cons (Blk.ne_type Fg3.out Fg322.out (by decide)) nin_nil))
     replace Fg10 := qh (C337.blk Fg10.out (nin_cons (Blk.ne_type Fg10.out Fg322.out (by decide)) nin_nil))
     replace Fgr := qh (C337.blk Fgr.out (nin_cons (Blk.ne_type Fgr.out Fg322.out (by decide)) nin_nil))
     replace Fg286 := qh (C337.blk Fg286.out (nin_cons ne328.out nin_nil))
     clear Fg322; have Fg322 := qh (show Blk w335 g322 (#[.int .i64 x0, .int .i64 x1, .int .i64 x2]) 99 from B336); clear B336 C337
     refine hK334.out _ _ ⟨Fg3.out, Fg10.out, trivial⟩ (fun hS338 => ?_); clear hK334 K334
     try simp only [zP,zN,zA,zB,zC]
     refine one_ (i := 7) (N := none) (msk 8 255) rfl rfl (by kernel_rfl) (by simp) (fun K339 hK339 => ?_)
     refine e_storeN (cells := #[.int .i64 y0, .int .i64 y1, .int .i64 y2]) (by rfl) rfl rfl (by rfl) (by rfl) Fg286.out (by kernel_rfl) (by rfl) (ones_cons rfl (ones_cons rfl (ones_cons rfl ones_nil))) ?_
     rintro w340 B341 C342
     replace C0 := qh (C0.out.trans' C342 (inw_cons (.inr nw291.out) inw_nil))
     replace Fg3 := qh (C342.blk Fg3.out (nin_cons (Blk.ne_type Fg3.out Fg286.out (by decide)) nin_nil))
     replace Fg10 := qh (C342.blk Fg10.out (nin_cons (Blk.ne_type Fg10.out Fg286.out (by decide)) nin_nil))
     replace Fgr := qh (C342.blk Fgr.out (nin_cons (Blk.ne_type Fgr.out Fg286.out (by decide)) nin_nil))
     replace Fg322 := qh (C342.blk Fg322.out (nin_cons (Ne.symm ne328.out) nin_nil))
     clear Fg286; have Fg286 := qh (show Blk w340 g286 (#[.int .i64 y0, .int .i64 y1, .int .i64 y2]) 99 from B341); clear B341 C342
     refine hK339.out _ _ ⟨Fg3.out, Fg10.out, trivial⟩ (fun hS343 => ?_); clear hK339 K339
     try simp only [zP,zN,zA,zB,zC]
     refine done_ (by kernel_rfl) ?_
     exact th_norm (hK25 _ _ ⟨_, _, rfl, C0, Fgr, Fg322, Fg286, qh ((Ne.symm ne328.out)), nw327⟩)
   ·refine e_alloc (by rfl) rfl rfl (cs := #[.int .i64 0, .int .i64 0, .int .i64 0]) (by kernel_rfl) ?_
    rintro g344 w345 HG346 B347 C348
    have nw349 := qh (show w.heap.size ≤ g344 by have := C0.out.size; have := HG346.out; omega)
    have ne350 := qh (Fg286.out.ne_new HG346)
    replace C0 := qh (C0.out.trans' C348 inw_nil)
    replace Fg3 := qh (C348.blk Fg3.out nin_nil)
    replace Fg10 := qh (C348.blk Fg10.out nin_nil)
    replace Fgr := qh (C348.blk Fgr.out nin_nil)
    replace Fg286 := qh (C348.blk Fg286.out nin_nil)
    have Fg344 := qh (show Blk w345 g344 (#[.int .i64 0, .int .i64 0, .int .i64 0]) 99 from B347); clear B347 C348
    refine hK294.out _ _ ⟨Fg3.out, Fg10.out, trivial⟩ (fun hS351 => ?_); clear hK294 K294
    try simp only [zP,zN,zA,zB,zC]
    refine one_ (i := 1) (N := some 9) (msk 8 55) rfl rfl (by kernel_rfl) (by simp) (fun K352 hK352 => ?_)
    refine e_call Try.func57 (by kernel_rfl) rfl #[.agg (#[.int .i64 x0, .int .i64 x1, .int .i64 x2])] (by rfl) rfl rfl (mp1 rfl) (of_) ?_
    rintro en w354 ⟨rfl, cc353⟩
    refine ⟨_, rfl, ?_⟩
    replace C0 := qh (C0.out.trans' cc353 inw_nil)
    replace Fg3 := qh (cc353.blk Fg3.out nin_nil)
    replace Fg10 := qh (cc353.blk Fg10.out nin_nil)
    replace Fgr := qh (cc353.blk Fgr.out nin_nil)
    replace Fg286 := qh (cc353.blk Fg286.out nin_nil)
    replace Fg344 := qh (cc353.blk Fg344.out nin_nil)
    clear cc353
    refine hK352.out _ _ ⟨Fg3.out, Fg10.out, trivial⟩ (fun hS355 => ?_); clear hK352 K352
    try simp only [zP,zN,zA,zB,zC]
    refine one_ (i := 3) (N := some 11) (msk 8 63) rfl rfl (by kernel_rfl) (by simp) (fun K356 hK356 => ?_)
    refine e_call Try.func57 (by kernel_rfl) rfl #[.agg (#[.int .i64 y0, .int .i64 y1, .int .i64 y2])] (by rfl) rfl rfl (mp1 rfl) (of_) ?_
    rintro en w358 ⟨rfl, cc357⟩
    refine ⟨_, rfl, ?_⟩
    replace C0 := qh (C0.out.trans' cc357 inw_nil)
    replace Fg3 := qh (cc357.blk Fg3.out nin_nil)
    replace Fg10 := qh (cc357.blk Fg10.out nin_nil)
    replace Fgr := qh (cc357.blk Fgr.out nin_nil)
    replace Fg286 := qh (cc357.blk Fg286.out nin_nil)
    replace Fg344 := qh (cc357.blk Fg344.out nin_nil)
    clear cc357
    refine hK356.out _ _ ⟨Fg3.out, Fg10.out, trivial⟩ (fun hS359 => ?_); clear hK356 K356
    try simp only [zP,zN,zA,zB,zC]
    refine one_ (i := 6) (N := none) (msk 8 127) rfl rfl (by kernel_rfl) (by simp) (fun K360 hK360 => ?_)
    refine e_storeN (cells := #[.int .i64 x0, .int .i64 x1, .int .i64 x2]) (by rfl) rfl rfl (by rfl) (by rfl) Fg344.out (by kernel_rfl) (by rfl) (ones_cons rfl (ones_cons rfl (ones_cons rfl ones_nil))) ?_
    rintro w361 B362 C363
    replace C0 := qh (C0.out.trans' C363 (inw_cons (.inr nw349.out) inw_nil))
    replace Fg3 := qh (C363.blk Fg3.out (nin_cons (Blk.ne_type Fg3.out Fg344.out (by decide)) nin_nil))
    replace Fg10 := qh (C363.blk Fg10.out (nin_cons (Blk.ne_type Fg10.out Fg344.out (by decide)) nin_nil))
    replace Fgr := qh (C363.blk Fgr.out (nin_cons (Blk.ne_type Fgr.out Fg344.out (by decide)) nin_nil))
    replace Fg286 := qh (C363.blk Fg286.out (nin_cons ne350.out nin_nil))
    clear Fg344; have Fg344 := qh (show Blk w361 g344 (#[.int .i64 x0, .int .i64 x1, .int .i64 x2]) 99 from B362); clear B362 C363
    refine hK360.out _ _ ⟨Fg3.out, Fg10.out, trivial⟩ (fun hS364 => ?_); clear hK360 K360
    try simp only [zP,zN,zA,zB,zC]
    refine one_ (i := 7) (N := none) (msk 8 255) rfl rfl (by kernel_rfl) (by simp) (fun K365 hK365 => ?_)
    refine e_storeN (cells := #[.int .i64 y0, .int .i64 y1, .int .i64 y2]) (by rfl) rfl rfl (by rfl) (by rfl) Fg286.out (by kernel_rfl) (by rfl) (ones_cons rfl (ones_cons rfl (ones_cons rfl ones_nil))) ?_
    rintro w366 B367 C368
    replace C0 := qh (C0.out.trans' C368 (inw_cons (.inr nw291.out) inw_nil))
    replace Fg3 := qh (C368.blk Fg3.out (nin_cons (Blk.ne_type Fg3.out Fg286.out (by decide)) nin_nil))
    replace Fg10 := qh (C368.blk Fg10.out (nin_cons (Blk.ne_type Fg10.out Fg286.out (by decide)) nin_nil))
    replace Fgr := qh (C368.blk Fgr.out (nin_cons (Blk.ne_type Fgr.out Fg286.out (by decide)) nin_nil))
    replace Fg344 := qh (C368.blk Fg344.out (nin_cons (Ne.symm ne350.out) nin_nil))
    clear Fg286; have Fg286 := qh (show Blk w366 g286 (#[.int .i64 y0, .int .i64 y1, .int .i64 y2]) 99 from B367); clear B367 C368
    refine hK365.out _ _ ⟨Fg3.out, Fg10.out, trivial⟩ (fun hS369 => ?_); clear hK365 K365
    try simp only [zP,zN,zA,zB,zC]
    refine done_ (by kernel_rfl) ?_
    exact th_norm (hK25 _ _ ⟨_, _, rfl, C0, Fgr, Fg344, Fg286, qh ((Ne.symm ne350.out)), nw349⟩)
 rintro a_ w26 ⟨ga, gb, ha_, C0, FR, FA, FB, hab, hna⟩
 obtain ⟨us, hus_⟩ : ∃ us, us = uo a_ := ⟨_, rfl⟩; try rw [← hus_] at ha_
 subst ha_; clear hus_
 refine sq_ (fun K370 hK370 => ?_)
 refine s_ (fun K371 hK371 => ?_)
 refine pu_ (v := .int .i64 0) (y_move rfl (by rfl) (by rfl)) ?_
 try simp only [zP,zN,zA,zB,zC]
 refine nl_ (hK371 _ _ ?_); clear hK371 K371
 refine wp_block ?_
 refine loopk_ (fun (kq : Nat) (a' : Act) (w' : World) => ∃ (k : Nat), ∃ (v0 : Int), ∃ (v1 : Int), ∃ (v2 : Int), a' = ⟨#[uo a' 0, uo a' 1, uo a' 2, uo a' 3, .pointer (some ⟨gr, 0, none⟩), .pointer (some ⟨ga, 0, none⟩), .pointer (some ⟨gb, 0, none⟩), uo a' 7, uo a' 8, uo a' 9, uo a' 10, uo a' 11, .int .i64 k, uo a' 13, uo a' 14, uo a' 15, uo a' 16, uo a' 17, uo a' 18, uo a' 19, uo a' 20, uo a' 21, uo a' 22, uo a' 23, uo a' 24, uo a' 25, uo a' 26], []⟩ ∧ Hid (Ch [] w w') ∧ Hid (Blk w' gr (#[.int .i64 0, .int .i64 0, .int .i64 0]) 23) ∧ Hid (Blk w' ga (#[.int .i64 v0, .int .i64 v1, .int .i64 v2]) 99) ∧ Hid (Blk w' gb (#[.int .i64 y0, .int .i64 y1, .int .i64 y2]) 99) ∧ Hid (k ≤ 3 ∧ kq + k = 3) ∧ Hid (At3 (max) x0 x1 x2 y0 y1 y2 v0 v1 v2 k)) (3) (⟨0, x0, x1, x2, rfl, C0, FR, FA, FB, qh ⟨by omega, rfl⟩, qh (by simp [At3])⟩) ?_
 rintro kq a_ w372 ⟨k, v0, v1, v2, ha_, C0, FR, FA, FB, hk, hv⟩ K373 hK373
 obtain ⟨us, hus_⟩ : ∃ us, us = uo a_ := ⟨_, rfl⟩; try rw [← hus_] at ha_
 subst ha_; clear hus_
 rcases (show k = 0 ∨ k = 1 ∨ k = 2 ∨ k = 3 by have := hk.out; omega) with h | h | h | h
 ·subst h
  have EV := qh (at3_0 hv.out)
  have FA' := qh (show Blk w372 ga #[.int .i64 x0, .int .i64 x1, .int .i64 x2] 99 from by have h9 := FA.out; rw [EV.out.1, EV.out.2.1, EV.out.2.2] at h9; exact h9); clear FA; have FA := FA'; clear FA'
  refine s_ (fun K374 hK374 => ?_)
  refine pu_ (v := .bool true) (y_run (by rfl) (fun W => by first | (go_simp; done) | (go_simp; rfl) | (go_simp; decide))) ?_
  try simp only [zP,zN,zA,zB,zC]
  refine nl_ (hK374 _ _ ?_); clear hK374 K374
  refine sq_ (fun K375 hK375 => ?_)
  refine wp_cond_true rfl ?_
  refine wp_skip ?_
  refine th_norm (hK375 _ _ ?_); try clear hK375 K375
  refine sq_ (fun K376 hK376 => ?_)
  refine wp_block ?_
  refine s_ (fun K377 hK377 => ?_)
  refine pu_ (v := .int .i64 ((0 : Nat) : Int)) (y_move rfl (by rfl) (by rfl)) ?_
  try simp only [zP,zN,zA,zB,zC]
  refine pu_ (v := .int .i64 ((0 : Nat) : Int)) (y_assign rfl (by rfl) (by rfl)) ?_
  try simp only [zP,zN,zA,zB,zC]
  refine nl_ (hK377 _ _ ?_); clear hK377 K377
  refine startk_ (S := fun W => Blk W ga (#[.int .i64 x0, .int .i64 x1, .int .i64 x2]) 99 ∧ Blk W gb (#[.int .i64 y0, .int .i64 y1, .int .i64 y2]) 99 ∧ True) (ds := [9]) (msk 10 0) (by kernel_rfl) rfl (by kernel_rfl) (fun W c => ⟨c.blk FA.out nin_nil, c.blk FB.out nin_nil, trivial⟩) (fun w378 C379 hS380 => ?_)
  replace C0 := qh (C0.out.trans' C379 inw_nil)
  replace FR := qh (C379.blk FR.out nin_nil)
  replace FA := qh (C379.blk FA.out nin_nil)
  replace FB := qh (C379.blk FB.out nin_nil)
  clear C379
  refine pureh_ (i := 0) (N := some 15) (v := .int .i64 ((0 : Nat) : Int)) (msk 10 1) rfl rfl (by kernel_rfl) hP (y_move rfl (by rfl) (by rfl)) rfl ?_
  try simp only [zP,zN,zA,zB,zC]
  refine pureh_ (i := 1) (N := some 16) (v := .int .i64 ((0 : Nat) : Int)) (msk 10 3) rfl rfl (by kernel_rfl) hP (y_move rfl (by rfl) (by rfl)) rfl ?_
  try simp only [zP,zN,zA,zB,zC]
  refine pureh_ (i := 2) (N := some 17) (v := .pointer (some ⟨ga, 0, none⟩)) (msk 10 7) rfl rfl (by kernel_rfl) hP (y_run (by rfl) (fun W => by first | (go_simp; done) | (go_simp; rfl) | (go_simp; decide))) rfl ?_
  try simp only [zP,zN,zA,zB,zC]
  refine takeh_ (i := 3) (N := some 18) (v := .int .i64 x0) (msk 10 15) rfl rfl (by kernel_rfl) hP (y_load (p := ⟨ga, 0, none⟩) rfl (by rfl) (by rfl) (fun W hS => run_load_one ((hS.1.cell 0).trans rfl) Try.underlying3 rfl)) hS380 rfl ?_
  try simp only [zP,zN,zA,zB,zC]
  refine pureh_ (i := 4) (N := some 19) (v := .int .i64 ((0 : Nat) : Int)) (msk 10 31) rfl rfl (by kernel_rfl) hP (y_move rfl (by rfl) (by rfl)) rfl ?_
  try simp only [zP,zN,zA,zB,zC]
  refine pureh_ (i := 5) (N := some 20) (v := .pointer (some ⟨gb, 0, none⟩)) (msk 10 63) rfl rfl (by kernel_rfl) hP (y_run (by rfl) (fun W => by first | (go_simp; done) | (go_simp; rfl) | (go_simp; decide))) rfl ?_
  try simp only [zP,zN,zA,zB,zC]
  refine takeh_ (i := 6) (N := some 21) (v := .int .i64 y0) (msk 10 127) rfl rfl (by kernel_rfl) hP (y_load (p := ⟨gb, 0, none⟩) rfl (by rfl) (by rfl) (fun W hS => run_load_one ((hS.2.1.cell 0).trans rfl) Try.underlying3 rfl)) hS380 rfl ?_
  try simp only [zP,zN,zA,zB,zC]
  refine pureh_ (i := 7) (N := some 22) (v := .int .i64 (max x0 y0)) (msk 10 255) rfl rfl (by kernel_rfl) hP (y_run (by rfl) (fun W => by go_simp; split <;> omega)) rfl ?_
  try simp only [zP,zN,zA,zB,zC]
  refine pureh_ (i := 8) (N := some 23) (v := .pointer (some ⟨ga, 0, none⟩)) (msk 10 511) rfl rfl (by kernel_rfl) hP (y_run (by rfl) (fun W => by first | (go_simp; done) | (go_simp; rfl) | (go_simp; decide))) rfl ?_
  try simp only [zP,zN,zA,zB,zC]
  refine last_ (i := 9) (N := none) (msk 10 1023) rfl rfl (by kernel_rfl) (by simp) (fun K381 hK381 => ?_)
  refine e_store1 (b := ga) (j := 0) (v := .int .i64 (max x0 y0)) (by rfl) rfl rfl (by rfl) (by rfl) FA.out (show 0 < 3 by omega) (by kernel_rfl) rfl ?_
  rintro w382 B383 C384
  replace C0 := qh (C0.out.trans' C384 (inw_cons (.inr hna.out) inw_nil))
  replace FR := qh (C384.blk FR.out (nin_cons (Blk.ne_type FR.out FA.out (by decide)) nin_nil))
  replace FB := qh (C384.blk FB.out (nin_cons (Ne.symm hab.out) nin_nil))
  clear FA; have FA := qh (show Blk w382 ga (#[.int .i64 (max x0 y0), .int .i64 x1, .int .i64 x2]) 99 from B383); clear B383 C384
  refine hK381.out _ _ ?_; clear hK381 K381
  try simp only [zP,zN,zA,zB,zC]
  refine done_ (by kernel_rfl) ?_
  refine ib_norm ?_
  refine th_norm (hK376 _ _ ?_); try clear hK376 K376
  refine r_ ?_
  refine pu_ (v := .int .i64 ((1 : Nat) : Int)) (y_run (by rfl) (fun W => by first | (go_simp; done) | (go_simp; rfl) | (go_simp; decide))) ?_
  try simp only [zP,zN,zA,zB,zC]
  refine pu_ (v := .int .i64 ((1 : Nat) : Int)) (y_move rfl (by rfl) (by rfl)) ?_
  try simp only [zP,zN,zA,zB,zC]
  refine nl_ ?_
  exact th_norm (hK373 (2) _ _ (by have := hk.out; omega) ⟨1, (max x0 y0), x1, x2, rfl, C0, FR, FA, FB, qh ⟨by omega, by have := hk.out; omega⟩, qh (by simp [At3])⟩)
 ·subst h
  have EV := qh (at3_1 hv.out)
  have FA' := qh (show Blk w372 ga #[.int .i64 (max x0 y0), .int .i64 x1, .int .i64 x2] 99 from by have h9 := FA.out; rw [EV.out.1, EV.out.2.1, EV.out.2.2] at h9; exact h9); clear FA; have FA := FA'; clear FA'
  refine s_ (fun K385 hK385 => ?_)
  refine pu_ (v := .bool true) (y_run (by rfl) (fun W => by first | (go_simp; done) | (go_simp; rfl) | (go_simp; decide))) ?_
  try simp only [zP,zN,zA,zB,zC]
  refine nl_ (hK385 _ _ ?_); clear hK385 K385
  refine sq_ (fun K386 hK386 => ?_)
  refine wp_cond_true rfl ?_
  refine wp_skip ?_
  refine th_norm (hK386 _ _ ?_); try clear hK386 K386
  refine sq_ (fun K387 hK387 => ?_)
  refine wp_block ?_
  refine s_ (fun K388 hK388 => ?_)
  refine pu_ (v := .int .i64 ((1 : Nat) : Int)) (y_move rfl (by rfl) (by rfl)) ?_
  try simp only [zP,zN,zA,zB,zC]
  refine pu_ (v := .int .i64 ((1 : Nat) : Int)) (y_assign rfl (by rfl) (by rfl)) ?_
  try simp only [zP,zN,zA,zB,zC]
  refine nl_ (hK388 _ _ ?_); clear hK388 K388
  refine startk_ (S := fun W => Blk W ga (#[.int .i64 (max x0 y0), .int .i64 x1, .int .i64 x2]) 99 ∧ Blk W gb (#[.int .i64 y0, .int .i64 y1, .int .i64 y2]) 99 ∧ True) (ds := [9]) (msk 10 0) (by kernel_rfl) rfl (by kernel_rfl) (fun W c => ⟨c.blk FA.out nin_nil, c.blk FB.out nin_nil, trivial⟩) (fun w389 C390 hS391 => ?_)
  replace C0 := qh (C0.out.trans' C390 inw_nil)
  replace FR := qh (C390.blk FR.out nin_nil)
  replace FA := qh (C390.blk FA.out nin_nil)
  replace FB := qh (C390.blk FB.out nin_nil)
  clear C390
  refine pureh_ (i := 0) (N := some 15) (v := .int .i64 ((1 : Nat) : Int)) (msk 10 1) rfl rfl (by kernel_rfl) hP (y_move rfl (by rfl) (by rfl)) rfl ?_
  try simp only [zP,zN,zA,zB,zC]
  refine pureh_ (i := 1) (N := some 16) (v := .int .i64 ((1 : Nat) : Int)) (msk 10 3) rfl rfl (by kernel_rfl) hP (y_move rfl (by rfl) (by rfl)) rfl ?_
  try simp only [zP,zN,zA,zB,zC]
  refine pureh_ (i := 2) (N := some 17) (v := .pointer (some ⟨ga, 1, none⟩)) (msk 10 7) rfl rfl (by kernel_rfl) hP (y_run (by rfl) (fun W => by first | (go_simp; done) | (go_simp; rfl) | (go_simp; decide))) rfl ?_
  try simp only [zP,zN,zA,zB,zC]
  refine takeh_ (i := 3) (N := some 18) (v := .int .i64 x1) (msk 10 15) rfl rfl (by kernel_rfl) hP (y_load (p := ⟨ga, 1, none⟩) rfl (by rfl) (by rfl) (fun W hS => run_load_one ((hS.1.cell 1).trans rfl) Try.underlying3 rfl)) hS391 rfl ?_
  try simp only [zP,zN,zA,zB,zC]
  refine pureh_ (i := 4) (N := some 19) (v := .int .i64 ((1 : Nat) : Int)) (msk 10 31) rfl rfl (by kernel_rfl) hP (y_move rfl (by rfl) (by rfl)) rfl ?_
  try simp only [zP,zN,zA,zB,zC]
  refine pureh_ (i := 5) (N := some 20) (v := .pointer (some ⟨gb, 1, none⟩)) (msk 10 63) rfl rfl (by kernel_rfl) hP (y_run (by rfl) (fun W => by first | (go_simp; done) | (go_simp; rfl) | (go_simp; decide))) rfl ?_
  try simp only [zP,zN,zA,zB,zC]
  refine takeh_ (i := 6) (N := some 21) (v := .int .i64 y1) (msk 10 127) rfl rfl (by kernel_rfl) hP (y_load (p := ⟨gb, 1, none⟩) rfl (by rfl) (by rfl) (fun W hS => run_load_one ((hS.2.1.cell 1).trans rfl) Try.underlying3 rfl)) hS391 rfl ?_
  try simp only [zP,zN,zA,zB,zC]
  refine pureh_ (i := 7) (N := some 22) (v := .int .i64 (max x1 y1)) (msk 10 255) rfl rfl (by kernel_rfl) hP (y_run (by rfl) (fun W => by go_simp; split <;> omega)) rfl ?_
  try simp only [zP,zN,zA,zB,zC]
  refine pureh_ (i := 8) (N := some 23) (v := .pointer (some ⟨ga, 1, none⟩)) (msk 10 511) rfl rfl (by kernel_rfl) hP (y_run (by rfl) (fun W => by first | (go_simp; done) | (go_simp; rfl) | (go_simp; decide))) rfl ?_
  try simp only [zP,zN,zA,zB,zC]
  refine last_ (i := 9) (N := none) (msk 10 1023) rfl rfl (by kernel_rfl) (by simp) (fun K392 hK392 => ?_)
  refine e_store1 (b := ga) (j := 1) (v := .int .i64 (max x1 y1)) (by rfl) rfl rfl (by rfl) (by rfl) FA.out (show 1 < 3 by omega) (by kernel_rfl) rfl ?_
  rintro w393 B394 C395
  replace C0 := qh (C0.out.trans' C395 (inw_cons (.inr hna.out) inw_nil))
  replace FR := qh (C395.blk FR.out (nin_cons (Blk.ne_type FR.out FA.out (by decide)) nin_nil))
  replace FB := qh (C395.blk FB.out (nin_cons (Ne.symm hab.out) nin_nil))
  clear FA; have FA := qh (show Blk w393 ga (#[.int .i64 (max x0 y0), .int .i64 (max x1 y1), .int .i64 x2]) 99 from B394); clear B394 C395
  refine hK392.out _ _ ?_; clear hK392 K392
  try simp only [zP,zN,zA,zB,zC]
  refine done_ (by kernel_rfl) ?_
  refine ib_norm ?_
  refine th_norm (hK387 _ _ ?_); try clear hK387 K387
  refine r_ ?_
  refine pu_ (v := .int .i64 ((2 : Nat) : Int)) (y_run (by rfl) (fun W => by first | (go_simp; done) | (go_simp; rfl) | (go_simp; decide))) ?_
  try simp only [zP,zN,zA,zB,zC]
  refine pu_ (v := .int .i64 ((2 : Nat) : Int)) (y_move rfl (by rfl) (by rfl)) ?_
  try simp only [zP,zN,zA,zB,zC]
  refine nl_ ?_
  exact th_norm (hK373 (1) _ _ (by have := hk.out; omega) ⟨2, (max x0 y0), (max x1 y1), x2, rfl, C0, FR, FA, FB, qh ⟨by omega, by have := hk.out; omega⟩, qh (by simp [At3])⟩)
 ·subst h
  have EV := qh (at3_2 hv.out)
  have FA' := qh (show Blk w372 ga #[.int .i64 (max x0 y0), .int .i64 (max x1 y1), .int .i64 x2] 99 from by have h9 := FA.out; rw [EV.out.1, EV.out.2.1, EV.out.2.2] at h9; exact h9); clear FA; have FA := FA'; clear FA'
  refine s_ (fun K396 hK396 => ?_)
  refine pu_ (v := .bool true) (y_run (by rfl) (fun W => by first | (go_simp; done) | (go_simp; rfl) | (go_simp; decide))) ?_
  try simp only [zP,zN,zA,zB,zC]
  refine nl_ (hK396 _ _ ?_); clear hK396 K396
  refine sq_ (fun K397 hK397 => ?_)
  refine wp_cond_true rfl ?_
  refine wp_skip ?_
  refine th_norm (hK397 _ _ ?_); try clear hK397 K397
  refine sq_ (fun K398 hK398 => ?_)
  refine wp_block ?_
  refine s_ (fun K399 hK399 => ?_)
  refine pu_ (v := .int .i64 ((2 : Nat) : Int)) (y_move rfl (by rfl) (by rfl)) ?_
  try simp only [zP,zN,zA,zB,zC]
  refine pu_ (v := .int .i64 ((2 : Nat) : Int)) (y_assign rfl (by rfl) (by rfl)) ?_
  try simp only [zP,zN,zA,zB,zC]
  refine nl_ (hK399 _ _ ?_); clear hK399 K399
  refine startk_ (S := fun W => Blk W ga (#[.int .i64 (max x0 y0), .int .i64 (max x1 y1), .int .i64 x2]) 99 ∧ Blk W gb (#[.int .i64 y0, .int .i64 y1, .int .i64 y2]) 99 ∧ True) (ds := [9]) (msk 10 0) (by kernel_rfl) rfl (by kernel_rfl) (fun W c => ⟨c.blk FA.out nin_nil, c.blk FB.out nin_nil, trivial⟩) (fun w400 C401 hS402 => ?_)
  replace C0 := qh (C0.out.trans' C401 inw_nil)
  replace FR := qh (C401.blk FR.out nin_nil)
  replace FA := qh (C401.blk FA.out nin_nil)
  replace FB := qh (C401.blk FB.out nin_nil)
  clear C401
  refine pureh_ (i := 0) (N := some 15) (v := .int .i64 ((2 : Nat) : Int)) (msk 10 1) rfl rfl (by kernel_rfl) hP (y_move rfl (by rfl) (by rfl)) rfl ?_
  try simp only [zP,zN,zA,zB,zC]
  refine pureh_ (i := 1) (N := some 16) (v := .int .i64 ((2 : Nat) : Int)) (msk 10 3) rfl rfl (by kernel_rfl) hP (y_move rfl (by rfl) (by rfl)) rfl ?_
  try simp only [zP,zN,zA,zB,zC]
  refine pureh_ (i := 2) (N := some 17) (v := .pointer (some ⟨ga, 2, none⟩)) (msk 10 7) rfl rfl (by kernel_rfl) hP (y_run (by rfl) (fun W => by first | (go_simp; done) | (go_simp; rfl) | (go_simp; decide))) rfl ?_
  try simp only [zP,zN,zA,zB,zC]
  refine takeh_ (i := 3) (N := some 18) (v := .int .i64 x2) (msk 10 15) rfl rfl (by kernel_rfl) hP (y_load (p := ⟨ga, 2, none⟩) rfl (by rfl) (by rfl) (fun W hS => run_load_one ((hS.1.cell 2).trans rfl) Try.underlying3 rfl)) hS402 rfl ?_
  try simp only [zP,zN,zA,zB,zC]
  refine pureh_ (i := 4) (N := some 19) (v := .int .i64 ((2 : Nat) : Int)) (msk 10 31) rfl rfl (by kernel_rfl) hP (y_move rfl (by rfl) (by rfl)) rfl ?_
  try simp only [zP,zN,zA,zB,zC]
  refine pureh_ (i := 5) (N := some 20) (v := .pointer (some ⟨gb, 2, none⟩)) (msk 10 63) rfl rfl (by kernel_rfl) hP (y_run (by rfl) (fun W => by first | (go_simp; done) | (go_simp; rfl) | (go_simp; decide))) rfl ?_
  try simp only [zP,zN,zA,zB,zC]
  refine takeh_ (i := 6) (N := some 21) (v := .int .i64 y2) (msk 10 127) rfl rfl (by kernel_rfl) hP (y_load (p := ⟨gb, 2, none⟩) rfl (by rfl) (by rfl) (fun W hS => run_load_one ((hS.2.1.cell 2).trans rfl) Try.underlying3 rfl)) hS402 rfl ?_
  try simp only [zP,zN,zA,zB,zC]
  refine pureh_ (i := 7) (N := some 22) (v := .int .i64 (max x2 y2)) (msk 10 255) rfl rfl (by kernel_rfl) hP (y_run (by rfl) (fun W => by go_simp; split <;> omega)) rfl ?_
  try simp only [zP,zN,zA,zB,zC]
  refine pureh_ (i := 8) (N := some 23) (v := .pointer (some ⟨ga, 2, none⟩)) (msk 10 511) rfl rfl (by kernel_rfl) hP (y_run (by rfl) (fun W => by first | (go_simp; done) | (go_simp; rfl) | (go_simp; decide))) rfl ?_
  try simp only [zP,zN,zA,zB,zC]
  refine last_ (i := 9) (N := none) (msk 10 1023) rfl rfl (by kernel_rfl) (by simp) (fun K403 hK403 => ?_)
  refine e_store1 (b := ga) (j := 2) (v := .int .i64 (max x2 y2)) (by rfl) rfl rfl (by rfl) (by rfl) FA.out (show 2 < 3 by omega) (by kernel_rfl) rfl ?_
  rintro w404 B405 C406
  replace C0 := qh (C0.out.trans' C406 (inw_cons (.inr hna.out) inw_nil))
  replace FR := qh (C406.blk FR.out (nin_cons (Blk.ne_type FR.out FA.out (by decide)) nin_nil))
  replace FB := qh (C406.blk FB.out (nin_cons (Ne.symm hab.out) nin_nil))
  clear FA; have FA := qh (show Blk w404 ga (#[.int .i64 (max x0 y0), .int .i64 (max x1 y1), .int .i64 (max x2 y2)]) 99 from B405); clear B405 C406
  refine hK403.out _ _ ?_; clear hK403 K403
  try simp only [zP,zN,zA,zB,zC]
  refine done_ (by kernel_rfl) ?_
  refine ib_norm ?_
  refine th_norm (hK398 _ _ ?_); try clear hK398 K398
  refine r_ ?_
  refine pu_ (v := .int .i64 ((3 : Nat) : Int)) (y_run (by rfl) (fun W => by first | (go_simp; done) | (go_simp; rfl) | (go_simp; decide))) ?_
  try simp only [zP,zN,zA,zB,zC]
  refine pu_ (v := .int .i64 ((3 : Nat) : Int)) (y_move rfl (by rfl) (by rfl)) ?_
  try simp only [zP,zN,zA,zB,zC]
  refine nl_ ?_
  exact th_norm (hK373 (0) _ _ (by have := hk.out; omega) ⟨3, (max x0 y0), (max x1 y1), (max x2 y2), rfl, C0, FR, FA, FB, qh ⟨by omega, by have := hk.out; omega⟩, qh (by simp [At3])⟩)
 ·subst h
  have EV := qh (at3_3 hv.out)
  have FA' := qh (show Blk w372 ga #[.int .i64 (max x0 y0), .int .i64 (max x1 y1), .int .i64 (max x2 y2)] 99 from by have h9 := FA.out; rw [EV.out.1, EV.out.2.1, EV.out.2.2] at h9; exact h9); clear FA; have FA := FA'; clear FA'
  refine s_ (fun K407 hK407 => ?_)
  refine pu_ (v := .bool false) (y_run (by rfl) (fun W => by first | (go_simp; done) | (go_simp; rfl) | (go_simp; decide))) ?_
  try simp only [zP,zN,zA,zB,zC]
  refine nl_ (hK407 _ _ ?_); clear hK407 K407
  refine sq_ (fun K408 hK408 => ?_)
  refine wp_cond_false rfl ?_
  refine wp_exit ?_
  refine th_exit ?_
  refine th_exit ?_
  refine ib_exit ?_
  refine th_norm (hK370 _ _ ?_); try clear hK370 K370
  refine s_ (fun K409 hK409 => ?_)
  refine ld_ (v := .agg (#[.int .i64 (max x0 y0), .int .i64 (max x1 y1), .int .i64 (max x2 y2)])) rfl (by rfl) (by rfl) (run_loadVar_row _ _ 99 99 (#[.int .i64 (max x0 y0), .int .i64 (max x1 y1), .int .i64 (max x2 y2)]) (0, 0) _ FA.out Try.underlying99 rfl (by kernel_rfl)) ?_
  try simp only [zP,zN,zA,zB,zC]
  refine ef_ (fun K410 hK410 => ?_)
  refine e_call Try.func59 (by kernel_rfl) rfl #[.agg (#[.int .i64 (max x0 y0), .int .i64 (max x1 y1), .int .i64 (max x2 y2)])] (by rfl) rfl rfl (mp1 rfl) (pres_) ?_
  rintro en w412 ⟨rfl, cc411⟩
  refine ⟨_, rfl, ?_⟩
  replace C0 := qh (C0.out.trans' cc411 inw_nil)
  replace FR := qh (cc411.blk FR.out nin_nil)
  replace FA := qh (cc411.blk FA.out nin_nil)
  replace FB := qh (cc411.blk FB.out nin_nil)
  clear cc411
  refine hK410 _ _ ?_; clear hK410 K410
  try simp only [zP,zN,zA,zB,zC]
  refine ef_ (fun K413 hK413 => ?_)
  refine e_storeN (cells := #[.int .i64 (max x0 y0), .int .i64 (max x1 y1), .int .i64 (max x2 y2)]) (by rfl) rfl rfl (by rfl) (by rfl) FR.out (by kernel_rfl) (by rfl) (ones_cons rfl (ones_cons rfl (ones_cons rfl ones_nil))) ?_
  rintro w414 B415 C416
  replace C0 := qh (C0.out.trans' C416 (inw_cons (.inr nw22.out) inw_nil))
  replace FA := qh (C416.blk FA.out (nin_cons (Blk.ne_type FA.out FR.out (by decide)) nin_nil))
  replace FB := qh (C416.blk FB.out (nin_cons (Blk.ne_type FB.out FR.out (by decide)) nin_nil))
  clear FR; have FR := qh (show Blk w414 gr (#[.int .i64 (max x0 y0), .int .i64 (max x1 y1), .int .i64 (max x2 y2)]) 23 from B415); clear B415 C416
  refine hK413 _ _ ?_; clear hK413 K413
  try simp only [zP,zN,zA,zB,zC]
  refine nl_ (hK409 _ _ ?_); clear hK409 K409
  refine wp_ret ?_
  refine hQ _ _ _ ?_
  refine bodyPost_ret (res1 rfl (rdv_cell (by rfl) (run_loadVar_row _ _ 23 23 (#[.int .i64 (max x0 y0), .int .i64 (max x1 y1), .int .i64 (max x2 y2)]) (0, 0) _ FR.out Try.underlying23 rfl (by kernel_rfl)))) rfl ?_
  exact ⟨rfl, C0.out⟩
end
end Go.Proofs.Ytmoelehhofmhcaa.V
