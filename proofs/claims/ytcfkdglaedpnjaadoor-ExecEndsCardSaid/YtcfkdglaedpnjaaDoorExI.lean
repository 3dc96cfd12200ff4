/- The walks of what ends sessions, and of those that are busy. -/
import Derived.Test.YtcfkdglaedpnjaaDoorExH
namespace Go.Proofs.YtcfkdglaedpnjaaDoor.V
open Go Go.RowKit Go.Proofs.YtcfkdglaedpnjaaDoor.K Go.Proofs.YtcfkdglaedpnjaaDoor.R Go.Proofs.YtcfkdglaedpnjaaDoorW.PrintLast
set_option linter.unusedVariables false
set_option linter.unusedSimpArgs false
set_option maxRecDepth 100000
set_option maxHeartbeats 1600000
section
variable {w : World}
theorem rend_ {Aq : Option Addr} {n z : Nat} {la : Int} {L : List HS} (HNL : Hid (L.length = n)) (HN : Hid (n ≤ 100)) {bx ct : Int} (HZ : Hid (n ≤ z ∧ z ≤ maxLen)) (SQ : Hid (SrcIs w (.slice Aq n z) (n) ((L).flatMap sesC) 6)) :
    Calls Tryd.prog 38 #[.agg #[.slice Aq n z, .int .i64 la], .int .i64 bx, .int .i64 ct] w fun en w' => ∃ Q' z', en = .returned (.tuple #[.agg #[.slice Q' n z', .int .i64 la], .int .i64 (L.countP (hit bx ct) : Nat)]) ∧ SrcIs w' (.slice Q' n z') n ((L.map (endS bx ct)).flatMap sesC) 6 ∧ (n ≤ z' ∧ z' ≤ maxLen) ∧ (∀ k, k ∈ xb (.slice Q' n z') → k ∈ xb (.slice Aq n z) ∨ w.heap.size ≤ k) ∧ Ch [] w w' := by
  have C0 := Lib.hid (Ch.refl [] w)
  go_enter Tryd.func38, Tryd.ntmps38
  refine q_ (fun Q hQ hP => ?_)
  refine s_ (fun K1 hK1 => ?_)
  refine ef_ (fun K2 hK2 => ?_)
  refine e_boxN (by rfl) rfl rfl (cs := #[.slice Aq n z, .int .i64 la]) (v := .agg #[.slice Aq n z, .int .i64 la]) (by rfl) rfl ?_
  rintro gx w3 HG4 B5 C6
  have nw7 := Lib.hid (show w.heap.size ≤ gx by have := C0.out.size; have := HG4.out; omega)
  have nx8 := Lib.hid (SQ.out.ne_new (by decide) HG4)
  have C0' := Lib.hid (show Ch [] w w3 from C0.out.trans' C6 (fun x hx => absurd hx (by simp)))
  have SQ' := Lib.hid (show SrcIs w3 (.slice Aq n z) (n) ((L).flatMap sesC) 6 from SQ.out.chx C6 xnin_nil)
  clear C0 SQ
  have C0 := C0'; clear C0'
  have SQ := SQ'; clear SQ'
  have Fgx := Lib.hid (show Blk w3 gx (#[.slice Aq n z, .int .i64 la]) 44 from B5); clear B5 C6
  refine hK2 _ _ ?_; clear hK2 K2
  (try simp only [zP, zN, zA, zB, zC])
  refine ef_ (fun K9 hK9 => ?_)
  refine e_alloc (by rfl) rfl rfl (cs := #[.slice none 0 0, .int .i64 0]) (by kernel_rfl) ?_
  rintro gr w10 HG11 B12 C13
  have nw14 := Lib.hid (show w.heap.size ≤ gr by have := C0.out.size; have := HG11.out; omega)
  have nx15 := Lib.hid (SQ.out.ne_new (by decide) HG11)
  have ne16 := Lib.hid (Fgx.out.ne_new HG11)
  have C0' := Lib.hid (show Ch [] w w10 from C0.out.trans' C13 (fun x hx => absurd hx (by simp)))
  have SQ' := Lib.hid (show SrcIs w10 (.slice Aq n z) (n) ((L).flatMap sesC) 6 from SQ.out.chx C13 xnin_nil)
  have Fgx' := Lib.hid (show Blk w10 gx (#[.slice Aq n z, .int .i64 la]) 44 from C13.blk Fgx.out nin_nil)
  clear C0 SQ Fgx
  have C0 := C0'; clear C0'
  have SQ := SQ'; clear SQ'
  have Fgx := Fgx'; clear Fgx'
  have Fgr := Lib.hid (show Blk w10 gr (#[.slice none 0 0, .int .i64 0]) 44 from B12); clear B12 C13
  refine hK9 _ _ ?_; clear hK9 K9
  (try simp only [zP, zN, zA, zB, zC])
  refine pu_ (v := .int .i64 0) (y_assign rfl (by rfl) (by rfl)) ?_
  (try simp only [zP, zN, zA, zB, zC])
  refine nl_ (hK1 _ _ ?_); clear hK1 K1
  refine s_ (fun K17 hK17 => ?_)
  refine pu_ (v := .int .i64 0) (y_assign rfl (by rfl) (by rfl)) ?_
  (try simp only [zP, zN, zA, zB, zC])
  refine nl_ (hK17 _ _ ?_); clear hK17 K17
  refine sq_ (fun K18 hK18 => ?_)
  refine s_ (fun K19 hK19 => ?_)
  refine pu_ (v := .int .i64 0) (y_assign rfl (by rfl) (by rfl)) ?_
  (try simp only [zP, zN, zA, zB, zC])
  refine nl_ (hK19 _ _ ?_); clear hK19 K19
  refine wp_block ?_
  have hgxN := nw7
  have hgrN := nw14
  refine loopk_ (fun (kq : Nat) (a' : Act) (w' : World) => ∃ (i : Nat), ∃ (Ai : Option Addr), ∃ (zi : Nat), ∃ (us : Nat → Value), a' = ⟨#[us 0, .int .i64 bx, .int .i64 ct, .pointer (some ⟨gx, 0, none⟩), us 4, us 5, .pointer (some ⟨gr, 0, none⟩), us 7, .int .i64 ((L.take i).countP (hit bx ct) : Nat), .int .i64 i, us 10, us 11, us 12, us 13, us 14, us 15, us 16, us 17, us 18, us 19, us 20, us 21, us 22, us 23, us 24, us 25, us 26, us 27, us 28, us 29, us 30, us 31, us 32, us 33, us 34, us 35, us 36, us 37, us 38, us 39, us 40, us 41, us 42, us 43, us 44, us 45], []⟩ ∧ Hid (Ch [] w w') ∧ Hid (SrcIs w' (.slice Ai n zi) (n) ((((L.take i).map (endS bx ct) ++ L.drop i)).flatMap sesC) 6) ∧ Hid (Blk w' gx (#[.slice Ai n zi, .int .i64 la]) 44) ∧ Hid (Blk w' gr (#[.slice none 0 0, .int .i64 0]) 44) ∧ Hid (i ≤ L.length ∧ kq + i = L.length) ∧ Hid (n ≤ zi ∧ zi ≤ maxLen) ∧ Hid (∀ k, k ∈ xb (.slice Ai n zi) → k ∈ xb (.slice Aq n z) ∨ w.heap.size ≤ k) ∧ Hid (gx ∉ xb (.slice Ai n zi)) ∧ Hid (gr ∉ xb (.slice Ai n zi)) ∧ Hid (gx ≠ gr)) (L.length) (⟨0, Aq, z, fun us_ => (#[.agg #[.slice Aq n z, .int .i64 la], .int .i64 bx, .int .i64 ct, .pointer (some ⟨gx, 0, none⟩), undef, undef, .pointer (some ⟨gr, 0, none⟩), .int .i64 0, .int .i64 0, .int .i64 0, undef, undef, undef, undef, undef, undef, undef, undef, undef, undef, undef, undef, undef, undef, undef, undef, undef, undef, undef, undef, undef, undef, undef, undef, undef, undef, undef, undef, undef, undef, undef, undef, undef, undef, undef, undef] : Array Value).getD us_ undef, rfl, C0, Lib.hid (by rw [List.take_zero, List.drop_zero]; exact SQ.out), Fgx, Fgr, Lib.hid ⟨by omega, by omega⟩, HZ, Lib.hid (fun k hk => .inl hk), nx8, nx15, Lib.hid ne16.out⟩) ?_
  rintro kq _ w20 ⟨i, Ai, zi, us, rfl, C0, SQ, Fgx, Fgr, hi, hz, hnw, hxx, hxr, hgxr⟩ K21 hK21
  refine sq_ (fun K22 hK22 => ?_)
  rcases at_ways' hi.out.1 with ⟨s, ho0, hlt0⟩ | h; rcases (show s.op = false ∨ (s.op = true ∧ s.box ≠ bx) ∨ (s.op = true ∧ s.box = bx ∧ s.ctr ≠ ct) ∨ (s.op = true ∧ s.box = bx ∧ s.ctr = ct) by cases s.op <;> simp; exact (Classical.em (s.box = bx)).elim (fun h1 => (Classical.em (s.ctr = ct)).elim (fun h2 => .inr (.inr ⟨h1, h2⟩)) (fun h2 => .inr (.inl ⟨h1, h2⟩))) .inl) with hc | hc | hc | hc
  · have hlt := Lib.hid hlt0
    have HS_ := Lib.hid ho0
    have HCC := Lib.hid hc
    have HMI := Lib.hid (show ((L.take i).map (endS bx ct) ++ L.drop i)[i]? = some s from mix_at ho0)
    clear hc hlt0 ho0
    have HNL2 := Lib.hid (show ((L.take i).map (endS bx ct) ++ L.drop i).length = n by rw [List.length_append, List.length_map, List.length_take, List.length_drop]; have := HNL.out; have := hlt.out; omega)
    have HOP := Lib.hid (show s.op = false from HCC.out)
    have HEN := Lib.hid (show endS bx ct s = s from by unfold endS hit; rw [HOP.out]; simp)
    have HHI := Lib.hid (show hit bx ct s = false from by unfold hit; rw [HOP.out]; simp)
    obtain ⟨a, hsm_a⟩ := src_some SQ.out (by have := hlt.out; have := HNL.out; omega)
    subst hsm_a
    have D15 := Lib.hid (show (i : Int) < (n : Int) by have := hlt.out; have := HNL.out; omega)
    have Wi := Lib.hid (show IntKind.i64.wrap ((i : Int) + 1) = ((i + 1 : Nat) : Int) by rw [wr64 (by have := hlt.out; have h7 := HN.out; have h8 := HNL.out; omega)]; omega)
    have W7 := Lib.hid (show (Value.int .i64 ((L.take i).countP (hit bx ct) : Nat)) = .int .i64 ((L.take (i + 1)).countP (hit bx ct) : Nat) by rw [count_succ HS_.out, HHI.out]; simp)
    rw [W7.out]
    refine s_ (fun K23 hK23 => ?_)
    refine pu_ (v := .int .i64 i) (y_move rfl (by rfl) (by rfl)) ?_
    (try simp only [zP, zN, zA, zB, zC])
    refine pu_ (v := .pointer (some ⟨gx, 0, none⟩)) (y_run (by rfl) (fun W => by go_simp)) ?_
    (try simp only [zP, zN, zA, zB, zC])
    refine ld_ (v := .slice (some a) n zi) rfl (by rfl) (by rfl) (run_load_one ((Fgx.out.cell 0).trans rfl) Tryd.underlying42 rfl) ?_
    (try simp only [zP, zN, zA, zB, zC])
    refine pu_ (v := .int .i64 n) (y_run (by rfl) (fun W => by go_simp)) ?_
    (try simp only [zP, zN, zA, zB, zC])
    refine pu_ (v := .bool true) (y_run (by rfl) (fun W => by have d := D15.out; go_simp)) ?_
    (try simp only [zP, zN, zA, zB, zC])
    refine nl_ (hK23 _ _ ?_); clear hK23 K23
    refine wp_cond_true rfl ?_
    refine wp_skip ?_
    refine th_norm (hK22 _ _ ?_); try clear hK22 K22
    refine sq_ (fun K24 hK24 => ?_)
    refine wp_block ?_
    refine s_ (fun K25 hK25 => ?_)
    refine pu_ (v := .pointer (some ⟨gx, 0, none⟩)) (y_run (by rfl) (fun W => by go_simp)) ?_
    (try simp only [zP, zN, zA, zB, zC])
    refine ld_ (v := .slice (some a) n zi) rfl (by rfl) (by rfl) (run_load_one ((Fgx.out.cell 0).trans rfl) Tryd.underlying42 rfl) ?_
    (try simp only [zP, zN, zA, zB, zC])
    refine pu_ (v := .int .i64 i) (y_move rfl (by rfl) (by rfl)) ?_
    (try simp only [zP, zN, zA, zB, zC])
    refine pu_ (v := .pointer (some (a.add (i * 6)))) (y_run (by rfl) (fun W => by have d := D15.out; go_simp)) ?_
    (try simp only [zP, zN, zA, zB, zC])
    refine ld_ (v := .agg #[.int .i64 s.id, .int .i64 s.box, .int .i64 s.ctr, .bool false, .string (str s.qi), .string (str s.qo)]) rfl (by rfl) (by rfl) (run_loadVar_at (cs := [.int .i64 s.id, .int .i64 s.box, .int .i64 s.ctr, .bool false, .string (str s.qi), .string (str s.qo)]) (src_ses SQ.out HMI.out HOP.out) Tryd.underlying49 rfl (by kernel_rfl)) ?_
    (try simp only [zP, zN, zA, zB, zC])
    refine ef_ (fun K26 hK26 => ?_)
    refine e_alloc (by rfl) rfl rfl (cs := #[.int .i64 0, .int .i64 0, .int .i64 0, .bool false, .string ⟨#[]⟩, .string ⟨#[]⟩]) (by kernel_rfl) ?_
    rintro g27 w28 HG29 B30 C31
    have nw32 := Lib.hid (show w.heap.size ≤ g27 by have := C0.out.size; have := HG29.out; omega)
    have nx33 := Lib.hid (SQ.out.ne_new (by decide) HG29)
    have C0' := Lib.hid (show Ch [] w w28 from C0.out.trans' C31 (fun x hx => absurd hx (by simp)))
    have SQ' := Lib.hid (show SrcIs w28 (.slice (some a) n zi) (n) ((((L.take i).map (endS bx ct) ++ L.drop i)).flatMap sesC) 6 from SQ.out.chx C31 xnin_nil)
    have Fgx' := Lib.hid (show Blk w28 gx (#[.slice (some a) n zi, .int .i64 la]) 44 from C31.blk Fgx.out nin_nil)
    have Fgr' := Lib.hid (show Blk w28 gr (#[.slice none 0 0, .int .i64 0]) 44 from C31.blk Fgr.out nin_nil)
    clear C0 SQ Fgx Fgr
    have C0 := C0'; clear C0'
    have SQ := SQ'; clear SQ'
    have Fgx := Fgx'; clear Fgx'
    have Fgr := Fgr'; clear Fgr'
    have Fg27 := Lib.hid (show Blk w28 g27 (#[.int .i64 0, .int .i64 0, .int .i64 0, .bool false, .string ⟨#[]⟩, .string ⟨#[]⟩]) 49 from B30); clear B30 C31
    refine hK26 _ _ ?_; clear hK26 K26
    (try simp only [zP, zN, zA, zB, zC])
    refine ef_ (fun K34 hK34 => ?_)
    refine e_storeN (cells := #[.int .i64 s.id, .int .i64 s.box, .int .i64 s.ctr, .bool false, .string (str s.qi), .string (str s.qo)]) (by rfl) rfl rfl (by rfl) (by rfl) Fg27.out (by kernel_rfl) (by rfl) (ones_cons rfl (ones_cons rfl (ones_cons rfl (ones_cons rfl (ones_cons rfl (ones_cons rfl ones_nil)))))) ?_
    rintro w35 B36 C37
    have C0' := Lib.hid (show Ch [] w w35 from C0.out.trans' C37 (inw_cons (.inr nw32.out) inw_nil))
    have SQ' := Lib.hid (show SrcIs w35 (.slice (some a) n zi) (n) ((((L.take i).map (endS bx ct) ++ L.drop i)).flatMap sesC) 6 from SQ.out.chx C37 (xnin_cons nx33.out xnin_nil))
    have Fgx' := Lib.hid (show Blk w35 gx (#[.slice (some a) n zi, .int .i64 la]) 44 from C37.blk Fgx.out (nin_cons (Blk.ne_type Fgx.out Fg27.out (by decide)) nin_nil))
    have Fgr' := Lib.hid (show Blk w35 gr (#[.slice none 0 0, .int .i64 0]) 44 from C37.blk Fgr.out (nin_cons (Blk.ne_type Fgr.out Fg27.out (by decide)) nin_nil))
    clear C0 SQ Fgx Fgr
    have C0 := C0'; clear C0'
    have SQ := SQ'; clear SQ'
    have Fgx := Fgx'; clear Fgx'
    have Fgr := Fgr'; clear Fgr'
    clear Fg27; have Fg27 := Lib.hid (show Blk w35 g27 (#[.int .i64 s.id, .int .i64 s.box, .int .i64 s.ctr, .bool false, .string (str s.qi), .string (str s.qo)]) 49 from B36); clear B36 C37
    refine hK34 _ _ ?_; clear hK34 K34
    (try simp only [zP, zN, zA, zB, zC])
    refine nl_ (hK25 _ _ ?_); clear hK25 K25
    refine s_ (fun K38 hK38 => ?_)
    refine pu_ (v := .pointer (some ⟨g27, 3, none⟩)) (y_run (by rfl) (fun W => by go_simp)) ?_
    (try simp only [zP, zN, zA, zB, zC])
    refine ld_ (v := .bool false) rfl (by rfl) (by rfl) (run_load_one ((Fg27.out.cell 3).trans rfl) Tryd.underlying4 rfl) ?_
    (try simp only [zP, zN, zA, zB, zC])
    refine pu_ (v := .bool false) (y_move rfl (by rfl) (by rfl)) ?_
    (try simp only [zP, zN, zA, zB, zC])
    refine pu_ (y_off (by rfl)) ?_
    (try simp only [zP, zN, zA, zB, zC])
    refine pu_ (y_off (by rfl)) ?_
    (try simp only [zP, zN, zA, zB, zC])
    refine pu_ (y_off (by rfl)) ?_
    (try simp only [zP, zN, zA, zB, zC])
    refine pu_ (y_off (by rfl)) ?_
    (try simp only [zP, zN, zA, zB, zC])
    refine pu_ (v := .bool false) (y_pick (t := false) (by rfl) rfl (by rfl) (by rfl)) ?_
    (try simp only [zP, zN, zA, zB, zC])
    refine pu_ (v := .bool false) (y_move rfl (by rfl) (by rfl)) ?_
    (try simp only [zP, zN, zA, zB, zC])
    refine pu_ (y_off (by rfl)) ?_
    (try simp only [zP, zN, zA, zB, zC])
    refine pu_ (y_off (by rfl)) ?_
    (try simp only [zP, zN, zA, zB, zC])
    refine pu_ (y_off (by rfl)) ?_
    (try simp only [zP, zN, zA, zB, zC])
    refine pu_ (y_off (by rfl)) ?_
    (try simp only [zP, zN, zA, zB, zC])
    refine pu_ (v := .bool false) (y_pick (t := false) (by rfl) rfl (by rfl) (by rfl)) ?_
    (try simp only [zP, zN, zA, zB, zC])
    refine nl_ (hK38 _ _ ?_); clear hK38 K38
    refine wp_cond_false rfl ?_
    refine wp_skip ?_
    refine ib_norm ?_
    refine th_norm (hK24 _ _ ?_); try clear hK24 K24
    refine r_ ?_
    refine pu_ (v := .int .i64 i) (y_move rfl (by rfl) (by rfl)) ?_
    (try simp only [zP, zN, zA, zB, zC])
    refine pu_ (v := .int .i64 (i + 1 : Nat)) (y_run (by rfl) (fun W => by have d := Wi.out; go_simp)) ?_
    (try simp only [zP, zN, zA, zB, zC])
    refine pu_ (v := .int .i64 (i + 1 : Nat)) (y_assign rfl (by rfl) (by rfl)) ?_
    (try simp only [zP, zN, zA, zB, zC])
    refine nl_ ?_
    exact th_norm (hK21 (kq - 1) _ _ (by have := hlt.out; have := hi.out; omega) ⟨i + 1, some a, zi, fun us_ => (#[us 0, .int .i64 bx, .int .i64 ct, .pointer (some ⟨gx, 0, none⟩), us 4, us 5, .pointer (some ⟨gr, 0, none⟩), us 7, .int .i64 ((L.take (i + 1)).countP (hit bx ct) : Nat), .int .i64 (i + 1 : Nat), .pointer (some ⟨g27, 0, none⟩), .int .i64 i, .pointer (some ⟨gx, 0, none⟩), .slice (some a) n zi, .int .i64 n, .bool true, .int .i64 i, .int .i64 (i + 1 : Nat), .pointer (some ⟨gx, 0, none⟩), .slice (some a) n zi, .int .i64 i, .pointer (some (a.add (i * 6))), .agg #[.int .i64 s.id, .int .i64 s.box, .int .i64 s.ctr, .bool false, .string (str s.qi), .string (str s.qo)], .pointer (some ⟨g27, 3, none⟩), .bool false, .bool false, undef, undef, undef, undef, .bool false, .bool false, undef, undef, undef, undef, .bool false, us 37, us 38, us 39, us 40, us 41, us 42, us 43, us 44, us 45] : Array Value).getD us_ undef, rfl, C0, Lib.hid (by have h9 := SQ.out; rw [mix_keep HS_.out HEN.out] at h9; exact h9), Fgx, Fgr, Lib.hid ⟨by have := hlt.out; omega, by have := hlt.out; have := hi.out; omega⟩, hz, hnw, hxx, hxr, hgxr⟩)
  · have hlt := Lib.hid hlt0
    have HS_ := Lib.hid ho0
    have HCC := Lib.hid hc
    have HMI := Lib.hid (show ((L.take i).map (endS bx ct) ++ L.drop i)[i]? = some s from mix_at ho0)
    clear hc hlt0 ho0
    have HNL2 := Lib.hid (show ((L.take i).map (endS bx ct) ++ L.drop i).length = n by rw [List.length_append, List.length_map, List.length_take, List.length_drop]; have := HNL.out; have := hlt.out; omega)
    have HOP := Lib.hid (show s.op = true from HCC.out.1)
    have HEN := Lib.hid (show endS bx ct s = s from by unfold endS hit; rw [HOP.out]; simp [HCC.out.2])
    have HHI := Lib.hid (show hit bx ct s = false from by unfold hit; rw [HOP.out]; simp [HCC.out.2])
    obtain ⟨a, hsm_a⟩ := src_some SQ.out (by have := hlt.out; have := HNL.out; omega)
    subst hsm_a
    have D15 := Lib.hid (show (i : Int) < (n : Int) by have := hlt.out; have := HNL.out; omega)
    have Wi := Lib.hid (show IntKind.i64.wrap ((i : Int) + 1) = ((i + 1 : Nat) : Int) by rw [wr64 (by have := hlt.out; have h7 := HN.out; have h8 := HNL.out; omega)]; omega)
    have D29 := Lib.hid (show ¬ s.box = bx from HCC.out.2)
    have W7 := Lib.hid (show (Value.int .i64 ((L.take i).countP (hit bx ct) : Nat)) = .int .i64 ((L.take (i + 1)).countP (hit bx ct) : Nat) by rw [count_succ HS_.out, HHI.out]; simp)
    rw [W7.out]
    refine s_ (fun K39 hK39 => ?_)
    refine pu_ (v := .int .i64 i) (y_move rfl (by rfl) (by rfl)) ?_
    (try simp only [zP, zN, zA, zB, zC])
    refine pu_ (v := .pointer (some ⟨gx, 0, none⟩)) (y_run (by rfl) (fun W => by go_simp)) ?_
    (try simp only [zP, zN, zA, zB, zC])
    refine ld_ (v := .slice (some a) n zi) rfl (by rfl) (by rfl) (run_load_one ((Fgx.out.cell 0).trans rfl) Tryd.underlying42 rfl) ?_
    (try simp only [zP, zN, zA, zB, zC])
    refine pu_ (v := .int .i64 n) (y_run (by rfl) (fun W => by go_simp)) ?_
    (try simp only [zP, zN, zA, zB, zC])
    refine pu_ (v := .bool true) (y_run (by rfl) (fun W => by have d := D15.out; go_simp)) ?_
    (try simp only [zP, zN, zA, zB, zC])
    refine nl_ (hK39 _ _ ?_); clear hK39 K39
    refine wp_cond_true rfl ?_
    refine wp_skip ?_
    refine th_norm (hK22 _ _ ?_); try clear hK22 K22
    refine sq_ (fun K40 hK40 => ?_)
    refine wp_block ?_
    refine s_ (fun K41 hK41 => ?_)
    refine pu_ (v := .pointer (some ⟨gx, 0, none⟩)) (y_run (by rfl) (fun W => by go_simp)) ?_
    (try simp only [zP, zN, zA, zB, zC])
    refine ld_ (v := .slice (some a) n zi) rfl (by rfl) (by rfl) (run_load_one ((Fgx.out.cell 0).trans rfl) Tryd.underlying42 rfl) ?_
    (try simp only [zP, zN, zA, zB, zC])
    refine pu_ (v := .int .i64 i) (y_move rfl (by rfl) (by rfl)) ?_
    (try simp only [zP, zN, zA, zB, zC])
    refine pu_ (v := .pointer (some (a.add (i * 6)))) (y_run (by rfl) (fun W => by have d := D15.out; go_simp)) ?_
    (try simp only [zP, zN, zA, zB, zC])
    refine ld_ (v := .agg #[.int .i64 s.id, .int .i64 s.box, .int .i64 s.ctr, .bool true, .string (str s.qi), .string (str s.qo)]) rfl (by rfl) (by rfl) (run_loadVar_at (cs := [.int .i64 s.id, .int .i64 s.box, .int .i64 s.ctr, .bool true, .string (str s.qi), .string (str s.qo)]) (src_ses SQ.out HMI.out HOP.out) Tryd.underlying49 rfl (by kernel_rfl)) ?_
    (try simp only [zP, zN, zA, zB, zC])
    refine ef_ (fun K42 hK42 => ?_)
    refine e_alloc (by rfl) rfl rfl (cs := #[.int .i64 0, .int .i64 0, .int .i64 0, .bool false, .string ⟨#[]⟩, .string ⟨#[]⟩]) (by kernel_rfl) ?_
    rintro g43 w44 HG45 B46 C47
    have nw48 := Lib.hid (show w.heap.size ≤ g43 by have := C0.out.size; have := HG45.out; omega)
    have nx49 := Lib.hid (SQ.out.ne_new (by decide) HG45)
    have C0' := Lib.hid (show Ch [] w w44 from C0.out.trans' C47 (fun x hx => absurd hx (by simp)))
    have SQ' := Lib.hid (show SrcIs w44 (.slice (some a) n zi) (n) ((((L.take i).map (endS bx ct) ++ L.drop i)).flatMap sesC) 6 from SQ.out.chx C47 xnin_nil)
    have Fgx' := Lib.hid (show Blk w44 gx (#[.slice (some a) n zi, .int .i64 la]) 44 from C47.blk Fgx.out nin_nil)
    have Fgr' := Lib.hid (show Blk w44 gr (#[.slice none 0 0, .int .i64 0]) 44 from C47.blk Fgr.out nin_nil)
    clear C0 SQ Fgx Fgr
    have C0 := C0'; clear C0'
    have SQ := SQ'; clear SQ'
    have Fgx := Fgx'; clear Fgx'
    have Fgr := Fgr'; clear Fgr'
    have Fg43 := Lib.hid (show Blk w44 g43 (#[.int .i64 0, .int .i64 0, .int .i64 0, .bool false, .string ⟨#[]⟩, .string ⟨#[]⟩]) 49 from B46); clear B46 C47
    refine hK42 _ _ ?_; clear hK42 K42
    (try simp only [zP, zN, zA, zB, zC])
    refine ef_ (fun K50 hK50 => ?_)
    refine e_storeN (cells := #[.int .i64 s.id, .int .i64 s.box, .int .i64 s.ctr, .bool true, .string (str s.qi), .string (str s.qo)]) (by rfl) rfl rfl (by rfl) (by rfl) Fg43.out (by kernel_rfl) (by rfl) (ones_cons rfl (ones_cons rfl (ones_cons rfl (ones_cons rfl (ones_cons rfl (ones_cons rfl ones_nil)))))) ?_
    rintro w51 B52 C53
    have C0' := Lib.hid (show Ch [] w w51 from C0.out.trans' C53 (inw_cons (.inr nw48.out) inw_nil))
    have SQ' := Lib.hid (show SrcIs w51 (.slice (some a) n zi) (n) ((((L.take i).map (endS bx ct) ++ L.drop i)).flatMap sesC) 6 from SQ.out.chx C53 (xnin_cons nx49.out xnin_nil))
    have Fgx' := Lib.hid (show Blk w51 gx (#[.slice (some a) n zi, .int .i64 la]) 44 from C53.blk Fgx.out (nin_cons (Blk.ne_type Fgx.out Fg43.out (by decide)) nin_nil))
    have Fgr' := Lib.hid (show Blk w51 gr (#[.slice none 0 0, .int .i64 0]) 44 from C53.blk Fgr.out (nin_cons (Blk.ne_type Fgr.out Fg43.out (by decide)) nin_nil))
    clear C0 SQ Fgx Fgr
    have C0 := C0'; clear C0'
    have SQ := SQ'; clear SQ'
    have Fgx := Fgx'; clear Fgx'
    have Fgr := Fgr'; clear Fgr'
    clear Fg43; have Fg43 := Lib.hid (show Blk w51 g43 (#[.int .i64 s.id, .int .i64 s.box, .int .i64 s.ctr, .bool true, .string (str s.qi), .string (str s.qo)]) 49 from B52); clear B52 C53
    refine hK50 _ _ ?_; clear hK50 K50
    (try simp only [zP, zN, zA, zB, zC])
    refine nl_ (hK41 _ _ ?_); clear hK41 K41
    refine s_ (fun K54 hK54 => ?_)
    refine pu_ (v := .pointer (some ⟨g43, 3, none⟩)) (y_run (by rfl) (fun W => by go_simp)) ?_
    (try simp only [zP, zN, zA, zB, zC])
    refine ld_ (v := .bool true) rfl (by rfl) (by rfl) (run_load_one ((Fg43.out.cell 3).trans rfl) Tryd.underlying4 rfl) ?_
    (try simp only [zP, zN, zA, zB, zC])
    refine pu_ (v := .bool true) (y_move rfl (by rfl) (by rfl)) ?_
    (try simp only [zP, zN, zA, zB, zC])
    refine pu_ (v := .pointer (some ⟨g43, 1, none⟩)) (y_run (by rfl) (fun W => by go_simp)) ?_
    (try simp only [zP, zN, zA, zB, zC])
    refine ld_ (v := .int .i64 s.box) rfl (by rfl) (by rfl) (run_load_one ((Fg43.out.cell 1).trans rfl) Tryd.underlying3 rfl) ?_
    (try simp only [zP, zN, zA, zB, zC])
    refine pu_ (v := .int .i64 bx) (y_move rfl (by rfl) (by rfl)) ?_
    (try simp only [zP, zN, zA, zB, zC])
    refine pu_ (v := .bool false) (y_run (by rfl) (fun W => by have d := D29.out; go_simp)) ?_
    (try simp only [zP, zN, zA, zB, zC])
    refine pu_ (v := .bool false) (y_pick (t := true) (by rfl) rfl (by rfl) (by rfl)) ?_
    (try simp only [zP, zN, zA, zB, zC])
    refine pu_ (v := .bool false) (y_move rfl (by rfl) (by rfl)) ?_
    (try simp only [zP, zN, zA, zB, zC])
    refine pu_ (y_off (by rfl)) ?_
    (try simp only [zP, zN, zA, zB, zC])
    refine pu_ (y_off (by rfl)) ?_
    (try simp only [zP, zN, zA, zB, zC])
    refine pu_ (y_off (by rfl)) ?_
    (try simp only [zP, zN, zA, zB, zC])
    refine pu_ (y_off (by rfl)) ?_
    (try simp only [zP, zN, zA, zB, zC])
    refine pu_ (v := .bool false) (y_pick (t := false) (by rfl) rfl (by rfl) (by rfl)) ?_
    (try simp only [zP, zN, zA, zB, zC])
    refine nl_ (hK54 _ _ ?_); clear hK54 K54
    refine wp_cond_false rfl ?_
    refine wp_skip ?_
    refine ib_norm ?_
    refine th_norm (hK40 _ _ ?_); try clear hK40 K40
    refine r_ ?_
    refine pu_ (v := .int .i64 i) (y_move rfl (by rfl) (by rfl)) ?_
    (try simp only [zP, zN, zA, zB, zC])
    refine pu_ (v := .int .i64 (i + 1 : Nat)) (y_run (by rfl) (fun W => by have d := Wi.out; go_simp)) ?_
    (try simp only [zP, zN, zA, zB, zC])
    refine pu_ (v := .int .i64 (i + 1 : Nat)) (y_assign rfl (by rfl) (by rfl)) ?_
    (try simp only [zP, zN, zA, zB, zC])
    refine nl_ ?_
    exact th_norm (hK21 (kq - 1) _ _ (by have := hlt.out; have := hi.out; omega) ⟨i + 1, some a, zi, fun us_ => (#[us 0, .int .i64 bx, .int .i64 ct, .pointer (some ⟨gx, 0, none⟩), us 4, us 5, .pointer (some ⟨gr, 0, none⟩), us 7, .int .i64 ((L.take (i + 1)).countP (hit bx ct) : Nat), .int .i64 (i + 1 : Nat), .pointer (some ⟨g43, 0, none⟩), .int .i64 i, .pointer (some ⟨gx, 0, none⟩), .slice (some a) n zi, .int .i64 n, .bool true, .int .i64 i, .int .i64 (i + 1 : Nat), .pointer (some ⟨gx, 0, none⟩), .slice (some a) n zi, .int .i64 i, .pointer (some (a.add (i * 6))), .agg #[.int .i64 s.id, .int .i64 s.box, .int .i64 s.ctr, .bool true, .string (str s.qi), .string (str s.qo)], .pointer (some ⟨g43, 3, none⟩), .bool true, .bool true, .pointer (some ⟨g43, 1, none⟩), .int .i64 s.box, .int .i64 bx, .bool false, .bool false, .bool false, undef, undef, undef, undef, .bool false, us 37, us 38, us 39, us 40, us 41, us 42, us 43, us 44, us 45] : Array Value).getD us_ undef, rfl, C0, Lib.hid (by have h9 := SQ.out; rw [mix_keep HS_.out HEN.out] at h9; exact h9), Fgx, Fgr, Lib.hid ⟨by have := hlt.out; omega, by have := hlt.out; have := hi.out; omega⟩, hz, hnw, hxx, hxr, hgxr⟩)
  · have hlt := Lib.hid hlt0
    have HS_ := Lib.hid ho0
    have HCC := Lib.hid hc
    have HMI := Lib.hid (show ((L.take i).map (endS bx ct) ++ L.drop i)[i]? = some s from mix_at ho0)
    clear hc hlt0 ho0
    have HNL2 := Lib.hid (show ((L.take i).map (endS bx ct) ++ L.drop i).length = n by rw [List.length_append, List.length_map, List.length_take, List.length_drop]; have := HNL.out; have := hlt.out; omega)
    have HOP := Lib.hid (show s.op = true from HCC.out.1)
    have HEN := Lib.hid (show endS bx ct s = s from by unfold endS hit; rw [HOP.out]; simp [HCC.out.2.2])
    have HHI := Lib.hid (show hit bx ct s = false from by unfold hit; rw [HOP.out]; simp [HCC.out.2.2])
    obtain ⟨a, hsm_a⟩ := src_some SQ.out (by have := hlt.out; have := HNL.out; omega)
    subst hsm_a
    have D15 := Lib.hid (show (i : Int) < (n : Int) by have := hlt.out; have := HNL.out; omega)
    have Wi := Lib.hid (show IntKind.i64.wrap ((i : Int) + 1) = ((i + 1 : Nat) : Int) by rw [wr64 (by have := hlt.out; have h7 := HN.out; have h8 := HNL.out; omega)]; omega)
    have D29 := Lib.hid (show  s.box = bx from HCC.out.2.1)
    have D35 := Lib.hid (show ¬ s.ctr = ct from HCC.out.2.2)
    have W7 := Lib.hid (show (Value.int .i64 ((L.take i).countP (hit bx ct) : Nat)) = .int .i64 ((L.take (i + 1)).countP (hit bx ct) : Nat) by rw [count_succ HS_.out, HHI.out]; simp)
    rw [W7.out]
    refine s_ (fun K55 hK55 => ?_)
    refine pu_ (v := .int .i64 i) (y_move rfl (by rfl) (by rfl)) ?_
    (try simp only [zP, zN, zA, zB, zC])
    refine pu_ (v := .pointer (some ⟨gx, 0, none⟩)) (y_run (by rfl) (fun W => by go_simp)) ?_
    (try simp only [zP, zN, zA, zB, zC])
    refine ld_ (v := .slice (some a) n zi) rfl (by rfl) (by rfl) (run_load_one ((Fgx.out.cell 0).trans rfl) Tryd.underlying42 rfl) ?_
    (try simp only [zP, zN, zA, zB, zC])
    refine pu_ (v := .int .i64 n) (y_run (by rfl) (fun W => by go_simp)) ?_
    (try simp only [zP, zN, zA, zB, zC])
    refine pu_ (v := .bool true) (y_run (by rfl) (fun W => by have d := D15.out; go_simp)) ?_
    (try simp only [zP, zN, zA, zB, zC])
    refine nl_ (hK55 _ _ ?_); clear hK55 K55
    refine wp_cond_true rfl ?_
    refine wp_skip ?_
    refine th_norm (hK22 _ _ ?_); try clear hK22 K22
    refine sq_ (fun K56 hK56 => ?_)
    refine wp_block ?_
    refine s_ (fun K57 hK57 => ?_)
    refine pu_ (v := .pointer (some ⟨gx, 0, none⟩)) (y_run (by rfl) (fun W => by go_simp)) ?_
    (try simp only [zP, zN, zA, zB, zC])
    refine ld_ (v := .slice (some a) n zi) rfl (by rfl) (by rfl) (run_load_one ((Fgx.out.cell 0).trans rfl) Tryd.underlying42 rfl) ?_
    (try simp only [zP, zN, zA, zB, zC])
    refine pu_ (v := .int .i64 i) (y_move rfl (by rfl) (by rfl)) ?_
    (try simp only [zP, zN, zA, zB, zC])
    refine pu_ (v := .pointer (some (a.add (i * 6)))) (y_run (by rfl) (fun W => by have d := D15.out; go_simp)) ?_
    (try simp only [zP, zN, zA, zB, zC])
    refine ld_ (v := .agg #[.int .i64 s.id, .int .i64 s.box, .int .i64 s.ctr, .bool true, .string (str s.qi), .string (str s.qo)]) rfl (by rfl) (by rfl) (run_loadVar_at (cs := [.int .i64 s.id, .int .i64 s.box, .int .i64 s.ctr, .bool true, .string (str s.qi), .string (str s.qo)]) (src_ses SQ.out HMI.out HOP.out) Tryd.underlying49 rfl (by kernel_rfl)) ?_
    (try simp only [zP, zN, zA, zB, zC])
    refine ef_ (fun K58 hK58 => ?_)
    refine e_alloc (by rfl) rfl rfl (cs := #[.int .i64 0, .int .i64 0, .int .i64 0, .bool false, .string ⟨#[]⟩, .string ⟨#[]⟩]) (by kernel_rfl) ?_
    rintro g59 w60 HG61 B62 C63
    have nw64 := Lib.hid (show w.heap.size ≤ g59 by have := C0.out.size; have := HG61.out; omega)
    have nx65 := Lib.hid (SQ.out.ne_new (by decide) HG61)
    have C0' := Lib.hid (show Ch [] w w60 from C0.out.trans' C63 (fun x hx => absurd hx (by simp)))
    have SQ' := Lib.hid (show SrcIs w60 (.slice (some a) n zi) (n) ((((L.take i).map (endS bx ct) ++ L.drop i)).flatMap sesC) 6 from SQ.out.chx C63 xnin_nil)
    have Fgx' := Lib.hid (show Blk w60 gx (#[.slice (some a) n zi, .int .i64 la]) 44 from C63.blk Fgx.out nin_nil)
    have Fgr' := Lib.hid (show Blk w60 gr (#[.slice none 0 0, .int .i64 0]) 44 from C63.blk Fgr.out nin_nil)
    clear C0 SQ Fgx Fgr
    have C0 := C0'; clear C0'
    have SQ := SQ'; clear SQ'
    have Fgx := Fgx'; clear Fgx'
    have Fgr := Fgr'; clear Fgr'
    have Fg59 := Lib.hid (show Blk w60 g59 (#[.int .i64 0, .int .i64 0, .int .i64 0, .bool false, .string ⟨#[]⟩, .string ⟨#[]⟩]) 49 from B62); clear B62 C63
    refine hK58 _ _ ?_; clear hK58 K58
    (try simp only [zP, zN, zA, zB, zC])
    refine ef_ (fun K66 hK66 => ?_)
    refine e_storeN (cells := #[.int .i64 s.id, .int .i64 s.box, .int .i64 s.ctr, .bool true, .string (str s.qi), .string (str s.qo)]) (by rfl) rfl rfl (by rfl) (by rfl) Fg59.out (by kernel_rfl) (by rfl) (ones_cons rfl (ones_cons rfl (ones_cons rfl (ones_cons rfl (ones_cons rfl (ones_cons rfl ones_nil)))))) ?_
    rintro w67 B68 C69
    have C0' := Lib.hid (show Ch [] w w67 from C0.out.trans' C69 (inw_cons (.inr nw64.out) inw_nil))
    have SQ' := Lib.hid (show SrcIs w67 (.slice (some a) n zi) (n) ((((L.take i).map (endS bx ct) ++ L.drop i)).flatMap sesC) 6 from SQ.out.chx C69 (xnin_cons nx65.out xnin_nil))
    have Fgx' := Lib.hid (show Blk w67 gx (#[.slice (some a) n zi, .int .i64 la]) 44 from C69.blk Fgx.out (nin_cons (Blk.ne_type Fgx.out Fg59.out (by decide)) nin_nil))
    have Fgr' := Lib.hid (show Blk w67 gr (#[.slice none 0 0, .int .i64 0]) 44 from C69.blk Fgr.out (nin_cons (Blk.ne_type Fgr.out Fg59.out (by decide)) nin_nil))
    clear C0 SQ Fgx Fgr
    have C0 := C0'; clear C0'
    have SQ := SQ'; clear SQ'
    have Fgx := Fgx'; clear Fgx'
    have Fgr := Fgr'; clear Fgr'
    clear Fg59; have Fg59 := Lib.hid (show Blk w67 g59 (#[.int .i64 s.id, .int .i64 s.box, .int .i64 s.ctr, .bool true, .string (str s.qi), .string (str s.qo)]) 49 from B68); clear B68 C69
    refine hK66 _ _ ?_; clear hK66 K66
    (try simp only [zP, zN, zA, zB, zC])
    refine nl_ (hK57 _ _ ?_); clear hK57 K57
    refine s_ (fun K70 hK70 => ?_)
    refine pu_ (v := .pointer (some ⟨g59, 3, none⟩)) (y_run (by rfl) (fun W => by go_simp)) ?_
    (try simp only [zP, zN, zA, zB, zC])
    refine ld_ (v := .bool true) rfl (by rfl) (by rfl) (run_load_one ((Fg59.out.cell 3).trans rfl) Tryd.underlying4 rfl) ?_
    (try simp only [zP, zN, zA, zB, zC])
    refine pu_ (v := .bool true) (y_move rfl (by rfl) (by rfl)) ?_
    (try simp only [zP, zN, zA, zB, zC])
    refine pu_ (v := .pointer (some ⟨g59, 1, none⟩)) (y_run (by rfl) (fun W => by go_simp)) ?_
    (try simp only [zP, zN, zA, zB, zC])
    refine ld_ (v := .int .i64 s.box) rfl (by rfl) (by rfl) (run_load_one ((Fg59.out.cell 1).trans rfl) Tryd.underlying3 rfl) ?_
    (try simp only [zP, zN, zA, zB, zC])
    refine pu_ (v := .int .i64 bx) (y_move rfl (by rfl) (by rfl)) ?_
    (try simp only [zP, zN, zA, zB, zC])
    refine pu_ (v := .bool true) (y_run (by rfl) (fun W => by have d := D29.out; go_simp)) ?_
    (try simp only [zP, zN, zA, zB, zC])
    refine pu_ (v := .bool true) (y_pick (t := true) (by rfl) rfl (by rfl) (by rfl)) ?_
    (try simp only [zP, zN, zA, zB, zC])
    refine pu_ (v := .bool true) (y_move rfl (by rfl) (by rfl)) ?_
    (try simp only [zP, zN, zA, zB, zC])
    refine pu_ (v := .pointer (some ⟨g59, 2, none⟩)) (y_run (by rfl) (fun W => by go_simp)) ?_
    (try simp only [zP, zN, zA, zB, zC])
    refine ld_ (v := .int .i64 s.ctr) rfl (by rfl) (by rfl) (run_load_one ((Fg59.out.cell 2).trans rfl) Tryd.underlying3 rfl) ?_
    (try simp only [zP, zN, zA, zB, zC])
    refine pu_ (v := .int .i64 ct) (y_move rfl (by rfl) (by rfl)) ?_
    (try simp only [zP, zN, zA, zB, zC])
    refine pu_ (v := .bool false) (y_run (by rfl) (fun W => by have d := D35.out; go_simp)) ?_
    (try simp only [zP, zN, zA, zB, zC])
    refine pu_ (v := .bool false) (y_pick (t := true) (by rfl) rfl (by rfl) (by rfl)) ?_
    (try simp only [zP, zN, zA, zB, zC])
    refine nl_ (hK70 _ _ ?_); clear hK70 K70
    refine wp_cond_false rfl ?_
    refine wp_skip ?_
    refine ib_norm ?_
    refine th_norm (hK56 _ _ ?_); try clear hK56 K56
    refine r_ ?_
    refine pu_ (v := .int .i64 i) (y_move rfl (by rfl) (by rfl)) ?_
    (try simp only [zP, zN, zA, zB, zC])
    refine pu_ (v := .int .i64 (i + 1 : Nat)) (y_run (by rfl) (fun W => by have d := Wi.out; go_simp)) ?_
    (try simp only [zP, zN, zA, zB, zC])
    refine pu_ (v := .int .i64 (i + 1 : Nat)) (y_assign rfl (by rfl) (by rfl)) ?_
    (try simp only [zP, zN, zA, zB, zC])
    refine nl_ ?_
    exact th_norm (hK21 (kq - 1) _ _ (by have := hlt.out; have := hi.out; omega) ⟨i + 1, some a, zi, fun us_ => (#[us 0, .int .i64 bx, .int .i64 ct, .pointer (some ⟨gx, 0, none⟩), us 4, us 5, .pointer (some ⟨gr, 0, none⟩), us 7, .int .i64 ((L.take (i + 1)).countP (hit bx ct) : Nat), .int .i64 (i + 1 : Nat), .pointer (some ⟨g59, 0, none⟩), .int .i64 i, .pointer (some ⟨gx, 0, none⟩), .slice (some a) n zi, .int .i64 n, .bool true, .int .i64 i, .int .i64 (i + 1 : Nat), .pointer (some ⟨gx, 0, none⟩), .slice (some a) n zi, .int .i64 i, .pointer (some (a.add (i * 6))), .agg #[.int .i64 s.id, .int .i64 s.box, .int .i64 s.ctr, .bool true, .string (str s.qi), .string (str s.qo)], .pointer (some ⟨g59, 3, none⟩), .bool true, .bool true, .pointer (some ⟨g59, 1, none⟩), .int .i64 s.box, .int .i64 bx, .bool true, .bool true, .bool true, .pointer (some ⟨g59, 2, none⟩), .int .i64 s.ctr, .int .i64 ct, .bool false, .bool false, us 37, us 38, us 39, us 40, us 41, us 42, us 43, us 44, us 45] : Array Value).getD us_ undef, rfl, C0, Lib.hid (by have h9 := SQ.out; rw [mix_keep HS_.out HEN.out] at h9; exact h9), Fgx, Fgr, Lib.hid ⟨by have := hlt.out; omega, by have := hlt.out; have := hi.out; omega⟩, hz, hnw, hxx, hxr, hgxr⟩)
  · have hlt := Lib.hid hlt0
    have HS_ := Lib.hid ho0
    have HCC := Lib.hid hc
    have HMI := Lib.hid (show ((L.take i).map (endS bx ct) ++ L.drop i)[i]? = some s from mix_at ho0)
    clear hc hlt0 ho0
    have HNL2 := Lib.hid (show ((L.take i).map (endS bx ct) ++ L.drop i).length = n by rw [List.length_append, List.length_map, List.length_take, List.length_drop]; have := HNL.out; have := hlt.out; omega)
    have HOP := Lib.hid (show s.op = true from HCC.out.1)
    have HEN := Lib.hid (show endS bx ct s = ⟨s.id, s.box, s.ctr, false, s.qi, s.qo⟩ from by unfold endS hit; rw [HCC.out.1, HCC.out.2.1, HCC.out.2.2]; simp)
    have HHI := Lib.hid (show hit bx ct s = true from by unfold hit; rw [HCC.out.1, HCC.out.2.1, HCC.out.2.2]; simp)
    obtain ⟨a, hsm_a⟩ := src_some SQ.out (by have := hlt.out; have := HNL.out; omega)
    subst hsm_a
    have D15 := Lib.hid (show (i : Int) < (n : Int) by have := hlt.out; have := HNL.out; omega)
    have Wi := Lib.hid (show IntKind.i64.wrap ((i : Int) + 1) = ((i + 1 : Nat) : Int) by rw [wr64 (by have := hlt.out; have h7 := HN.out; have h8 := HNL.out; omega)]; omega)
    have D29 := Lib.hid (show  s.box = bx from HCC.out.2.1)
    have D35 := Lib.hid (show  s.ctr = ct from HCC.out.2.2)
    have W43 := Lib.hid (show IntKind.i64.wrap ((((L.take i).countP (hit bx ct) : Nat) : Int) + 1) = (((L.take (i + 1)).countP (hit bx ct) : Nat) : Int) by rw [count_succ HS_.out, HHI.out, if_pos rfl, wr64 (by have h9 := List.countP_le_length (p := hit bx ct) (l := L.take i); rw [List.length_take] at h9; have := hlt.out; have := HN.out; have := HNL.out; omega)]; omega)
    refine s_ (fun K71 hK71 => ?_)
    refine pu_ (v := .int .i64 i) (y_move rfl (by rfl) (by rfl)) ?_
    (try simp only [zP, zN, zA, zB, zC])
    refine pu_ (v := .pointer (some ⟨gx, 0, none⟩)) (y_run (by rfl) (fun W => by go_simp)) ?_
    (try simp only [zP, zN, zA, zB, zC])
    refine ld_ (v := .slice (some a) n zi) rfl (by rfl) (by rfl) (run_load_one ((Fgx.out.cell 0).trans rfl) Tryd.underlying42 rfl) ?_
    (try simp only [zP, zN, zA, zB, zC])
    refine pu_ (v := .int .i64 n) (y_run (by rfl) (fun W => by go_simp)) ?_
    (try simp only [zP, zN, zA, zB, zC])
    refine pu_ (v := .bool true) (y_run (by rfl) (fun W => by have d := D15.out; go_simp)) ?_
    (try simp only [zP, zN, zA, zB, zC])
    refine nl_ (hK71 _ _ ?_); clear hK71 K71
    refine wp_cond_true rfl ?_
    refine wp_skip ?_
    refine th_norm (hK22 _ _ ?_); try clear hK22 K22
    refine sq_ (fun K72 hK72 => ?_)
    refine wp_block ?_
    refine s_ (fun K73 hK73 => ?_)
    refine pu_ (v := .pointer (some ⟨gx, 0, none⟩)) (y_run (by rfl) (fun W => by go_simp)) ?_
    (try simp only [zP, zN, zA, zB, zC])
    refine ld_ (v := .slice (some a) n zi) rfl (by rfl) (by rfl) (run_load_one ((Fgx.out.cell 0).trans rfl) Tryd.underlying42 rfl) ?_
    (try simp only [zP, zN, zA, zB, zC])
    refine pu_ (v := .int .i64 i) (y_move rfl (by rfl) (by rfl)) ?_
    (try simp only [zP, zN, zA, zB, zC])
    refine pu_ (v := .pointer (some (a.add (i * 6)))) (y_run (by rfl) (fun W => by have d := D15.out; go_simp)) ?_
    (try simp only [zP, zN, zA, zB, zC])
    refine ld_ (v := .agg #[.int .i64 s.id, .int .i64 s.box, .int .i64 s.ctr, .bool true, .string (str s.qi), .string (str s.qo)]) rfl (by rfl) (by rfl) (run_loadVar_at (cs := [.int .i64 s.id, .int .i64 s.box, .int .i64 s.ctr, .bool true, .string (str s.qi), .string (str s.qo)]) (src_ses SQ.out HMI.out HOP.out) Tryd.underlying49 rfl (by kernel_rfl)) ?_
    (try simp only [zP, zN, zA, zB, zC])
    refine ef_ (fun K74 hK74 => ?_)
    refine e_alloc (by rfl) rfl rfl (cs := #[.int .i64 0, .int .i64 0, .int .i64 0, .bool false, .string ⟨#[]⟩, .string ⟨#[]⟩]) (by kernel_rfl) ?_
    rintro g75 w76 HG77 B78 C79
    have nw80 := Lib.hid (show w.heap.size ≤ g75 by have := C0.out.size; have := HG77.out; omega)
    have nx81 := Lib.hid (SQ.out.ne_new (by decide) HG77)
    have C0' := Lib.hid (show Ch [] w w76 from C0.out.trans' C79 (fun x hx => absurd hx (by simp)))
    have SQ' := Lib.hid (show SrcIs w76 (.slice (some a) n zi) (n) ((((L.take i).map (endS bx ct) ++ L.drop i)).flatMap sesC) 6 from SQ.out.chx C79 xnin_nil)
    have Fgx' := Lib.hid (show Blk w76 gx (#[.slice (some a) n zi, .int .i64 la]) 44 from C79.blk Fgx.out nin_nil)
    have Fgr' := Lib.hid (show Blk w76 gr (#[.slice none 0 0, .int .i64 0]) 44 from C79.blk Fgr.out nin_nil)
    clear C0 SQ Fgx Fgr
    have C0 := C0'; clear C0'
    have SQ := SQ'; clear SQ'
    have Fgx := Fgx'; clear Fgx'
    have Fgr := Fgr'; clear Fgr'
    have Fg75 := Lib.hid (show Blk w76 g75 (#[.int .i64 0, .int .i64 0, .int .i64 0, .bool false, .string ⟨#[]⟩, .string ⟨#[]⟩]) 49 from B78); clear B78 C79
    refine hK74 _ _ ?_; clear hK74 K74
    (try simp only [zP, zN, zA, zB, zC])
    refine ef_ (fun K82 hK82 => ?_)
    refine e_storeN (cells := #[.int .i64 s.id, .int .i64 s.box, .int .i64 s.ctr, .bool true, .string (str s.qi), .string (str s.qo)]) (by rfl) rfl rfl (by rfl) (by rfl) Fg75.out (by kernel_rfl) (by rfl) (ones_cons rfl (ones_cons rfl (ones_cons rfl (ones_cons rfl (ones_cons rfl (ones_cons rfl ones_nil)))))) ?_
    rintro w83 B84 C85
    have C0' := Lib.hid (show Ch [] w w83 from C0.out.trans' C85 (inw_cons (.inr nw80.out) inw_nil))
    have SQ' := Lib.hid (show SrcIs w83 (.slice (some a) n zi) (n) ((((L.take i).map (endS bx ct) ++ L.drop i)).flatMap sesC) 6 from SQ.out.chx C85 (xnin_cons nx81.out xnin_nil))
    have Fgx' := Lib.hid (show Blk w83 gx (#[.slice (some a) n zi, .int .i64 la]) 44 from C85.blk Fgx.out (nin_cons (Blk.ne_type Fgx.out Fg75.out (by decide)) nin_nil))
    have Fgr' := Lib.hid (show Blk w83 gr (#[.slice none 0 0, .int .i64 0]) 44 from C85.blk Fgr.out (nin_cons (Blk.ne_type Fgr.out Fg75.out (by decide)) nin_nil))
    clear C0 SQ Fgx Fgr
    have C0 := C0'; clear C0'
    have SQ := SQ'; clear SQ'
    have Fgx := Fgx'; clear Fgx'
    have Fgr := Fgr'; clear Fgr'
    clear Fg75; have Fg75 := Lib.hid (show Blk w83 g75 (#[.int .i64 s.id, .int .i64 s.box, .int .i64 s.ctr, .bool true, .string (str s.qi), .string (str s.qo)]) 49 from B84); clear B84 C85
    refine hK82 _ _ ?_; clear hK82 K82
    (try simp only [zP, zN, zA, zB, zC])
    refine nl_ (hK73 _ _ ?_); clear hK73 K73
    refine s_ (fun K86 hK86 => ?_)
    refine pu_ (v := .pointer (some ⟨g75, 3, none⟩)) (y_run (by rfl) (fun W => by go_simp)) ?_
    (try simp only [zP, zN, zA, zB, zC])
    refine ld_ (v := .bool true) rfl (by rfl) (by rfl) (run_load_one ((Fg75.out.cell 3).trans rfl) Tryd.underlying4 rfl) ?_
    (try simp only [zP, zN, zA, zB, zC])
    refine pu_ (v := .bool true) (y_move rfl (by rfl) (by rfl)) ?_
    (try simp only [zP, zN, zA, zB, zC])
    refine pu_ (v := .pointer (some ⟨g75, 1, none⟩)) (y_run (by rfl) (fun W => by go_simp)) ?_
    (try simp only [zP, zN, zA, zB, zC])
    refine ld_ (v := .int .i64 s.box) rfl (by rfl) (by rfl) (run_load_one ((Fg75.out.cell 1).trans rfl) Tryd.underlying3 rfl) ?_
    (try simp only [zP, zN, zA, zB, zC])
    refine pu_ (v := .int .i64 bx) (y_move rfl (by rfl) (by rfl)) ?_
    (try simp only [zP, zN, zA, zB, zC])
    refine pu_ (v := .bool true) (y_run (by rfl) (fun W => by have d := D29.out; go_simp)) ?_
    (try simp only [zP, zN, zA, zB, zC])
    refine pu_ (v := .bool true) (y_pick (t := true) (by rfl) rfl (by rfl) (by rfl)) ?_
    (try simp only [zP, zN, zA, zB, zC])
    refine pu_ (v := .bool true) (y_move rfl (by rfl) (by rfl)) ?_
    (try simp only [zP, zN, zA, zB, zC])
    refine pu_ (v := .pointer (some ⟨g75, 2, none⟩)) (y_run (by rfl) (fun W => by go_simp)) ?_
    (try simp only [zP, zN, zA, zB, zC])
    refine ld_ (v := .int .i64 s.ctr) rfl (by rfl) (by rfl) (run_load_one ((Fg75.out.cell 2).trans rfl) Tryd.underlying3 rfl) ?_
    (try simp only [zP, zN, zA, zB, zC])
    refine pu_ (v := .int .i64 ct) (y_move rfl (by rfl) (by rfl)) ?_
    (try simp only [zP, zN, zA, zB, zC])
    refine pu_ (v := .bool true) (y_run (by rfl) (fun W => by have d := D35.out; go_simp)) ?_
    (try simp only [zP, zN, zA, zB, zC])
    refine pu_ (v := .bool true) (y_pick (t := true) (by rfl) rfl (by rfl) (by rfl)) ?_
    (try simp only [zP, zN, zA, zB, zC])
    refine nl_ (hK86 _ _ ?_); clear hK86 K86
    refine wp_cond_true rfl ?_
    refine s_ (fun K87 hK87 => ?_)
    refine pu_ (v := .pointer (some ⟨g75, 3, none⟩)) (y_run (by rfl) (fun W => by go_simp)) ?_
    (try simp only [zP, zN, zA, zB, zC])
    refine ef_ (fun K88 hK88 => ?_)
    refine e_store1 (b := g75) (j := 3) (v := .bool false) (by rfl) rfl rfl (by rfl) (by rfl) Fg75.out (show 3 < 6 by omega) (by kernel_rfl) rfl ?_
    rintro w89 B90 C91
    have C0' := Lib.hid (show Ch [] w w89 from C0.out.trans' C91 (inw_cons (.inr nw80.out) inw_nil))
    have SQ' := Lib.hid (show SrcIs w89 (.slice (some a) n zi) (n) ((((L.take i).map (endS bx ct) ++ L.drop i)).flatMap sesC) 6 from SQ.out.chx C91 (xnin_cons nx81.out xnin_nil))
    have Fgx' := Lib.hid (show Blk w89 gx (#[.slice (some a) n zi, .int .i64 la]) 44 from C91.blk Fgx.out (nin_cons (Blk.ne_type Fgx.out Fg75.out (by decide)) nin_nil))
    have Fgr' := Lib.hid (show Blk w89 gr (#[.slice none 0 0, .int .i64 0]) 44 from C91.blk Fgr.out (nin_cons (Blk.ne_type Fgr.out Fg75.out (by decide)) nin_nil))
    clear C0 SQ Fgx Fgr
    have C0 := C0'; clear C0'
    have SQ := SQ'; clear SQ'
    have Fgx := Fgx'; clear Fgx'
    have Fgr := Fgr'; clear Fgr'
    clear Fg75; have Fg75 := Lib.hid (show Blk w89 g75 (#[.int .i64 s.id, .int .i64 s.box, .int .i64 s.ctr, .bool false, .string (str s.qi), .string (str s.qo)]) 49 from B90); clear B90 C91
    refine hK88 _ _ ?_; clear hK88 K88
    (try simp only [zP, zN, zA, zB, zC])
    refine nl_ (hK87 _ _ ?_); clear hK87 K87
    refine s_ (fun K92 hK92 => ?_)
    refine ld_ (v := .agg (#[.slice (some a) n zi, .int .i64 la])) rfl (by rfl) (by rfl) (run_loadVar_row _ _ 44 44 (#[.slice (some a) n zi, .int .i64 la]) (0, 0) _ Fgx.out Tryd.underlying44 rfl (by kernel_rfl)) ?_
    (try simp only [zP, zN, zA, zB, zC])
    refine pu_ (v := .int .i64 i) (y_move rfl (by rfl) (by rfl)) ?_
    (try simp only [zP, zN, zA, zB, zC])
    refine ld_ (v := .agg (#[.int .i64 s.id, .int .i64 s.box, .int .i64 s.ctr, .bool false, .string (str s.qi), .string (str s.qo)])) rfl (by rfl) (by rfl) (run_loadVar_row _ _ 49 49 (#[.int .i64 s.id, .int .i64 s.box, .int .i64 s.ctr, .bool false, .string (str s.qi), .string (str s.qo)]) (0, 0) _ Fg75.out Tryd.underlying49 rfl (by kernel_rfl)) ?_
    (try simp only [zP, zN, zA, zB, zC])
    refine ef_ (fun K93 hK93 => ?_)
    refine e_call Tryd.func46 (by kernel_rfl) rfl #[.agg (#[.slice (some a) n zi, .int .i64 la]), .int .i64 i, .agg (#[.int .i64 s.id, .int .i64 s.box, .int .i64 s.ctr, .bool false, .string (str s.qi), .string (str s.qo)])] (by rfl) rfl rfl (by first | rfl | (simp only [List.map_toArray, List.map_cons, List.map_nil]; first | done | rfl)) ((with_ (la := la) (j := i) (s := (⟨s.id, s.box, s.ctr, false, s.qi, s.qo⟩ : HS)) HNL2 HN HMI SQ)) ?_
    rintro en w100 ⟨A98, z99, rfl, ⟨h195, h296, h497⟩, cc94⟩
    refine ⟨_, rfl, ?_⟩
    have nx101 := Lib.hid (show gx ∉ xb (.slice A98 n z99) from fun hk => by have := h497 _ hk; have := Fgx.out.lt; omega)
    have nx102 := Lib.hid (show gr ∉ xb (.slice A98 n z99) from fun hk => by have := h497 _ hk; have := Fgr.out.lt; omega)
    have nx103 := Lib.hid (show g75 ∉ xb (.slice A98 n z99) from fun hk => by have := h497 _ hk; have := Fg75.out.lt; omega)
    have H4_A98 := Lib.hid (show ∀ k, k ∈ xb (.slice A98 n z99) → w.heap.size ≤ k from fun k hk => Nat.le_trans C0.out.size (h497 k hk)); clear h497
    have H2_A98 := Lib.hid h296; clear h296
    have C0' := Lib.hid (show Ch [] w w100 from C0.out.trans' cc94 (fun x hx => absurd hx (by simp)))
    have SQ' := Lib.hid (show SrcIs w100 (.slice (some a) n zi) (n) ((((L.take i).map (endS bx ct) ++ L.drop i)).flatMap sesC) 6 from SQ.out.chx cc94 xnin_nil)
    have Fgx' := Lib.hid (show Blk w100 gx (#[.slice (some a) n zi, .int .i64 la]) 44 from cc94.blk Fgx.out nin_nil)
    have Fgr' := Lib.hid (show Blk w100 gr (#[.slice none 0 0, .int .i64 0]) 44 from cc94.blk Fgr.out nin_nil)
    have Fg75' := Lib.hid (show Blk w100 g75 (#[.int .i64 s.id, .int .i64 s.box, .int .i64 s.ctr, .bool false, .string (str s.qi), .string (str s.qo)]) 49 from cc94.blk Fg75.out nin_nil)
    clear C0 SQ Fgx Fgr Fg75
    have C0 := C0'; clear C0'
    have SQ := SQ'; clear SQ'
    have Fgx := Fgx'; clear Fgx'
    have Fgr := Fgr'; clear Fgr'
    have Fg75 := Fg75'; clear Fg75'
    clear cc94
    have SN := Lib.hid (show SrcIs w100 (.slice A98 n z99) (n) ((((L.take i).map (endS bx ct) ++ L.drop i).set i (⟨s.id, s.box, s.ctr, false, s.qi, s.qo⟩ : HS)).flatMap sesC) 6 from h195)
    refine hK93 _ _ ?_; clear hK93 K93
    (try simp only [zP, zN, zA, zB, zC])
    refine ef_ (fun K104 hK104 => ?_)
    refine e_storeN (cells := #[.slice A98 n z99, .int .i64 la]) (by rfl) rfl rfl (by rfl) (by rfl) Fgx.out (by kernel_rfl) (by rfl) (ones_cons rfl (ones_cons rfl ones_nil)) ?_
    rintro w105 B106 C107
    have C0' := Lib.hid (show Ch [] w w105 from C0.out.trans' C107 (inw_cons (.inr hgxN.out) inw_nil))
    have SQ' := Lib.hid (show SrcIs w105 (.slice (some a) n zi) (n) ((((L.take i).map (endS bx ct) ++ L.drop i)).flatMap sesC) 6 from SQ.out.chx C107 (xnin_cons hxx.out xnin_nil))
    have Fgr' := Lib.hid (show Blk w105 gr (#[.slice none 0 0, .int .i64 0]) 44 from C107.blk Fgr.out (nin_cons (Ne.symm hgxr.out) nin_nil))
    have Fg75' := Lib.hid (show Blk w105 g75 (#[.int .i64 s.id, .int .i64 s.box, .int .i64 s.ctr, .bool false, .string (str s.qi), .string (str s.qo)]) 49 from C107.blk Fg75.out (nin_cons (Blk.ne_type Fg75.out Fgx.out (by decide)) nin_nil))
    have SN' := Lib.hid (show SrcIs w105 (.slice A98 n z99) (n) ((((L.take i).map (endS bx ct) ++ L.drop i).set i (⟨s.id, s.box, s.ctr, false, s.qi, s.qo⟩ : HS)).flatMap sesC) 6 from SN.out.chx C107 (xnin_cons nx101.out xnin_nil))
    clear C0 SQ Fgr Fg75 SN
    have C0 := C0'; clear C0'
    have SQ := SQ'; clear SQ'
    have Fgr := Fgr'; clear Fgr'
    have Fg75 := Fg75'; clear Fg75'
    have SN := SN'; clear SN'
    clear Fgx; have Fgx := Lib.hid (show Blk w105 gx (#[.slice A98 n z99, .int .i64 la]) 44 from B106); clear B106 C107
    refine hK104 _ _ ?_; clear hK104 K104
    (try simp only [zP, zN, zA, zB, zC])
    refine nl_ (hK92 _ _ ?_); clear hK92 K92
    refine r_ ?_
    refine pu_ (v := .int .i64 ((L.take i).countP (hit bx ct) : Nat)) (y_move rfl (by rfl) (by rfl)) ?_
    (try simp only [zP, zN, zA, zB, zC])
    refine pu_ (v := .int .i64 ((L.take (i + 1)).countP (hit bx ct) : Nat)) (y_run (by rfl) (fun W => by have d := W43.out; go_simp)) ?_
    (try simp only [zP, zN, zA, zB, zC])
    refine pu_ (v := .int .i64 ((L.take (i + 1)).countP (hit bx ct) : Nat)) (y_assign rfl (by rfl) (by rfl)) ?_
    (try simp only [zP, zN, zA, zB, zC])
    refine nl_ ?_
    refine ib_norm ?_
    refine th_norm (hK72 _ _ ?_); try clear hK72 K72
    refine r_ ?_
    refine pu_ (v := .int .i64 i) (y_move rfl (by rfl) (by rfl)) ?_
    (try simp only [zP, zN, zA, zB, zC])
    refine pu_ (v := .int .i64 (i + 1 : Nat)) (y_run (by rfl) (fun W => by have d := Wi.out; go_simp)) ?_
    (try simp only [zP, zN, zA, zB, zC])
    refine pu_ (v := .int .i64 (i + 1 : Nat)) (y_assign rfl (by rfl) (by rfl)) ?_
    (try simp only [zP, zN, zA, zB, zC])
    refine nl_ ?_
    exact th_norm (hK21 (kq - 1) _ _ (by have := hlt.out; have := hi.out; omega) ⟨i + 1, A98, z99, fun us_ => (#[us 0, .int .i64 bx, .int .i64 ct, .pointer (some ⟨gx, 0, none⟩), us 4, us 5, .pointer (some ⟨gr, 0, none⟩), us 7, .int .i64 ((L.take (i + 1)).countP (hit bx ct) : Nat), .int .i64 (i + 1 : Nat), .pointer (some ⟨g75, 0, none⟩), .int .i64 i, .pointer (some ⟨gx, 0, none⟩), .slice (some a) n zi, .int .i64 n, .bool true, .int .i64 i, .int .i64 (i + 1 : Nat), .pointer (some ⟨gx, 0, none⟩), .slice (some a) n zi, .int .i64 i, .pointer (some (a.add (i * 6))), .agg #[.int .i64 s.id, .int .i64 s.box, .int .i64 s.ctr, .bool true, .string (str s.qi), .string (str s.qo)], .pointer (some ⟨g75, 3, none⟩), .bool true, .bool true, .pointer (some ⟨g75, 1, none⟩), .int .i64 s.box, .int .i64 bx, .bool true, .bool true, .bool true, .pointer (some ⟨g75, 2, none⟩), .int .i64 s.ctr, .int .i64 ct, .bool true, .bool true, .pointer (some ⟨g75, 3, none⟩), .agg (#[.slice (some a) n zi, .int .i64 la]), .int .i64 i, .agg (#[.int .i64 s.id, .int .i64 s.box, .int .i64 s.ctr, .bool false, .string (str s.qi), .string (str s.qo)]), .agg #[.slice A98 n z99, .int .i64 la], .int .i64 ((L.take i).countP (hit bx ct) : Nat), .int .i64 ((L.take (i + 1)).countP (hit bx ct) : Nat), us 44, us 45] : Array Value).getD us_ undef, rfl, C0, Lib.hid (by have h9 := SN.out; rw [show (⟨s.id, s.box, s.ctr, false, s.qi, s.qo⟩ : HS) = endS bx ct s from HEN.out.symm, mix_set HS_.out] at h9; exact h9), Fgx, Fgr, Lib.hid ⟨by have := hlt.out; omega, by have := hlt.out; have := hi.out; omega⟩, H2_A98, Lib.hid (fun k hk => .inr (H4_A98.out k hk)), nx101, nx102, hgxr⟩)
  · have HE := Lib.hid h
    have D15 := Lib.hid (show ¬ (i : Int) < (n : Int) by have := HNL.out; omega)
    clear h
    refine s_ (fun K108 hK108 => ?_)
    refine pu_ (v := .int .i64 i) (y_move rfl (by rfl) (by rfl)) ?_
    (try simp only [zP, zN, zA, zB, zC])
    refine pu_ (v := .pointer (some ⟨gx, 0, none⟩)) (y_run (by rfl) (fun W => by go_simp)) ?_
    (try simp only [zP, zN, zA, zB, zC])
    refine ld_ (v := .slice Ai n zi) rfl (by rfl) (by rfl) (run_load_one ((Fgx.out.cell 0).trans rfl) Tryd.underlying42 rfl) ?_
    (try simp only [zP, zN, zA, zB, zC])
    refine pu_ (v := .int .i64 n) (y_run (by rfl) (fun W => by go_simp)) ?_
    (try simp only [zP, zN, zA, zB, zC])
    refine pu_ (v := .bool false) (y_run (by rfl) (fun W => by have d := D15.out; go_simp)) ?_
    (try simp only [zP, zN, zA, zB, zC])
    refine nl_ (hK108 _ _ ?_); clear hK108 K108
    refine wp_cond_false rfl ?_
    refine wp_exit ?_
    refine th_exit ?_
    refine th_exit ?_
    refine ib_exit ?_
    refine th_norm (hK18 _ _ ?_); try clear hK18 K18
    refine s_ (fun K109 hK109 => ?_)
    refine ld_ (v := .agg (#[.slice Ai n zi, .int .i64 la])) rfl (by rfl) (by rfl) (run_loadVar_row _ _ 44 44 (#[.slice Ai n zi, .int .i64 la]) (0, 0) _ Fgx.out Tryd.underlying44 rfl (by kernel_rfl)) ?_
    (try simp only [zP, zN, zA, zB, zC])
    refine pu_ (v := .int .i64 ((L.take i).countP (hit bx ct) : Nat)) (y_move rfl (by rfl) (by rfl)) ?_
    (try simp only [zP, zN, zA, zB, zC])
    refine ef_ (fun K110 hK110 => ?_)
    refine e_storeN (cells := (#[.slice Ai n zi, .int .i64 la])) (by rfl) rfl rfl (by rfl) (by rfl) Fgr.out (by kernel_rfl) (by rfl) (ones_cons rfl (ones_cons rfl ones_nil)) ?_
    rintro w111 B112 C113
    have C0' := Lib.hid (show Ch [] w w111 from C0.out.trans' C113 (inw_cons (.inr hgrN.out) inw_nil))
    have SQ' := Lib.hid (show SrcIs w111 (.slice Ai n zi) (n) ((((L.take i).map (endS bx ct) ++ L.drop i)).flatMap sesC) 6 from SQ.out.chx C113 (xnin_cons hxr.out xnin_nil))
    have Fgx' := Lib.hid (show Blk w111 gx (#[.slice Ai n zi, .int .i64 la]) 44 from C113.blk Fgx.out (nin_cons hgxr.out nin_nil))
    clear C0 SQ Fgx
    have C0 := C0'; clear C0'
    have SQ := SQ'; clear SQ'
    have Fgx := Fgx'; clear Fgx'
    clear Fgr; have Fgr := Lib.hid (show Blk w111 gr ((#[.slice Ai n zi, .int .i64 la])) 44 from B112); clear B112 C113
    refine hK110 _ _ ?_; clear hK110 K110
    (try simp only [zP, zN, zA, zB, zC])
    refine pu_ (v := .int .i64 ((L.take i).countP (hit bx ct) : Nat)) (y_assign rfl (by rfl) (by rfl)) ?_
    (try simp only [zP, zN, zA, zB, zC])
    refine nl_ (hK109 _ _ ?_); clear hK109 K109
    refine wp_ret ?_
    refine hQ _ _ _ ?_
    refine bodyPost_ret (res2 rfl (rdv_cell (by rfl) (run_loadVar_row _ _ 44 44 ((#[.slice Ai n zi, .int .i64 la])) (0, 0) _ Fgr.out Tryd.underlying44 rfl (by kernel_rfl))) (rdv_tmp (v := .int .i64 ((L.take i).countP (hit bx ct) : Nat)) (by rfl))) rfl ?_
    exact ⟨_, _, by rw [show L.countP (hit bx ct) = (L.take i).countP (hit bx ct) by rw [List.take_of_length_le (by have := HE.out; omega)]], by have h9 := SQ.out; rw [List.take_of_length_le (by have := HE.out; omega), List.drop_of_length_le (by have := HE.out; omega), List.append_nil] at h9; exact h9, hz.out, hnw.out, C0.out⟩
def busyS (s : HS) : Bool := s.op && (decide (0 < s.qi.length) && decide (s.qo.length < 64))
theorem filt_yes {α : Type} {p : α → Bool} {l : List α} {k : Nat} {c : α} (h : l[k]? = some c) (hp : p c = true) : (l.take (k + 1)).filter p = (l.take k).filter p ++ [c] := by
  rw [take_snoc h, List.filter_append]
  simp [hp]
theorem filt_no {α : Type} {p : α → Bool} {l : List α} {k : Nat} {c : α} (h : l[k]? = some c) (hp : p c = false) : (l.take (k + 1)).filter p = (l.take k).filter p := by
  rw [take_snoc h, List.filter_append]
  simp [hp]
theorem filt_len {α : Type} (p : α → Bool) (l : List α) (k : Nat) : ((l.take k).filter p).length ≤ l.length := Nat.le_trans (List.length_filter_le _ _) (List.length_take_le' _ _)
theorem rbusy_ {Aq : Option Addr} {n z : Nat} {la : Int} {L : List HS} (HNL : Hid (L.length = n)) (HN : Hid (n ≤ 100))  (SQ : Hid (SrcIs w (.slice Aq n z) (n) ((L).flatMap sesC) 6)) :
    Calls Tryd.prog 22 #[.agg #[.slice Aq n z, .int .i64 la]] w fun en w' => ∃ v', en = .returned v' ∧ OwnS w' w.heap.size 3 1 v' (L.filter busyS).length (((L.filter busyS).map HS.id).flatMap intC) ∧ Ch [] w w' := by
  have C0 := Lib.hid (Ch.refl [] w)
  obtain ⟨i3, I3⟩ := Info.of info3
  go_enter Tryd.func22, Tryd.ntmps22
  refine q_ (fun Q hQ hP => ?_)
  refine s_ (fun K1 hK1 => ?_)
  refine ef_ (fun K2 hK2 => ?_)
  refine e_boxN (by rfl) rfl rfl (cs := #[.slice Aq n z, .int .i64 la]) (v := .agg #[.slice Aq n z, .int .i64 la]) (by rfl) rfl ?_
  rintro gx w3 HG4 B5 C6
  have nw7 := Lib.hid (show w.heap.size ≤ gx by have := C0.out.size; have := HG4.out; omega)
  have nx8 := Lib.hid (SQ.out.ne_new (by decide) HG4)
  have C0' := Lib.hid (show Ch [] w w3 from C0.out.trans' C6 (fun x hx => absurd hx (by simp)))
  have SQ' := Lib.hid (show SrcIs w3 (.slice Aq n z) (n) ((L).flatMap sesC) 6 from SQ.out.chx C6 xnin_nil)
  clear C0 SQ
  have C0 := C0'; clear C0'
  have SQ := SQ'; clear SQ'
  have Fgx := Lib.hid (show Blk w3 gx (#[.slice Aq n z, .int .i64 la]) 44 from B5); clear B5 C6
  refine hK2 _ _ ?_; clear hK2 K2
  (try simp only [zP, zN, zA, zB, zC])
  refine pu_ (v := .slice none 0 0) (y_assign rfl (by rfl) (by rfl)) ?_
  (try simp only [zP, zN, zA, zB, zC])
  refine nl_ (hK1 _ _ ?_); clear hK1 K1
  refine s_ (fun K9 hK9 => ?_)
  refine pu_ (v := .slice none 0 0) (y_assign rfl (by rfl) (by rfl)) ?_
  (try simp only [zP, zN, zA, zB, zC])
  refine nl_ (hK9 _ _ ?_); clear hK9 K9
  refine sq_ (fun K10 hK10 => ?_)
  refine s_ (fun K11 hK11 => ?_)
  refine pu_ (v := .int .i64 0) (y_assign rfl (by rfl) (by rfl)) ?_
  (try simp only [zP, zN, zA, zB, zC])
  refine nl_ (hK11 _ _ ?_); clear hK11 K11
  refine wp_block ?_
  have OG0 := Lib.hid (show OwnS w3 w.heap.size 3 1 (.slice none 0 0) ((L.take 0).filter busyS).length ((((L.take 0).filter busyS).map HS.id).flatMap intC) from by rw [List.take_zero]; exact OwnS.nil _ _ _ _ _)
  refine loopk_ (fun (kq : Nat) (a' : Act) (w' : World) => ∃ (k : Nat), ∃ (vg : Value), ∃ (us : Nat → Value), a' = ⟨#[us 0, .pointer (some ⟨gx, 0, none⟩), us 2, vg, .int .i64 k, us 5, us 6, us 7, us 8, us 9, us 10, us 11, us 12, us 13, us 14, us 15, us 16, us 17, us 18, us 19, us 20, us 21, us 22, us 23, us 24, us 25, us 26, us 27, us 28, us 29, us 30, us 31, us 32, us 33, us 34, us 35, us 36, us 37, us 38, us 39, us 40, us 41, us 42, us 43, us 44, us 45, us 46, us 47], []⟩ ∧ Hid (Ch [] w w') ∧ Hid (SrcIs w' (.slice Aq n z) (n) ((L).flatMap sesC) 6) ∧ Hid (Blk w' gx (#[.slice Aq n z, .int .i64 la]) 44) ∧ Hid (OwnS w' w.heap.size 3 1 (vg) (((L.take k).filter busyS).length) ((((L.take k).filter busyS).map HS.id).flatMap intC)) ∧ Hid (k ≤ L.length ∧ kq + k = L.length) ∧ Hid (∀ k, k ∈ xb (.slice Aq n z) → k ∉ rl vg)) (L.length) (⟨0, .slice none 0 0, fun us_ => (#[.agg #[.slice Aq n z, .int .i64 la], .pointer (some ⟨gx, 0, none⟩), .slice none 0 0, .slice none 0 0, .int .i64 0, undef, undef, undef, undef, undef, undef, undef, undef, undef, undef, undef, undef, undef, undef, undef, undef, undef, undef, undef, undef, undef, undef, undef, undef, undef, undef, undef, undef, undef, undef, undef, undef, undef, undef, undef, undef, undef, undef, undef, undef, undef, undef, undef] : Array Value).getD us_ undef, rfl, C0, SQ, Fgx, OG0, Lib.hid ⟨by omega, by omega⟩, Lib.hid (fun k _ hm => absurd hm (by simp [rl]))⟩) ?_
  rintro kq _ w12 ⟨k, vg, us, rfl, C0, SQ, Fgx, OG, hk, hxg⟩ K13 hK13
  refine sq_ (fun K14 hK14 => ?_)
  rcases at_ways' hk.out.1 with ⟨s, ho0, hlt0⟩ | h; rcases (show s.op = false ∨ (s.op = true ∧ s.qi.length = 0) ∨ (s.op = true ∧ 0 < s.qi.length ∧ 64 ≤ s.qo.length) ∨ (s.op = true ∧ 0 < s.qi.length ∧ s.qo.length < 64) by rcases Bool.eq_false_or_eq_true s.op with h9 | h9; rotate_left; exact .inl h9; rcases (show s.qi.length = 0 ∨ (0 < s.qi.length ∧ 64 ≤ s.qo.length) ∨ (0 < s.qi.length ∧ s.qo.length < 64) by omega) with h8 | h8 | h8; exact .inr (.inl ⟨h9, h8⟩); exact .inr (.inr (.inl ⟨h9, h8⟩)); exact .inr (.inr (.inr ⟨h9, h8⟩))) with hc | hc | hc | hc
  · have hlt := Lib.hid hlt0
    have HS_ := Lib.hid ho0
    have HCC := Lib.hid hc
    clear hc hlt0 ho0
    have HOP := Lib.hid (show s.op = false from HCC.out)
    have HBS := Lib.hid (show busyS s = false from by unfold busyS; rw [HOP.out]; rfl)
    have HFL := Lib.hid (filt_no HS_.out HBS.out)
    have HFB := Lib.hid (filt_len busyS L k)
    obtain ⟨a, hsm_a⟩ := src_some SQ.out (by have := hlt.out; have := HNL.out; omega)
    subst hsm_a
    have D9 := Lib.hid (show (k : Int) < (n : Int) by have := hlt.out; have := HNL.out; omega)
    have Wk := Lib.hid (show IntKind.i64.wrap ((k : Int) + 1) = ((k + 1 : Nat) : Int) by rw [wr64 (by have := hlt.out; have h7 := HN.out; have h8 := HNL.out; omega)]; omega)
    have HIS := Lib.hid (show (str s.qi).size = s.qi.length from str_size _)
    have HOS := Lib.hid (show (str s.qo).size = s.qo.length from str_size _)
    refine s_ (fun K15 hK15 => ?_)
    refine pu_ (v := .int .i64 k) (y_move rfl (by rfl) (by rfl)) ?_
    (try simp only [zP, zN, zA, zB, zC])
    refine pu_ (v := .pointer (some ⟨gx, 0, none⟩)) (y_run (by rfl) (fun W => by go_simp)) ?_
    (try simp only [zP, zN, zA, zB, zC])
    refine ld_ (v := .slice (some a) n z) rfl (by rfl) (by rfl) (run_load_one ((Fgx.out.cell 0).trans rfl) Tryd.underlying42 rfl) ?_
    (try simp only [zP, zN, zA, zB, zC])
    refine pu_ (v := .int .i64 n) (y_run (by rfl) (fun W => by go_simp)) ?_
    (try simp only [zP, zN, zA, zB, zC])
    refine pu_ (v := .bool true) (y_run (by rfl) (fun W => by have d := D9.out; go_simp)) ?_
    (try simp only [zP, zN, zA, zB, zC])
    refine nl_ (hK15 _ _ ?_); clear hK15 K15
    refine wp_cond_true rfl ?_
    refine wp_skip ?_
    refine th_norm (hK14 _ _ ?_); try clear hK14 K14
    refine sq_ (fun K16 hK16 => ?_)
    refine wp_block ?_
    refine s_ (fun K17 hK17 => ?_)
    refine pu_ (v := .pointer (some ⟨gx, 0, none⟩)) (y_run (by rfl) (fun W => by go_simp)) ?_
    (try simp only [zP, zN, zA, zB, zC])
    refine ld_ (v := .slice (some a) n z) rfl (by rfl) (by rfl) (run_load_one ((Fgx.out.cell 0).trans rfl) Tryd.underlying42 rfl) ?_
    (try simp only [zP, zN, zA, zB, zC])
    refine pu_ (v := .int .i64 k) (y_move rfl (by rfl) (by rfl)) ?_
    (try simp only [zP, zN, zA, zB, zC])
    refine pu_ (v := .pointer (some (a.add (k * 6)))) (y_run (by rfl) (fun W => by have d := D9.out; go_simp)) ?_
    (try simp only [zP, zN, zA, zB, zC])
    refine pu_ (v := .pointer (some ((a.add (k * 6)).add 3))) (y_run (by rfl) (fun W => by go_simp)) ?_
    (try simp only [zP, zN, zA, zB, zC])
    refine ld_ (v := .bool false) rfl (by rfl) (by rfl) (run_load_one (by have h9 := src_fld SQ.out HS_.out 3 (.bool s.op) (by simp [sesC]); rw [HOP.out] at h9; exact h9) Tryd.underlying4 rfl) ?_
    (try simp only [zP, zN, zA, zB, zC])
    refine pu_ (v := .bool false) (y_move rfl (by rfl) (by rfl)) ?_
    (try simp only [zP, zN, zA, zB, zC])
    refine pu_ (y_off (by rfl)) ?_
    (try simp only [zP, zN, zA, zB, zC])
    refine pu_ (y_off (by rfl)) ?_
    (try simp only [zP, zN, zA, zB, zC])
    refine pu_ (y_off (by rfl)) ?_
    (try simp only [zP, zN, zA, zB, zC])
    refine pu_ (y_off (by rfl)) ?_
    (try simp only [zP, zN, zA, zB, zC])
    refine pu_ (y_off (by rfl)) ?_
    (try simp only [zP, zN, zA, zB, zC])
    refine pu_ (y_off (by rfl)) ?_
    (try simp only [zP, zN, zA, zB, zC])
    refine pu_ (y_off (by rfl)) ?_
    (try simp only [zP, zN, zA, zB, zC])
    refine pu_ (y_off (by rfl)) ?_
    (try simp only [zP, zN, zA, zB, zC])
    refine pu_ (v := .bool false) (y_pick (t := false) (by rfl) rfl (by rfl) (by rfl)) ?_
    (try simp only [zP, zN, zA, zB, zC])
    refine pu_ (v := .bool false) (y_move rfl (by rfl) (by rfl)) ?_
    (try simp only [zP, zN, zA, zB, zC])
    refine pu_ (y_off (by rfl)) ?_
    (try simp only [zP, zN, zA, zB, zC])
    refine pu_ (y_off (by rfl)) ?_
    (try simp only [zP, zN, zA, zB, zC])
    refine pu_ (y_off (by rfl)) ?_
    (try simp only [zP, zN, zA, zB, zC])
    refine pu_ (y_off (by rfl)) ?_
    (try simp only [zP, zN, zA, zB, zC])
    refine pu_ (y_off (by rfl)) ?_
    (try simp only [zP, zN, zA, zB, zC])
    refine pu_ (y_off (by rfl)) ?_
    (try simp only [zP, zN, zA, zB, zC])
    refine pu_ (y_off (by rfl)) ?_
    (try simp only [zP, zN, zA, zB, zC])
    refine pu_ (y_off (by rfl)) ?_
    (try simp only [zP, zN, zA, zB, zC])
    refine pu_ (v := .bool false) (y_pick (t := false) (by rfl) rfl (by rfl) (by rfl)) ?_
    (try simp only [zP, zN, zA, zB, zC])
    refine nl_ (hK17 _ _ ?_); clear hK17 K17
    refine wp_cond_false rfl ?_
    refine wp_skip ?_
    refine ib_norm ?_
    refine th_norm (hK16 _ _ ?_); try clear hK16 K16
    refine r_ ?_
    refine pu_ (v := .int .i64 k) (y_move rfl (by rfl) (by rfl)) ?_
    (try simp only [zP, zN, zA, zB, zC])
    refine pu_ (v := .int .i64 (k + 1 : Nat)) (y_run (by rfl) (fun W => by have d := Wk.out; go_simp)) ?_
    (try simp only [zP, zN, zA, zB, zC])
    refine pu_ (v := .int .i64 (k + 1 : Nat)) (y_assign rfl (by rfl) (by rfl)) ?_
    (try simp only [zP, zN, zA, zB, zC])
    refine nl_ ?_
    exact th_norm (hK13 (kq - 1) _ _ (by have := hlt.out; have := hk.out; omega) ⟨k + 1, vg, fun us_ => (#[us 0, .pointer (some ⟨gx, 0, none⟩), us 2, vg, .int .i64 (k + 1 : Nat), .int .i64 k, .pointer (some ⟨gx, 0, none⟩), .slice (some a) n z, .int .i64 n, .bool true, .int .i64 k, .int .i64 (k + 1 : Nat), .pointer (some ⟨gx, 0, none⟩), .slice (some a) n z, .int .i64 k, .pointer (some (a.add (k * 6))), .pointer (some ((a.add (k * 6)).add 3)), .bool false, .bool false, undef, undef, undef, undef, undef, undef, undef, undef, .bool false, .bool false, undef, undef, undef, undef, undef, undef, undef, undef, .bool false, us 38, us 39, us 40, us 41, us 42, us 43, us 44, us 45, us 46, us 47] : Array Value).getD us_ undef, rfl, C0, SQ, Fgx, Lib.hid (by have h9 := OG.out; rw [HFL.out]; exact h9), Lib.hid ⟨by have := hlt.out; omega, by have := hlt.out; have := hk.out; omega⟩, Lib.hid (hxg.out)⟩)
  · have hlt := Lib.hid hlt0
    have HS_ := Lib.hid ho0
    have HCC := Lib.hid hc
    clear hc hlt0 ho0
    have HOP := Lib.hid (show s.op = true from HCC.out.1)
    have HBS := Lib.hid (show busyS s = false from by unfold busyS; rw [HOP.out]; have h9 := HCC.out; simp; omega)
    have HFL := Lib.hid (filt_no HS_.out HBS.out)
    have HFB := Lib.hid (filt_len busyS L k)
    obtain ⟨a, hsm_a⟩ := src_some SQ.out (by have := hlt.out; have := HNL.out; omega)
    subst hsm_a
    have D9 := Lib.hid (show (k : Int) < (n : Int) by have := hlt.out; have := HNL.out; omega)
    have Wk := Lib.hid (show IntKind.i64.wrap ((k : Int) + 1) = ((k + 1 : Nat) : Int) by rw [wr64 (by have := hlt.out; have h7 := HN.out; have h8 := HNL.out; omega)]; omega)
    have HIS := Lib.hid (show (str s.qi).size = s.qi.length from str_size _)
    have HOS := Lib.hid (show (str s.qo).size = s.qo.length from str_size _)
    have D26 := Lib.hid (show ¬ 0 < (str s.qi).size by have := HIS.out; have := HCC.out; omega)
    refine s_ (fun K18 hK18 => ?_)
    refine pu_ (v := .int .i64 k) (y_move rfl (by rfl) (by rfl)) ?_
    (try simp only [zP, zN, zA, zB, zC])
    refine pu_ (v := .pointer (some ⟨gx, 0, none⟩)) (y_run (by rfl) (fun W => by go_simp)) ?_
    (try simp only [zP, zN, zA, zB, zC])
    refine ld_ (v := .slice (some a) n z) rfl (by rfl) (by rfl) (run_load_one ((Fgx.out.cell 0).trans rfl) Tryd.underlying42 rfl) ?_
    (try simp only [zP, zN, zA, zB, zC])
    refine pu_ (v := .int .i64 n) (y_run (by rfl) (fun W => by go_simp)) ?_
    (try simp only [zP, zN, zA, zB, zC])
    refine pu_ (v := .bool true) (y_run (by rfl) (fun W => by have d := D9.out; go_simp)) ?_
    (try simp only [zP, zN, zA, zB, zC])
    refine nl_ (hK18 _ _ ?_); clear hK18 K18
    refine wp_cond_true rfl ?_
    refine wp_skip ?_
    refine th_norm (hK14 _ _ ?_); try clear hK14 K14
    refine sq_ (fun K19 hK19 => ?_)
    refine wp_block ?_
    refine s_ (fun K20 hK20 => ?_)
    refine pu_ (v := .pointer (some ⟨gx, 0, none⟩)) (y_run (by rfl) (fun W => by go_simp)) ?_
    (try simp only [zP, zN, zA, zB, zC])
    refine ld_ (v := .slice (some a) n z) rfl (by rfl) (by rfl) (run_load_one ((Fgx.out.cell 0).trans rfl) Tryd.underlying42 rfl) ?_
    (try simp only [zP, zN, zA, zB, zC])
    refine pu_ (v := .int .i64 k) (y_move rfl (by rfl) (by rfl)) ?_
    (try simp only [zP, zN, zA, zB, zC])
    refine pu_ (v := .pointer (some (a.add (k * 6)))) (y_run (by rfl) (fun W => by have d := D9.out; go_simp)) ?_
    (try simp only [zP, zN, zA, zB, zC])
    refine pu_ (v := .pointer (some ((a.add (k * 6)).add 3))) (y_run (by rfl) (fun W => by go_simp)) ?_
    (try simp only [zP, zN, zA, zB, zC])
    refine ld_ (v := .bool true) rfl (by rfl) (by rfl) (run_load_one (by have h9 := src_fld SQ.out HS_.out 3 (.bool s.op) (by simp [sesC]); rw [HOP.out] at h9; exact h9) Tryd.underlying4 rfl) ?_
    (try simp only [zP, zN, zA, zB, zC])
    refine pu_ (v := .bool true) (y_move rfl (by rfl) (by rfl)) ?_
    (try simp only [zP, zN, zA, zB, zC])
    refine pu_ (v := .pointer (some ⟨gx, 0, none⟩)) (y_run (by rfl) (fun W => by go_simp)) ?_
    (try simp only [zP, zN, zA, zB, zC])
    refine ld_ (v := .slice (some a) n z) rfl (by rfl) (by rfl) (run_load_one ((Fgx.out.cell 0).trans rfl) Tryd.underlying42 rfl) ?_
    (try simp only [zP, zN, zA, zB, zC])
    refine pu_ (v := .int .i64 k) (y_move rfl (by rfl) (by rfl)) ?_
    (try simp only [zP, zN, zA, zB, zC])
    refine pu_ (v := .pointer (some (a.add (k * 6)))) (y_run (by rfl) (fun W => by have d := D9.out; go_simp)) ?_
    (try simp only [zP, zN, zA, zB, zC])
    refine pu_ (v := .pointer (some ((a.add (k * 6)).add 4))) (y_run (by rfl) (fun W => by go_simp)) ?_
    (try simp only [zP, zN, zA, zB, zC])
    refine ld_ (v := .string (str s.qi)) rfl (by rfl) (by rfl) (run_load_one (src_fld SQ.out HS_.out 4 _ (by simp [sesC])) Tryd.underlying9 rfl) ?_
    (try simp only [zP, zN, zA, zB, zC])
    refine pu_ (v := .int .i64 (str s.qi).size) (y_run (by rfl) (fun W => by go_simp)) ?_
    (try simp only [zP, zN, zA, zB, zC])
    refine pu_ (v := .bool false) (y_run (by rfl) (fun W => by have d := D26.out; go_simp)) ?_
    (try simp only [zP, zN, zA, zB, zC])
    refine pu_ (v := .bool false) (y_pick (t := true) (by rfl) rfl (by rfl) (by rfl)) ?_
    (try simp only [zP, zN, zA, zB, zC])
    refine pu_ (v := .bool false) (y_move rfl (by rfl) (by rfl)) ?_
    (try simp only [zP, zN, zA, zB, zC])
    refine pu_ (y_off (by rfl)) ?_
    (try simp only [zP, zN, zA, zB, zC])
    refine pu_ (y_off (by rfl)) ?_
    (try simp only [zP, zN, zA, zB, zC])
    refine pu_ (y_off (by rfl)) ?_
    (try simp only [zP, zN, zA, zB, zC])
    refine pu_ (y_off (by rfl)) ?_
    (try simp only [zP, zN, zA, zB, zC])
    refine pu_ (y_off (by rfl)) ?_
    (try simp only [zP, zN, zA, zB, zC])
    refine pu_ (y_off (by rfl)) ?_
    (try simp only [zP, zN, zA, zB, zC])
    refine pu_ (y_off (by rfl)) ?_
    (try simp only [zP, zN, zA, zB, zC])
    refine pu_ (y_off (by rfl)) ?_
    (try simp only [zP, zN, zA, zB, zC])
    refine pu_ (v := .bool false) (y_pick (t := false) (by rfl) rfl (by rfl) (by rfl)) ?_
    (try simp only [zP, zN, zA, zB, zC])
    refine nl_ (hK20 _ _ ?_); clear hK20 K20
    refine wp_cond_false rfl ?_
    refine wp_skip ?_
    refine ib_norm ?_
    refine th_norm (hK19 _ _ ?_); try clear hK19 K19
    refine r_ ?_
    refine pu_ (v := .int .i64 k) (y_move rfl (by rfl) (by rfl)) ?_
    (try simp only [zP, zN, zA, zB, zC])
    refine pu_ (v := .int .i64 (k + 1 : Nat)) (y_run (by rfl) (fun W => by have d := Wk.out; go_simp)) ?_
    (try simp only [zP, zN, zA, zB, zC])
    refine pu_ (v := .int .i64 (k + 1 : Nat)) (y_assign rfl (by rfl) (by rfl)) ?_
    (try simp only [zP, zN, zA, zB, zC])
    refine nl_ ?_
    exact th_norm (hK13 (kq - 1) _ _ (by have := hlt.out; have := hk.out; omega) ⟨k + 1, vg, fun us_ => (#[us 0, .pointer (some ⟨gx, 0, none⟩), us 2, vg, .int .i64 (k + 1 : Nat), .int .i64 k, .pointer (some ⟨gx, 0, none⟩), .slice (some a) n z, .int .i64 n, .bool true, .int .i64 k, .int .i64 (k + 1 : Nat), .pointer (some ⟨gx, 0, none⟩), .slice (some a) n z, .int .i64 k, .pointer (some (a.add (k * 6))), .pointer (some ((a.add (k * 6)).add 3)), .bool true, .bool true, .pointer (some ⟨gx, 0, none⟩), .slice (some a) n z, .int .i64 k, .pointer (some (a.add (k * 6))), .pointer (some ((a.add (k * 6)).add 4)), .string (str s.qi), .int .i64 (str s.qi).size, .bool false, .bool false, .bool false, undef, undef, undef, undef, undef, undef, undef, undef, .bool false, us 38, us 39, us 40, us 41, us 42, us 43, us 44, us 45, us 46, us 47] : Array Value).getD us_ undef, rfl, C0, SQ, Fgx, Lib.hid (by have h9 := OG.out; rw [HFL.out]; exact h9), Lib.hid ⟨by have := hlt.out; omega, by have := hlt.out; have := hk.out; omega⟩, Lib.hid (hxg.out)⟩)
  · have hlt := Lib.hid hlt0
    have HS_ := Lib.hid ho0
    have HCC := Lib.hid hc
    clear hc hlt0 ho0
    have HOP := Lib.hid (show s.op = true from HCC.out.1)
    have HBS := Lib.hid (show busyS s = false from by unfold busyS; rw [HOP.out]; have h9 := HCC.out; simp; omega)
    have HFL := Lib.hid (filt_no HS_.out HBS.out)
    have HFB := Lib.hid (filt_len busyS L k)
    obtain ⟨a, hsm_a⟩ := src_some SQ.out (by have := hlt.out; have := HNL.out; omega)
    subst hsm_a
    have D9 := Lib.hid (show (k : Int) < (n : Int) by have := hlt.out; have := HNL.out; omega)
    have Wk := Lib.hid (show IntKind.i64.wrap ((k : Int) + 1) = ((k + 1 : Nat) : Int) by rw [wr64 (by have := hlt.out; have h7 := HN.out; have h8 := HNL.out; omega)]; omega)
    have HIS := Lib.hid (show (str s.qi).size = s.qi.length from str_size _)
    have HOS := Lib.hid (show (str s.qo).size = s.qo.length from str_size _)
    have D26 := Lib.hid (show  0 < (str s.qi).size by have := HIS.out; have := HCC.out; omega)
    have D36 := Lib.hid (show ¬ ((str s.qo).size : Int) < 64 by have := HOS.out; have := HCC.out; omega)
    refine s_ (fun K21 hK21 => ?_)
    refine pu_ (v := .int .i64 k) (y_move rfl (by rfl) (by rfl)) ?_
    (try simp only [zP, zN, zA, zB, zC])
    refine pu_ (v := .pointer (some ⟨gx, 0, none⟩)) (y_run (by rfl) (fun W => by go_simp)) ?_
    (try simp only [zP, zN, zA, zB, zC])
    refine ld_ (v := .slice (some a) n z) rfl (by rfl) (by rfl) (run_load_one ((Fgx.out.cell 0).trans rfl) Tryd.underlying42 rfl) ?_
    (try simp only [zP, zN, zA, zB, zC])
    refine pu_ (v := .int .i64 n) (y_run (by rfl) (fun W => by go_simp)) ?_
    (try simp only [zP, zN, zA, zB, zC])
    refine pu_ (v := .bool true) (y_run (by rfl) (fun W => by have d := D9.out; go_simp)) ?_
    (try simp only [zP, zN, zA, zB, zC])
    refine nl_ (hK21 _ _ ?_); clear hK21 K21
    refine wp_cond_true rfl ?_
    refine wp_skip ?_
    refine th_norm (hK14 _ _ ?_); try clear hK14 K14
    refine sq_ (fun K22 hK22 => ?_)
    refine wp_block ?_
    refine s_ (fun K23 hK23 => ?_)
    refine pu_ (v := .pointer (some ⟨gx, 0, none⟩)) (y_run (by rfl) (fun W => by go_simp)) ?_
    (try simp only [zP, zN, zA, zB, zC])
    refine ld_ (v := .slice (some a) n z) rfl (by rfl) (by rfl) (run_load_one ((Fgx.out.cell 0).trans rfl) Tryd.underlying42 rfl) ?_
    (try simp only [zP, zN, zA, zB, zC])
    refine pu_ (v := .int .i64 k) (y_move rfl (by rfl) (by rfl)) ?_
    (try simp only [zP, zN, zA, zB, zC])
    refine pu_ (v := .pointer (some (a.add (k * 6)))) (y_run (by rfl) (fun W => by have d := D9.out; go_simp)) ?_
    (try simp only [zP, zN, zA, zB, zC])
    refine pu_ (v := .pointer (some ((a.add (k * 6)).add 3))) (y_run (by rfl) (fun W => by go_simp)) ?_
    (try simp only [zP, zN, zA, zB, zC])
    refine ld_ (v := .bool true) rfl (by rfl) (by rfl) (run_load_one (by have h9 := src_fld SQ.out HS_.out 3 (.bool s.op) (by simp [sesC]); rw [HOP.out] at h9; exact h9) Tryd.underlying4 rfl) ?_
    (try simp only [zP, zN, zA, zB, zC])
    refine pu_ (v := .bool true) (y_move rfl (by rfl) (by rfl)) ?_
    (try simp only [zP, zN, zA, zB, zC])
    refine pu_ (v := .pointer (some ⟨gx, 0, none⟩)) (y_run (by rfl) (fun W => by go_simp)) ?_
    (try simp only [zP, zN, zA, zB, zC])
    refine ld_ (v := .slice (some a) n z) rfl (by rfl) (by rfl) (run_load_one ((Fgx.out.cell 0).trans rfl) Tryd.underlying42 rfl) ?_
    (try simp only [zP, zN, zA, zB, zC])
    refine pu_ (v := .int .i64 k) (y_move rfl (by rfl) (by rfl)) ?_
    (try simp only [zP, zN, zA, zB, zC])
    refine pu_ (v := .pointer (some (a.add (k * 6)))) (y_run (by rfl) (fun W => by have d := D9.out; go_simp)) ?_
    (try simp only [zP, zN, zA, zB, zC])
    refine pu_ (v := .pointer (some ((a.add (k * 6)).add 4))) (y_run (by rfl) (fun W => by go_simp)) ?_
    (try simp only [zP, zN, zA, zB, zC])
    refine ld_ (v := .string (str s.qi)) rfl (by rfl) (by rfl) (run_load_one (src_fld SQ.out HS_.out 4 _ (by simp [sesC])) Tryd.underlying9 rfl) ?_
    (try simp only [zP, zN, zA, zB, zC])
    refine pu_ (v := .int .i64 (str s.qi).size) (y_run (by rfl) (fun W => by go_simp)) ?_
    (try simp only [zP, zN, zA, zB, zC])
    refine pu_ (v := .bool true) (y_run (by rfl) (fun W => by have d := D26.out; go_simp)) ?_
    (try simp only [zP, zN, zA, zB, zC])
    refine pu_ (v := .bool true) (y_pick (t := true) (by rfl) rfl (by rfl) (by rfl)) ?_
    (try simp only [zP, zN, zA, zB, zC])
    refine pu_ (v := .bool true) (y_move rfl (by rfl) (by rfl)) ?_
    (try simp only [zP, zN, zA, zB, zC])
    refine pu_ (v := .pointer (some ⟨gx, 0, none⟩)) (y_run (by rfl) (fun W => by go_simp)) ?_
    (try simp only [zP, zN, zA, zB, zC])
    refine ld_ (v := .slice (some a) n z) rfl (by rfl) (by rfl) (run_load_one ((Fgx.out.cell 0).trans rfl) Tryd.underlying42 rfl) ?_
    (try simp only [zP, zN, zA, zB, zC])
    refine pu_ (v := .int .i64 k) (y_move rfl (by rfl) (by rfl)) ?_
    (try simp only [zP, zN, zA, zB, zC])
    refine pu_ (v := .pointer (some (a.add (k * 6)))) (y_run (by rfl) (fun W => by have d := D9.out; go_simp)) ?_
    (try simp only [zP, zN, zA, zB, zC])
    refine pu_ (v := .pointer (some ((a.add (k * 6)).add 5))) (y_run (by rfl) (fun W => by go_simp)) ?_
    (try simp only [zP, zN, zA, zB, zC])
    refine ld_ (v := .string (str s.qo)) rfl (by rfl) (by rfl) (run_load_one (src_fld SQ.out HS_.out 5 _ (by simp [sesC])) Tryd.underlying9 rfl) ?_
    (try simp only [zP, zN, zA, zB, zC])
    refine pu_ (v := .int .i64 (str s.qo).size) (y_run (by rfl) (fun W => by go_simp)) ?_
    (try simp only [zP, zN, zA, zB, zC])
    refine pu_ (v := .bool false) (y_run (by rfl) (fun W => by have d := D36.out; go_simp)) ?_
    (try simp only [zP, zN, zA, zB, zC])
    refine pu_ (v := .bool false) (y_pick (t := true) (by rfl) rfl (by rfl) (by rfl)) ?_
    (try simp only [zP, zN, zA, zB, zC])
    refine nl_ (hK23 _ _ ?_); clear hK23 K23
    refine wp_cond_false rfl ?_
    refine wp_skip ?_
    refine ib_norm ?_
    refine th_norm (hK22 _ _ ?_); try clear hK22 K22
    refine r_ ?_
    refine pu_ (v := .int .i64 k) (y_move rfl (by rfl) (by rfl)) ?_
    (try simp only [zP, zN, zA, zB, zC])
    refine pu_ (v := .int .i64 (k + 1 : Nat)) (y_run (by rfl) (fun W => by have d := Wk.out; go_simp)) ?_
    (try simp only [zP, zN, zA, zB, zC])
    refine pu_ (v := .int .i64 (k + 1 : Nat)) (y_assign rfl (by rfl) (by rfl)) ?_
    (try simp only [zP, zN, zA, zB, zC])
    refine nl_ ?_
    exact th_norm (hK13 (kq - 1) _ _ (by have := hlt.out; have := hk.out; omega) ⟨k + 1, vg, fun us_ => (#[us 0, .pointer (some ⟨gx, 0, none⟩), us 2, vg, .int .i64 (k + 1 : Nat), .int .i64 k, .pointer (some ⟨gx, 0, none⟩), .slice (some a) n z, .int .i64 n, .bool true, .int .i64 k, .int .i64 (k + 1 : Nat), .pointer (some ⟨gx, 0, none⟩), .slice (some a) n z, .int .i64 k, .pointer (some (a.add (k * 6))), .pointer (some ((a.add (k * 6)).add 3)), .bool true, .bool true, .pointer (some ⟨gx, 0, none⟩), .slice (some a) n z, .int .i64 k, .pointer (some (a.add (k * 6))), .pointer (some ((a.add (k * 6)).add 4)), .string (str s.qi), .int .i64 (str s.qi).size, .bool true, .bool true, .bool true, .pointer (some ⟨gx, 0, none⟩), .slice (some a) n z, .int .i64 k, .pointer (some (a.add (k * 6))), .pointer (some ((a.add (k * 6)).add 5)), .string (str s.qo), .int .i64 (str s.qo).size, .bool false, .bool false, us 38, us 39, us 40, us 41, us 42, us 43, us 44, us 45, us 46, us 47] : Array Value).getD us_ undef, rfl, C0, SQ, Fgx, Lib.hid (by have h9 := OG.out; rw [HFL.out]; exact h9), Lib.hid ⟨by have := hlt.out; omega, by have := hlt.out; have := hk.out; omega⟩, Lib.hid (hxg.out)⟩)
  · have hlt := Lib.hid hlt0
    have HS_ := Lib.hid ho0
    have HCC := Lib.hid hc
    clear hc hlt0 ho0
    have HOP := Lib.hid (show s.op = true from HCC.out.1)
    have HBS := Lib.hid (show busyS s = true from by unfold busyS; rw [HOP.out]; have h9 := HCC.out; simp; omega)
    have HFL := Lib.hid (filt_yes HS_.out HBS.out)
    have HFB := Lib.hid (filt_len busyS L k)
    obtain ⟨a, hsm_a⟩ := src_some SQ.out (by have := hlt.out; have := HNL.out; omega)
    subst hsm_a
    have D9 := Lib.hid (show (k : Int) < (n : Int) by have := hlt.out; have := HNL.out; omega)
    have Wk := Lib.hid (show IntKind.i64.wrap ((k : Int) + 1) = ((k + 1 : Nat) : Int) by rw [wr64 (by have := hlt.out; have h7 := HN.out; have h8 := HNL.out; omega)]; omega)
    have HIS := Lib.hid (show (str s.qi).size = s.qi.length from str_size _)
    have HOS := Lib.hid (show (str s.qo).size = s.qo.length from str_size _)
    have D26 := Lib.hid (show  0 < (str s.qi).size by have := HIS.out; have := HCC.out; omega)
    have D36 := Lib.hid (show  ((str s.qo).size : Int) < 64 by have := HOS.out; have := HCC.out; omega)
    refine s_ (fun K24 hK24 => ?_)
    refine pu_ (v := .int .i64 k) (y_move rfl (by rfl) (by rfl)) ?_
    (try simp only [zP, zN, zA, zB, zC])
    refine pu_ (v := .pointer (some ⟨gx, 0, none⟩)) (y_run (by rfl) (fun W => by go_simp)) ?_
    (try simp only [zP, zN, zA, zB, zC])
    refine ld_ (v := .slice (some a) n z) rfl (by rfl) (by rfl) (run_load_one ((Fgx.out.cell 0).trans rfl) Tryd.underlying42 rfl) ?_
    (try simp only [zP, zN, zA, zB, zC])
    refine pu_ (v := .int .i64 n) (y_run (by rfl) (fun W => by go_simp)) ?_
    (try simp only [zP, zN, zA, zB, zC])
    refine pu_ (v := .bool true) (y_run (by rfl) (fun W => by have d := D9.out; go_simp)) ?_
    (try simp only [zP, zN, zA, zB, zC])
    refine nl_ (hK24 _ _ ?_); clear hK24 K24
    refine wp_cond_true rfl ?_
    refine wp_skip ?_
    refine th_norm (hK14 _ _ ?_); try clear hK14 K14
    refine sq_ (fun K25 hK25 => ?_)
    refine wp_block ?_
    refine s_ (fun K26 hK26 => ?_)
    refine pu_ (v := .pointer (some ⟨gx, 0, none⟩)) (y_run (by rfl) (fun W => by go_simp)) ?_
    (try simp only [zP, zN, zA, zB, zC])
    refine ld_ (v := .slice (some a) n z) rfl (by rfl) (by rfl) (run_load_one ((Fgx.out.cell 0).trans rfl) Tryd.underlying42 rfl) ?_
    (try simp only [zP, zN, zA, zB, zC])
    refine pu_ (v := .int .i64 k) (y_move rfl (by rfl) (by rfl)) ?_
    (try simp only [zP, zN, zA, zB, zC])
    refine pu_ (v := .pointer (some (a.add (k * 6)))) (y_run (by rfl) (fun W => by have d := D9.out; go_simp)) ?_
    (try simp only [zP, zN, zA, zB, zC])
    refine pu_ (v := .pointer (some ((a.add (k * 6)).add 3))) (y_run (by rfl) (fun W => by go_simp)) ?_
    (try simp only [zP, zN, zA, zB, zC])
    refine ld_ (v := .bool true) rfl (by rfl) (by rfl) (run_load_one (by have h9 := src_fld SQ.out HS_.out 3 (.bool s.op) (by simp [sesC]); rw [HOP.out] at h9; exact h9) Tryd.underlying4 rfl) ?_
    (try simp only [zP, zN, zA, zB, zC])
    refine pu_ (v := .bool true) (y_move rfl (by rfl) (by rfl)) ?_
    (try simp only [zP, zN, zA, zB, zC])
    refine pu_ (v := .pointer (some ⟨gx, 0, none⟩)) (y_run (by rfl) (fun W => by go_simp)) ?_
    (try simp only [zP, zN, zA, zB, zC])
    refine ld_ (v := .slice (some a) n z) rfl (by rfl) (by rfl) (run_load_one ((Fgx.out.cell 0).trans rfl) Tryd.underlying42 rfl) ?_
    (try simp only [zP, zN, zA, zB, zC])
    refine pu_ (v := .int .i64 k) (y_move rfl (by rfl) (by rfl)) ?_
    (try simp only [zP, zN, zA, zB, zC])
    refine pu_ (v := .pointer (some (a.add (k * 6)))) (y_run (by rfl) (fun W => by have d := D9.out; go_simp)) ?_
    (try simp only [zP, zN, zA, zB, zC])
    refine pu_ (v := .pointer (some ((a.add (k * 6)).add 4))) (y_run (by rfl) (fun W => by go_simp)) ?_
    (try simp only [zP, zN, zA, zB, zC])
    refine ld_ (v := .string (str s.qi)) rfl (by rfl) (by rfl) (run_load_one (src_fld SQ.out HS_.out 4 _ (by simp [sesC])) Tryd.underlying9 rfl) ?_
    (try simp only [zP, zN, zA, zB, zC])
    refine pu_ (v := .int .i64 (str s.qi).size) (y_run (by rfl) (fun W => by go_simp)) ?_
    (try simp only [zP, zN, zA, zB, zC])
    refine pu_ (v := .bool true) (y_run (by rfl) (fun W => by have d := D26.out; go_simp)) ?_
    (try simp only [zP, zN, zA, zB, zC])
    refine pu_ (v := .bool true) (y_pick (t := true) (by rfl) rfl (by rfl) (by rfl)) ?_
    (try simp only [zP, zN, zA, zB, zC])
    refine pu_ (v := .bool true) (y_move rfl (by rfl) (by rfl)) ?_
    (try simp only [zP, zN, zA, zB, zC])
    refine pu_ (v := .pointer (some ⟨gx, 0, none⟩)) (y_run (by rfl) (fun W => by go_simp)) ?_
    (try simp only [zP, zN, zA, zB, zC])
    refine ld_ (v := .slice (some a) n z) rfl (by rfl) (by rfl) (run_load_one ((Fgx.out.cell 0).trans rfl) Tryd.underlying42 rfl) ?_
    (try simp only [zP, zN, zA, zB, zC])
    refine pu_ (v := .int .i64 k) (y_move rfl (by rfl) (by rfl)) ?_
    (try simp only [zP, zN, zA, zB, zC])
    refine pu_ (v := .pointer (some (a.add (k * 6)))) (y_run (by rfl) (fun W => by have d := D9.out; go_simp)) ?_
    (try simp only [zP, zN, zA, zB, zC])
    refine pu_ (v := .pointer (some ((a.add (k * 6)).add 5))) (y_run (by rfl) (fun W => by go_simp)) ?_
    (try simp only [zP, zN, zA, zB, zC])
    refine ld_ (v := .string (str s.qo)) rfl (by rfl) (by rfl) (run_load_one (src_fld SQ.out HS_.out 5 _ (by simp [sesC])) Tryd.underlying9 rfl) ?_
    (try simp only [zP, zN, zA, zB, zC])
    refine pu_ (v := .int .i64 (str s.qo).size) (y_run (by rfl) (fun W => by go_simp)) ?_
    (try simp only [zP, zN, zA, zB, zC])
    refine pu_ (v := .bool true) (y_run (by rfl) (fun W => by have d := D36.out; go_simp)) ?_
    (try simp only [zP, zN, zA, zB, zC])
    refine pu_ (v := .bool true) (y_pick (t := true) (by rfl) rfl (by rfl) (by rfl)) ?_
    (try simp only [zP, zN, zA, zB, zC])
    refine nl_ (hK26 _ _ ?_); clear hK26 K26
    refine wp_cond_true rfl ?_
    refine r_ ?_
    refine pu_ (v := vg) (y_move rfl (by rfl) (by rfl)) ?_
    (try simp only [zP, zN, zA, zB, zC])
    refine pu_ (v := .pointer (some ⟨gx, 0, none⟩)) (y_run (by rfl) (fun W => by go_simp)) ?_
    (try simp only [zP, zN, zA, zB, zC])
    refine ld_ (v := .slice (some a) n z) rfl (by rfl) (by rfl) (run_load_one ((Fgx.out.cell 0).trans rfl) Tryd.underlying42 rfl) ?_
    (try simp only [zP, zN, zA, zB, zC])
    refine pu_ (v := .int .i64 k) (y_move rfl (by rfl) (by rfl)) ?_
    (try simp only [zP, zN, zA, zB, zC])
    refine pu_ (v := .pointer (some (a.add (k * 6)))) (y_run (by rfl) (fun W => by have d := D9.out; go_simp)) ?_
    (try simp only [zP, zN, zA, zB, zC])
    refine pu_ (v := .pointer (some ((a.add (k * 6)).add 0))) (y_run (by rfl) (fun W => by go_simp)) ?_
    (try simp only [zP, zN, zA, zB, zC])
    refine ld_ (v := .int .i64 s.id) rfl (by rfl) (by rfl) (run_load_one (src_fld SQ.out HS_.out 0 _ (by simp [sesC])) Tryd.underlying3 rfl) ?_
    (try simp only [zP, zN, zA, zB, zC])
    refine ef_ (fun K27 hK27 => ?_)
    refine e_buildS (parts := #[(0, .int .i64 s.id)]) (cells := #[.int .i64 s.id]) (by rfl) rfl rfl (by first | rfl | (simp only [List.map_toArray, List.map_cons, List.map_nil]; first | done | rfl)) Tryd.underlying54 I3.hi I3.hz I3.hs (by decide) (by decide) (by kernel_rfl) ?_
    rintro g28 w29 HG30 B31 C32
    have nw33 := Lib.hid (show w.heap.size ≤ g28 by have := C0.out.size; have := HG30.out; omega)
    have nx34 := Lib.hid (SQ.out.ne_new (by decide) HG30)
    have nr35 := Lib.hid (OG.out.ne_new HG30)
    have C0' := Lib.hid (show Ch [] w w29 from C0.out.trans' C32 (fun x hx => absurd hx (by simp)))
    have SQ' := Lib.hid (show SrcIs w29 (.slice (some a) n z) (n) ((L).flatMap sesC) 6 from SQ.out.chx C32 xnin_nil)
    have Fgx' := Lib.hid (show Blk w29 gx (#[.slice (some a) n z, .int .i64 la]) 44 from C32.blk Fgx.out nin_nil)
    have OG' := Lib.hid (show OwnS w29 w.heap.size 3 1 (vg) (((L.take k).filter busyS).length) ((((L.take k).filter busyS).map HS.id).flatMap intC) from OG.out.ch C32 rnin_nil)
    clear C0 SQ Fgx OG
    have C0 := C0'; clear C0'
    have SQ := SQ'; clear SQ'
    have Fgx := Fgx'; clear Fgx'
    have OG := OG'; clear OG'
    have Fg28 := Lib.hid (show Blk w29 g28 (#[.int .i64 s.id]) 3 from B31); clear B31 C32
    refine hK27 _ _ ?_; clear hK27 K27
    (try simp only [zP, zN, zA, zB, zC])
    refine ef_ (fun K36 hK36 => ?_)
    refine e_append (by rfl) rfl rfl (w.heap.size) 3 _ _ 1 8 Tryd.underlying54 I3.hi I3.hz I3.hs I3.hb rfl (by decide) (vg) (((L.take k).filter busyS).length) ((((L.take k).filter busyS).map HS.id).flatMap intC) (by rfl) OG.out (.slice (some ⟨g28, 0, none⟩) 1 1) 1 (intC s.id) (by rfl) ⟨rfl, .inr ⟨_, _, rfl, CellsAt.blk Fg28.out 0⟩⟩ (intC_one s.id) (by unfold maxLen; have := HFB.out; have := HN.out; have := HNL.out; omega) (by have := HFB.out; have := HN.out; have := HNL.out; omega) C0.out.size ?_
    rintro v37 w38 O39 C40 R41 -
    have xr43 := Lib.hid (show ∀ k, k ∈ xb (.slice (some a) n z) → k ∉ rl v37 from fun k hk hm => (R41 k hm).elim (fun h => hxg.out k hk h) (fun h => by have := SQ.out.lt (by decide) k hk; omega))
    have nr44 := Lib.hid (show g28 ∉ rl v37 from fun hk => (R41 _ hk).elim nr35.out (fun h => by have := Fg28.out.lt; omega))
    have C0' := Lib.hid (show Ch [] w w38 from C0.out.trans' C40 (fun x hx => .inr (OG.out.lt x hx).1))
    have SQ' := Lib.hid (show SrcIs w38 (.slice (some a) n z) (n) ((L).flatMap sesC) 6 from SQ.out.chx C40 hxg.out)
    have Fgx' := Lib.hid (show Blk w38 gx (#[.slice (some a) n z, .int .i64 la]) 44 from C40.blk Fgx.out (OG.out.ne Fgx.out (by decide)))
    have Fg28' := Lib.hid (show Blk w38 g28 (#[.int .i64 s.id]) 3 from C40.blk Fg28.out nr35.out)
    clear C0 SQ Fgx Fg28
    have C0 := C0'; clear C0'
    have SQ := SQ'; clear SQ'
    have Fgx := Fgx'; clear Fgx'
    have Fg28 := Fg28'; clear Fg28'
    clear OG
    have OG := Lib.hid (show OwnS w38 w.heap.size 3 1 (v37) (((L.take k).filter busyS).length + 1) ((((L.take k).filter busyS).map HS.id).flatMap intC ++ intC s.id) from O39); clear O39 C40
    refine hK36 _ _ ?_; clear hK36 K36
    (try simp only [zP, zN, zA, zB, zC])
    refine pu_ (v := v37) (y_assign rfl (by rfl) (by rfl)) ?_
    (try simp only [zP, zN, zA, zB, zC])
    refine nl_ ?_
    refine ib_norm ?_
    refine th_norm (hK25 _ _ ?_); try clear hK25 K25
    refine r_ ?_
    refine pu_ (v := .int .i64 k) (y_move rfl (by rfl) (by rfl)) ?_
    (try simp only [zP, zN, zA, zB, zC])
    refine pu_ (v := .int .i64 (k + 1 : Nat)) (y_run (by rfl) (fun W => by have d := Wk.out; go_simp)) ?_
    (try simp only [zP, zN, zA, zB, zC])
    refine pu_ (v := .int .i64 (k + 1 : Nat)) (y_assign rfl (by rfl) (by rfl)) ?_
    (try simp only [zP, zN, zA, zB, zC])
    refine nl_ ?_
    exact th_norm (hK13 (kq - 1) _ _ (by have := hlt.out; have := hk.out; omega) ⟨k + 1, v37, fun us_ => (#[us 0, .pointer (some ⟨gx, 0, none⟩), us 2, v37, .int .i64 (k + 1 : Nat), .int .i64 k, .pointer (some ⟨gx, 0, none⟩), .slice (some a) n z, .int .i64 n, .bool true, .int .i64 k, .int .i64 (k + 1 : Nat), .pointer (some ⟨gx, 0, none⟩), .slice (some a) n z, .int .i64 k, .pointer (some (a.add (k * 6))), .pointer (some ((a.add (k * 6)).add 3)), .bool true, .bool true, .pointer (some ⟨gx, 0, none⟩), .slice (some a) n z, .int .i64 k, .pointer (some (a.add (k * 6))), .pointer (some ((a.add (k * 6)).add 4)), .string (str s.qi), .int .i64 (str s.qi).size, .bool true, .bool true, .bool true, .pointer (some ⟨gx, 0, none⟩), .slice (some a) n z, .int .i64 k, .pointer (some (a.add (k * 6))), .pointer (some ((a.add (k * 6)).add 5)), .string (str s.qo), .int .i64 (str s.qo).size, .bool true, .bool true, vg, .pointer (some ⟨gx, 0, none⟩), .slice (some a) n z, .int .i64 k, .pointer (some (a.add (k * 6))), .pointer (some ((a.add (k * 6)).add 0)), .int .i64 s.id, .slice (some ⟨g28, 0, none⟩) 1 1, v37, us 47] : Array Value).getD us_ undef, rfl, C0, SQ, Fgx, Lib.hid (by have h9 := OG.out; rw [HFL.out]; rw [List.length_append, List.map_append, List.flatMap_append]; exact h9), Lib.hid ⟨by have := hlt.out; omega, by have := hlt.out; have := hk.out; omega⟩, Lib.hid (xr43.out)⟩)
  · have HE := Lib.hid h
    have D9 := Lib.hid (show ¬ (k : Int) < (n : Int) by have := HNL.out; omega)
    clear h
    refine s_ (fun K45 hK45 => ?_)
    refine pu_ (v := .int .i64 k) (y_move rfl (by rfl) (by rfl)) ?_
    (try simp only [zP, zN, zA, zB, zC])
    refine pu_ (v := .pointer (some ⟨gx, 0, none⟩)) (y_run (by rfl) (fun W => by go_simp)) ?_
    (try simp only [zP, zN, zA, zB, zC])
    refine ld_ (v := .slice Aq n z) rfl (by rfl) (by rfl) (run_load_one ((Fgx.out.cell 0).trans rfl) Tryd.underlying42 rfl) ?_
    (try simp only [zP, zN, zA, zB, zC])
    refine pu_ (v := .int .i64 n) (y_run (by rfl) (fun W => by go_simp)) ?_
    (try simp only [zP, zN, zA, zB, zC])
    refine pu_ (v := .bool false) (y_run (by rfl) (fun W => by have d := D9.out; go_simp)) ?_
    (try simp only [zP, zN, zA, zB, zC])
    refine nl_ (hK45 _ _ ?_); clear hK45 K45
    refine wp_cond_false rfl ?_
    refine wp_exit ?_
    refine th_exit ?_
    refine th_exit ?_
    refine ib_exit ?_
    refine th_norm (hK10 _ _ ?_); try clear hK10 K10
    refine s_ (fun K46 hK46 => ?_)
    refine pu_ (v := vg) (y_move rfl (by rfl) (by rfl)) ?_
    (try simp only [zP, zN, zA, zB, zC])
    refine pu_ (v := vg) (y_assign rfl (by rfl) (by rfl)) ?_
    (try simp only [zP, zN, zA, zB, zC])
    refine nl_ (hK46 _ _ ?_); clear hK46 K46
    refine wp_ret ?_
    refine hQ _ _ _ ?_
    refine bodyPost_ret (res1 rfl (rdv_tmp (v := vg) (by rfl))) rfl ?_
    exact ⟨_, rfl, by have h9 := OG.out; rw [List.take_of_length_le (by have := HE.out; omega)] at h9; exact h9, C0.out⟩
theorem same_ints {Ax Ay : Option Addr} {n zx zy : Nat} {X : List Int} (HNL : Hid (X.length = n)) (HN : Hid (n ≤ 100)) (SA : Hid (SrcIs w (.slice Ax n zx) (n) (X.flatMap intC) 1)) (SB : Hid (SrcIs w (.slice Ay n zy) (n) (X.flatMap intC) 1)) :
    Calls Tryd.prog 20 #[.slice Ax n zx, .slice Ay n zy] w fun en w' => en = .returned (.bool true) ∧ Ch [] w w' := by
  have C0 := Lib.hid (Ch.refl [] w)
  go_enter Tryd.func20, Tryd.ntmps20
  refine q_ (fun Q hQ hP => ?_)
  refine s_ (fun K1 hK1 => ?_)
  refine pu_ (v := .bool false) (y_assign rfl (by rfl) (by rfl)) ?_
  (try simp only [zP, zN, zA, zB, zC])
  refine nl_ (hK1 _ _ ?_); clear hK1 K1
  refine s_ (fun K2 hK2 => ?_)
  refine pu_ (v := .slice Ax n zx) (y_move rfl (by rfl) (by rfl)) ?_
  (try simp only [zP, zN, zA, zB, zC])
  refine pu_ (v := .int .i64 n) (y_run (by rfl) (fun W => by go_simp)) ?_
  (try simp only [zP, zN, zA, zB, zC])
  refine pu_ (v := .slice Ay n zy) (y_move rfl (by rfl) (by rfl)) ?_
  (try simp only [zP, zN, zA, zB, zC])
  refine pu_ (v := .int .i64 n) (y_run (by rfl) (fun W => by go_simp)) ?_
  (try simp only [zP, zN, zA, zB, zC])
  refine pu_ (v := .bool true) (y_run (by rfl) (fun W => by first | (go_simp; done) | (go_simp; rfl) | (go_simp; decide))) ?_
  (try simp only [zP, zN, zA, zB, zC])
  refine pu_ (v := .bool true) (y_assign rfl (by rfl) (by rfl)) ?_
  (try simp only [zP, zN, zA, zB, zC])
  refine nl_ (hK2 _ _ ?_); clear hK2 K2
  refine sq_ (fun K3 hK3 => ?_)
  refine s_ (fun K4 hK4 => ?_)
  refine pu_ (v := .int .i64 0) (y_assign rfl (by rfl) (by rfl)) ?_
  (try simp only [zP, zN, zA, zB, zC])
  refine nl_ (hK4 _ _ ?_); clear hK4 K4
  refine wp_block ?_
  refine loopk_ (fun (kq : Nat) (a' : Act) (w' : World) => ∃ (k : Nat), ∃ (us : Nat → Value), a' = ⟨#[.slice Ax n zx, .slice Ay n zy, us 2, us 3, us 4, .bool true, .int .i64 k, us 7, us 8, us 9, us 10, us 11, us 12, us 13, us 14, us 15, us 16, us 17, us 18, us 19, us 20, us 21, us 22, us 23, us 24, us 25, us 26, us 27, us 28, us 29, us 30, us 31, us 32, us 33, us 34, us 35, us 36], []⟩ ∧ Hid (Ch [] w w') ∧ Hid (SrcIs w' (.slice Ax n zx) (n) (X.flatMap intC) 1) ∧ Hid (SrcIs w' (.slice Ay n zy) (n) (X.flatMap intC) 1) ∧ Hid (k ≤ X.length ∧ kq + k = X.length)) (X.length) (⟨0, fun us_ => (#[.slice Ax n zx, .slice Ay n zy, undef, undef, .bool false, .bool true, .int .i64 0, .slice Ax n zx, .int .i64 n, .slice Ay n zy, .int .i64 n, .bool true, undef, undef, undef, undef, undef, undef, undef, undef, undef, undef, undef, undef, undef, undef, undef, undef, undef, undef, undef, undef, undef, undef, undef, undef, undef] : Array Value).getD us_ undef, rfl, C0, SA, SB, Lib.hid ⟨by omega, by omega⟩⟩) ?_
  rintro kq _ w5 ⟨k, us, rfl, C0, SA, SB, hk⟩ K6 hK6
  refine sq_ (fun K7 hK7 => ?_)
  rcases at_ways' hk.out.1 with ⟨o, ho0, hlt0⟩ | h
  · have hlt := Lib.hid hlt0
    have ho := Lib.hid ho0
    clear hlt0 ho0
    obtain ⟨a, hsm_a⟩ := src_some SA.out (by have := hlt.out; have := HNL.out; omega)
    subst hsm_a
    obtain ⟨b, hsm_b⟩ := src_some SB.out (by have := hlt.out; have := HNL.out; omega)
    subst hsm_b
    have D17 := Lib.hid (show (k : Int) < (n : Int) by have := hlt.out; have := HNL.out; omega)
    have D23 := Lib.hid D17.out
    have Wk := Lib.hid (show IntKind.i64.wrap ((k : Int) + 1) = ((k + 1 : Nat) : Int) by rw [wr64 (by have := hlt.out; have h7 := HN.out; have h8 := HNL.out; omega)]; omega)
    refine s_ (fun K8 hK8 => ?_)
    refine pu_ (v := .bool true) (y_move rfl (by rfl) (by rfl)) ?_
    (try simp only [zP, zN, zA, zB, zC])
    refine pu_ (v := .bool true) (y_move rfl (by rfl) (by rfl)) ?_
    (try simp only [zP, zN, zA, zB, zC])
    refine pu_ (v := .int .i64 k) (y_move rfl (by rfl) (by rfl)) ?_
    (try simp only [zP, zN, zA, zB, zC])
    refine pu_ (v := .slice (some a) n zx) (y_move rfl (by rfl) (by rfl)) ?_
    (try simp only [zP, zN, zA, zB, zC])
    refine pu_ (v := .int .i64 n) (y_run (by rfl) (fun W => by go_simp)) ?_
    (try simp only [zP, zN, zA, zB, zC])
    refine pu_ (v := .bool true) (y_run (by rfl) (fun W => by have d := D17.out; go_simp)) ?_
    (try simp only [zP, zN, zA, zB, zC])
    refine pu_ (v := .bool true) (y_pick (t := true) (by rfl) rfl (by rfl) (by rfl)) ?_
    (try simp only [zP, zN, zA, zB, zC])
    refine pu_ (v := .bool true) (y_move rfl (by rfl) (by rfl)) ?_
    (try simp only [zP, zN, zA, zB, zC])
    refine pu_ (v := .int .i64 k) (y_move rfl (by rfl) (by rfl)) ?_
    (try simp only [zP, zN, zA, zB, zC])
    refine pu_ (v := .slice (some b) n zy) (y_move rfl (by rfl) (by rfl)) ?_
    (try simp only [zP, zN, zA, zB, zC])
    refine pu_ (v := .int .i64 n) (y_run (by rfl) (fun W => by go_simp)) ?_
    (try simp only [zP, zN, zA, zB, zC])
    refine pu_ (v := .bool true) (y_run (by rfl) (fun W => by have d := D23.out; go_simp)) ?_
    (try simp only [zP, zN, zA, zB, zC])
    refine pu_ (v := .bool true) (y_pick (t := true) (by rfl) rfl (by rfl) (by rfl)) ?_
    (try simp only [zP, zN, zA, zB, zC])
    refine nl_ (hK8 _ _ ?_); clear hK8 K8
    refine wp_cond_true rfl ?_
    refine wp_skip ?_
    refine th_norm (hK7 _ _ ?_); try clear hK7 K7
    refine sq_ (fun K9 hK9 => ?_)
    refine wp_block ?_
    refine startk_ (S := fun W => SrcIs W (.slice (some a) n zx) (n) (X.flatMap intC) 1 ∧ SrcIs W (.slice (some b) n zy) (n) (X.flatMap intC) 1 ∧ True) (ds := []) #[false, false, false, false, false, false, false, false, false, false] (by kernel_rfl) rfl rfl (fun W c => ⟨SA.out.chx c xnin_nil, SB.out.chx c xnin_nil, trivial⟩) (fun w10 C11 hS12 => ?_)
    have C0' := Lib.hid (show Ch [] w w10 from C0.out.trans' C11 (fun x hx => absurd hx (by simp)))
    have SA' := Lib.hid (show SrcIs w10 (.slice (some a) n zx) (n) (X.flatMap intC) 1 from SA.out.chx C11 xnin_nil)
    have SB' := Lib.hid (show SrcIs w10 (.slice (some b) n zy) (n) (X.flatMap intC) 1 from SB.out.chx C11 xnin_nil)
    clear C0 SA SB
    have C0 := C0'; clear C0'
    have SA := SA'; clear SA'
    have SB := SB'; clear SB'
    clear C11
    refine pure_ (i := 0) (N := some 27) (v := .slice (some a) n zx) #[true, false, false, false, false, false, false, false, false, false] rfl rfl (by kernel_rfl) (fun c a w h => hP c a _ _ w h) (y_move rfl (by rfl) (by rfl)) rfl ?_
    (try simp only [zP, zN, zA, zB, zC])
    refine pure_ (i := 1) (N := some 28) (v := .int .i64 k) #[true, true, false, false, false, false, false, false, false, false] rfl rfl (by kernel_rfl) (fun c a w h => hP c a _ _ w h) (y_move rfl (by rfl) (by rfl)) rfl ?_
    (try simp only [zP, zN, zA, zB, zC])
    refine pure_ (i := 2) (N := some 29) (v := .pointer (some (a.add k))) #[true, true, true, false, false, false, false, false, false, false] rfl rfl (by kernel_rfl) (fun c a w h => hP c a _ _ w h) (y_run (by rfl) (fun W => by have d := D17.out; go_simp)) rfl ?_
    (try simp only [zP, zN, zA, zB, zC])
    refine take_ (i := 3) (N := some 30) (v := .int .i64 o) #[true, true, true, true, false, false, false, false, false, false] rfl rfl (by kernel_rfl) (fun c a w h => hP c a _ _ w h) (y_load (p := (a.add k)) rfl (by rfl) (by rfl) (fun W hS => run_load_one (one_at (by have h9 := src_at intC_len hS.1 ho.out; rw [Nat.mul_one] at h9; exact h9)) Tryd.underlying3 rfl)) hS12 rfl ?_
    (try simp only [zP, zN, zA, zB, zC])
    refine pure_ (i := 4) (N := some 31) (v := .slice (some b) n zy) #[true, true, true, true, true, false, false, false, false, false] rfl rfl (by kernel_rfl) (fun c a w h => hP c a _ _ w h) (y_move rfl (by rfl) (by rfl)) rfl ?_
    (try simp only [zP, zN, zA, zB, zC])
    refine pure_ (i := 5) (N := some 32) (v := .int .i64 k) #[true, true, true, true, true, true, false, false, false, false] rfl rfl (by kernel_rfl) (fun c a w h => hP c a _ _ w h) (y_move rfl (by rfl) (by rfl)) rfl ?_
    (try simp only [zP, zN, zA, zB, zC])
    refine pure_ (i := 6) (N := some 33) (v := .pointer (some (b.add k))) #[true, true, true, true, true, true, true, false, false, false] rfl rfl (by kernel_rfl) (fun c a w h => hP c a _ _ w h) (y_run (by rfl) (fun W => by have d := D17.out; go_simp)) rfl ?_
    (try simp only [zP, zN, zA, zB, zC])
    refine take_ (i := 7) (N := some 34) (v := .int .i64 o) #[true, true, true, true, true, true, true, true, false, false] rfl rfl (by kernel_rfl) (fun c a w h => hP c a _ _ w h) (y_load (p := (b.add k)) rfl (by rfl) (by rfl) (fun W hS => run_load_one (one_at (by have h9 := src_at intC_len hS.2.1 ho.out; rw [Nat.mul_one] at h9; exact h9)) Tryd.underlying3 rfl)) hS12 rfl ?_
    (try simp only [zP, zN, zA, zB, zC])
    refine pure_ (i := 8) (N := some 35) (v := .bool true) #[true, true, true, true, true, true, true, true, true, false] rfl rfl (by kernel_rfl) (fun c a w h => hP c a _ _ w h) (y_run (by rfl) (fun W => by first | (go_simp; done) | (go_simp; rfl) | (go_simp; decide))) rfl ?_
    (try simp only [zP, zN, zA, zB, zC])
    refine pure_ (i := 9) (N := some 5) (v := .bool true) #[true, true, true, true, true, true, true, true, true, true] rfl rfl (by kernel_rfl) (fun c a w h => hP c a _ _ w h) (y_assign rfl (by rfl) (by rfl)) rfl ?_
    (try simp only [zP, zN, zA, zB, zC])
    refine done_ (by kernel_rfl) ?_
    refine ib_norm ?_
    refine th_norm (hK9 _ _ ?_); try clear hK9 K9
    refine r_ ?_
    refine pu_ (v := .int .i64 k) (y_move rfl (by rfl) (by rfl)) ?_
    (try simp only [zP, zN, zA, zB, zC])
    refine pu_ (v := .int .i64 (k + 1 : Nat)) (y_run (by rfl) (fun W => by have d := Wk.out; go_simp)) ?_
    (try simp only [zP, zN, zA, zB, zC])
    refine pu_ (v := .int .i64 (k + 1 : Nat)) (y_assign rfl (by rfl) (by rfl)) ?_
    (try simp only [zP, zN, zA, zB, zC])
    refine nl_ ?_
    exact th_norm (hK6 (kq - 1) _ _ (by have := hlt.out; have := hk.out; omega) ⟨k + 1, fun us_ => (#[.slice (some a) n zx, .slice (some b) n zy, us 2, us 3, us 4, .bool true, .int .i64 (k + 1 : Nat), us 7, us 8, us 9, us 10, us 11, .bool true, .bool true, .int .i64 k, .slice (some a) n zx, .int .i64 n, .bool true, .bool true, .bool true, .int .i64 k, .slice (some b) n zy, .int .i64 n, .bool true, .bool true, .int .i64 k, .int .i64 (k + 1 : Nat), .slice (some a) n zx, .int .i64 k, .pointer (some (a.add k)), .int .i64 o, .slice (some b) n zy, .int .i64 k, .pointer (some (b.add k)), .int .i64 o, .bool true, us 36] : Array Value).getD us_ undef, rfl, C0, SA, SB, Lib.hid ⟨by have := hlt.out; omega, by have := hlt.out; have := hk.out; omega⟩⟩)
  · have D17 := Lib.hid (show ¬ (k : Int) < (n : Int) by have := HNL.out; omega)
    clear h
    refine s_ (fun K13 hK13 => ?_)
    refine pu_ (v := .bool true) (y_move rfl (by rfl) (by rfl)) ?_
    (try simp only [zP, zN, zA, zB, zC])
    refine pu_ (v := .bool true) (y_move rfl (by rfl) (by rfl)) ?_
    (try simp only [zP, zN, zA, zB, zC])
    refine pu_ (v := .int .i64 k) (y_move rfl (by rfl) (by rfl)) ?_
    (try simp only [zP, zN, zA, zB, zC])
    refine pu_ (v := .slice Ax n zx) (y_move rfl (by rfl) (by rfl)) ?_
    (try simp only [zP, zN, zA, zB, zC])
    refine pu_ (v := .int .i64 n) (y_run (by rfl) (fun W => by go_simp)) ?_
    (try simp only [zP, zN, zA, zB, zC])
    refine pu_ (v := .bool false) (y_run (by rfl) (fun W => by have d := D17.out; go_simp)) ?_
    (try simp only [zP, zN, zA, zB, zC])
    refine pu_ (v := .bool false) (y_pick (t := true) (by rfl) rfl (by rfl) (by rfl)) ?_
    (try simp only [zP, zN, zA, zB, zC])
    refine pu_ (v := .bool false) (y_move rfl (by rfl) (by rfl)) ?_
    (try simp only [zP, zN, zA, zB, zC])
    refine pu_ (y_off (by rfl)) ?_
    (try simp only [zP, zN, zA, zB, zC])
    refine pu_ (y_off (by rfl)) ?_
    (try simp only [zP, zN, zA, zB, zC])
    refine pu_ (y_off (by rfl)) ?_
    (try simp only [zP, zN, zA, zB, zC])
    refine pu_ (y_off (by rfl)) ?_
    (try simp only [zP, zN, zA, zB, zC])
    refine pu_ (v := .bool false) (y_pick (t := false) (by rfl) rfl (by rfl) (by rfl)) ?_
    (try simp only [zP, zN, zA, zB, zC])
    refine nl_ (hK13 _ _ ?_); clear hK13 K13
    refine wp_cond_false rfl ?_
    refine wp_exit ?_
    refine th_exit ?_
    refine th_exit ?_
    refine ib_exit ?_
    refine th_norm (hK3 _ _ ?_); try clear hK3 K3
    refine s_ (fun K14 hK14 => ?_)
    refine pu_ (v := .bool true) (y_move rfl (by rfl) (by rfl)) ?_
    (try simp only [zP, zN, zA, zB, zC])
    refine pu_ (v := .bool true) (y_assign rfl (by rfl) (by rfl)) ?_
    (try simp only [zP, zN, zA, zB, zC])
    refine nl_ (hK14 _ _ ?_); clear hK14 K14
    refine wp_ret ?_
    refine hQ _ _ _ ?_
    refine bodyPost_ret (res1 rfl (rdv_tmp (v := .bool true) (by rfl))) rfl ?_
    exact ⟨rfl, C0.out⟩
theorem plen_ {c b : Nat} {q : List UInt8} {sh : Bool} (hc : c ≤ 100000) (h : PipeC w c b q sh) : Calls Tryd.prog 39 #[.pointer (some ⟨b, 0, none⟩)] w fun en w' => en = .returned (.int .i64 q.length) ∧ Ch [] w w' := by
  obtain ⟨i, o, hp, hi⟩ := h
  exact (Len_any b q i o sh w hp (by omega)).mono fun e w' ⟨h1, n, h2⟩ => ⟨h1, h2 ▸ chD w n⟩
theorem xbusy_ {A : Option Addr} {z c x la : Nat} {K : List SB} {L : List HS} (HN : Hid (K.length ≤ 100)) (HA : Hid (AllIs w c K L)) (HC : Hid (c ≤ 100000)) (SL : Hid (SrcIs w (.slice A K.length z) (K.length) (K.flatMap ptrC) 1)) (FX : Hid (Blk w x (#[.slice A K.length z, .int .i64 la]) 60)) :
    Calls Tryd.prog 21 #[.pointer (some ⟨x, 0, none⟩)] w fun en w' => ∃ v', en = .returned v' ∧ OwnS w' w.heap.size 3 1 v' (L.filter busyS).length (((L.filter busyS).map HS.id).flatMap intC) ∧ Ch [] w w' := by
  have C0 := Lib.hid (Ch.refl [] w)
  obtain ⟨i3, I3⟩ := Info.of info3
  go_enter Tryd.func21, Tryd.ntmps21
  refine q_ (fun Q hQ hP => ?_)
  refine s_ (fun K1 hK1 => ?_)
  refine pu_ (v := .slice none 0 0) (y_assign rfl (by rfl) (by rfl)) ?_
  (try simp only [zP, zN, zA, zB, zC])
  refine nl_ (hK1 _ _ ?_); clear hK1 K1
  refine s_ (fun K2 hK2 => ?_)
  refine pu_ (v := .slice none 0 0) (y_assign rfl (by rfl) (by rfl)) ?_
  (try simp only [zP, zN, zA, zB, zC])
  refine nl_ (hK2 _ _ ?_); clear hK2 K2
  refine sq_ (fun K3 hK3 => ?_)
  refine s_ (fun K4 hK4 => ?_)
  refine pu_ (v := .pointer (some ⟨x, 0, none⟩)) (y_move rfl (by rfl) (by rfl)) ?_
  (try simp only [zP, zN, zA, zB, zC])
  refine pu_ (v := .pointer (some ⟨x, 0, none⟩)) (y_nil rfl (by rfl) (by rfl)) ?_
  (try simp only [zP, zN, zA, zB, zC])
  refine pu_ (v := .pointer (some ⟨x, 0, none⟩)) (y_run (by rfl) (fun W => by go_simp)) ?_
  (try simp only [zP, zN, zA, zB, zC])
  refine ld_ (v := .slice A K.length z) rfl (by rfl) (by rfl) (run_load_one ((FX.out.cell 0).trans rfl) Tryd.underlying58 rfl) ?_
  (try simp only [zP, zN, zA, zB, zC])
  refine pu_ (v := .int .i64 K.length) (y_run (by rfl) (fun W => by go_simp)) ?_
  (try simp only [zP, zN, zA, zB, zC])
  refine pu_ (v := .int .i64 0) (y_move rfl (by rfl) (by rfl)) ?_
  (try simp only [zP, zN, zA, zB, zC])
  refine nl_ (hK4 _ _ ?_); clear hK4 K4
  refine wp_block ?_
  have OG0 := Lib.hid (show OwnS w w.heap.size 3 1 (.slice none 0 0) ((L.take 0).filter busyS).length ((((L.take 0).filter busyS).map HS.id).flatMap intC) from by rw [List.take_zero]; exact OwnS.nil _ _ _ _ _)
  refine loopk_ (fun (kq : Nat) (a' : Act) (w' : World) => ∃ (k : Nat), ∃ (vg : Value), ∃ (us : Nat → Value), a' = ⟨#[.pointer (some ⟨x, 0, none⟩), us 1, us 2, vg, us 4, us 5, us 6, us 7, us 8, .slice A K.length z, .int .i64 K.length, .int .i64 k, us 12, us 13, us 14, us 15, us 16, us 17, us 18, us 19, us 20, us 21, us 22, us 23, us 24, us 25, us 26, us 27, us 28, us 29, us 30, us 31, us 32, us 33, us 34, us 35, us 36, us 37, us 38, us 39, us 40, us 41, us 42, us 43], []⟩ ∧ Hid (Ch [] w w') ∧ Hid (SrcIs w' (.slice A K.length z) (K.length) (K.flatMap ptrC) 1) ∧ Hid (OwnS w' w.heap.size 3 1 (vg) (((L.take k).filter busyS).length) ((((L.take k).filter busyS).map HS.id).flatMap intC)) ∧ Hid (k ≤ K.length ∧ kq + k = K.length) ∧ Hid (∀ k, k ∈ xb (.slice A K.length z) → k ∉ rl vg)) (K.length) (⟨0, .slice none 0 0, fun us_ => (#[.pointer (some ⟨x, 0, none⟩), undef, .slice none 0 0, .slice none 0 0, undef, undef, .pointer (some ⟨x, 0, none⟩), .pointer (some ⟨x, 0, none⟩), .pointer (some ⟨x, 0, none⟩), .slice A K.length z, .int .i64 K.length, .int .i64 0, undef, undef, undef, undef, undef, undef, undef, undef, undef, undef, undef, undef, undef, undef, undef, undef, undef, undef, undef, undef, undef, undef, undef, undef, undef, undef, undef, undef, undef, undef, undef, undef] : Array Value).getD us_ undef, rfl, C0, SL, OG0, Lib.hid ⟨by omega, by omega⟩, Lib.hid (fun k _ hm => absurd hm (by simp [rl]))⟩) ?_
  rintro kq _ w5 ⟨k, vg, us, rfl, C0, SL, OG, hk, hxg⟩ K6 hK6
  rcases at_ways' hk.out.1 with ⟨kb, hk0, hlt0⟩ | h; obtain ⟨s, ho0, hsi0⟩ := HA.out.get hk0; rcases (show s.op = false ∨ (s.op = true ∧ s.qi.length = 0) ∨ (s.op = true ∧ 0 < s.qi.length ∧ 64 ≤ s.qo.length) ∨ (s.op = true ∧ 0 < s.qi.length ∧ s.qo.length < 64) by rcases Bool.eq_false_or_eq_true s.op with h9 | h9; rotate_left; exact .inl h9; rcases (show s.qi.length = 0 ∨ (0 < s.qi.length ∧ 64 ≤ s.qo.length) ∨ (0 < s.qi.length ∧ s.qo.length < 64) by omega) with h8 | h8 | h8; exact .inr (.inl ⟨h9, h8⟩); exact .inr (.inr (.inl ⟨h9, h8⟩)); exact .inr (.inr (.inr ⟨h9, h8⟩))) with hc | hc | hc | hc
  · have HK := Lib.hid hk0
    have HSI := Lib.hid (hsi0.ch C0.out (by simp))
    clear hk0 hsi0
    have hlt := Lib.hid hlt0
    have HS_ := Lib.hid ho0
    have HCC := Lib.hid hc
    clear hc hlt0 ho0
    have HOP := Lib.hid (show s.op = false from HCC.out)
    have HBS := Lib.hid (show busyS s = false from by unfold busyS; rw [HOP.out]; rfl)
    have HFL := Lib.hid (filt_no HS_.out HBS.out)
    have HFB := Lib.hid (filt_len busyS L k)
    have FS := Lib.hid (show Blk w5 kb.b (#[.int .i64 s.id, .int .i64 s.box, .int .i64 s.ctr, .bool false, .pointer (some ⟨kb.bi, 0, none⟩), .pointer (some ⟨kb.bo, 0, none⟩)]) 65 from by have h9 := HSI.out.blk; unfold sessA at h9; rw [HOP.out] at h9; exact h9)
    have PI := Lib.hid (show PipeC w5 c kb.bi s.qi (!false) from by have h9 := HSI.out.pin; rw [HOP.out] at h9; exact h9)
    have PO := Lib.hid HSI.out.pout
    obtain ⟨a, hsm_a⟩ := src_some SL.out (by have := hlt.out; omega)
    subst hsm_a
    have D12 := Lib.hid (show (k : Int) < (K.length : Int) by have := hlt.out; omega)
    have Wk := Lib.hid (show IntKind.i64.wrap ((k : Int) + 1) = ((k + 1 : Nat) : Int) by rw [wr64 (by have := hlt.out; have h7 := HN.out; omega)]; omega)
    have HLK := Lib.hid HA.out.len
    refine s_ (fun K7 hK7 => ?_)
    refine pu_ (v := .bool true) (y_run (by rfl) (fun W => by have d := D12.out; go_simp)) ?_
    (try simp only [zP, zN, zA, zB, zC])
    refine nl_ (hK7 _ _ ?_); clear hK7 K7
    refine sq_ (fun K8 hK8 => ?_)
    refine wp_cond_true rfl ?_
    refine wp_skip ?_
    refine th_norm (hK8 _ _ ?_); try clear hK8 K8
    refine sq_ (fun K9 hK9 => ?_)
    refine wp_block ?_
    refine s_ (fun K10 hK10 => ?_)
    refine pu_ (v := .pointer (some (a.add k))) (y_run (by rfl) (fun W => by have d := D12.out; go_simp)) ?_
    (try simp only [zP, zN, zA, zB, zC])
    refine ld_ (v := .pointer (some ⟨kb.b, 0, none⟩)) rfl (by rfl) (by rfl) (run_load_one (one_at (by have h9 := src_at ptrC_len SL.out HK.out; rw [Nat.mul_one] at h9; exact h9)) Tryd.underlying61 rfl) ?_
    (try simp only [zP, zN, zA, zB, zC])
    refine pu_ (v := .pointer (some ⟨kb.b, 0, none⟩)) (y_assign rfl (by rfl) (by rfl)) ?_
    (try simp only [zP, zN, zA, zB, zC])
    refine nl_ (hK10 _ _ ?_); clear hK10 K10
    refine s_ (fun K11 hK11 => ?_)
    refine pu_ (v := .pointer (some ⟨kb.b, 0, none⟩)) (y_move rfl (by rfl) (by rfl)) ?_
    (try simp only [zP, zN, zA, zB, zC])
    refine pu_ (v := .pointer (some ⟨kb.b, 0, none⟩)) (y_nil rfl (by rfl) (by rfl)) ?_
    (try simp only [zP, zN, zA, zB, zC])
    refine pu_ (v := .pointer (some ⟨kb.b, 3, none⟩)) (y_run (by rfl) (fun W => by go_simp)) ?_
    (try simp only [zP, zN, zA, zB, zC])
    refine ld_ (v := .bool false) rfl (by rfl) (by rfl) (run_load_one ((FS.out.cell 3).trans rfl) Tryd.underlying4 rfl) ?_
    (try simp only [zP, zN, zA, zB, zC])
    refine pu_ (v := .bool false) (y_move rfl (by rfl) (by rfl)) ?_
    (try simp only [zP, zN, zA, zB, zC])
    refine pu_ (y_off (by rfl)) ?_
    (try simp only [zP, zN, zA, zB, zC])
    refine pu_ (y_off (by rfl)) ?_
    (try simp only [zP, zN, zA, zB, zC])
    refine pu_ (y_off (by rfl)) ?_
    (try simp only [zP, zN, zA, zB, zC])
    refine pu_ (y_off (by rfl)) ?_
    (try simp only [zP, zN, zA, zB, zC])
    refine pu_ (y_off (by rfl)) ?_
    (try simp only [zP, zN, zA, zB, zC])
    refine pu_ (y_off (by rfl)) ?_
    (try simp only [zP, zN, zA, zB, zC])
    refine pu_ (v := .bool false) (y_pick (t := false) (by rfl) rfl (by rfl) (by rfl)) ?_
    (try simp only [zP, zN, zA, zB, zC])
    refine pu_ (v := .bool false) (y_move rfl (by rfl) (by rfl)) ?_
    (try simp only [zP, zN, zA, zB, zC])
    refine pu_ (y_off (by rfl)) ?_
    (try simp only [zP, zN, zA, zB, zC])
    refine pu_ (y_off (by rfl)) ?_
    (try simp only [zP, zN, zA, zB, zC])
    refine pu_ (y_off (by rfl)) ?_
    (try simp only [zP, zN, zA, zB, zC])
    refine pu_ (y_off (by rfl)) ?_
    (try simp only [zP, zN, zA, zB, zC])
    refine pu_ (y_off (by rfl)) ?_
    (try simp only [zP, zN, zA, zB, zC])
    refine pu_ (y_off (by rfl)) ?_
    (try simp only [zP, zN, zA, zB, zC])
    refine pu_ (v := .bool false) (y_pick (t := false) (by rfl) rfl (by rfl) (by rfl)) ?_
    (try simp only [zP, zN, zA, zB, zC])
    refine nl_ (hK11 _ _ ?_); clear hK11 K11
    refine wp_cond_false rfl ?_
    refine wp_skip ?_
    refine ib_norm ?_
    refine th_norm (hK9 _ _ ?_); try clear hK9 K9
    refine r_ ?_
    refine pu_ (v := .int .i64 (k + 1 : Nat)) (y_run (by rfl) (fun W => by have d := Wk.out; go_simp)) ?_
    (try simp only [zP, zN, zA, zB, zC])
    refine pu_ (v := .int .i64 (k + 1 : Nat)) (y_move rfl (by rfl) (by rfl)) ?_
    (try simp only [zP, zN, zA, zB, zC])
    refine nl_ ?_
    exact th_norm (hK6 (kq - 1) _ _ (by have := hlt.out; have := hk.out; omega) ⟨k + 1, vg, fun us_ => (#[.pointer (some ⟨x, 0, none⟩), us 1, us 2, vg, us 4, .pointer (some ⟨kb.b, 0, none⟩), us 6, us 7, us 8, .slice (some a) K.length z, .int .i64 K.length, .int .i64 (k + 1 : Nat), .bool true, .pointer (some (a.add k)), .pointer (some ⟨kb.b, 0, none⟩), .pointer (some ⟨kb.b, 0, none⟩), .pointer (some ⟨kb.b, 0, none⟩), .pointer (some ⟨kb.b, 3, none⟩), .bool false, .bool false, undef, undef, undef, undef, undef, undef, .bool false, .bool false, undef, undef, undef, undef, undef, undef, .bool false, us 35, us 36, us 37, us 38, us 39, us 40, us 41, .int .i64 (k + 1 : Nat), us 43] : Array Value).getD us_ undef, rfl, C0, SL, Lib.hid (by have h9 := OG.out; rw [HFL.out]; exact h9), Lib.hid ⟨by have := hlt.out; omega, by have := hlt.out; have := hk.out; omega⟩, Lib.hid (hxg.out)⟩)
  · have HK := Lib.hid hk0
    have HSI := Lib.hid (hsi0.ch C0.out (by simp))
    clear hk0 hsi0
    have hlt := Lib.hid hlt0
    have HS_ := Lib.hid ho0
    have HCC := Lib.hid hc
    clear hc hlt0 ho0
    have HOP := Lib.hid (show s.op = true from HCC.out.1)
    have HBS := Lib.hid (show busyS s = false from by unfold busyS; rw [HOP.out]; have h9 := HCC.out; simp; omega)
    have HFL := Lib.hid (filt_no HS_.out HBS.out)
    have HFB := Lib.hid (filt_len busyS L k)
    have FS := Lib.hid (show Blk w5 kb.b (#[.int .i64 s.id, .int .i64 s.box, .int .i64 s.ctr, .bool true, .pointer (some ⟨kb.bi, 0, none⟩), .pointer (some ⟨kb.bo, 0, none⟩)]) 65 from by have h9 := HSI.out.blk; unfold sessA at h9; rw [HOP.out] at h9; exact h9)
    have PI := Lib.hid (show PipeC w5 c kb.bi s.qi (!true) from by have h9 := HSI.out.pin; rw [HOP.out] at h9; exact h9)
    have PO := Lib.hid HSI.out.pout
    obtain ⟨a, hsm_a⟩ := src_some SL.out (by have := hlt.out; omega)
    subst hsm_a
    have D12 := Lib.hid (show (k : Int) < (K.length : Int) by have := hlt.out; omega)
    have Wk := Lib.hid (show IntKind.i64.wrap ((k : Int) + 1) = ((k + 1 : Nat) : Int) by rw [wr64 (by have := hlt.out; have h7 := HN.out; omega)]; omega)
    have D25 := Lib.hid (show ¬ 0 < s.qi.length by have := HCC.out; omega)
    have HLK := Lib.hid HA.out.len
    refine s_ (fun K12 hK12 => ?_)
    refine pu_ (v := .bool true) (y_run (by rfl) (fun W => by have d := D12.out; go_simp)) ?_
    (try simp only [zP, zN, zA, zB, zC])
    refine nl_ (hK12 _ _ ?_); clear hK12 K12
    refine sq_ (fun K13 hK13 => ?_)
    refine wp_cond_true rfl ?_
    refine wp_skip ?_
    refine th_norm (hK13 _ _ ?_); try clear hK13 K13
    refine sq_ (fun K14 hK14 => ?_)
    refine wp_block ?_
    refine s_ (fun K15 hK15 => ?_)
    refine pu_ (v := .pointer (some (a.add k))) (y_run (by rfl) (fun W => by have d := D12.out; go_simp)) ?_
    (try simp only [zP, zN, zA, zB, zC])
    refine ld_ (v := .pointer (some ⟨kb.b, 0, none⟩)) rfl (by rfl) (by rfl) (run_load_one (one_at (by have h9 := src_at ptrC_len SL.out HK.out; rw [Nat.mul_one] at h9; exact h9)) Tryd.underlying61 rfl) ?_
    (try simp only [zP, zN, zA, zB, zC])
    refine pu_ (v := .pointer (some ⟨kb.b, 0, none⟩)) (y_assign rfl (by rfl) (by rfl)) ?_
    (try simp only [zP, zN, zA, zB, zC])
    refine nl_ (hK15 _ _ ?_); clear hK15 K15
    refine s_ (fun K16 hK16 => ?_)
    refine pu_ (v := .pointer (some ⟨kb.b, 0, none⟩)) (y_move rfl (by rfl) (by rfl)) ?_
    (try simp only [zP, zN, zA, zB, zC])
    refine pu_ (v := .pointer (some ⟨kb.b, 0, none⟩)) (y_nil rfl (by rfl) (by rfl)) ?_
    (try simp only [zP, zN, zA, zB, zC])
    refine pu_ (v := .pointer (some ⟨kb.b, 3, none⟩)) (y_run (by rfl) (fun W => by go_simp)) ?_
    (try simp only [zP, zN, zA, zB, zC])
    refine ld_ (v := .bool true) rfl (by rfl) (by rfl) (run_load_one ((FS.out.cell 3).trans rfl) Tryd.underlying4 rfl) ?_
    (try simp only [zP, zN, zA, zB, zC])
    refine pu_ (v := .bool true) (y_move rfl (by rfl) (by rfl)) ?_
    (try simp only [zP, zN, zA, zB, zC])
    refine pu_ (v := .pointer (some ⟨kb.b, 0, none⟩)) (y_move rfl (by rfl) (by rfl)) ?_
    (try simp only [zP, zN, zA, zB, zC])
    refine pu_ (v := .pointer (some ⟨kb.b, 0, none⟩)) (y_nil rfl (by rfl) (by rfl)) ?_
    (try simp only [zP, zN, zA, zB, zC])
    refine pu_ (v := .pointer (some ⟨kb.b, 4, none⟩)) (y_run (by rfl) (fun W => by go_simp)) ?_
    (try simp only [zP, zN, zA, zB, zC])
    refine ld_ (v := .pointer (some ⟨kb.bi, 0, none⟩)) rfl (by rfl) (by rfl) (run_load_one ((FS.out.cell 4).trans rfl) Tryd.underlying62 rfl) ?_
    (try simp only [zP, zN, zA, zB, zC])
    refine ef_ (fun K17 hK17 => ?_)
    refine e_call Tryd.func39 (by kernel_rfl) rfl #[.pointer (some ⟨kb.bi, 0, none⟩)] (by rfl) rfl rfl (by first | rfl | (simp only [List.map_toArray, List.map_cons, List.map_nil]; first | done | rfl)) ((plen_ HC.out PI.out)) ?_
    rintro en w19 ⟨rfl, cc18⟩
    refine ⟨_, rfl, ?_⟩
    have C0' := Lib.hid (show Ch [] w w19 from C0.out.trans' cc18 (fun x hx => absurd hx (by simp)))
    have SL' := Lib.hid (show SrcIs w19 (.slice (some a) K.length z) (K.length) (K.flatMap ptrC) 1 from SL.out.chx cc18 xnin_nil)
    have OG' := Lib.hid (show OwnS w19 w.heap.size 3 1 (vg) (((L.take k).filter busyS).length) ((((L.take k).filter busyS).map HS.id).flatMap intC) from OG.out.ch cc18 rnin_nil)
    have FS' := Lib.hid (show Blk w19 kb.b (#[.int .i64 s.id, .int .i64 s.box, .int .i64 s.ctr, .bool true, .pointer (some ⟨kb.bi, 0, none⟩), .pointer (some ⟨kb.bo, 0, none⟩)]) 65 from cc18.blk FS.out nin_nil)
    have PI' := Lib.hid (show PipeC w19 (c) (kb.bi) (s.qi) (!true) from PI.out.ch cc18 nin_nil)
    have PO' := Lib.hid (show PipeC w19 (c) (kb.bo) (s.qo) (false) from PO.out.ch cc18 nin_nil)
    clear C0 SL OG FS PI PO
    have C0 := C0'; clear C0'
    have SL := SL'; clear SL'
    have OG := OG'; clear OG'
    have FS := FS'; clear FS'
    have PI := PI'; clear PI'
    have PO := PO'; clear PO'
    clear cc18
    refine hK17 _ _ ?_; clear hK17 K17
    (try simp only [zP, zN, zA, zB, zC])
    refine pu_ (v := .bool false) (y_run (by rfl) (fun W => by have d := D25.out; go_simp)) ?_
    (try simp only [zP, zN, zA, zB, zC])
    refine pu_ (v := .bool false) (y_pick (t := true) (by rfl) rfl (by rfl) (by rfl)) ?_
    (try simp only [zP, zN, zA, zB, zC])
    refine pu_ (v := .bool false) (y_move rfl (by rfl) (by rfl)) ?_
    (try simp only [zP, zN, zA, zB, zC])
    refine pu_ (y_off (by rfl)) ?_
    (try simp only [zP, zN, zA, zB, zC])
    refine pu_ (y_off (by rfl)) ?_
    (try simp only [zP, zN, zA, zB, zC])
    refine pu_ (y_off (by rfl)) ?_
    (try simp only [zP, zN, zA, zB, zC])
    refine pu_ (y_off (by rfl)) ?_
    (try simp only [zP, zN, zA, zB, zC])
    refine pu_ (y_off (by rfl)) ?_
    (try simp only [zP, zN, zA, zB, zC])
    refine pu_ (y_off (by rfl)) ?_
    (try simp only [zP, zN, zA, zB, zC])
    refine pu_ (v := .bool false) (y_pick (t := false) (by rfl) rfl (by rfl) (by rfl)) ?_
    (try simp only [zP, zN, zA, zB, zC])
    refine nl_ (hK16 _ _ ?_); clear hK16 K16
    refine wp_cond_false rfl ?_
    refine wp_skip ?_
    refine ib_norm ?_
    refine th_norm (hK14 _ _ ?_); try clear hK14 K14
    refine r_ ?_
    refine pu_ (v := .int .i64 (k + 1 : Nat)) (y_run (by rfl) (fun W => by have d := Wk.out; go_simp)) ?_
    (try simp only [zP, zN, zA, zB, zC])
    refine pu_ (v := .int .i64 (k + 1 : Nat)) (y_move rfl (by rfl) (by rfl)) ?_
    (try simp only [zP, zN, zA, zB, zC])
    refine nl_ ?_
    exact th_norm (hK6 (kq - 1) _ _ (by have := hlt.out; have := hk.out; omega) ⟨k + 1, vg, fun us_ => (#[.pointer (some ⟨x, 0, none⟩), us 1, us 2, vg, us 4, .pointer (some ⟨kb.b, 0, none⟩), us 6, us 7, us 8, .slice (some a) K.length z, .int .i64 K.length, .int .i64 (k + 1 : Nat), .bool true, .pointer (some (a.add k)), .pointer (some ⟨kb.b, 0, none⟩), .pointer (some ⟨kb.b, 0, none⟩), .pointer (some ⟨kb.b, 0, none⟩), .pointer (some ⟨kb.b, 3, none⟩), .bool true, .bool true, .pointer (some ⟨kb.b, 0, none⟩), .pointer (some ⟨kb.b, 0, none⟩), .pointer (some ⟨kb.b, 4, none⟩), .pointer (some ⟨kb.bi, 0, none⟩), .int .i64 s.qi.length, .bool false, .bool false, .bool false, undef, undef, undef, undef, undef, undef, .bool false, us 35, us 36, us 37, us 38, us 39, us 40, us 41, .int .i64 (k + 1 : Nat), us 43] : Array Value).getD us_ undef, rfl, C0, SL, Lib.hid (by have h9 := OG.out; rw [HFL.out]; exact h9), Lib.hid ⟨by have := hlt.out; omega, by have := hlt.out; have := hk.out; omega⟩, Lib.hid (hxg.out)⟩)
  · have HK := Lib.hid hk0
    have HSI := Lib.hid (hsi0.ch C0.out (by simp))
    clear hk0 hsi0
    have hlt := Lib.hid hlt0
    have HS_ := Lib.hid ho0
    have HCC := Lib.hid hc
    clear hc hlt0 ho0
    have HOP := Lib.hid (show s.op = true from HCC.out.1)
    have HBS := Lib.hid (show busyS s = false from by unfold busyS; rw [HOP.out]; have h9 := HCC.out; simp; omega)
    have HFL := Lib.hid (filt_no HS_.out HBS.out)
    have HFB := Lib.hid (filt_len busyS L k)
    have FS := Lib.hid (show Blk w5 kb.b (#[.int .i64 s.id, .int .i64 s.box, .int .i64 s.ctr, .bool true, .pointer (some ⟨kb.bi, 0, none⟩), .pointer (some ⟨kb.bo, 0, none⟩)]) 65 from by have h9 := HSI.out.blk; unfold sessA at h9; rw [HOP.out] at h9; exact h9)
    have PI := Lib.hid (show PipeC w5 c kb.bi s.qi (!true) from by have h9 := HSI.out.pin; rw [HOP.out] at h9; exact h9)
    have PO := Lib.hid HSI.out.pout
    obtain ⟨a, hsm_a⟩ := src_some SL.out (by have := hlt.out; omega)
    subst hsm_a
    have D12 := Lib.hid (show (k : Int) < (K.length : Int) by have := hlt.out; omega)
    have Wk := Lib.hid (show IntKind.i64.wrap ((k : Int) + 1) = ((k + 1 : Nat) : Int) by rw [wr64 (by have := hlt.out; have h7 := HN.out; omega)]; omega)
    have D25 := Lib.hid (show  0 < s.qi.length by have := HCC.out; omega)
    have D33 := Lib.hid (show ¬ 0 < room s.qo false by have := HCC.out; unfold room; simp only [Bool.false_eq_true, if_false]; omega)
    have HLK := Lib.hid HA.out.len
    refine s_ (fun K20 hK20 => ?_)
    refine pu_ (v := .bool true) (y_run (by rfl) (fun W => by have d := D12.out; go_simp)) ?_
    (try simp only [zP, zN, zA, zB, zC])
    refine nl_ (hK20 _ _ ?_); clear hK20 K20
    refine sq_ (fun K21 hK21 => ?_)
    refine wp_cond_true rfl ?_
    refine wp_skip ?_
    refine th_norm (hK21 _ _ ?_); try clear hK21 K21
    refine sq_ (fun K22 hK22 => ?_)
    refine wp_block ?_
    refine s_ (fun K23 hK23 => ?_)
    refine pu_ (v := .pointer (some (a.add k))) (y_run (by rfl) (fun W => by have d := D12.out; go_simp)) ?_
    (try simp only [zP, zN, zA, zB, zC])
    refine ld_ (v := .pointer (some ⟨kb.b, 0, none⟩)) rfl (by rfl) (by rfl) (run_load_one (one_at (by have h9 := src_at ptrC_len SL.out HK.out; rw [Nat.mul_one] at h9; exact h9)) Tryd.underlying61 rfl) ?_
    (try simp only [zP, zN, zA, zB, zC])
    refine pu_ (v := .pointer (some ⟨kb.b, 0, none⟩)) (y_assign rfl (by rfl) (by rfl)) ?_
    (try simp only [zP, zN, zA, zB, zC])
    refine nl_ (hK23 _ _ ?_); clear hK23 K23
    refine s_ (fun K24 hK24 => ?_)
    refine pu_ (v := .pointer (some ⟨kb.b, 0, none⟩)) (y_move rfl (by rfl) (by rfl)) ?_
    (try simp only [zP, zN, zA, zB, zC])
    refine pu_ (v := .pointer (some ⟨kb.b, 0, none⟩)) (y_nil rfl (by rfl) (by rfl)) ?_
    (try simp only [zP, zN, zA, zB, zC])
    refine pu_ (v := .pointer (some ⟨kb.b, 3, none⟩)) (y_run (by rfl) (fun W => by go_simp)) ?_
    (try simp only [zP, zN, zA, zB, zC])
    refine ld_ (v := .bool true) rfl (by rfl) (by rfl) (run_load_one ((FS.out.cell 3).trans rfl) Tryd.underlying4 rfl) ?_
    (try simp only [zP, zN, zA, zB, zC])
    refine pu_ (v := .bool true) (y_move rfl (by rfl) (by rfl)) ?_
    (try simp only [zP, zN, zA, zB, zC])
    refine pu_ (v := .pointer (some ⟨kb.b, 0, none⟩)) (y_move rfl (by rfl) (by rfl)) ?_
    (try simp only [zP, zN, zA, zB, zC])
    refine pu_ (v := .pointer (some ⟨kb.b, 0, none⟩)) (y_nil rfl (by rfl) (by rfl)) ?_
    (try simp only [zP, zN, zA, zB, zC])
    refine pu_ (v := .pointer (some ⟨kb.b, 4, none⟩)) (y_run (by rfl) (fun W => by go_simp)) ?_
    (try simp only [zP, zN, zA, zB, zC])
    refine ld_ (v := .pointer (some ⟨kb.bi, 0, none⟩)) rfl (by rfl) (by rfl) (run_load_one ((FS.out.cell 4).trans rfl) Tryd.underlying62 rfl) ?_
    (try simp only [zP, zN, zA, zB, zC])
    refine ef_ (fun K25 hK25 => ?_)
    refine e_call Tryd.func39 (by kernel_rfl) rfl #[.pointer (some ⟨kb.bi, 0, none⟩)] (by rfl) rfl rfl (by first | rfl | (simp only [List.map_toArray, List.map_cons, List.map_nil]; first | done | rfl)) ((plen_ HC.out PI.out)) ?_
    rintro en w27 ⟨rfl, cc26⟩
    refine ⟨_, rfl, ?_⟩
    have C0' := Lib.hid (show Ch [] w w27 from C0.out.trans' cc26 (fun x hx => absurd hx (by simp)))
    have SL' := Lib.hid (show SrcIs w27 (.slice (some a) K.length z) (K.length) (K.flatMap ptrC) 1 from SL.out.chx cc26 xnin_nil)
    have OG' := Lib.hid (show OwnS w27 w.heap.size 3 1 (vg) (((L.take k).filter busyS).length) ((((L.take k).filter busyS).map HS.id).flatMap intC) from OG.out.ch cc26 rnin_nil)
    have FS' := Lib.hid (show Blk w27 kb.b (#[.int .i64 s.id, .int .i64 s.box, .int .i64 s.ctr, .bool true, .pointer (some ⟨kb.bi, 0, none⟩), .pointer (some ⟨kb.bo, 0, none⟩)]) 65 from cc26.blk FS.out nin_nil)
    have PI' := Lib.hid (show PipeC w27 (c) (kb.bi) (s.qi) (!true) from PI.out.ch cc26 nin_nil)
    have PO' := Lib.hid (show PipeC w27 (c) (kb.bo) (s.qo) (false) from PO.out.ch cc26 nin_nil)
    clear C0 SL OG FS PI PO
    have C0 := C0'; clear C0'
    have SL := SL'; clear SL'
    have OG := OG'; clear OG'
    have FS := FS'; clear FS'
    have PI := PI'; clear PI'
    have PO := PO'; clear PO'
    clear cc26
    refine hK25 _ _ ?_; clear hK25 K25
    (try simp only [zP, zN, zA, zB, zC])
    refine pu_ (v := .bool true) (y_run (by rfl) (fun W => by have d := D25.out; go_simp)) ?_
    (try simp only [zP, zN, zA, zB, zC])
    refine pu_ (v := .bool true) (y_pick (t := true) (by rfl) rfl (by rfl) (by rfl)) ?_
    (try simp only [zP, zN, zA, zB, zC])
    refine pu_ (v := .bool true) (y_move rfl (by rfl) (by rfl)) ?_
    (try simp only [zP, zN, zA, zB, zC])
    refine pu_ (v := .pointer (some ⟨kb.b, 0, none⟩)) (y_move rfl (by rfl) (by rfl)) ?_
    (try simp only [zP, zN, zA, zB, zC])
    refine pu_ (v := .pointer (some ⟨kb.b, 0, none⟩)) (y_nil rfl (by rfl) (by rfl)) ?_
    (try simp only [zP, zN, zA, zB, zC])
    refine pu_ (v := .pointer (some ⟨kb.b, 5, none⟩)) (y_run (by rfl) (fun W => by go_simp)) ?_
    (try simp only [zP, zN, zA, zB, zC])
    refine ld_ (v := .pointer (some ⟨kb.bo, 0, none⟩)) rfl (by rfl) (by rfl) (run_load_one ((FS.out.cell 5).trans rfl) Tryd.underlying62 rfl) ?_
    (try simp only [zP, zN, zA, zB, zC])
    refine ef_ (fun K28 hK28 => ?_)
    refine e_call Tryd.func28 (by kernel_rfl) rfl #[.pointer (some ⟨kb.bo, 0, none⟩)] (by rfl) rfl rfl (by first | rfl | (simp only [List.map_toArray, List.map_cons, List.map_nil]; first | done | rfl)) ((proom_ HC.out PO.out)) ?_
    rintro en w30 ⟨rfl, cc29⟩
    refine ⟨_, rfl, ?_⟩
    have C0' := Lib.hid (show Ch [] w w30 from C0.out.trans' cc29 (fun x hx => absurd hx (by simp)))
    have SL' := Lib.hid (show SrcIs w30 (.slice (some a) K.length z) (K.length) (K.flatMap ptrC) 1 from SL.out.chx cc29 xnin_nil)
    have OG' := Lib.hid (show OwnS w30 w.heap.size 3 1 (vg) (((L.take k).filter busyS).length) ((((L.take k).filter busyS).map HS.id).flatMap intC) from OG.out.ch cc29 rnin_nil)
    have FS' := Lib.hid (show Blk w30 kb.b (#[.int .i64 s.id, .int .i64 s.box, .int .i64 s.ctr, .bool true, .pointer (some ⟨kb.bi, 0, none⟩), .pointer (some ⟨kb.bo, 0, none⟩)]) 65 from cc29.blk FS.out nin_nil)
    have PI' := Lib.hid (show PipeC w30 (c) (kb.bi) (s.qi) (!true) from PI.out.ch cc29 nin_nil)
    have PO' := Lib.hid (show PipeC w30 (c) (kb.bo) (s.qo) (false) from PO.out.ch cc29 nin_nil)
    clear C0 SL OG FS PI PO
    have C0 := C0'; clear C0'
    have SL := SL'; clear SL'
    have OG := OG'; clear OG'
    have FS := FS'; clear FS'
    have PI := PI'; clear PI'
    have PO := PO'; clear PO'
    clear cc29
    refine hK28 _ _ ?_; clear hK28 K28
    (try simp only [zP, zN, zA, zB, zC])
    refine pu_ (v := .bool false) (y_run (by rfl) (fun W => by have d := D33.out; go_simp)) ?_
    (try simp only [zP, zN, zA, zB, zC])
    refine pu_ (v := .bool false) (y_pick (t := true) (by rfl) rfl (by rfl) (by rfl)) ?_
    (try simp only [zP, zN, zA, zB, zC])
    refine nl_ (hK24 _ _ ?_); clear hK24 K24
    refine wp_cond_false rfl ?_
    refine wp_skip ?_
    refine ib_norm ?_
    refine th_norm (hK22 _ _ ?_); try clear hK22 K22
    refine r_ ?_
    refine pu_ (v := .int .i64 (k + 1 : Nat)) (y_run (by rfl) (fun W => by have d := Wk.out; go_simp)) ?_
    (try simp only [zP, zN, zA, zB, zC])
    refine pu_ (v := .int .i64 (k + 1 : Nat)) (y_move rfl (by rfl) (by rfl)) ?_
    (try simp only [zP, zN, zA, zB, zC])
    refine nl_ ?_
    exact th_norm (hK6 (kq - 1) _ _ (by have := hlt.out; have := hk.out; omega) ⟨k + 1, vg, fun us_ => (#[.pointer (some ⟨x, 0, none⟩), us 1, us 2, vg, us 4, .pointer (some ⟨kb.b, 0, none⟩), us 6, us 7, us 8, .slice (some a) K.length z, .int .i64 K.length, .int .i64 (k + 1 : Nat), .bool true, .pointer (some (a.add k)), .pointer (some ⟨kb.b, 0, none⟩), .pointer (some ⟨kb.b, 0, none⟩), .pointer (some ⟨kb.b, 0, none⟩), .pointer (some ⟨kb.b, 3, none⟩), .bool true, .bool true, .pointer (some ⟨kb.b, 0, none⟩), .pointer (some ⟨kb.b, 0, none⟩), .pointer (some ⟨kb.b, 4, none⟩), .pointer (some ⟨kb.bi, 0, none⟩), .int .i64 s.qi.length, .bool true, .bool true, .bool true, .pointer (some ⟨kb.b, 0, none⟩), .pointer (some ⟨kb.b, 0, none⟩), .pointer (some ⟨kb.b, 5, none⟩), .pointer (some ⟨kb.bo, 0, none⟩), .int .i64 (room s.qo false), .bool false, .bool false, us 35, us 36, us 37, us 38, us 39, us 40, us 41, .int .i64 (k + 1 : Nat), us 43] : Array Value).getD us_ undef, rfl, C0, SL, Lib.hid (by have h9 := OG.out; rw [HFL.out]; exact h9), Lib.hid ⟨by have := hlt.out; omega, by have := hlt.out; have := hk.out; omega⟩, Lib.hid (hxg.out)⟩)
  · have HK := Lib.hid hk0
    have HSI := Lib.hid (hsi0.ch C0.out (by simp))
    clear hk0 hsi0
    have hlt := Lib.hid hlt0
    have HS_ := Lib.hid ho0
    have HCC := Lib.hid hc
    clear hc hlt0 ho0
    have HOP := Lib.hid (show s.op = true from HCC.out.1)
    have HBS := Lib.hid (show busyS s = true from by unfold busyS; rw [HOP.out]; have h9 := HCC.out; simp; omega)
    have HFL := Lib.hid (filt_yes HS_.out HBS.out)
    have HFB := Lib.hid (filt_len busyS L k)
    have FS := Lib.hid (show Blk w5 kb.b (#[.int .i64 s.id, .int .i64 s.box, .int .i64 s.ctr, .bool true, .pointer (some ⟨kb.bi, 0, none⟩), .pointer (some ⟨kb.bo, 0, none⟩)]) 65 from by have h9 := HSI.out.blk; unfold sessA at h9; rw [HOP.out] at h9; exact h9)
    have PI := Lib.hid (show PipeC w5 c kb.bi s.qi (!true) from by have h9 := HSI.out.pin; rw [HOP.out] at h9; exact h9)
    have PO := Lib.hid HSI.out.pout
    obtain ⟨a, hsm_a⟩ := src_some SL.out (by have := hlt.out; omega)
    subst hsm_a
    have D12 := Lib.hid (show (k : Int) < (K.length : Int) by have := hlt.out; omega)
    have Wk := Lib.hid (show IntKind.i64.wrap ((k : Int) + 1) = ((k + 1 : Nat) : Int) by rw [wr64 (by have := hlt.out; have h7 := HN.out; omega)]; omega)
    have D25 := Lib.hid (show  0 < s.qi.length by have := HCC.out; omega)
    have D33 := Lib.hid (show  0 < room s.qo false by have := HCC.out; unfold room; simp only [Bool.false_eq_true, if_false]; omega)
    have HLK := Lib.hid HA.out.len
    refine s_ (fun K31 hK31 => ?_)
    refine pu_ (v := .bool true) (y_run (by rfl) (fun W => by have d := D12.out; go_simp)) ?_
    (try simp only [zP, zN, zA, zB, zC])
    refine nl_ (hK31 _ _ ?_); clear hK31 K31
    refine sq_ (fun K32 hK32 => ?_)
    refine wp_cond_true rfl ?_
    refine wp_skip ?_
    refine th_norm (hK32 _ _ ?_); try clear hK32 K32
    refine sq_ (fun K33 hK33 => ?_)
    refine wp_block ?_
    refine s_ (fun K34 hK34 => ?_)
    refine pu_ (v := .pointer (some (a.add k))) (y_run (by rfl) (fun W => by have d := D12.out; go_simp)) ?_
    (try simp only [zP, zN, zA, zB, zC])
    refine ld_ (v := .pointer (some ⟨kb.b, 0, none⟩)) rfl (by rfl) (by rfl) (run_load_one (one_at (by have h9 := src_at ptrC_len SL.out HK.out; rw [Nat.mul_one] at h9; exact h9)) Tryd.underlying61 rfl) ?_
    (try simp only [zP, zN, zA, zB, zC])
    refine pu_ (v := .pointer (some ⟨kb.b, 0, none⟩)) (y_assign rfl (by rfl) (by rfl)) ?_
    (try simp only [zP, zN, zA, zB, zC])
    refine nl_ (hK34 _ _ ?_); clear hK34 K34
    refine s_ (fun K35 hK35 => ?_)
    refine pu_ (v := .pointer (some ⟨kb.b, 0, none⟩)) (y_move rfl (by rfl) (by rfl)) ?_
    (try simp only [zP, zN, zA, zB, zC])
    refine pu_ (v := .pointer (some ⟨kb.b, 0, none⟩)) (y_nil rfl (by rfl) (by rfl)) ?_
    (try simp only [zP, zN, zA, zB, zC])
    refine pu_ (v := .pointer (some ⟨kb.b, 3, none⟩)) (y_run (by rfl) (fun W => by go_simp)) ?_
    (try simp only [zP, zN, zA, zB, zC])
    refine ld_ (v := .bool true) rfl (by rfl) (by rfl) (run_load_one ((FS.out.cell 3).trans rfl) Tryd.underlying4 rfl) ?_
    (try simp only [zP, zN, zA, zB, zC])
    refine pu_ (v := .bool true) (y_move rfl (by rfl) (by rfl)) ?_
    (try simp only [zP, zN, zA, zB, zC])
    refine pu_ (v := .pointer (some ⟨kb.b, 0, none⟩)) (y_move rfl (by rfl) (by rfl)) ?_
    (try simp only [zP, zN, zA, zB, zC])
    refine pu_ (v := .pointer (some ⟨kb.b, 0, none⟩)) (y_nil rfl (by rfl) (by rfl)) ?_
    (try simp only [zP, zN, zA, zB, zC])
    refine pu_ (v := .pointer (some ⟨kb.b, 4, none⟩)) (y_run (by rfl) (fun W => by go_simp)) ?_
    (try simp only [zP, zN, zA, zB, zC])
    refine ld_ (v := .pointer (some ⟨kb.bi, 0, none⟩)) rfl (by rfl) (by rfl) (run_load_one ((FS.out.cell 4).trans rfl) Tryd.underlying62 rfl) ?_
    (try simp only [zP, zN, zA, zB, zC])
    refine ef_ (fun K36 hK36 => ?_)
    refine e_call Tryd.func39 (by kernel_rfl) rfl #[.pointer (some ⟨kb.bi, 0, none⟩)] (by rfl) rfl rfl (by first | rfl | (simp only [List.map_toArray, List.map_cons, List.map_nil]; first | done | rfl)) ((plen_ HC.out PI.out)) ?_
    rintro en w38 ⟨rfl, cc37⟩
    refine ⟨_, rfl, ?_⟩
    have C0' := Lib.hid (show Ch [] w w38 from C0.out.trans' cc37 (fun x hx => absurd hx (by simp)))
    have SL' := Lib.hid (show SrcIs w38 (.slice (some a) K.length z) (K.length) (K.flatMap ptrC) 1 from SL.out.chx cc37 xnin_nil)
    have OG' := Lib.hid (show OwnS w38 w.heap.size 3 1 (vg) (((L.take k).filter busyS).length) ((((L.take k).filter busyS).map HS.id).flatMap intC) from OG.out.ch cc37 rnin_nil)
    have FS' := Lib.hid (show Blk w38 kb.b (#[.int .i64 s.id, .int .i64 s.box, .int .i64 s.ctr, .bool true, .pointer (some ⟨kb.bi, 0, none⟩), .pointer (some ⟨kb.bo, 0, none⟩)]) 65 from cc37.blk FS.out nin_nil)
    have PI' := Lib.hid (show PipeC w38 (c) (kb.bi) (s.qi) (!true) from PI.out.ch cc37 nin_nil)
    have PO' := Lib.hid (show PipeC w38 (c) (kb.bo) (s.qo) (false) from PO.out.ch cc37 nin_nil)
    clear C0 SL OG FS PI PO
    have C0 := C0'; clear C0'
    have SL := SL'; clear SL'
    have OG := OG'; clear OG'
    have FS := FS'; clear FS'
    have PI := PI'; clear PI'
    have PO := PO'; clear PO'
    clear cc37
    refine hK36 _ _ ?_; clear hK36 K36
    (try simp only [zP, zN, zA, zB, zC])
    refine pu_ (v := .bool true) (y_run (by rfl) (fun W => by have d := D25.out; go_simp)) ?_
    (try simp only [zP, zN, zA, zB, zC])
    refine pu_ (v := .bool true) (y_pick (t := true) (by rfl) rfl (by rfl) (by rfl)) ?_
    (try simp only [zP, zN, zA, zB, zC])
    refine pu_ (v := .bool true) (y_move rfl (by rfl) (by rfl)) ?_
    (try simp only [zP, zN, zA, zB, zC])
    refine pu_ (v := .pointer (some ⟨kb.b, 0, none⟩)) (y_move rfl (by rfl) (by rfl)) ?_
    (try simp only [zP, zN, zA, zB, zC])
    refine pu_ (v := .pointer (some ⟨kb.b, 0, none⟩)) (y_nil rfl (by rfl) (by rfl)) ?_
    (try simp only [zP, zN, zA, zB, zC])
    refine pu_ (v := .pointer (some ⟨kb.b, 5, none⟩)) (y_run (by rfl) (fun W => by go_simp)) ?_
    (try simp only [zP, zN, zA, zB, zC])
    refine ld_ (v := .pointer (some ⟨kb.bo, 0, none⟩)) rfl (by rfl) (by rfl) (run_load_one ((FS.out.cell 5).trans rfl) Tryd.underlying62 rfl) ?_
    (try simp only [zP, zN, zA, zB, zC])
    refine ef_ (fun K39 hK39 => ?_)
    refine e_call Tryd.func28 (by kernel_rfl) rfl #[.pointer (some ⟨kb.bo, 0, none⟩)] (by rfl) rfl rfl (by first | rfl | (simp only [List.map_toArray, List.map_cons, List.map_nil]; first | done | rfl)) ((proom_ HC.out PO.out)) ?_
    rintro en w41 ⟨rfl, cc40⟩
    refine ⟨_, rfl, ?_⟩
    have C0' := Lib.hid (show Ch [] w w41 from C0.out.trans' cc40 (fun x hx => absurd hx (by simp)))
    have SL' := Lib.hid (show SrcIs w41 (.slice (some a) K.length z) (K.length) (K.flatMap ptrC) 1 from SL.out.chx cc40 xnin_nil)
    have OG' := Lib.hid (show OwnS w41 w.heap.size 3 1 (vg) (((L.take k).filter busyS).length) ((((L.take k).filter busyS).map HS.id).flatMap intC) from OG.out.ch cc40 rnin_nil)
    have FS' := Lib.hid (show Blk w41 kb.b (#[.int .i64 s.id, .int .i64 s.box, .int .i64 s.ctr, .bool true, .pointer (some ⟨kb.bi, 0, none⟩), .pointer (some ⟨kb.bo, 0, none⟩)]) 65 from cc40.blk FS.out nin_nil)
    have PI' := Lib.hid (show PipeC w41 (c) (kb.bi) (s.qi) (!true) from PI.out.ch cc40 nin_nil)
    have PO' := Lib.hid (show PipeC w41 (c) (kb.bo) (s.qo) (false) from PO.out.ch cc40 nin_nil)
    clear C0 SL OG FS PI PO
    have C0 := C0'; clear C0'
    have SL := SL'; clear SL'
    have OG := OG'; clear OG'
    have FS := FS'; clear FS'
    have PI := PI'; clear PI'
    have PO := PO'; clear PO'
    clear cc40
    refine hK39 _ _ ?_; clear hK39 K39
    (try simp only [zP, zN, zA, zB, zC])
    refine pu_ (v := .bool true) (y_run (by rfl) (fun W => by have d := D33.out; go_simp)) ?_
    (try simp only [zP, zN, zA, zB, zC])
    refine pu_ (v := .bool true) (y_pick (t := true) (by rfl) rfl (by rfl) (by rfl)) ?_
    (try simp only [zP, zN, zA, zB, zC])
    refine nl_ (hK35 _ _ ?_); clear hK35 K35
    refine wp_cond_true rfl ?_
    refine r_ ?_
    refine pu_ (v := vg) (y_move rfl (by rfl) (by rfl)) ?_
    (try simp only [zP, zN, zA, zB, zC])
    refine pu_ (v := .pointer (some ⟨kb.b, 0, none⟩)) (y_move rfl (by rfl) (by rfl)) ?_
    (try simp only [zP, zN, zA, zB, zC])
    refine pu_ (v := .pointer (some ⟨kb.b, 0, none⟩)) (y_nil rfl (by rfl) (by rfl)) ?_
    (try simp only [zP, zN, zA, zB, zC])
    refine pu_ (v := .pointer (some ⟨kb.b, 0, none⟩)) (y_run (by rfl) (fun W => by go_simp)) ?_
    (try simp only [zP, zN, zA, zB, zC])
    refine ld_ (v := .int .i64 s.id) rfl (by rfl) (by rfl) (run_load_one ((FS.out.cell 0).trans rfl) Tryd.underlying3 rfl) ?_
    (try simp only [zP, zN, zA, zB, zC])
    refine ef_ (fun K42 hK42 => ?_)
    refine e_buildS (parts := #[(0, .int .i64 s.id)]) (cells := #[.int .i64 s.id]) (by rfl) rfl rfl (by first | rfl | (simp only [List.map_toArray, List.map_cons, List.map_nil]; first | done | rfl)) Tryd.underlying54 I3.hi I3.hz I3.hs (by decide) (by decide) (by kernel_rfl) ?_
    rintro g43 w44 HG45 B46 C47
    have nw48 := Lib.hid (show w.heap.size ≤ g43 by have := C0.out.size; have := HG45.out; omega)
    have nx49 := Lib.hid (SL.out.ne_new (by decide) HG45)
    have nr50 := Lib.hid (OG.out.ne_new HG45)
    have C0' := Lib.hid (show Ch [] w w44 from C0.out.trans' C47 (fun x hx => absurd hx (by simp)))
    have SL' := Lib.hid (show SrcIs w44 (.slice (some a) K.length z) (K.length) (K.flatMap ptrC) 1 from SL.out.chx C47 xnin_nil)
    have OG' := Lib.hid (show OwnS w44 w.heap.size 3 1 (vg) (((L.take k).filter busyS).length) ((((L.take k).filter busyS).map HS.id).flatMap intC) from OG.out.ch C47 rnin_nil)
    have FS' := Lib.hid (show Blk w44 kb.b (#[.int .i64 s.id, .int .i64 s.box, .int .i64 s.ctr, .bool true, .pointer (some ⟨kb.bi, 0, none⟩), .pointer (some ⟨kb.bo, 0, none⟩)]) 65 from C47.blk FS.out nin_nil)
    have PI' := Lib.hid (show PipeC w44 (c) (kb.bi) (s.qi) (!true) from PI.out.ch C47 nin_nil)
    have PO' := Lib.hid (show PipeC w44 (c) (kb.bo) (s.qo) (false) from PO.out.ch C47 nin_nil)
    clear C0 SL OG FS PI PO
    have C0 := C0'; clear C0'
    have SL := SL'; clear SL'
    have OG := OG'; clear OG'
    have FS := FS'; clear FS'
    have PI := PI'; clear PI'
    have PO := PO'; clear PO'
    have Fg43 := Lib.hid (show Blk w44 g43 (#[.int .i64 s.id]) 3 from B46); clear B46 C47
    refine hK42 _ _ ?_; clear hK42 K42
    (try simp only [zP, zN, zA, zB, zC])
    refine ef_ (fun K51 hK51 => ?_)
    refine e_append (by rfl) rfl rfl (w.heap.size) 3 _ _ 1 8 Tryd.underlying54 I3.hi I3.hz I3.hs I3.hb rfl (by decide) (vg) (((L.take k).filter busyS).length) ((((L.take k).filter busyS).map HS.id).flatMap intC) (by rfl) OG.out (.slice (some ⟨g43, 0, none⟩) 1 1) 1 (intC s.id) (by rfl) ⟨rfl, .inr ⟨_, _, rfl, CellsAt.blk Fg43.out 0⟩⟩ (intC_one s.id) (by unfold maxLen; have := HFB.out; have := HN.out; have := HLK.out; omega) (by have := HFB.out; have := HN.out; have := HLK.out; omega) C0.out.size ?_
    rintro v52 w53 O54 C55 R56 -
    have xr58 := Lib.hid (show ∀ k, k ∈ xb (.slice (some a) K.length z) → k ∉ rl v52 from fun k hk hm => (R56 k hm).elim (fun h => hxg.out k hk h) (fun h => by have := SL.out.lt (by decide) k hk; omega))
    have nr59 := Lib.hid (show g43 ∉ rl v52 from fun hk => (R56 _ hk).elim nr50.out (fun h => by have := Fg43.out.lt; omega))
    have C0' := Lib.hid (show Ch [] w w53 from C0.out.trans' C55 (fun x hx => .inr (OG.out.lt x hx).1))
    have SL' := Lib.hid (show SrcIs w53 (.slice (some a) K.length z) (K.length) (K.flatMap ptrC) 1 from SL.out.chx C55 hxg.out)
    have FS' := Lib.hid (show Blk w53 kb.b (#[.int .i64 s.id, .int .i64 s.box, .int .i64 s.ctr, .bool true, .pointer (some ⟨kb.bi, 0, none⟩), .pointer (some ⟨kb.bo, 0, none⟩)]) 65 from C55.blk FS.out (OG.out.ne FS.out (by decide)))
    have PI' := Lib.hid (show PipeC w53 (c) (kb.bi) (s.qi) (!true) from PI.out.ch C55 (OG.out.ne PI.out.blk.choose_spec (by decide)))
    have PO' := Lib.hid (show PipeC w53 (c) (kb.bo) (s.qo) (false) from PO.out.ch C55 (OG.out.ne PO.out.blk.choose_spec (by decide)))
    have Fg43' := Lib.hid (show Blk w53 g43 (#[.int .i64 s.id]) 3 from C55.blk Fg43.out nr50.out)
    clear C0 SL FS PI PO Fg43
    have C0 := C0'; clear C0'
    have SL := SL'; clear SL'
    have FS := FS'; clear FS'
    have PI := PI'; clear PI'
    have PO := PO'; clear PO'
    have Fg43 := Fg43'; clear Fg43'
    clear OG
    have OG := Lib.hid (show OwnS w53 w.heap.size 3 1 (v52) (((L.take k).filter busyS).length + 1) ((((L.take k).filter busyS).map HS.id).flatMap intC ++ intC s.id) from O54); clear O54 C55
    refine hK51 _ _ ?_; clear hK51 K51
    (try simp only [zP, zN, zA, zB, zC])
    refine pu_ (v := v52) (y_assign rfl (by rfl) (by rfl)) ?_
    (try simp only [zP, zN, zA, zB, zC])
    refine nl_ ?_
    refine ib_norm ?_
    refine th_norm (hK33 _ _ ?_); try clear hK33 K33
    refine r_ ?_
    refine pu_ (v := .int .i64 (k + 1 : Nat)) (y_run (by rfl) (fun W => by have d := Wk.out; go_simp)) ?_
    (try simp only [zP, zN, zA, zB, zC])
    refine pu_ (v := .int .i64 (k + 1 : Nat)) (y_move rfl (by rfl) (by rfl)) ?_
    (try simp only [zP, zN, zA, zB, zC])
    refine nl_ ?_
    exact th_norm (hK6 (kq - 1) _ _ (by have := hlt.out; have := hk.out; omega) ⟨k + 1, v52, fun us_ => (#[.pointer (some ⟨x, 0, none⟩), us 1, us 2, v52, us 4, .pointer (some ⟨kb.b, 0, none⟩), us 6, us 7, us 8, .slice (some a) K.length z, .int .i64 K.length, .int .i64 (k + 1 : Nat), .bool true, .pointer (some (a.add k)), .pointer (some ⟨kb.b, 0, none⟩), .pointer (some ⟨kb.b, 0, none⟩), .pointer (some ⟨kb.b, 0, none⟩), .pointer (some ⟨kb.b, 3, none⟩), .bool true, .bool true, .pointer (some ⟨kb.b, 0, none⟩), .pointer (some ⟨kb.b, 0, none⟩), .pointer (some ⟨kb.b, 4, none⟩), .pointer (some ⟨kb.bi, 0, none⟩), .int .i64 s.qi.length, .bool true, .bool true, .bool true, .pointer (some ⟨kb.b, 0, none⟩), .pointer (some ⟨kb.b, 0, none⟩), .pointer (some ⟨kb.b, 5, none⟩), .pointer (some ⟨kb.bo, 0, none⟩), .int .i64 (room s.qo false), .bool true, .bool true, vg, .pointer (some ⟨kb.b, 0, none⟩), .pointer (some ⟨kb.b, 0, none⟩), .pointer (some ⟨kb.b, 0, none⟩), .int .i64 s.id, .slice (some ⟨g43, 0, none⟩) 1 1, v52, .int .i64 (k + 1 : Nat), us 43] : Array Value).getD us_ undef, rfl, C0, SL, Lib.hid (by have h9 := OG.out; rw [HFL.out]; rw [List.length_append, List.map_append, List.flatMap_append]; exact h9), Lib.hid ⟨by have := hlt.out; omega, by have := hlt.out; have := hk.out; omega⟩, Lib.hid (xr58.out)⟩)
  · have D12 := Lib.hid (show ¬ k < K.length by have := hk.out; omega)
    have HE := Lib.hid h
    clear h
    refine s_ (fun K60 hK60 => ?_)
    refine pu_ (v := .bool false) (y_run (by rfl) (fun W => by have d := D12.out; go_simp)) ?_
    (try simp only [zP, zN, zA, zB, zC])
    refine nl_ (hK60 _ _ ?_); clear hK60 K60
    refine sq_ (fun K61 hK61 => ?_)
    refine wp_cond_false rfl ?_
    refine wp_exit ?_
    refine th_exit ?_
    refine th_exit ?_
    refine ib_exit ?_
    refine th_norm (hK3 _ _ ?_); try clear hK3 K3
    refine s_ (fun K62 hK62 => ?_)
    refine pu_ (v := vg) (y_move rfl (by rfl) (by rfl)) ?_
    (try simp only [zP, zN, zA, zB, zC])
    refine pu_ (v := vg) (y_assign rfl (by rfl) (by rfl)) ?_
    (try simp only [zP, zN, zA, zB, zC])
    refine nl_ (hK62 _ _ ?_); clear hK62 K62
    refine wp_ret ?_
    refine hQ _ _ _ ?_
    refine bodyPost_ret (res1 rfl (rdv_tmp (v := vg) (by rfl))) rfl ?_
    exact ⟨_, rfl, by have h9 := OG.out; rw [List.take_of_length_le (by have := HE.out; have := HA.out.len; omega)] at h9; exact h9, C0.out⟩
end
end Go.Proofs.YtcfkdglaedpnjaaDoor.V
