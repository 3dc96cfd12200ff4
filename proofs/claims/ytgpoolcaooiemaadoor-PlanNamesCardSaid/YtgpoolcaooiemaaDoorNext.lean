/- The walk of plan.Next at the three inputs of 'works'. -/
import Derived.Test.YtgpoolcaooiemaaDoorPlan
import Derived.Test.YtgpoolcaooiemaaDoorWMore
namespace Go.Proofs.YtgpoolcaooiemaaDoor.D
open Go Go.RowKit Go.Proofs.YtgpoolcaooiemaaDoor.K Go.Proofs.YtgpoolcaooiemaaDoorW.PrintWords Go.Proofs.YtgpoolcaooiemaaDoorW.PrintLast Go.Proofs.YtgpoolcaooiemaaDoorW.PrintMore
set_option linter.unusedVariables false
set_option linter.unusedSimpArgs false
set_option maxRecDepth 100000
set_option maxHeartbeats 4000000
theorem put_st {w : World} {b : Nat} {j : Int} (k : Int) (B : Blk w b (stC j) 41) : Blk ((((((((((((((((w).setCell ⟨b, 0, none⟩ (.int .i64 k))).setCell ⟨b, 1, none⟩ (.int .i64 0))).setCell ⟨b, 2, none⟩ (.int .i64 0))).setCell ⟨b, 3, none⟩ (.int .i64 0))).setCell ⟨b, 4, none⟩ (.int .i64 0))).setCell ⟨b, 5, none⟩ (.int .i64 0))).setCell ⟨b, 6, none⟩ (.string ⟨#[]⟩))).setCell ⟨b, 7, none⟩ (.string ⟨#[]⟩)) b (stC k) 41 := by
  have h := (((((((B.set 0 (.int .i64 k)).set 1 (.int .i64 0)).set 2 (.int .i64 0)).set 3 (.int .i64 0)).set 4 (.int .i64 0)).set 5 (.int .i64 0)).set 6 (.string ⟨#[]⟩)).set 7 (.string ⟨#[]⟩)
  rwa [show (((((((((stC j).setIfInBounds 0 (.int .i64 k)).setIfInBounds 1 (.int .i64 0)).setIfInBounds 2 (.int .i64 0)).setIfInBounds 3 (.int .i64 0)).setIfInBounds 4 (.int .i64 0)).setIfInBounds 5 (.int .i64 0)).setIfInBounds 6 (.string ⟨#[]⟩)).setIfInBounds 7 (.string ⟨#[]⟩)) = stC k from by simp [stC]] at h
theorem ch_st {w0 w : World} {b : Nat} (k : Int) (C : Ch [] w0 w) (hb : w0.heap.size ≤ b) : Ch [] w0 ((((((((((((((((w).setCell ⟨b, 0, none⟩ (.int .i64 k))).setCell ⟨b, 1, none⟩ (.int .i64 0))).setCell ⟨b, 2, none⟩ (.int .i64 0))).setCell ⟨b, 3, none⟩ (.int .i64 0))).setCell ⟨b, 4, none⟩ (.int .i64 0))).setCell ⟨b, 5, none⟩ (.int .i64 0))).setCell ⟨b, 6, none⟩ (.string ⟨#[]⟩))).setCell ⟨b, 7, none⟩ (.string ⟨#[]⟩)) :=
  (((((((C.setCell (.inr hb) _).setCell (.inr hb) _).setCell (.inr hb) _).setCell (.inr hb) _).setCell (.inr hb) _).setCell (.inr hb) _).setCell (.inr hb) _).setCell (.inr hb) _
theorem far_st {w : World} {b c : Nat} {cs : Array Value} {t : TypeId} (k : Int) (B : Blk w c cs t) (hb : c ≠ b) : Blk ((((((((((((((((w).setCell ⟨b, 0, none⟩ (.int .i64 k))).setCell ⟨b, 1, none⟩ (.int .i64 0))).setCell ⟨b, 2, none⟩ (.int .i64 0))).setCell ⟨b, 3, none⟩ (.int .i64 0))).setCell ⟨b, 4, none⟩ (.int .i64 0))).setCell ⟨b, 5, none⟩ (.int .i64 0))).setCell ⟨b, 6, none⟩ (.string ⟨#[]⟩))).setCell ⟨b, 7, none⟩ (.string ⟨#[]⟩)) c cs t :=
  (((((((B.far (by exact hb) _).far (by exact hb) _).far (by exact hb) _).far (by exact hb) _).far (by exact hb) _).far (by exact hb) _).far (by exact hb) _).far (by exact hb) _
theorem lives_any (m h : Int) (w : World) : Calls Tryd.prog 13 #[inV m h] w fun e w' => e = .returned (stV 4) ∧ Ch [] w w' := by
  have hu39 := Tryd.underlying39
  have hu35 := Tryd.underlying35
  have hu41 := Tryd.underlying41
  have hu46 := Tryd.underlying46
  go_enter Tryd.func13, Tryd.ntmps13
  go_upto_region 1 with fail
  have B0 := Lib.hid ((blk_new w (inC m h) 39).alloc (.cells (stC 0) 41))
  have B1 := Lib.hid (blk1 w (.cells (inC m h) 39) (stC 0) 41)
  have C0 := Lib.hid (((Ch.refl [] w).alloc (.cells (inC m h) 39)).alloc (.cells (stC 0) 41))
  generalize (w.alloc (.cells (inC m h) 39)).alloc (.cells (stC 0) 41) = wa at *
  generalize hn : w.heap.size = n at *
  replace hn := Lib.hid hn
  go_upto_region 2 with (first | ((with_reducible refine gate_dst (N := 7) rfl ?_); refine wpList_load_row rfl 39 _ rfl n rfl 39 (inC m h) (0, 0) _ B0.out Tryd.underlying39 rfl (by kernel_rfl) ?_) | ((with_reducible refine gate_callee (f := 17) rfl ?_); refine goesL_ (some 8) rfl rfl Tryd.func17 (by kernel_rfl) rfl #[inV m h] rfl (by (try simp only [List.map_toArray, List.map_cons, List.map_nil]); first | done | rfl) ?_; with_reducible refine (last_any m h _).mono ?_; rintro e w1 ⟨rfl, c1⟩; refine ⟨_, rfl, ?_⟩; have nB0 := Lib.hid (c1.blk B0.out (by simp)); have nB1 := Lib.hid (c1.blk B1.out (by simp)); have nC := Lib.hid (C0.out.trans0 c1); clear B0 B1 C0 c1; have B0 := nB0; clear nB0; have B1 := nB1; clear nB1; have C0 := nC; clear nC))
  have i13 := B0.out.cell 13
  have l0 := B0.out.lt
  have l1 := B1.out.lt
  obtain ⟨s0, s1, s2, s3, s4, s5, s6, s7, f0, f1, f2, f3, f4, f5, f6, f7⟩ := stCells B1.out
  go_wp2_with fail
  refine bodyPost_ret (res_c (fn := Tryd.f13) rfl _ _ (n + 1) 41 (stC 4) _ ?hp ?hg Tryd.underlying41 rfl (by kernel_rfl)) rfl ?_
  case hp => rfl
  case hg => exact (put_st 4 B1.out).alloc _
  exact ⟨rfl, (ch_st 4 C0.out (by have := hn.out; omega)).alloc _⟩
theorem next_retire (w : World) : Calls Tryd.prog 8 #[inV 1 1] w fun e w' => e = .returned (stV 2) ∧ Ch [] w w' := by
  have hu39 := Tryd.underlying39
  have hu35 := Tryd.underlying35
  have hu41 := Tryd.underlying41
  have hu46 := Tryd.underlying46
  go_enter Tryd.func8, Tryd.ntmps8
  go_upto_region 1 with fail
  have B0 := Lib.hid ((blk_new w (inC 1 1) 39).alloc (.cells (stC 0) 41))
  have B1 := Lib.hid (blk1 w (.cells (inC 1 1) 39) (stC 0) 41)
  have C0 := Lib.hid (((Ch.refl [] w).alloc (.cells (inC 1 1) 39)).alloc (.cells (stC 0) 41))
  generalize (w.alloc (.cells (inC 1 1) 39)).alloc (.cells (stC 0) 41) = wa at *
  generalize hn : w.heap.size = n at *
  replace hn := Lib.hid hn
  go_wp2_with (first | ((with_reducible refine gate_dst (N := 4) rfl ?_); refine wpList_load_row rfl 39 _ rfl n rfl 39 (inC 1 1) (0, 0) _ B0.out Tryd.underlying39 rfl (by kernel_rfl) ?_) | ((with_reducible refine gate_callee (f := 9) rfl ?_); refine goesL_ (some 5) rfl rfl Tryd.func9 (by kernel_rfl) rfl #[inV 1 1] rfl (by (try simp only [List.map_toArray, List.map_cons, List.map_nil]); first | done | rfl) ?_; with_reducible refine (done1 _).mono ?_; rintro e w1 ⟨rfl, c1⟩; refine ⟨_, rfl, ?_⟩; have nB0 := Lib.hid (c1.blk B0.out (by simp)); have nB1 := Lib.hid (c1.blk B1.out (by simp)); have nC := Lib.hid (C0.out.trans0 c1); clear B0 B1 C0 c1; have B0 := nB0; clear nB0; have B1 := nB1; clear nB1; have C0 := nC; clear nC; obtain ⟨s0, s1, s2, s3, s4, s5, s6, s7, f0, f1, f2, f3, f4, f5, f6, f7⟩ := stCells B1.out))
  refine bodyPost_ret (res_c (fn := Tryd.f8) rfl _ _ (n + 1) 41 (stC 2) _ ?hp ?hg Tryd.underlying41 rfl (by kernel_rfl)) rfl ?_
  case hp => rfl
  case hg => exact put_st 2 B1.out
  exact ⟨rfl, ch_st 2 C0.out (by have := hn.out; omega)⟩
theorem next_gone (w : World) : Calls Tryd.prog 8 #[inV 1 0] w fun e w' => e = .returned (stV 12) ∧ Ch [] w w' := by
  have hu39 := Tryd.underlying39
  have hu35 := Tryd.underlying35
  have hu41 := Tryd.underlying41
  have hu46 := Tryd.underlying46
  go_enter Tryd.func8, Tryd.ntmps8
  go_upto_region 1 with fail
  have B0 := Lib.hid ((blk_new w (inC 1 0) 39).alloc (.cells (stC 0) 41))
  have B1 := Lib.hid (blk1 w (.cells (inC 1 0) 39) (stC 0) 41)
  have C0 := Lib.hid (((Ch.refl [] w).alloc (.cells (inC 1 0) 39)).alloc (.cells (stC 0) 41))
  generalize (w.alloc (.cells (inC 1 0) 39)).alloc (.cells (stC 0) 41) = wa at *
  generalize hn : w.heap.size = n at *
  replace hn := Lib.hid hn
  go_wp2_with (first | ((with_reducible refine gate_dst (N := 4) rfl ?_); refine wpList_load_row rfl 39 _ rfl n rfl 39 (inC 1 0) (0, 0) _ B0.out Tryd.underlying39 rfl (by kernel_rfl) ?_) | ((with_reducible refine gate_callee (f := 9) rfl ?_); refine goesL_ (some 5) rfl rfl Tryd.func9 (by kernel_rfl) rfl #[inV 1 0] rfl (by (try simp only [List.map_toArray, List.map_cons, List.map_nil]); first | done | rfl) ?_; with_reducible refine (done0 1 _).mono ?_; rintro e w1 ⟨rfl, c1⟩; refine ⟨_, rfl, ?_⟩; have nB0 := Lib.hid (c1.blk B0.out (by simp)); have nB1 := Lib.hid (c1.blk B1.out (by simp)); have nC := Lib.hid (C0.out.trans0 c1); clear B0 B1 C0 c1; have B0 := nB0; clear nB0; have B1 := nB1; clear nB1; have C0 := nC; clear nC; have i11 := B0.out.cell 11) | ((with_reducible refine gate_dst (N := 12) rfl ?_); refine wpList_load_row rfl 39 _ rfl n rfl 39 (inC 1 0) (0, 0) _ B0.out Tryd.underlying39 rfl (by kernel_rfl) ?_) | ((with_reducible refine gate_callee (f := 10) rfl ?_); refine goesL_ (some 13) rfl rfl Tryd.func10 (by kernel_rfl) rfl #[inV 1 0] rfl (by (try simp only [List.map_toArray, List.map_cons, List.map_nil]); first | done | rfl) ?_; with_reducible refine (leaves_any 1 0 _).mono ?_; rintro e w2 ⟨rfl, c1⟩; refine ⟨_, rfl, ?_⟩; have nB0 := Lib.hid (c1.blk B0.out (by simp)); have nB1 := Lib.hid (c1.blk B1.out (by simp)); have nC := Lib.hid (C0.out.trans0 c1); clear B0 B1 C0 c1; have B0 := nB0; clear nB0; have B1 := nB1; clear nB1; have C0 := nC; clear nC; obtain ⟨s0, s1, s2, s3, s4, s5, s6, s7, f0, f1, f2, f3, f4, f5, f6, f7⟩ := stCells B1.out))
  refine bodyPost_ret (res_c (fn := Tryd.f8) rfl _ _ (n + 1) 41 (stC 12) _ ?hp ?hg Tryd.underlying41 rfl (by kernel_rfl)) rfl ?_
  case hp => rfl
  case hg => exact put_st 12 B1.out
  exact ⟨rfl, ch_st 12 C0.out (by have := hn.out; omega)⟩
theorem next_box (w : World) : Calls Tryd.prog 8 #[inV 0 0] w fun e w' => e = .returned (stV 4) ∧ Ch [] w w' := by
  have hu39 := Tryd.underlying39
  have hu35 := Tryd.underlying35
  have hu41 := Tryd.underlying41
  have hu46 := Tryd.underlying46
  go_enter Tryd.func8, Tryd.ntmps8
  go_upto_region 1 with fail
  have B0 := Lib.hid ((blk_new w (inC 0 0) 39).alloc (.cells (stC 0) 41))
  have B1 := Lib.hid (blk1 w (.cells (inC 0 0) 39) (stC 0) 41)
  have C0 := Lib.hid (((Ch.refl [] w).alloc (.cells (inC 0 0) 39)).alloc (.cells (stC 0) 41))
  generalize (w.alloc (.cells (inC 0 0) 39)).alloc (.cells (stC 0) 41) = wa at *
  generalize hn : w.heap.size = n at *
  replace hn := Lib.hid hn
  go_wp2_with (first | ((with_reducible refine gate_dst (N := 4) rfl ?_); refine wpList_load_row rfl 39 _ rfl n rfl 39 (inC 0 0) (0, 0) _ B0.out Tryd.underlying39 rfl (by kernel_rfl) ?_) | ((with_reducible refine gate_callee (f := 9) rfl ?_); refine goesL_ (some 5) rfl rfl Tryd.func9 (by kernel_rfl) rfl #[inV 0 0] rfl (by (try simp only [List.map_toArray, List.map_cons, List.map_nil]); first | done | rfl) ?_; with_reducible refine (done0 0 _).mono ?_; rintro e w1 ⟨rfl, c1⟩; refine ⟨_, rfl, ?_⟩; have nB0 := Lib.hid (c1.blk B0.out (by simp)); have nB1 := Lib.hid (c1.blk B1.out (by simp)); have nC := Lib.hid (C0.out.trans0 c1); clear B0 B1 C0 c1; have B0 := nB0; clear nB0; have B1 := nB1; clear nB1; have C0 := nC; clear nC; have i11 := B0.out.cell 11; have i9 := B0.out.cell 9) | ((with_reducible refine gate_callee (f := 11) rfl ?_); refine goesL_ (some 18) rfl rfl Tryd.func11 (by kernel_rfl) rfl #[.int .i64 1] rfl (by (try simp only [List.map_toArray, List.map_cons, List.map_nil]); first | done | rfl) ?_; with_reducible refine (term_any _).mono ?_; rintro e w2 ⟨rfl, c1⟩; refine ⟨_, rfl, ?_⟩; have nB0 := Lib.hid (c1.blk B0.out (by simp)); have nB1 := Lib.hid (c1.blk B1.out (by simp)); have nC := Lib.hid (C0.out.trans0 c1); clear B0 B1 C0 c1; have B0 := nB0; clear nB0; have B1 := nB1; clear nB1; have C0 := nC; clear nC; clear i11 i9) | ((with_reducible refine gate_dst (N := 21) rfl ?_); refine wpList_load_row rfl 39 _ rfl n rfl 39 (inC 0 0) (0, 0) _ B0.out Tryd.underlying39 rfl (by kernel_rfl) ?_) | ((with_reducible refine gate_callee (f := 13) rfl ?_); refine goesL_ (some 22) rfl rfl Tryd.func13 (by kernel_rfl) rfl #[inV 0 0] rfl (by (try simp only [List.map_toArray, List.map_cons, List.map_nil]); first | done | rfl) ?_; with_reducible refine (lives_any 0 0 _).mono ?_; rintro e w3 ⟨rfl, c1⟩; refine ⟨_, rfl, ?_⟩; have nB0 := Lib.hid (c1.blk B0.out (by simp)); have nB1 := Lib.hid (c1.blk B1.out (by simp)); have nC := Lib.hid (C0.out.trans0 c1); clear B0 B1 C0 c1; have B0 := nB0; clear nB0; have B1 := nB1; clear nB1; have C0 := nC; clear nC; obtain ⟨s0, s1, s2, s3, s4, s5, s6, s7, f0, f1, f2, f3, f4, f5, f6, f7⟩ := stCells B1.out))
  refine bodyPost_ret (res_c (fn := Tryd.f8) rfl _ _ (n + 1) 41 (stC 4) _ ?hp ?hg Tryd.underlying41 rfl (by kernel_rfl)) rfl ?_
  case hp => rfl
  case hg => exact put_st 4 B1.out
  exact ⟨rfl, ch_st 4 C0.out (by have := hn.out; omega)⟩
end Go.Proofs.YtgpoolcaooiemaaDoor.D
