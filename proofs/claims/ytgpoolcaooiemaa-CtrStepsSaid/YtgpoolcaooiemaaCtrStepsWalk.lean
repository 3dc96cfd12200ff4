/- The walk of the law CtrSteps: what becomes of any container that may be is as the document has it. -/
import Derived.Test.YtgpoolcaooiemaaCtrStepsPure
import Derived.Test.YtgpoolcaooiemaaKit
import Derived.Test.YtgpoolcaooiemaaFits
namespace Go.Proofs.Ytgpoolcaooiemaa.ctrStepsWalk
open Go Go.RowKit Go.Proofs.Ytgpoolcaooiemaa.K Go.Proofs.YtgpoolcaooiemaaW.PrintWords Go.Proofs.Ytgpoolcaooiemaa.PCtrSteps Go.Proofs.Ytgpoolcaooiemaa.CS Go.Proofs.Ytgpoolcaooiemaa.F
set_option linter.unusedVariables false
set_option linter.unusedSimpArgs false
theorem chB {w w' : World} (h : Below w.heap.size w w') : Ch [] w w' := ⟨h.os, h.tape, h.output, h.size, fun k hk _ => h.block k hk⟩
theorem cells3 {w : World} {b : Nat} {x y z : Int} (h : Blk w b #[.int .i64 x, .int .i64 y, .int .i64 z] 25) : w.cell? ⟨b, 0, none⟩ = some (.int .i64 x) ∧ w.cell? ⟨b, 1, none⟩ = some (.int .i64 y) ∧ w.cell? ⟨b, 2, none⟩ = some (.int .i64 z) ∧ b < w.heap.size :=
  ⟨h.cell 0, h.cell 1, h.cell 2, h.lt⟩
set_option maxRecDepth 100000 in
set_option maxHeartbeats 4000000 in
theorem walkNo (s c l g d : Int) (w : World) (hr : rightB s c l = false) :
    Calls Try.prog 4 #[.agg #[.int .i64 s, .int .i64 c, .int .i64 l], .int .i64 g, .int .i64 d] w fun e w' => e = .returned (.bool true) ∧ Below w.heap.size w w' := by
  have M16 := Lib.hid (show ∀ W, Calls Try.prog 16 #[.agg #[.int .i64 s, .int .i64 c, .int .i64 l]] W fun e w' => e = .returned (.bool false) ∧ Ch [] W w' from fun W => (ctr_Right.calls s c l false W (by rw [right_f, hr])).mono fun e w' ⟨he, hb⟩ => ⟨he, chB hb⟩)
  have M17 := Lib.hid (show ∀ W, Calls Try.prog 17 #[.agg #[.int .i64 s, .int .i64 c, .int .i64 l]] W fun e w' => e = .returned (.bool false) ∧ Ch [] W w' from fun W => (provostref19_Right.calls s c l false W (by rw [rright_f, hr])).mono fun e w' ⟨he, hb⟩ => ⟨he, chB hb⟩)
  clear hr
  go_enter Try.func4, Try.ntmps4
  go_wp2_with fail
  have X3 := Lib.hid (blk_new w #[.int .i64 s, .int .i64 c, .int .i64 l] 25)
  have C3 := Lib.hid ((Ch.refl [] w).alloc (.cells #[.int .i64 s, .int .i64 c, .int .i64 l] 25))
  generalize w.alloc (.cells #[.int .i64 s, .int .i64 c, .int .i64 l] 25) = wa at *
  have hwb : w.heap.size ≤ w.heap.size := Nat.le_refl _
  obtain ⟨b3, hb3⟩ : ∃ b, w.heap.size = b := ⟨_, rfl⟩
  rw [hb3] at X3 ⊢
  clear hwb
  have HB3 := Lib.hid hb3
  clear hb3
  obtain ⟨x0, x1, x2, x3⟩ := cells3 X3.out
  have R := @From.cell wa
  refine wp_region_from (by kernel_rfl) (by kernel_rfl) ?_
  repeat (go_big_quiet_step (first | (go_at_call 16; exact class_of (M16.out _)) | (go_at_call 17; exact class_of (M17.out _))))
  refine wpQuiet_nil ?_
  rintro w4 ⟨y, hy⟩
  have hc4 : Ch [] wa w4 := hy ▸ y.property
  clear hy y R x0 x1 x2 x3
  have X4 := Lib.hid (hc4.blk X3.out (by simp))
  have C4 := Lib.hid (C3.out.trans hc4)
  clear hc4
  obtain ⟨x0, x1, x2, x3⟩ := cells3 X4.out
  go_wp2_with fail
  refine (M17.out _).mono ?_
  rintro e w5 ⟨rfl, hc⟩
  have C5 := Lib.hid (C4.out.trans hc)
  clear hc x0 x1 x2 x3
  go_wp2_with fail
  refine (provostlaw19_works.calls 5 true _ works_f).mono ?_
  rintro e w6 ⟨rfl, hb⟩
  have C6 := Lib.hid (C5.out.trans (chB hb))
  clear hb
  go_wp2_with fail
  go_ret
  exact ⟨rfl, by have := HB3.out; rw [this]; have := C6.out.below0; rwa [HB3.out] at this⟩
set_option maxRecDepth 100000 in
set_option maxHeartbeats 8000000 in
theorem walk2 (s c l g d : Int) (w : World) (hr : rightB s c l = true) (h2 : (s == 2) = true) :
    Calls Try.prog 4 #[.agg #[.int .i64 s, .int .i64 c, .int .i64 l], .int .i64 g, .int .i64 d] w fun e w' => e = .returned (.bool true) ∧ Below w.heap.size w w' := by
  have M16 := Lib.hid (show ∀ W, Calls Try.prog 16 #[.agg #[.int .i64 s, .int .i64 c, .int .i64 l]] W fun e w' => e = .returned (.bool true) ∧ Ch [] W w' from fun W => (ctr_Right.calls s c l true W (by rw [right_f, hr])).mono fun e w' ⟨he, hb⟩ => ⟨he, chB hb⟩)
  have M17 := Lib.hid (show ∀ W, Calls Try.prog 17 #[.agg #[.int .i64 s, .int .i64 c, .int .i64 l]] W fun e w' => e = .returned (.bool true) ∧ Ch [] W w' from fun W => (provostref19_Right.calls s c l true W (by rw [rright_f, hr])).mono fun e w' ⟨he, hb⟩ => ⟨he, chB hb⟩)
  obtain ⟨p1, p2, p3, p4, hp, hp'⟩ := start_f s c l
  obtain ⟨q1, q2, q3, q4, hq, hq'⟩ := stop_f s c l g hr
  obtain ⟨t1, t2, t3, t4, ht, ht'⟩ := exit_f s c l d hr
  obtain ⟨u1, u2, u3, u4, hu, hu'⟩ := tick_f s c l hr
  have hv : ctr_Kill.f s c l = some (4, 137, 0, true) := by
    rw [kill_f s c l hr]; simp [runsB, h2]
  have F10 := Lib.hid hp
  have F18 := Lib.hid hp'
  have F12 := Lib.hid hq
  have F19 := Lib.hid hq'
  have F20 := Lib.hid ht
  have F21 := Lib.hid ht'
  have F14 := Lib.hid hu
  have F22 := Lib.hid hu'
  have F23 := Lib.hid hv
  clear hp hp' hq hq' ht ht' hu hu' hv hr
  go_enter Try.func4, Try.ntmps4
  go_wp2_with fail
  have X3 := Lib.hid (blk_new w #[.int .i64 s, .int .i64 c, .int .i64 l] 25)
  have C3 := Lib.hid ((Ch.refl [] w).alloc (.cells #[.int .i64 s, .int .i64 c, .int .i64 l] 25))
  generalize w.alloc (.cells #[.int .i64 s, .int .i64 c, .int .i64 l] 25) = wa at *
  obtain ⟨b3, hb3⟩ : ∃ b, w.heap.size = b := ⟨_, rfl⟩
  rw [hb3] at X3 ⊢
  have HB3 := Lib.hid hb3
  clear hb3
  obtain ⟨x0, x1, x2, x3⟩ := cells3 X3.out
  have R := @From.cell wa
  refine wp_region_from (by kernel_rfl) (by kernel_rfl) ?_
  repeat (go_big_quiet_step (first | (go_at_call 16; exact class_of (M16.out _)) | (go_at_call 17; exact class_of (M17.out _))))
  refine wpQuiet_nil ?_
  rintro w4 ⟨y, hy⟩
  have hc4 : Ch [] wa w4 := hy ▸ y.property
  clear hy y R x0 x1 x2 x3
  have X3 := Lib.hid (hc4.blk X3.out (by simp))
  have C := Lib.hid (C3.out.trans hc4)
  clear hc4 C3
  obtain ⟨x0, x1, x2, x3⟩ := cells3 X3.out
  go_wp2_with fail
  refine (M17.out _).mono ?_
  rintro e w5 ⟨rfl, hc⟩
  have X3 := Lib.hid (hc.blk X3.out (by simp))
  have C := Lib.hid (C.out.trans hc)
  clear hc x0 x1 x2 x3
  obtain ⟨x0, x1, x2, x3⟩ := cells3 X3.out
  go_wp2_with fail
  refine (ctr_Start.calls s c l p1 p2 p3 p4 _ F10.out).mono ?_
  rintro e wn1 ⟨rfl, hb⟩
  have hc := chB hb
  clear hb x0 x1 x2 x3
  have X3 := Lib.hid (hc.blk X3.out (by simp))
  have C := Lib.hid (C.out.trans hc)
  clear hc
  obtain ⟨x00, x01, x02, x03⟩ := cells3 X3.out
  go_wp2_with fail
  have X3 := Lib.hid (X3.out.alloc (.cells #[.int .i64 p1, .int .i64 p2, .int .i64 p3] 25))
  have C := Lib.hid (C.out.alloc (.cells #[.int .i64 p1, .int .i64 p2, .int .i64 p3] 25))
  have Y1 := Lib.hid (blk_new wn1 #[.int .i64 p1, .int .i64 p2, .int .i64 p3] 25)
  obtain ⟨bb1, hbb⟩ : ∃ b, wn1.heap.size = b := ⟨_, rfl⟩
  rw [hbb] at Y1 ⊢
  clear hbb
  refine (provostref19_Start.calls s c l p1 p2 p3 p4 _ F18.out).mono ?_
  rintro e wn2 ⟨rfl, hb⟩
  have hc := chB hb
  clear hb x00 x01 x02 x03
  have X3 := Lib.hid (hc.blk X3.out (by simp))
  have Y1 := Lib.hid (hc.blk Y1.out (by simp))
  have C := Lib.hid (C.out.trans hc)
  clear hc
  obtain ⟨x00, x01, x02, x03⟩ := cells3 X3.out
  go_wp2_with fail
  have X3 := Lib.hid (X3.out.alloc (.cells #[.int .i64 p1, .int .i64 p2, .int .i64 p3] 25))
  have Y1 := Lib.hid (Y1.out.alloc (.cells #[.int .i64 p1, .int .i64 p2, .int .i64 p3] 25))
  have C := Lib.hid (C.out.alloc (.cells #[.int .i64 p1, .int .i64 p2, .int .i64 p3] 25))
  have Y2 := Lib.hid (blk_new wn2 #[.int .i64 p1, .int .i64 p2, .int .i64 p3] 25)
  obtain ⟨bb2, hbb⟩ : ∃ b, wn2.heap.size = b := ⟨_, rfl⟩
  rw [hbb] at Y2 ⊢
  clear hbb
  refine (ctr_Stop.calls 5 s c l g q1 q2 q3 q4 _ F12.out).mono ?_
  rintro e wn3 ⟨rfl, hb⟩
  have hc := chB hb
  clear hb x00 x01 x02 x03
  have X3 := Lib.hid (hc.blk X3.out (by simp))
  have Y1 := Lib.hid (hc.blk Y1.out (by simp))
  have Y2 := Lib.hid (hc.blk Y2.out (by simp))
  have C := Lib.hid (C.out.trans hc)
  clear hc
  obtain ⟨x00, x01, x02, x03⟩ := cells3 X3.out
  go_wp2_with fail
  have X3 := Lib.hid (X3.out.alloc (.cells #[.int .i64 q1, .int .i64 q2, .int .i64 q3] 25))
  have Y1 := Lib.hid (Y1.out.alloc (.cells #[.int .i64 q1, .int .i64 q2, .int .i64 q3] 25))
  have Y2 := Lib.hid (Y2.out.alloc (.cells #[.int .i64 q1, .int .i64 q2, .int .i64 q3] 25))
  have C := Lib.hid (C.out.alloc (.cells #[.int .i64 q1, .int .i64 q2, .int .i64 q3] 25))
  have Y3 := Lib.hid (blk_new wn3 #[.int .i64 q1, .int .i64 q2, .int .i64 q3] 25)
  obtain ⟨bb3, hbb⟩ : ∃ b, wn3.heap.size = b := ⟨_, rfl⟩
  rw [hbb] at Y3 ⊢
  clear hbb
  refine (provostref19_Stop.calls 5 s c l g q1 q2 q3 q4 _ F19.out).mono ?_
  rintro e wn4 ⟨rfl, hb⟩
  have hc := chB hb
  clear hb x00 x01 x02 x03
  have X3 := Lib.hid (hc.blk X3.out (by simp))
  have Y1 := Lib.hid (hc.blk Y1.out (by simp))
  have Y2 := Lib.hid (hc.blk Y2.out (by simp))
  have Y3 := Lib.hid (hc.blk Y3.out (by simp))
  have C := Lib.hid (C.out.trans hc)
  clear hc
  obtain ⟨x00, x01, x02, x03⟩ := cells3 X3.out
  go_wp2_with fail
  have X3 := Lib.hid (X3.out.alloc (.cells #[.int .i64 q1, .int .i64 q2, .int .i64 q3] 25))
  have Y1 := Lib.hid (Y1.out.alloc (.cells #[.int .i64 q1, .int .i64 q2, .int .i64 q3] 25))
  have Y2 := Lib.hid (Y2.out.alloc (.cells #[.int .i64 q1, .int .i64 q2, .int .i64 q3] 25))
  have Y3 := Lib.hid (Y3.out.alloc (.cells #[.int .i64 q1, .int .i64 q2, .int .i64 q3] 25))
  have C := Lib.hid (C.out.alloc (.cells #[.int .i64 q1, .int .i64 q2, .int .i64 q3] 25))
  have Y4 := Lib.hid (blk_new wn4 #[.int .i64 q1, .int .i64 q2, .int .i64 q3] 25)
  obtain ⟨bb4, hbb⟩ : ∃ b, wn4.heap.size = b := ⟨_, rfl⟩
  rw [hbb] at Y4 ⊢
  clear hbb
  refine (ctr_Exit.calls 5 s c l d t1 t2 t3 t4 _ F20.out).mono ?_
  rintro e wn5 ⟨rfl, hb⟩
  have hc := chB hb
  clear hb x00 x01 x02 x03
  have X3 := Lib.hid (hc.blk X3.out (by simp))
  have Y1 := Lib.hid (hc.blk Y1.out (by simp))
  have Y2 := Lib.hid (hc.blk Y2.out (by simp))
  have Y3 := Lib.hid (hc.blk Y3.out (by simp))
  have Y4 := Lib.hid (hc.blk Y4.out (by simp))
  have C := Lib.hid (C.out.trans hc)
  clear hc
  obtain ⟨x00, x01, x02, x03⟩ := cells3 X3.out
  go_wp2_with fail
  have X3 := Lib.hid (X3.out.alloc (.cells #[.int .i64 t1, .int .i64 t2, .int .i64 t3] 25))
  have Y1 := Lib.hid (Y1.out.alloc (.cells #[.int .i64 t1, .int .i64 t2, .int .i64 t3] 25))
  have Y2 := Lib.hid (Y2.out.alloc (.cells #[.int .i64 t1, .int .i64 t2, .int .i64 t3] 25))
  have Y3 := Lib.hid (Y3.out.alloc (.cells #[.int .i64 t1, .int .i64 t2, .int .i64 t3] 25))
  have Y4 := Lib.hid (Y4.out.alloc (.cells #[.int .i64 t1, .int .i64 t2, .int .i64 t3] 25))
  have C := Lib.hid (C.out.alloc (.cells #[.int .i64 t1, .int .i64 t2, .int .i64 t3] 25))
  have Y5 := Lib.hid (blk_new wn5 #[.int .i64 t1, .int .i64 t2, .int .i64 t3] 25)
  obtain ⟨bb5, hbb⟩ : ∃ b, wn5.heap.size = b := ⟨_, rfl⟩
  rw [hbb] at Y5 ⊢
  clear hbb
  refine (provostref19_Exit.calls 5 s c l d t1 t2 t3 t4 _ F21.out).mono ?_
  rintro e wn6 ⟨rfl, hb⟩
  have hc := chB hb
  clear hb x00 x01 x02 x03
  have X3 := Lib.hid (hc.blk X3.out (by simp))
  have Y1 := Lib.hid (hc.blk Y1.out (by simp))
  have Y2 := Lib.hid (hc.blk Y2.out (by simp))
  have Y3 := Lib.hid (hc.blk Y3.out (by simp))
  have Y4 := Lib.hid (hc.blk Y4.out (by simp))
  have Y5 := Lib.hid (hc.blk Y5.out (by simp))
  have C := Lib.hid (C.out.trans hc)
  clear hc
  obtain ⟨x00, x01, x02, x03⟩ := cells3 X3.out
  obtain ⟨x10, x11, x12, x13⟩ := cells3 Y1.out
  obtain ⟨x20, x21, x22, x23⟩ := cells3 Y2.out
  obtain ⟨x30, x31, x32, x33⟩ := cells3 Y3.out
  obtain ⟨x40, x41, x42, x43⟩ := cells3 Y4.out
  obtain ⟨x50, x51, x52, x53⟩ := cells3 Y5.out
  go_wp2_with fail
  have X3 := Lib.hid (X3.out.alloc (.cells #[.int .i64 t1, .int .i64 t2, .int .i64 t3] 25))
  have Y1 := Lib.hid (Y1.out.alloc (.cells #[.int .i64 t1, .int .i64 t2, .int .i64 t3] 25))
  have Y2 := Lib.hid (Y2.out.alloc (.cells #[.int .i64 t1, .int .i64 t2, .int .i64 t3] 25))
  have Y3 := Lib.hid (Y3.out.alloc (.cells #[.int .i64 t1, .int .i64 t2, .int .i64 t3] 25))
  have Y4 := Lib.hid (Y4.out.alloc (.cells #[.int .i64 t1, .int .i64 t2, .int .i64 t3] 25))
  have Y5 := Lib.hid (Y5.out.alloc (.cells #[.int .i64 t1, .int .i64 t2, .int .i64 t3] 25))
  have C := Lib.hid (C.out.alloc (.cells #[.int .i64 t1, .int .i64 t2, .int .i64 t3] 25))
  have Y6 := Lib.hid (blk_new wn6 #[.int .i64 t1, .int .i64 t2, .int .i64 t3] 25)
  obtain ⟨bb6, hbb⟩ : ∃ b, wn6.heap.size = b := ⟨_, rfl⟩
  rw [hbb] at Y6 ⊢
  clear hbb
  refine (ctr_Tick.calls s c l u1 u2 u3 u4 _ F14.out).mono ?_
  rintro e wn7 ⟨rfl, hb⟩
  have hc := chB hb
  clear hb x00 x01 x02 x03 x10 x11 x12 x13 x20 x21 x22 x23 x30 x31 x32 x33 x40 x41 x42 x43 x50 x51 x52 x53
  have X3 := Lib.hid (hc.blk X3.out (by simp))
  have C := Lib.hid (C.out.trans hc)
  clear hc
  obtain ⟨x00, x01, x02, x03⟩ := cells3 X3.out
  go_wp2_with fail
  have X3 := Lib.hid (X3.out.alloc (.cells #[.int .i64 u1, .int .i64 u2, .int .i64 u3] 25))
  have C := Lib.hid (C.out.alloc (.cells #[.int .i64 u1, .int .i64 u2, .int .i64 u3] 25))
  have Y7 := Lib.hid (blk_new wn7 #[.int .i64 u1, .int .i64 u2, .int .i64 u3] 25)
  obtain ⟨bb7, hbb⟩ : ∃ b, wn7.heap.size = b := ⟨_, rfl⟩
  rw [hbb] at Y7 ⊢
  clear hbb
  refine (provostref19_Tick.calls 5 s c l u1 u2 u3 u4 _ F22.out).mono ?_
  rintro e wn8 ⟨rfl, hb⟩
  have hc := chB hb
  clear hb x00 x01 x02 x03
  have X3 := Lib.hid (hc.blk X3.out (by simp))
  have Y7 := Lib.hid (hc.blk Y7.out (by simp))
  have C := Lib.hid (C.out.trans hc)
  clear hc
  obtain ⟨x00, x01, x02, x03⟩ := cells3 X3.out
  go_wp2_with fail
  have X3 := Lib.hid (X3.out.alloc (.cells #[.int .i64 u1, .int .i64 u2, .int .i64 u3] 25))
  have Y7 := Lib.hid (Y7.out.alloc (.cells #[.int .i64 u1, .int .i64 u2, .int .i64 u3] 25))
  have C := Lib.hid (C.out.alloc (.cells #[.int .i64 u1, .int .i64 u2, .int .i64 u3] 25))
  have Y8 := Lib.hid (blk_new wn8 #[.int .i64 u1, .int .i64 u2, .int .i64 u3] 25)
  obtain ⟨bb8, hbb⟩ : ∃ b, wn8.heap.size = b := ⟨_, rfl⟩
  rw [hbb] at Y8 ⊢
  clear hbb
  refine (ctr_Kill.calls s c l 4 137 0 true _ F23.out).mono ?_
  rintro e wn9 ⟨rfl, hb⟩
  have hc := chB hb
  clear hb x00 x01 x02 x03
  have X3 := Lib.hid (hc.blk X3.out (by simp))
  have Y7 := Lib.hid (hc.blk Y7.out (by simp))
  have Y8 := Lib.hid (hc.blk Y8.out (by simp))
  have C := Lib.hid (C.out.trans hc)
  clear hc
  obtain ⟨x00, x01, x02, x03⟩ := cells3 X3.out
  obtain ⟨x10, x11, x12, x13⟩ := cells3 Y7.out
  obtain ⟨x20, x21, x22, x23⟩ := cells3 Y8.out
  go_wp2_with fail
  have X3 := Lib.hid (X3.out.alloc (.cells #[.int .i64 4, .int .i64 137, .int .i64 0] 25))
  have Y7 := Lib.hid (Y7.out.alloc (.cells #[.int .i64 4, .int .i64 137, .int .i64 0] 25))
  have Y8 := Lib.hid (Y8.out.alloc (.cells #[.int .i64 4, .int .i64 137, .int .i64 0] 25))
  have C := Lib.hid (C.out.alloc (.cells #[.int .i64 4, .int .i64 137, .int .i64 0] 25))
  have Y9 := Lib.hid (blk_new wn9 #[.int .i64 4, .int .i64 137, .int .i64 0] 25)
  obtain ⟨bb9, hbb⟩ : ∃ b, wn9.heap.size = b := ⟨_, rfl⟩
  rw [hbb] at Y9 ⊢
  clear hbb
  refine (ctr_Made.calls 1 0 0 _ rfl).mono ?_
  rintro e wn10 ⟨rfl, hb⟩
  have hc := chB hb
  clear hb x00 x01 x02 x03 x10 x11 x12 x13 x20 x21 x22 x23
  have C := Lib.hid (C.out.trans hc)
  clear hc
  go_wp2_with fail
  refine (provostlaw19_works.calls 5 true _ works_f).mono ?_
  rintro e w6 ⟨rfl, hb⟩
  have C := Lib.hid (C.out.trans (chB hb))
  clear hb
  go_wp2_with fail
  go_ret
  exact ⟨rfl, by have := HB3.out; rw [this]; have := C.out.below0; rwa [HB3.out] at this⟩
set_option maxRecDepth 100000 in
set_option maxHeartbeats 8000000 in
theorem walk3 (s c l g d : Int) (w : World) (hr : rightB s c l = true) (h2 : (s == 2) = false) (h3 : (s == 3) = true) :
    Calls Try.prog 4 #[.agg #[.int .i64 s, .int .i64 c, .int .i64 l], .int .i64 g, .int .i64 d] w fun e w' => e = .returned (.bool true) ∧ Below w.heap.size w w' := by
  have M16 := Lib.hid (show ∀ W, Calls Try.prog 16 #[.agg #[.int .i64 s, .int .i64 c, .int .i64 l]] W fun e w' => e = .returned (.bool true) ∧ Ch [] W w' from fun W => (ctr_Right.calls s c l true W (by rw [right_f, hr])).mono fun e w' ⟨he, hb⟩ => ⟨he, chB hb⟩)
  have M17 := Lib.hid (show ∀ W, Calls Try.prog 17 #[.agg #[.int .i64 s, .int .i64 c, .int .i64 l]] W fun e w' => e = .returned (.bool true) ∧ Ch [] W w' from fun W => (provostref19_Right.calls s c l true W (by rw [rright_f, hr])).mono fun e w' ⟨he, hb⟩ => ⟨he, chB hb⟩)
  obtain ⟨p1, p2, p3, p4, hp, hp'⟩ := start_f s c l
  obtain ⟨q1, q2, q3, q4, hq, hq'⟩ := stop_f s c l g hr
  obtain ⟨t1, t2, t3, t4, ht, ht'⟩ := exit_f s c l d hr
  obtain ⟨u1, u2, u3, u4, hu, hu'⟩ := tick_f s c l hr
  have hv : ctr_Kill.f s c l = some (4, 137, 0, true) := by
    rw [kill_f s c l hr]; simp [runsB, h2, h3]
  have F10 := Lib.hid hp
  have F18 := Lib.hid hp'
  have F12 := Lib.hid hq
  have F19 := Lib.hid hq'
  have F20 := Lib.hid ht
  have F21 := Lib.hid ht'
  have F14 := Lib.hid hu
  have F22 := Lib.hid hu'
  have F23 := Lib.hid hv
  clear hp hp' hq hq' ht ht' hu hu' hv hr
  go_enter Try.func4, Try.ntmps4
  go_wp2_with fail
  have X3 := Lib.hid (blk_new w #[.int .i64 s, .int .i64 c, .int .i64 l] 25)
  have C3 := Lib.hid ((Ch.refl [] w).alloc (.cells #[.int .i64 s, .int .i64 c, .int .i64 l] 25))
  generalize w.alloc (.cells #[.int .i64 s, .int .i64 c, .int .i64 l] 25) = wa at *
  obtain ⟨b3, hb3⟩ : ∃ b, w.heap.size = b := ⟨_, rfl⟩
  rw [hb3] at X3 ⊢
  have HB3 := Lib.hid hb3
  clear hb3
  obtain ⟨x0, x1, x2, x3⟩ := cells3 X3.out
  have R := @From.cell wa
  refine wp_region_from (by kernel_rfl) (by kernel_rfl) ?_
  repeat (go_big_quiet_step (first | (go_at_call 16; exact class_of (M16.out _)) | (go_at_call 17; exact class_of (M17.out _))))
  refine wpQuiet_nil ?_
  rintro w4 ⟨y, hy⟩
  have hc4 : Ch [] wa w4 := hy ▸ y.property
  clear hy y R x0 x1 x2 x3
  have X3 := Lib.hid (hc4.blk X3.out (by simp))
  have C := Lib.hid (C3.out.trans hc4)
  clear hc4 C3
  obtain ⟨x0, x1, x2, x3⟩ := cells3 X3.out
  go_wp2_with fail
  refine (M17.out _).mono ?_
  rintro e w5 ⟨rfl, hc⟩
  have X3 := Lib.hid (hc.blk X3.out (by simp))
  have C := Lib.hid (C.out.trans hc)
  clear hc x0 x1 x2 x3
  obtain ⟨x0, x1, x2, x3⟩ := cells3 X3.out
  go_wp2_with fail
  refine (ctr_Start.calls s c l p1 p2 p3 p4 _ F10.out).mono ?_
  rintro e wn1 ⟨rfl, hb⟩
  have hc := chB hb
  clear hb x0 x1 x2 x3
  have X3 := Lib.hid (hc.blk X3.out (by simp))
  have C := Lib.hid (C.out.trans hc)
  clear hc
  obtain ⟨x00, x01, x02, x03⟩ := cells3 X3.out
  go_wp2_with fail
  have X3 := Lib.hid (X3.out.alloc (.cells #[.int .i64 p1, .int .i64 p2, .int .i64 p3] 25))
  have C := Lib.hid (C.out.alloc (.cells #[.int .i64 p1, .int .i64 p2, .int .i64 p3] 25))
  have Y1 := Lib.hid (blk_new wn1 #[.int .i64 p1, .int .i64 p2, .int .i64 p3] 25)
  obtain ⟨bb1, hbb⟩ : ∃ b, wn1.heap.size = b := ⟨_, rfl⟩
  rw [hbb] at Y1 ⊢
  clear hbb
  refine (provostref19_Start.calls s c l p1 p2 p3 p4 _ F18.out).mono ?_
  rintro e wn2 ⟨rfl, hb⟩
  have hc := chB hb
  clear hb x00 x01 x02 x03
  have X3 := Lib.hid (hc.blk X3.out (by simp))
  have Y1 := Lib.hid (hc.blk Y1.out (by simp))
  have C := Lib.hid (C.out.trans hc)
  clear hc
  obtain ⟨x00, x01, x02, x03⟩ := cells3 X3.out
  go_wp2_with fail
  have X3 := Lib.hid (X3.out.alloc (.cells #[.int .i64 p1, .int .i64 p2, .int .i64 p3] 25))
  have Y1 := Lib.hid (Y1.out.alloc (.cells #[.int .i64 p1, .int .i64 p2, .int .i64 p3] 25))
  have C := Lib.hid (C.out.alloc (.cells #[.int .i64 p1, .int .i64 p2, .int .i64 p3] 25))
  have Y2 := Lib.hid (blk_new wn2 #[.int .i64 p1, .int .i64 p2, .int .i64 p3] 25)
  obtain ⟨bb2, hbb⟩ : ∃ b, wn2.heap.size = b := ⟨_, rfl⟩
  rw [hbb] at Y2 ⊢
  clear hbb
  refine (ctr_Stop.calls 5 s c l g q1 q2 q3 q4 _ F12.out).mono ?_
  rintro e wn3 ⟨rfl, hb⟩
  have hc := chB hb
  clear hb x00 x01 x02 x03
  have X3 := Lib.hid (hc.blk X3.out (by simp))
  have Y1 := Lib.hid (hc.blk Y1.out (by simp))
  have Y2 := Lib.hid (hc.blk Y2.out (by simp))
  have C := Lib.hid (C.out.trans hc)
  clear hc
  obtain ⟨x00, x01, x02, x03⟩ := cells3 X3.out
  go_wp2_with fail
  have X3 := Lib.hid (X3.out.alloc (.cells #[.int .i64 q1, .int .i64 q2, .int .i64 q3] 25))
  have Y1 := Lib.hid (Y1.out.alloc (.cells #[.int .i64 q1, .int .i64 q2, .int .i64 q3] 25))
  have Y2 := Lib.hid (Y2.out.alloc (.cells #[.int .i64 q1, .int .i64 q2, .int .i64 q3] 25))
  have C := Lib.hid (C.out.alloc (.cells #[.int .i64 q1, .int .i64 q2, .int .i64 q3] 25))
  have Y3 := Lib.hid (blk_new wn3 #[.int .i64 q1, .int .i64 q2, .int .i64 q3] 25)
  obtain ⟨bb3, hbb⟩ : ∃ b, wn3.heap.size = b := ⟨_, rfl⟩
  rw [hbb] at Y3 ⊢
  clear hbb
  refine (provostref19_Stop.calls 5 s c l g q1 q2 q3 q4 _ F19.out).mono ?_
  rintro e wn4 ⟨rfl, hb⟩
  have hc := chB hb
  clear hb x00 x01 x02 x03
  have X3 := Lib.hid (hc.blk X3.out (by simp))
  have Y1 := Lib.hid (hc.blk Y1.out (by simp))
  have Y2 := Lib.hid (hc.blk Y2.out (by simp))
  have Y3 := Lib.hid (hc.blk Y3.out (by simp))
  have C := Lib.hid (C.out.trans hc)
  clear hc
  obtain ⟨x00, x01, x02, x03⟩ := cells3 X3.out
  go_wp2_with fail
  have X3 := Lib.hid (X3.out.alloc (.cells #[.int .i64 q1, .int .i64 q2, .int .i64 q3] 25))
  have Y1 := Lib.hid (Y1.out.alloc (.cells #[.int .i64 q1, .int .i64 q2, .int .i64 q3] 25))
  have Y2 := Lib.hid (Y2.out.alloc (.cells #[.int .i64 q1, .int .i64 q2, .int .i64 q3] 25))
  have Y3 := Lib.hid (Y3.out.alloc (.cells #[.int .i64 q1, .int .i64 q2, .int .i64 q3] 25))
  have C := Lib.hid (C.out.alloc (.cells #[.int .i64 q1, .int .i64 q2, .int .i64 q3] 25))
  have Y4 := Lib.hid (blk_new wn4 #[.int .i64 q1, .int .i64 q2, .int .i64 q3] 25)
  obtain ⟨bb4, hbb⟩ : ∃ b, wn4.heap.size = b := ⟨_, rfl⟩
  rw [hbb] at Y4 ⊢
  clear hbb
  refine (ctr_Exit.calls 5 s c l d t1 t2 t3 t4 _ F20.out).mono ?_
  rintro e wn5 ⟨rfl, hb⟩
  have hc := chB hb
  clear hb x00 x01 x02 x03
  have X3 := Lib.hid (hc.blk X3.out (by simp))
  have Y1 := Lib.hid (hc.blk Y1.out (by simp))
  have Y2 := Lib.hid (hc.blk Y2.out (by simp))
  have Y3 := Lib.hid (hc.blk Y3.out (by simp))
  have Y4 := Lib.hid (hc.blk Y4.out (by simp))
  have C := Lib.hid (C.out.trans hc)
  clear hc
  obtain ⟨x00, x01, x02, x03⟩ := cells3 X3.out
  go_wp2_with fail
  have X3 := Lib.hid (X3.out.alloc (.cells #[.int .i64 t1, .int .i64 t2, .int .i64 t3] 25))
  have Y1 := Lib.hid (Y1.out.alloc (.cells #[.int .i64 t1, .int .i64 t2, .int .i64 t3] 25))
  have Y2 := Lib.hid (Y2.out.alloc (.cells #[.int .i64 t1, .int .i64 t2, .int .i64 t3] 25))
  have Y3 := Lib.hid (Y3.out.alloc (.cells #[.int .i64 t1, .int .i64 t2, .int .i64 t3] 25))
  have Y4 := Lib.hid (Y4.out.alloc (.cells #[.int .i64 t1, .int .i64 t2, .int .i64 t3] 25))
  have C := Lib.hid (C.out.alloc (.cells #[.int .i64 t1, .int .i64 t2, .int .i64 t3] 25))
  have Y5 := Lib.hid (blk_new wn5 #[.int .i64 t1, .int .i64 t2, .int .i64 t3] 25)
  obtain ⟨bb5, hbb⟩ : ∃ b, wn5.heap.size = b := ⟨_, rfl⟩
  rw [hbb] at Y5 ⊢
  clear hbb
  refine (provostref19_Exit.calls 5 s c l d t1 t2 t3 t4 _ F21.out).mono ?_
  rintro e wn6 ⟨rfl, hb⟩
  have hc := chB hb
  clear hb x00 x01 x02 x03
  have X3 := Lib.hid (hc.blk X3.out (by simp))
  have Y1 := Lib.hid (hc.blk Y1.out (by simp))
  have Y2 := Lib.hid (hc.blk Y2.out (by simp))
  have Y3 := Lib.hid (hc.blk Y3.out (by simp))
  have Y4 := Lib.hid (hc.blk Y4.out (by simp))
  have Y5 := Lib.hid (hc.blk Y5.out (by simp))
  have C := Lib.hid (C.out.trans hc)
  clear hc
  obtain ⟨x00, x01, x02, x03⟩ := cells3 X3.out
  obtain ⟨x10, x11, x12, x13⟩ := cells3 Y1.out
  obtain ⟨x20, x21, x22, x23⟩ := cells3 Y2.out
  obtain ⟨x30, x31, x32, x33⟩ := cells3 Y3.out
  obtain ⟨x40, x41, x42, x43⟩ := cells3 Y4.out
  obtain ⟨x50, x51, x52, x53⟩ := cells3 Y5.out
  go_wp2_with fail
  have X3 := Lib.hid (X3.out.alloc (.cells #[.int .i64 t1, .int .i64 t2, .int .i64 t3] 25))
  have Y1 := Lib.hid (Y1.out.alloc (.cells #[.int .i64 t1, .int .i64 t2, .int .i64 t3] 25))
  have Y2 := Lib.hid (Y2.out.alloc (.cells #[.int .i64 t1, .int .i64 t2, .int .i64 t3] 25))
  have Y3 := Lib.hid (Y3.out.alloc (.cells #[.int .i64 t1, .int .i64 t2, .int .i64 t3] 25))
  have Y4 := Lib.hid (Y4.out.alloc (.cells #[.int .i64 t1, .int .i64 t2, .int .i64 t3] 25))
  have Y5 := Lib.hid (Y5.out.alloc (.cells #[.int .i64 t1, .int .i64 t2, .int .i64 t3] 25))
  have C := Lib.hid (C.out.alloc (.cells #[.int .i64 t1, .int .i64 t2, .int .i64 t3] 25))
  have Y6 := Lib.hid (blk_new wn6 #[.int .i64 t1, .int .i64 t2, .int .i64 t3] 25)
  obtain ⟨bb6, hbb⟩ : ∃ b, wn6.heap.size = b := ⟨_, rfl⟩
  rw [hbb] at Y6 ⊢
  clear hbb
  refine (ctr_Tick.calls s c l u1 u2 u3 u4 _ F14.out).mono ?_
  rintro e wn7 ⟨rfl, hb⟩
  have hc := chB hb
  clear hb x00 x01 x02 x03 x10 x11 x12 x13 x20 x21 x22 x23 x30 x31 x32 x33 x40 x41 x42 x43 x50 x51 x52 x53
  have X3 := Lib.hid (hc.blk X3.out (by simp))
  have C := Lib.hid (C.out.trans hc)
  clear hc
  obtain ⟨x00, x01, x02, x03⟩ := cells3 X3.out
  go_wp2_with fail
  have X3 := Lib.hid (X3.out.alloc (.cells #[.int .i64 u1, .int .i64 u2, .int .i64 u3] 25))
  have C := Lib.hid (C.out.alloc (.cells #[.int .i64 u1, .int .i64 u2, .int .i64 u3] 25))
  have Y7 := Lib.hid (blk_new wn7 #[.int .i64 u1, .int .i64 u2, .int .i64 u3] 25)
  obtain ⟨bb7, hbb⟩ : ∃ b, wn7.heap.size = b := ⟨_, rfl⟩
  rw [hbb] at Y7 ⊢
  clear hbb
  refine (provostref19_Tick.calls 5 s c l u1 u2 u3 u4 _ F22.out).mono ?_
  rintro e wn8 ⟨rfl, hb⟩
  have hc := chB hb
  clear hb x00 x01 x02 x03
  have X3 := Lib.hid (hc.blk X3.out (by simp))
  have Y7 := Lib.hid (hc.blk Y7.out (by simp))
  have C := Lib.hid (C.out.trans hc)
  clear hc
  obtain ⟨x00, x01, x02, x03⟩ := cells3 X3.out
  go_wp2_with fail
  have X3 := Lib.hid (X3.out.alloc (.cells #[.int .i64 u1, .int .i64 u2, .int .i64 u3] 25))
  have Y7 := Lib.hid (Y7.out.alloc (.cells #[.int .i64 u1, .int .i64 u2, .int .i64 u3] 25))
  have C := Lib.hid (C.out.alloc (.cells #[.int .i64 u1, .int .i64 u2, .int .i64 u3] 25))
  have Y8 := Lib.hid (blk_new wn8 #[.int .i64 u1, .int .i64 u2, .int .i64 u3] 25)
  obtain ⟨bb8, hbb⟩ : ∃ b, wn8.heap.size = b := ⟨_, rfl⟩
  rw [hbb] at Y8 ⊢
  clear hbb
  refine (ctr_Kill.calls s c l 4 137 0 true _ F23.out).mono ?_
  rintro e wn9 ⟨rfl, hb⟩
  have hc := chB hb
  clear hb x00 x01 x02 x03
  have X3 := Lib.hid (hc.blk X3.out (by simp))
  have Y7 := Lib.hid (hc.blk Y7.out (by simp))
  have Y8 := Lib.hid (hc.blk Y8.out (by simp))
  have C := Lib.hid (C.out.trans hc)
  clear hc
  obtain ⟨x00, x01, x02, x03⟩ := cells3 X3.out
  obtain ⟨x10, x11, x12, x13⟩ := cells3 Y7.out
  obtain ⟨x20, x21, x22, x23⟩ := cells3 Y8.out
  go_wp2_with fail
  have X3 := Lib.hid (X3.out.alloc (.cells #[.int .i64 4, .int .i64 137, .int .i64 0] 25))
  have Y7 := Lib.hid (Y7.out.alloc (.cells #[.int .i64 4, .int .i64 137, .int .i64 0] 25))
  have Y8 := Lib.hid (Y8.out.alloc (.cells #[.int .i64 4, .int .i64 137, .int .i64 0] 25))
  have C := Lib.hid (C.out.alloc (.cells #[.int .i64 4, .int .i64 137, .int .i64 0] 25))
  have Y9 := Lib.hid (blk_new wn9 #[.int .i64 4, .int .i64 137, .int .i64 0] 25)
  obtain ⟨bb9, hbb⟩ : ∃ b, wn9.heap.size = b := ⟨_, rfl⟩
  rw [hbb] at Y9 ⊢
  clear hbb
  refine (ctr_Made.calls 1 0 0 _ rfl).mono ?_
  rintro e wn10 ⟨rfl, hb⟩
  have hc := chB hb
  clear hb x00 x01 x02 x03 x10 x11 x12 x13 x20 x21 x22 x23
  have C := Lib.hid (C.out.trans hc)
  clear hc
  go_wp2_with fail
  refine (provostlaw19_works.calls 5 true _ works_f).mono ?_
  rintro e w6 ⟨rfl, hb⟩
  have C := Lib.hid (C.out.trans (chB hb))
  clear hb
  go_wp2_with fail
  go_ret
  exact ⟨rfl, by have := HB3.out; rw [this]; have := C.out.below0; rwa [HB3.out] at this⟩
set_option maxRecDepth 100000 in
set_option maxHeartbeats 8000000 in
theorem walk14 (s c l g d : Int) (w : World) (hr : rightB s c l = true) (h2 : (s == 2) = false) (h3 : (s == 3) = false) :
    Calls Try.prog 4 #[.agg #[.int .i64 s, .int .i64 c, .int .i64 l], .int .i64 g, .int .i64 d] w fun e w' => e = .returned (.bool true) ∧ Below w.heap.size w w' := by
  have M16 := Lib.hid (show ∀ W, Calls Try.prog 16 #[.agg #[.int .i64 s, .int .i64 c, .int .i64 l]] W fun e w' => e = .returned (.bool true) ∧ Ch [] W w' from fun W => (ctr_Right.calls s c l true W (by rw [right_f, hr])).mono fun e w' ⟨he, hb⟩ => ⟨he, chB hb⟩)
  have M17 := Lib.hid (show ∀ W, Calls Try.prog 17 #[.agg #[.int .i64 s, .int .i64 c, .int .i64 l]] W fun e w' => e = .returned (.bool true) ∧ Ch [] W w' from fun W => (provostref19_Right.calls s c l true W (by rw [rright_f, hr])).mono fun e w' ⟨he, hb⟩ => ⟨he, chB hb⟩)
  obtain ⟨p1, p2, p3, p4, hp, hp'⟩ := start_f s c l
  obtain ⟨q1, q2, q3, q4, hq, hq'⟩ := stop_f s c l g hr
  obtain ⟨t1, t2, t3, t4, ht, ht'⟩ := exit_f s c l d hr
  obtain ⟨u1, u2, u3, u4, hu, hu'⟩ := tick_f s c l hr
  have hv : ctr_Kill.f s c l = some (s, c, l, false) := by
    rw [kill_f s c l hr]; simp [runsB, h2, h3]
  have F10 := Lib.hid hp
  have F18 := Lib.hid hp'
  have F12 := Lib.hid hq
  have F19 := Lib.hid hq'
  have F20 := Lib.hid ht
  have F21 := Lib.hid ht'
  have F14 := Lib.hid hu
  have F22 := Lib.hid hu'
  have F23 := Lib.hid hv
  clear hp hp' hq hq' ht ht' hu hu' hv hr
  go_enter Try.func4, Try.ntmps4
  go_wp2_with fail
  have X3 := Lib.hid (blk_new w #[.int .i64 s, .int .i64 c, .int .i64 l] 25)
  have C3 := Lib.hid ((Ch.refl [] w).alloc (.cells #[.int .i64 s, .int .i64 c, .int .i64 l] 25))
  generalize w.alloc (.cells #[.int .i64 s, .int .i64 c, .int .i64 l] 25) = wa at *
  obtain ⟨b3, hb3⟩ : ∃ b, w.heap.size = b := ⟨_, rfl⟩
  rw [hb3] at X3 ⊢
  have HB3 := Lib.hid hb3
  clear hb3
  obtain ⟨x0, x1, x2, x3⟩ := cells3 X3.out
  have R := @From.cell wa
  refine wp_region_from (by kernel_rfl) (by kernel_rfl) ?_
  repeat (go_big_quiet_step (first | (go_at_call 16; exact class_of (M16.out _)) | (go_at_call 17; exact class_of (M17.out _))))
  refine wpQuiet_nil ?_
  rintro w4 ⟨y, hy⟩
  have hc4 : Ch [] wa w4 := hy ▸ y.property
  clear hy y R x0 x1 x2 x3
  have X3 := Lib.hid (hc4.blk X3.out (by simp))
  have C := Lib.hid (C3.out.trans hc4)
  clear hc4 C3
  obtain ⟨x0, x1, x2, x3⟩ := cells3 X3.out
  go_wp2_with fail
  refine (M17.out _).mono ?_
  rintro e w5 ⟨rfl, hc⟩
  have X3 := Lib.hid (hc.blk X3.out (by simp))
  have C := Lib.hid (C.out.trans hc)
  clear hc x0 x1 x2 x3
  obtain ⟨x0, x1, x2, x3⟩ := cells3 X3.out
  go_wp2_with fail
  refine (ctr_Start.calls s c l p1 p2 p3 p4 _ F10.out).mono ?_
  rintro e wn1 ⟨rfl, hb⟩
  have hc := chB hb
  clear hb x0 x1 x2 x3
  have X3 := Lib.hid (hc.blk X3.out (by simp))
  have C := Lib.hid (C.out.trans hc)
  clear hc
  obtain ⟨x00, x01, x02, x03⟩ := cells3 X3.out
  go_wp2_with fail
  have X3 := Lib.hid (X3.out.alloc (.cells #[.int .i64 p1, .int .i64 p2, .int .i64 p3] 25))
  have C := Lib.hid (C.out.alloc (.cells #[.int .i64 p1, .int .i64 p2, .int .i64 p3] 25))
  have Y1 := Lib.hid (blk_new wn1 #[.int .i64 p1, .int .i64 p2, .int .i64 p3] 25)
  obtain ⟨bb1, hbb⟩ : ∃ b, wn1.heap.size = b := ⟨_, rfl⟩
  rw [hbb] at Y1 ⊢
  clear hbb
  refine (provostref19_Start.calls s c l p1 p2 p3 p4 _ F18.out).mono ?_
  rintro e wn2 ⟨rfl, hb⟩
  have hc := chB hb
  clear hb x00 x01 x02 x03
  have X3 := Lib.hid (hc.blk X3.out (by simp))
  have Y1 := Lib.hid (hc.blk Y1.out (by simp))
  have C := Lib.hid (C.out.trans hc)
  clear hc
  obtain ⟨x00, x01, x02, x03⟩ := cells3 X3.out
  go_wp2_with fail
  have X3 := Lib.hid (X3.out.alloc (.cells #[.int .i64 p1, .int .i64 p2, .int .i64 p3] 25))
  have Y1 := Lib.hid (Y1.out.alloc (.cells #[.int .i64 p1, .int .i64 p2, .int .i64 p3] 25))
  have C := Lib.hid (C.out.alloc (.cells #[.int .i64 p1, .int .i64 p2, .int .i64 p3] 25))
  have Y2 := Lib.hid (blk_new wn2 #[.int .i64 p1, .int .i64 p2, .int .i64 p3] 25)
  obtain ⟨bb2, hbb⟩ : ∃ b, wn2.heap.size = b := ⟨_, rfl⟩
  rw [hbb] at Y2 ⊢
  clear hbb
  refine (ctr_Stop.calls 5 s c l g q1 q2 q3 q4 _ F12.out).mono ?_
  rintro e wn3 ⟨rfl, hb⟩
  have hc := chB hb
  clear hb x00 x01 x02 x03
  have X3 := Lib.hid (hc.blk X3.out (by simp))
  have Y1 := Lib.hid (hc.blk Y1.out (by simp))
  have Y2 := Lib.hid (hc.blk Y2.out (by simp))
  have C := Lib.hid (C.out.trans hc)
  clear hc
  obtain ⟨x00, x01, x02, x03⟩ := cells3 X3.out
  go_wp2_with fail
  have X3 := Lib.hid (X3.out.alloc (.cells #[.int .i64 q1, .int .i64 q2, .int .i64 q3] 25))
  have Y1 := Lib.hid (Y1.out.alloc (.cells #[.int .i64 q1, .int .i64 q2, .int .i64 q3] 25))
  have Y2 := Lib.hid (Y2.out.alloc (.cells #[.int .i64 q1, .int .i64 q2, .int .i64 q3] 25))
  have C := Lib.hid (C.out.alloc (.cells #[.int .i64 q1, .int .i64 q2, .int .i64 q3] 25))
  have Y3 := Lib.hid (blk_new wn3 #[.int .i64 q1, .int .i64 q2, .int .i64 q3] 25)
  obtain ⟨bb3, hbb⟩ : ∃ b, wn3.heap.size = b := ⟨_, rfl⟩
  rw [hbb] at Y3 ⊢
  clear hbb
  refine (provostref19_Stop.calls 5 s c l g q1 q2 q3 q4 _ F19.out).mono ?_
  rintro e wn4 ⟨rfl, hb⟩
  have hc := chB hb
  clear hb x00 x01 x02 x03
  have X3 := Lib.hid (hc.blk X3.out (by simp))
  have Y1 := Lib.hid (hc.blk Y1.out (by simp))
  have Y2 := Lib.hid (hc.blk Y2.out (by simp))
  have Y3 := Lib.hid (hc.blk Y3.out (by simp))
  have C := Lib.hid (C.out.trans hc)
  clear hc
  obtain ⟨x00, x01, x02, x03⟩ := cells3 X3.out
  go_wp2_with fail
  have X3 := Lib.hid (X3.out.alloc (.cells #[.int .i64 q1, .int .i64 q2, .int .i64 q3] 25))
  have Y1 := Lib.hid (Y1.out.alloc (.cells #[.int .i64 q1, .int .i64 q2, .int .i64 q3] 25))
  have Y2 := Lib.hid (Y2.out.alloc (.cells #[.int .i64 q1, .int .i64 q2, .int .i64 q3] 25))
  have Y3 := Lib.hid (Y3.out.alloc (.cells #[.int .i64 q1, .int .i64 q2, .int .i64 q3] 25))
  have C := Lib.hid (C.out.alloc (.cells #[.int .i64 q1, .int .i64 q2, .int .i64 q3] 25))
  have Y4 := Lib.hid (blk_new wn4 #[.int .i64 q1, .int .i64 q2, .int .i64 q3] 25)
  obtain ⟨bb4, hbb⟩ : ∃ b, wn4.heap.size = b := ⟨_, rfl⟩
  rw [hbb] at Y4 ⊢
  clear hbb
  refine (ctr_Exit.calls 5 s c l d t1 t2 t3 t4 _ F20.out).mono ?_
  rintro e wn5 ⟨rfl, hb⟩
  have hc := chB hb
  clear hb x00 x01 x02 x03
  have X3 := Lib.hid (hc.blk X3.out (by simp))
  have Y1 := Lib.hid (hc.blk Y1.out (by simp))
  have Y2 := Lib.hid (hc.blk Y2.out (by simp))
  have Y3 := Lib.hid (hc.blk Y3.out (by simp))
  have Y4 := Lib.hid (hc.blk Y4.out (by simp))
  have C := Lib.hid (C.out.trans hc)
  clear hc
  obtain ⟨x00, x01, x02, x03⟩ := cells3 X3.out
  go_wp2_with fail
  have X3 := Lib.hid (X3.out.alloc (.cells #[.int .i64 t1, .int .i64 t2, .int .i64 t3] 25))
  have Y1 := Lib.hid (Y1.out.alloc (.cells #[.int .i64 t1, .int .i64 t2, .int .i64 t3] 25))
  have Y2 := Lib.hid (Y2.out.alloc (.cells #[.int .i64 t1, .int .i64 t2, .int .i64 t3] 25))
  have Y3 := Lib.hid (Y3.out.alloc (.cells #[.int .i64 t1, .int .i64 t2, .int .i64 t3] 25))
  have Y4 := Lib.hid (Y4.out.alloc (.cells #[.int .i64 t1, .int .i64 t2, .int .i64 t3] 25))
  have C := Lib.hid (C.out.alloc (.cells #[.int .i64 t1, .int .i64 t2, .int .i64 t3] 25))
  have Y5 := Lib.hid (blk_new wn5 #[.int .i64 t1, .int .i64 t2, .int .i64 t3] 25)
  obtain ⟨bb5, hbb⟩ : ∃ b, wn5.heap.size = b := ⟨_, rfl⟩
  rw [hbb] at Y5 ⊢
  clear hbb
  refine (provostref19_Exit.calls 5 s c l d t1 t2 t3 t4 _ F21.out).mono ?_
  rintro e wn6 ⟨rfl, hb⟩
  have hc := chB hb
  clear hb x00 x01 x02 x03
  have X3 := Lib.hid (hc.blk X3.out (by simp))
  have Y1 := Lib.hid (hc.blk Y1.out (by simp))
  have Y2 := Lib.hid (hc.blk Y2.out (by simp))
  have Y3 := Lib.hid (hc.blk Y3.out (by simp))
  have Y4 := Lib.hid (hc.blk Y4.out (by simp))
  have Y5 := Lib.hid (hc.blk Y5.out (by simp))
  have C := Lib.hid (C.out.trans hc)
  clear hc
  obtain ⟨x00, x01, x02, x03⟩ := cells3 X3.out
  obtain ⟨x10, x11, x12, x13⟩ := cells3 Y1.out
  obtain ⟨x20, x21, x22, x23⟩ := cells3 Y2.out
  obtain ⟨x30, x31, x32, x33⟩ := cells3 Y3.out
  obtain ⟨x40, x41, x42, x43⟩ := cells3 Y4.out
  obtain ⟨x50, x51, x52, x53⟩ := cells3 Y5.out
  go_wp2_with fail
  have X3 := Lib.hid (X3.out.alloc (.cells #[.int .i64 t1, .int .i64 t2, .int .i64 t3] 25))
  have Y1 := Lib.hid (Y1.out.alloc (.cells #[.int .i64 t1, .int .i64 t2, .int .i64 t3] 25))
  have Y2 := Lib.hid (Y2.out.alloc (.cells #[.int .i64 t1, .int .i64 t2, .int .i64 t3] 25))
  have Y3 := Lib.hid (Y3.out.alloc (.cells #[.int .i64 t1, .int .i64 t2, .int .i64 t3] 25))
  have Y4 := Lib.hid (Y4.out.alloc (.cells #[.int .i64 t1, .int .i64 t2, .int .i64 t3] 25))
  have Y5 := Lib.hid (Y5.out.alloc (.cells #[.int .i64 t1, .int .i64 t2, .int .i64 t3] 25))
  have C := Lib.hid (C.out.alloc (.cells #[.int .i64 t1, .int .i64 t2, .int .i64 t3] 25))
  have Y6 := Lib.hid (blk_new wn6 #[.int .i64 t1, .int .i64 t2, .int .i64 t3] 25)
  obtain ⟨bb6, hbb⟩ : ∃ b, wn6.heap.size = b := ⟨_, rfl⟩
  rw [hbb] at Y6 ⊢
  clear hbb
  refine (ctr_Tick.calls s c l u1 u2 u3 u4 _ F14.out).mono ?_
  rintro e wn7 ⟨rfl, hb⟩
  have hc := chB hb
  clear hb x00 x01 x02 x03 x10 x11 x12 x13 x20 x21 x22 x23 x30 x31 x32 x33 x40 x41 x42 x43 x50 x51 x52 x53
  have X3 := Lib.hid (hc.blk X3.out (by simp))
  have C := Lib.hid (C.out.trans hc)
  clear hc
  obtain ⟨x00, x01, x02, x03⟩ := cells3 X3.out
  go_wp2_with fail
  have X3 := Lib.hid (X3.out.alloc (.cells #[.int .i64 u1, .int .i64 u2, .int .i64 u3] 25))
  have C := Lib.hid (C.out.alloc (.cells #[.int .i64 u1, .int .i64 u2, .int .i64 u3] 25))
  have Y7 := Lib.hid (blk_new wn7 #[.int .i64 u1, .int .i64 u2, .int .i64 u3] 25)
  obtain ⟨bb7, hbb⟩ : ∃ b, wn7.heap.size = b := ⟨_, rfl⟩
  rw [hbb] at Y7 ⊢
  clear hbb
  refine (provostref19_Tick.calls 5 s c l u1 u2 u3 u4 _ F22.out).mono ?_
  rintro e wn8 ⟨rfl, hb⟩
  have hc := chB hb
  clear hb x00 x01 x02 x03
  have X3 := Lib.hid (hc.blk X3.out (by simp))
  have Y7 := Lib.hid (hc.blk Y7.out (by simp))
  have C := Lib.hid (C.out.trans hc)
  clear hc
  obtain ⟨x00, x01, x02, x03⟩ := cells3 X3.out
  go_wp2_with fail
  have X3 := Lib.hid (X3.out.alloc (.cells #[.int .i64 u1, .int .i64 u2, .int .i64 u3] 25))
  have Y7 := Lib.hid (Y7.out.alloc (.cells #[.int .i64 u1, .int .i64 u2, .int .i64 u3] 25))
  have C := Lib.hid (C.out.alloc (.cells #[.int .i64 u1, .int .i64 u2, .int .i64 u3] 25))
  have Y8 := Lib.hid (blk_new wn8 #[.int .i64 u1, .int .i64 u2, .int .i64 u3] 25)
  obtain ⟨bb8, hbb⟩ : ∃ b, wn8.heap.size = b := ⟨_, rfl⟩
  rw [hbb] at Y8 ⊢
  clear hbb
  refine (ctr_Kill.calls s c l s c l false _ F23.out).mono ?_
  rintro e wn9 ⟨rfl, hb⟩
  have hc := chB hb
  clear hb x00 x01 x02 x03
  have X3 := Lib.hid (hc.blk X3.out (by simp))
  have Y7 := Lib.hid (hc.blk Y7.out (by simp))
  have Y8 := Lib.hid (hc.blk Y8.out (by simp))
  have C := Lib.hid (C.out.trans hc)
  clear hc
  obtain ⟨x00, x01, x02, x03⟩ := cells3 X3.out
  obtain ⟨x10, x11, x12, x13⟩ := cells3 Y7.out
  obtain ⟨x20, x21, x22, x23⟩ := cells3 Y8.out
  go_wp2_with fail
  have X3 := Lib.hid (X3.out.alloc (.cells #[.int .i64 s, .int .i64 c, .int .i64 l] 25))
  have Y7 := Lib.hid (Y7.out.alloc (.cells #[.int .i64 s, .int .i64 c, .int .i64 l] 25))
  have Y8 := Lib.hid (Y8.out.alloc (.cells #[.int .i64 s, .int .i64 c, .int .i64 l] 25))
  have C := Lib.hid (C.out.alloc (.cells #[.int .i64 s, .int .i64 c, .int .i64 l] 25))
  have Y9 := Lib.hid (blk_new wn9 #[.int .i64 s, .int .i64 c, .int .i64 l] 25)
  obtain ⟨bb9, hbb⟩ : ∃ b, wn9.heap.size = b := ⟨_, rfl⟩
  rw [hbb] at Y9 ⊢
  clear hbb
  refine (ctr_Made.calls 1 0 0 _ rfl).mono ?_
  rintro e wn10 ⟨rfl, hb⟩
  have hc := chB hb
  clear hb x00 x01 x02 x03 x10 x11 x12 x13 x20 x21 x22 x23
  have C := Lib.hid (C.out.trans hc)
  clear hc
  go_wp2_with fail
  refine (provostlaw19_works.calls 5 true _ works_f).mono ?_
  rintro e w6 ⟨rfl, hb⟩
  have C := Lib.hid (C.out.trans (chB hb))
  clear hb
  go_wp2_with fail
  go_ret
  exact ⟨rfl, by have := HB3.out; rw [this]; have := C.out.below0; rwa [HB3.out] at this⟩
/-- What is told of a container that comes in. -/
def InC (w : World) (cs : Array Value) : Prop := ∃ s c l : Int, cs = #[.int .i64 s, .int .i64 c, .int .i64 l]
theorem ctr_in {H : Type} {enc : TypeId × Value → H} {w : World} {base : Nat} {spare : Nat → Bool} {held : Bool} {fuel : Nat} {cs : Array Value} {x : DataW H × List MemPlace} (hx : DataW.trod enc Try.prog w base spare held fuel 25 cs.toList = some x) : InC w cs := by
  obtain ⟨v, ⟨c1, c2, e, h1, c3, c4, e2, h2, h3⟩, _⟩ := (fits_struct (N := 3) Try.underlying25 (by kernel_rfl) (fitsF_cons (n1 := 1) rfl rfl (by kernel_rfl) (fits_int Try.underlying3) (fitsF_cons (n1 := 1) rfl rfl (by kernel_rfl) (fits_int Try.underlying3) (fitsF_last rfl rfl (by kernel_rfl) (fits_int Try.underlying3))))) H enc w base spare held fuel cs.toList x hx
  have h1' : c1 = [.int .i64 v.1] := h1
  have h2' : c3 = [.int .i64 v.2.1] := h2
  have h3' : c4 = [.int .i64 v.2.2] := h3
  subst h1' h2' h3' e2
  exact ⟨v.1, v.2.1, v.2.2, by cases cs; simpa using e⟩
theorem walk (a0 : Array Value) (a1 a2 : Int) (w : World) (w0 : InC w a0) (w1 : (Lit.int .i64 a1).wf = true) (w2 : (Lit.int .i64 a2).wf = true) :
    Calls Try.prog 4 #[.agg a0, .int .i64 a1, .int .i64 a2] w fun e w' => e = .returned (.bool true) ∧ Below w.heap.size w w' := by
  obtain ⟨s, c, l, rfl⟩ := w0
  rcases hr : rightB s c l with _ | _
  · exact walkNo s c l a1 a2 w hr
  · by_cases h2 : s = 2
    · exact walk2 s c l a1 a2 w hr (by simpa using h2)
    · by_cases h3 : s = 3
      · exact walk3 s c l a1 a2 w hr (by simpa using h2) (by simpa using h3)
      · exact walk14 s c l a1 a2 w hr (by simpa using h2) (by simpa using h3)
end Go.Proofs.Ytgpoolcaooiemaa.ctrStepsWalk
