-- Written by a changed copy of the print (some functions are given by contracts of this session): text of this seat
import Derived.Test.YtfbecehinloldaaPFrameOncex0
import Derived.Test.YtfbecehinloldaaPFrameOncex1
namespace Go.Proofs.Ytfbecehinloldaa.PFrameOnce
open Go.RowKit Go.Proofs.YtfbecehinloldaaW.PrintWords Go.Proofs.YtfbecehinloldaaW.PrintLast Go.Proofs.YtfbecehinloldaaW.PrintMore
attribute [local go_sem] max2_int min2_int max_two min_two max_three min_three max_four min_four   -- for this text's walks alone
set_option linter.unusedVariables false
set_option linter.unusedSimpArgs false

/-! ### provostlaw05_FrameOnce: function 4 -/
mutual
def provostlaw05_FrameOnce.l0 : Nat → List ByteArray → Int → Int → ByteArray → Bool → Option (Bool)
  | 0, _, _, _, _, _ => none
  | k + 1, x0, x4, x5, x136000, x136001 => if x5 < (x0.length : Int) then (provostlaw05_FrameOnce.j1 k x0 x4 x5 (decide (x5 < 60)) x136000 x136001) else (provostlaw05_FrameOnce.j1 k x0 x4 x5 false x136000 x136001)
def provostlaw05_FrameOnce.j1 : Nat → List ByteArray → Int → Int → Bool → ByteArray → Bool → Option (Bool)
  | 0, _, _, _, _, _, _ => none
  | k + 1, x0, x4, x5, x22, x136000, x136001 => if x22 = true then (if 0 ≤ x5 then (if x5 < (x0.length : Int) then (if ((rdOf ByteArray.empty x0 x5).size : Int) > 9000 then (some true) else ((frame_Split_Closed.f x136000 x136001).bind fun bt137 => ((frame_Split_Feed.f bt137.2.1 bt137.2.2 (rdOf ByteArray.empty x0 x5)).bind fun bt141 => ((frame_Split_Next.f bt141.2.1 bt141.2.2).bind fun bt144 => (if bt137.1 = true then (if bt141.1 = 400 then (if bt144.2.1 = 400 then (if bt144.1.toList = ([] : List UInt8) then ((frame_Split_Left.f bt144.2.2.1 bt144.2.2.2).bind fun bt148 => (provostlaw05_FrameOnce.j2 k x0 x4 x5 bt137.1 bt141.1 bt144.1 bt144.2.1 (bt148.1 != 0) bt148.2.1 bt148.2.2)) else (provostlaw05_FrameOnce.j2 k x0 x4 x5 bt137.1 bt141.1 bt144.1 bt144.2.1 true bt144.2.2.1 bt144.2.2.2)) else (provostlaw05_FrameOnce.j2 k x0 x4 x5 bt137.1 bt141.1 bt144.1 bt144.2.1 true bt144.2.2.1 bt144.2.2.2)) else (provostlaw05_FrameOnce.j2 k x0 x4 x5 bt137.1 bt141.1 bt144.1 bt144.2.1 true bt144.2.2.1 bt144.2.2.2)) else (provostlaw05_FrameOnce.j2 k x0 x4 x5 bt137.1 bt141.1 bt144.1 bt144.2.1 false bt144.2.2.1 bt144.2.2.2)))))) else (none)) else (none)) else (some (decide (x4 ≤ 1)))
def provostlaw05_FrameOnce.j2 : Nat → List ByteArray → Int → Int → Bool → Int → ByteArray → Int → Bool → ByteArray → Bool → Option (Bool)
  | 0, _, _, _, _, _, _, _, _, _, _ => none
  | k + 1, x0, x4, x5, x6, x7, x8, x9, x61, x136000, x136001 => if x61 = true then (some false) else (if x7 = 2 then (provostlaw05_FrameOnce.j3 k x0 x4 x5 x6 x7 x8 x9 true x136000 x136001) else (provostlaw05_FrameOnce.j3 k x0 x4 x5 x6 x7 x8 x9 (x9 == 2) x136000 x136001))
def provostlaw05_FrameOnce.j3 : Nat → List ByteArray → Int → Int → Bool → Int → ByteArray → Int → Bool → ByteArray → Bool → Option (Bool)
  | 0, _, _, _, _, _, _, _, _, _, _ => none
  | k + 1, x0, x4, x5, x6, x7, x8, x9, x67, x136000, x136001 => if x67 = true then (if x7 = 2 then ((frame_Split_Closed.f x136000 x136001).bind fun bt151 => (if (true != bt151.1) = true then (some false) else (if (x8.size : Int) > 2048 then (some false) else (provostlaw05_FrameOnce.l0 k x0 (wrap64 (x4 + 1)) (wrap64 (x5 + 1)) bt151.2.1 bt151.2.2)))) else (if x9 = 2 then ((frame_Split_Closed.f x136000 x136001).bind fun bt154 => (if (true != bt154.1) = true then (some false) else (if (x8.size : Int) > 2048 then (some false) else (provostlaw05_FrameOnce.l0 k x0 (wrap64 (x4 + 1)) (wrap64 (x5 + 1)) bt154.2.1 bt154.2.2)))) else ((frame_Split_Closed.f x136000 x136001).bind fun bt157 => (if (x6 != bt157.1) = true then (some false) else (if (x8.size : Int) > 2048 then (some false) else (provostlaw05_FrameOnce.l0 k x0 (wrap64 (x4 + 1)) (wrap64 (x5 + 1)) bt157.2.1 bt157.2.2)))))) else (if x7 = 2 then ((frame_Split_Closed.f x136000 x136001).bind fun bt160 => (if (true != bt160.1) = true then (some false) else (if (x8.size : Int) > 2048 then (some false) else (provostlaw05_FrameOnce.l0 k x0 x4 (wrap64 (x5 + 1)) bt160.2.1 bt160.2.2)))) else (if x9 = 2 then ((frame_Split_Closed.f x136000 x136001).bind fun bt163 => (if (true != bt163.1) = true then (some false) else (if (x8.size : Int) > 2048 then (some false) else (provostlaw05_FrameOnce.l0 k x0 x4 (wrap64 (x5 + 1)) bt163.2.1 bt163.2.2)))) else ((frame_Split_Closed.f x136000 x136001).bind fun bt166 => (if (x6 != bt166.1) = true then (some false) else (if (x8.size : Int) > 2048 then (some false) else (provostlaw05_FrameOnce.l0 k x0 x4 (wrap64 (x5 + 1)) bt166.2.1 bt166.2.2))))))
end
def provostlaw05_FrameOnce.f (k : Nat) (l0 : List ByteArray) : Option (Bool) := (provostlaw05_works.f).bind fun t132 => (if t132 = true then ((frame_New.f).bind fun bt133 => (provostlaw05_FrameOnce.l0 k l0 0 0 bt133.1 bt133.2)) else (some false))
theorem provostlaw05_FrameOnce.mono_l : ∀ k, (∀ y0 y1 y2 y3 y4, LeO (provostlaw05_FrameOnce.l0 k y0 y1 y2 y3 y4) (provostlaw05_FrameOnce.l0 (k + 1) y0 y1 y2 y3 y4)) ∧ (∀ y0 y1 y2 y3 y4 y5, LeO (provostlaw05_FrameOnce.j1 k y0 y1 y2 y3 y4 y5) (provostlaw05_FrameOnce.j1 (k + 1) y0 y1 y2 y3 y4 y5)) ∧ (∀ y0 y1 y2 y3 y4 y5 y6 y7 y8 y9, LeO (provostlaw05_FrameOnce.j2 k y0 y1 y2 y3 y4 y5 y6 y7 y8 y9) (provostlaw05_FrameOnce.j2 (k + 1) y0 y1 y2 y3 y4 y5 y6 y7 y8 y9)) ∧ (∀ y0 y1 y2 y3 y4 y5 y6 y7 y8 y9, LeO (provostlaw05_FrameOnce.j3 k y0 y1 y2 y3 y4 y5 y6 y7 y8 y9) (provostlaw05_FrameOnce.j3 (k + 1) y0 y1 y2 y3 y4 y5 y6 y7 y8 y9))
  | 0 => ⟨fun _ _ _ _ _ r h => by simp [provostlaw05_FrameOnce.l0] at h, fun _ _ _ _ _ _ r h => by simp [provostlaw05_FrameOnce.j1] at h, fun _ _ _ _ _ _ _ _ _ _ r h => by simp [provostlaw05_FrameOnce.j2] at h, fun _ _ _ _ _ _ _ _ _ _ r h => by simp [provostlaw05_FrameOnce.j3] at h⟩
  | k + 1 => by
    obtain ⟨ih0, ih1, ih2, ih3⟩ := provostlaw05_FrameOnce.mono_l k
    refine ⟨?_, ?_, ?_, ?_⟩
    · intro y0 y1 y2 y3 y4
      unfold provostlaw05_FrameOnce.l0
      repeat' first
      | (with_reducible exact ih0 _ _ _ _ _)
      | (with_reducible exact ih1 _ _ _ _ _ _)
      | (with_reducible exact ih2 _ _ _ _ _ _ _ _ _ _)
      | (with_reducible exact ih3 _ _ _ _ _ _ _ _ _ _)
      | (with_reducible exact LeO.refl _)
      | (with_reducible exact LeO.none _)
      | (with_reducible refine LeO.ite ?_ ?_)
      | (with_reducible refine LeO.bind ?_ (fun _ => ?_))
      | exact ih0 _ _ _ _ _
      | exact ih1 _ _ _ _ _ _
      | exact ih2 _ _ _ _ _ _ _ _ _ _
      | exact ih3 _ _ _ _ _ _ _ _ _ _
      | exact LeO.none _
      | refine LeO.ite ?_ ?_
      | refine LeO.bind ?_ (fun _ => ?_)
    · intro y0 y1 y2 y3 y4 y5
      unfold provostlaw05_FrameOnce.j1
      repeat' first
      | (with_reducible exact ih0 _ _ _ _ _)
      | (with_reducible exact ih1 _ _ _ _ _ _)
      | (with_reducible exact ih2 _ _ _ _ _ _ _ _ _ _)
      | (with_reducible exact ih3 _ _ _ _ _ _ _ _ _ _)
      | (with_reducible exact LeO.refl _)
      | (with_reducible exact LeO.none _)
      | (with_reducible refine LeO.ite ?_ ?_)
      | (with_reducible refine LeO.bind ?_ (fun _ => ?_))
      | exact ih0 _ _ _ _ _
      | exact ih1 _ _ _ _ _ _
      | exact ih2 _ _ _ _ _ _ _ _ _ _
      | exact ih3 _ _ _ _ _ _ _ _ _ _
      | exact LeO.none _
      | refine LeO.ite ?_ ?_
      | refine LeO.bind ?_ (fun _ => ?_)
    · intro y0 y1 y2 y3 y4 y5 y6 y7 y8 y9
      unfold provostlaw05_FrameOnce.j2
      repeat' first
      | (with_reducible exact ih0 _ _ _ _ _)
      | (with_reducible exact ih1 _ _ _ _ _ _)
      | (with_reducible exact ih2 _ _ _ _ _ _ _ _ _ _)
      | (with_reducible exact ih3 _ _ _ _ _ _ _ _ _ _)
      | (with_reducible exact LeO.refl _)
      | (with_reducible exact LeO.none _)
      | (with_reducible refine LeO.ite ?_ ?_)
      | (with_reducible refine LeO.bind ?_ (fun _ => ?_))
      | exact ih0 _ _ _ _ _
      | exact ih1 _ _ _ _ _ _
      | exact ih2 _ _ _ _ _ _ _ _ _ _
      | exact ih3 _ _ _ _ _ _ _ _ _ _
      | exact LeO.none _
      | refine LeO.ite ?_ ?_
      | refine LeO.bind ?_ (fun _ => ?_)
    · intro y0 y1 y2 y3 y4 y5 y6 y7 y8 y9
      unfold provostlaw05_FrameOnce.j3
      repeat' first
      | (with_reducible exact ih0 _ _ _ _ _)
      | (with_reducible exact ih1 _ _ _ _ _ _)
      | (with_reducible exact ih2 _ _ _ _ _ _ _ _ _ _)
      | (with_reducible exact ih3 _ _ _ _ _ _ _ _ _ _)
      | (with_reducible exact LeO.refl _)
      | (with_reducible exact LeO.none _)
      | (with_reducible refine LeO.ite ?_ ?_)
      | (with_reducible refine LeO.bind ?_ (fun _ => ?_))
      | exact ih0 _ _ _ _ _
      | exact ih1 _ _ _ _ _ _
      | exact ih2 _ _ _ _ _ _ _ _ _ _
      | exact ih3 _ _ _ _ _ _ _ _ _ _
      | exact LeO.none _
      | refine LeO.ite ?_ ?_
      | refine LeO.bind ?_ (fun _ => ?_)
theorem provostlaw05_FrameOnce.mono : ∀ a0 k, LeO (provostlaw05_FrameOnce.f k a0) (provostlaw05_FrameOnce.f (k + 1) a0) := by
  intro a0 k
  obtain ⟨ih0, ih1, ih2, ih3⟩ := provostlaw05_FrameOnce.mono_l k
  unfold provostlaw05_FrameOnce.f
  repeat' first
      | (with_reducible exact ih0 _ _ _ _ _)
      | (with_reducible exact ih1 _ _ _ _ _ _)
      | (with_reducible exact ih2 _ _ _ _ _ _ _ _ _ _)
      | (with_reducible exact ih3 _ _ _ _ _ _ _ _ _ _)
      | (with_reducible exact LeO.refl _)
      | (with_reducible exact LeO.none _)
      | (with_reducible refine LeO.ite ?_ ?_)
      | (with_reducible refine LeO.bind ?_ (fun _ => ?_))
      | exact ih0 _ _ _ _ _
      | exact ih1 _ _ _ _ _ _
      | exact ih2 _ _ _ _ _ _ _ _ _ _
      | exact ih3 _ _ _ _ _ _ _ _ _ _
      | exact LeO.none _
      | refine LeO.ite ?_ ?_
      | refine LeO.bind ?_ (fun _ => ?_)
set_option maxHeartbeats 8000000 in
set_option maxRecDepth 100000 in
theorem provostlaw05_FrameOnce.calls (k : Nat) (A0 : Option Addr) (c0 : Nat) (l0 : List ByteArray) (r : Bool) (w : World) (hr0 : Kd.C Kd.string w A0 l0.length l0) (hc0 : l0.length ≤ c0) (h : provostlaw05_FrameOnce.f k l0 = some r) :
    Calls Try.prog 4 #[.slice A0 l0.length c0] w fun e w' => e = .returned (.bool r) ∧ Below w.heap.size w w' := by
  have HR0 := Aside0.mk hr0
  have HC0 := Aside0.mk hc0
  clear hr0 hc0
  have HB := Aside0.mk (Below.refl w.heap.size w)
  have H : ((provostlaw05_works.f).bind fun t132 => (if t132 = true then ((frame_New.f).bind fun bt133 => (provostlaw05_FrameOnce.l0 k l0 0 0 bt133.1 bt133.2)) else (some false))) = some r := h
  clear h
  replace H := Option.bind_eq_some_iff.mp H
  obtain ⟨t132, A20, H⟩ := H
  replace H : (if t132 = true then ((frame_New.f).bind fun bt133 => (provostlaw05_FrameOnce.l0 k l0 0 0 bt133.1 bt133.2)) else (some false)) = some r := H
  have A2 := Aside0.mk A20
  clear A20
  by_cases c3 : t132 = true
  · subst c3
    have H1 : ((frame_New.f).bind fun bt133 => (provostlaw05_FrameOnce.l0 k l0 0 0 bt133.1 bt133.2)) = some r := by rw [if_pos rfl] at H; exact H
    clear H
    have H := H1
    clear H1
    replace H := Option.bind_eq_some_iff.mp H
    obtain ⟨⟨t133, t134⟩, A40, H⟩ := H
    replace H : (provostlaw05_FrameOnce.l0 k l0 0 0 t133 t134) = some r := H
    have A4 := Aside0.mk A40
    clear A40
    have H' := Aside0.mk H
    clear H
    go_enter Try.func4, Try.ntmps4
    go_wp2_with (first | ((with_reducible refine gate_callee (f := 6) rfl ?_); refine goesL_ (some 10) rfl rfl Try.func6 (by kernel_rfl) rfl #[] rfl (by (try simp only [List.map_toArray, List.map_cons, List.map_nil]); first | done | rfl | (simp only [List.length_drop, List.length_take]; rfl)) ?_; (with_reducible refine (provostlaw05_works.calls  true _ A2.out).mono ?_); rintro e w5 ⟨rfl, hb⟩; refine ⟨_, rfl, ?_⟩; have n0_ := Aside0.mk (below_step (by repeat (first | (with_reducible first | exact HB.out | apply below_alloc | apply pw_below_drewN | apply below_drew1) | exact HB.out)) hb); clear HB; have HB := n0_; clear n0_; (try clear hb); (try clear hb2); (try clear hk); (try clear hi)) | ((with_reducible refine gate_callee (f := 9) rfl ?_); refine goesL_ (some 12) rfl rfl Try.func9 (by kernel_rfl) rfl #[] rfl (by (try simp only [List.map_toArray, List.map_cons, List.map_nil]); first | done | rfl | (simp only [List.length_drop, List.length_take]; rfl)) ?_; (with_reducible refine (frame_New.calls  t133 t134 w _ ?side1 A4.out).mono ?_); (case side1 => repeat (first | (with_reducible first | exact HB.out | apply below_alloc | apply pw_below_drewN | apply below_drew1) | exact HB.out)); rintro e w6 ⟨g135, rfl, hi, hb, hb2⟩; refine ⟨_, rfl, ?_⟩; have n0_ := Aside0.mk (hb); have n1_ := Aside0.mk (hi); clear HB; have HB := n0_; have HI135 := n1_; clear n0_ n1_; (try clear hb); (try clear hb2); (try clear hk); (try clear hi)))
    go_loopg [4, 5] k (fun kq v4 v5 w' => ∃ (x4_1 : Int) (x5_1 : Int) (x136000_1 : ByteArray) (x136001_1 : Bool), v4 = .int .i64 x4_1 ∧ v5 = .int .i64 x5_1 ∧ Aside0 (provostlaw05_FrameOnce.l0 kq l0 x4_1 x5_1 x136000_1 x136001_1 = some r) ∧ Aside0 (kq ≤ k) ∧ Aside0 (IsS43 w w' g135 x136000_1 x136001_1) ∧ Aside0 (Below w.heap.size w w'))
    case atStart => exact ⟨(0), (0), (t133), (t134), (by first | rfl | (simp; done) | (simp [*]; done)), (by first | rfl | (simp; done) | (simp [*]; done)), H', ⟨Nat.le_refl _⟩, ⟨by repeat (first | (with_reducible first | exact HI135.out | apply IsS43.alloc | apply IsS43.drewN | apply IsS43.drew | apply IsS43.set_0 | apply IsS43.set_1) | exact HI135.out)⟩, ⟨by repeat (first | (with_reducible first | exact HB.out | apply below_alloc | apply pw_below_drewN | apply below_drew1 | refine below_set ?_ (IsS43.ge HI135.out)) | exact HB.out)⟩⟩
    case round =>
      clear H'
      try clear p2
      try clear c3
      try clear c4
      try clear c6
      obtain ⟨x4_1, x5_1, x136000_1, x136001_1, rfl, rfl, HA, HK1, HI135, HB⟩ := hrel
      cases gk with
      | zero => exact absurd HA.out (by simp [provostlaw05_FrameOnce.l0])
      | succ k1 =>
        have H := HA.out
        clear HA
        simp only [provostlaw05_FrameOnce.l0] at H
        have HC7 := Aside0.mk H
        clear H
        go_upto_region 8 with (fail)
        go_cut [22] (fun v22 wc => ∃ (kq : Nat) (x22_6 : Bool), v22 = .bool x22_6 ∧ Aside0 (provostlaw05_FrameOnce.j1 kq l0 x4_1 x5_1 x22_6 x136000_1 x136001_1 = some r) ∧ Aside0 (kq ≤ k1) ∧ Aside0 (IsS43 w wc g135 x136000_1 x136001_1) ∧ Aside0 (Below w.heap.size w wc))
        case first =>
          have H := HC7.out
          clear HC7
          by_cases c8 : x5_1 < (l0.length : Int)
          · rw [if_pos c8] at H
            have c8b0 : decide (x5_1 < (l0.length : Int)) = true := decide_eq_true c8
            clear c8
            (first | rw [c8b0] | (simp only [i64_w, i32_w]; rw [c8b0]) | skip)
            have H' := Aside0.mk H
            clear H
            go_wp2
            go_meet
            case rel => exact ⟨_, (decide (x5_1 < 60)), (by first | rfl | (simp; done) | (simp [*]; done)), H', ⟨by have := HK1.out; first | omega | exact Nat.le_refl _⟩, ⟨by repeat (first | (with_reducible first | exact HI135.out | apply IsS43.alloc | apply IsS43.drewN | apply IsS43.drew | apply IsS43.set_0 | apply IsS43.set_1) | exact HI135.out)⟩, ⟨by repeat (first | (with_reducible first | exact HB.out | apply below_alloc | apply pw_below_drewN | apply below_drew1 | refine below_set ?_ (IsS43.ge HI135.out)) | exact HB.out)⟩⟩
          · rw [if_neg c8] at H
            have c8b0 : decide (x5_1 < (l0.length : Int)) = false := decide_eq_false c8
            clear c8
            (first | rw [c8b0] | (simp only [i64_w, i32_w]; rw [c8b0]) | skip)
            have H' := Aside0.mk H
            clear H
            go_wp2
            go_meet
            case rel => exact ⟨_, (false), (by first | rfl | (simp; done) | (simp [*]; done)), H', ⟨by have := HK1.out; first | omega | exact Nat.le_refl _⟩, ⟨by repeat (first | (with_reducible first | exact HI135.out | apply IsS43.alloc | apply IsS43.drewN | apply IsS43.drew | apply IsS43.set_0 | apply IsS43.set_1) | exact HI135.out)⟩, ⟨by repeat (first | (with_reducible first | exact HB.out | apply below_alloc | apply pw_below_drewN | apply below_drew1 | refine below_set ?_ (IsS43.ge HI135.out)) | exact HB.out)⟩⟩
        case rest =>
          clear HC7
          try clear p2
          try clear c3
          try clear c4
          try clear c6
          try clear c8
          try clear c8b0
          try clear p2
          obtain ⟨kq, x22_6, rfl, HA, HJ6, HI135, HB⟩ := hcut
          cases kq with
          | zero => exact absurd HA.out (by simp [provostlaw05_FrameOnce.j1])
          | succ kj6 =>
            have H := HA.out
            clear HA
            simp only [provostlaw05_FrameOnce.j1] at H
            by_cases c9 : x22_6 = true
            · subst c9
              have H1 : (if 0 ≤ x5_1 then (if x5_1 < (l0.length : Int) then (if ((rdOf ByteArray.empty l0 x5_1).size : Int) > 9000 then (some true) else ((frame_Split_Closed.f x136000_1 x136001_1).bind fun bt137 => ((frame_Split_Feed.f bt137.2.1 bt137.2.2 (rdOf ByteArray.empty l0 x5_1)).bind fun bt141 => ((frame_Split_Next.f bt141.2.1 bt141.2.2).bind fun bt144 => (if bt137.1 = true then (if bt141.1 = 400 then (if bt144.2.1 = 400 then (if bt144.1.toList = ([] : List UInt8) then ((frame_Split_Left.f bt144.2.2.1 bt144.2.2.2).bind fun bt148 => (provostlaw05_FrameOnce.j2 kj6 l0 x4_1 x5_1 bt137.1 bt141.1 bt144.1 bt144.2.1 (bt148.1 != 0) bt148.2.1 bt148.2.2)) else (provostlaw05_FrameOnce.j2 kj6 l0 x4_1 x5_1 bt137.1 bt141.1 bt144.1 bt144.2.1 true bt144.2.2.1 bt144.2.2.2)) else (provostlaw05_FrameOnce.j2 kj6 l0 x4_1 x5_1 bt137.1 bt141.1 bt144.1 bt144.2.1 true bt144.2.2.1 bt144.2.2.2)) else (provostlaw05_FrameOnce.j2 kj6 l0 x4_1 x5_1 bt137.1 bt141.1 bt144.1 bt144.2.1 true bt144.2.2.1 bt144.2.2.2)) else (provostlaw05_FrameOnce.j2 kj6 l0 x4_1 x5_1 bt137.1 bt141.1 bt144.1 bt144.2.1 false bt144.2.2.1 bt144.2.2.2)))))) else (none)) else (none)) = some r := by rw [if_pos rfl] at H; exact H
              clear H
              have H := H1
              clear H1
              by_cases c10 : 0 ≤ x5_1
              · rw [if_pos c10] at H
                have c10b0 : decide (0 ≤ x5_1) = true := decide_eq_true c10
                clear c10
                by_cases c11 : x5_1 < (l0.length : Int)
                · rw [if_pos c11] at H
                  have c11b0 : decide (x5_1 < (l0.length : Int)) = true := decide_eq_true c11
                  clear c11
                  by_cases c12 : ((rdOf ByteArray.empty l0 x5_1).size : Int) > 9000
                  · rw [if_pos c12] at H
                    have c12b0 : decide (9000 < ((rdOf ByteArray.empty l0 x5_1).size : Int)) = true := decide_eq_true c12
                    have c12b1 : decide (9000 < (rdOf ByteArray.empty l0 x5_1).size) = true := decide_eq_true (by omega)
                    clear c12
                    obtain rfl := Option.some.inj H
                    have p136 : 0 ≤ (x5_1 : Int) := of_decide_eq_true (by first | (with_reducible assumption) | assumption)
                    have q136 : x5_1 < (l0.length : Int) := of_decide_eq_true (by first | (with_reducible assumption) | assumption)
                    obtain ⟨ad136, e136, hx136_0⟩ := Kd.at_string HR0.out x5_1 p136 q136
                    cases e136
                    replace hx136_0 := (HB.out.cell (World.block_lt_of_cell? w _ hx136_0)).trans hx136_0
                    replace p136 := eq_true p136
                    replace q136 := eq_true q136
                    go_wp2
                    go_ret
                    exact ⟨by first | rfl | (simp [errW_none, errW_some] <;> rfl) | (simp [*, errW_none, errW_some] <;> rfl), by repeat (first | (with_reducible first | exact HB.out | apply below_alloc | apply pw_below_drewN | apply below_drew1 | refine below_set ?_ (IsS43.ge HI135.out)) | exact HB.out)⟩
                  · rw [if_neg c12] at H
                    have c12b0 : decide (9000 < ((rdOf ByteArray.empty l0 x5_1).size : Int)) = false := decide_eq_false c12
                    have c12b1 : decide (9000 < (rdOf ByteArray.empty l0 x5_1).size) = false := decide_eq_false (by omega)
                    clear c12
                    replace H := Option.bind_eq_some_iff.mp H
                    obtain ⟨⟨t137, t138, t139⟩, A130, H⟩ := H
                    replace H : ((frame_Split_Feed.f t138 t139 (rdOf ByteArray.empty l0 x5_1)).bind fun bt141 => ((frame_Split_Next.f bt141.2.1 bt141.2.2).bind fun bt144 => (if t137 = true then (if bt141.1 = 400 then (if bt144.2.1 = 400 then (if bt144.1.toList = ([] : List UInt8) then ((frame_Split_Left.f bt144.2.2.1 bt144.2.2.2).bind fun bt148 => (provostlaw05_FrameOnce.j2 kj6 l0 x4_1 x5_1 t137 bt141.1 bt144.1 bt144.2.1 (bt148.1 != 0) bt148.2.1 bt148.2.2)) else (provostlaw05_FrameOnce.j2 kj6 l0 x4_1 x5_1 t137 bt141.1 bt144.1 bt144.2.1 true bt144.2.2.1 bt144.2.2.2)) else (provostlaw05_FrameOnce.j2 kj6 l0 x4_1 x5_1 t137 bt141.1 bt144.1 bt144.2.1 true bt144.2.2.1 bt144.2.2.2)) else (provostlaw05_FrameOnce.j2 kj6 l0 x4_1 x5_1 t137 bt141.1 bt144.1 bt144.2.1 true bt144.2.2.1 bt144.2.2.2)) else (provostlaw05_FrameOnce.j2 kj6 l0 x4_1 x5_1 t137 bt141.1 bt144.1 bt144.2.1 false bt144.2.2.1 bt144.2.2.2)))) = some r := H
                    have A13 := Aside0.mk A130
                    clear A130
                    replace H := Option.bind_eq_some_iff.mp H
                    obtain ⟨⟨t141, t142, t143⟩, A140, H⟩ := H
                    replace H : ((frame_Split_Next.f t142 t143).bind fun bt144 => (if t137 = true then (if t141 = 400 then (if bt144.2.1 = 400 then (if bt144.1.toList = ([] : List UInt8) then ((frame_Split_Left.f bt144.2.2.1 bt144.2.2.2).bind fun bt148 => (provostlaw05_FrameOnce.j2 kj6 l0 x4_1 x5_1 t137 t141 bt144.1 bt144.2.1 (bt148.1 != 0) bt148.2.1 bt148.2.2)) else (provostlaw05_FrameOnce.j2 kj6 l0 x4_1 x5_1 t137 t141 bt144.1 bt144.2.1 true bt144.2.2.1 bt144.2.2.2)) else (provostlaw05_FrameOnce.j2 kj6 l0 x4_1 x5_1 t137 t141 bt144.1 bt144.2.1 true bt144.2.2.1 bt144.2.2.2)) else (provostlaw05_FrameOnce.j2 kj6 l0 x4_1 x5_1 t137 t141 bt144.1 bt144.2.1 true bt144.2.2.1 bt144.2.2.2)) else (provostlaw05_FrameOnce.j2 kj6 l0 x4_1 x5_1 t137 t141 bt144.1 bt144.2.1 false bt144.2.2.1 bt144.2.2.2))) = some r := H
                    have A14 := Aside0.mk A140
                    clear A140
                    replace H := Option.bind_eq_some_iff.mp H
                    obtain ⟨⟨t144, t145, t146, t147⟩, A150, H⟩ := H
                    replace H : (if t137 = true then (if t141 = 400 then (if t145 = 400 then (if t144.toList = ([] : List UInt8) then ((frame_Split_Left.f t146 t147).bind fun bt148 => (provostlaw05_FrameOnce.j2 kj6 l0 x4_1 x5_1 t137 t141 t144 t145 (bt148.1 != 0) bt148.2.1 bt148.2.2)) else (provostlaw05_FrameOnce.j2 kj6 l0 x4_1 x5_1 t137 t141 t144 t145 true t146 t147)) else (provostlaw05_FrameOnce.j2 kj6 l0 x4_1 x5_1 t137 t141 t144 t145 true t146 t147)) else (provostlaw05_FrameOnce.j2 kj6 l0 x4_1 x5_1 t137 t141 t144 t145 true t146 t147)) else (provostlaw05_FrameOnce.j2 kj6 l0 x4_1 x5_1 t137 t141 t144 t145 false t146 t147)) = some r := H
                    have A15 := Aside0.mk A150
                    clear A150
                    have HC16 := Aside0.mk H
                    clear H
                    have p136 : 0 ≤ (x5_1 : Int) := of_decide_eq_true (by first | (with_reducible assumption) | assumption)
                    have q136 : x5_1 < (l0.length : Int) := of_decide_eq_true (by first | (with_reducible assumption) | assumption)
                    obtain ⟨ad136, e136, hx136_0⟩ := Kd.at_string HR0.out x5_1 p136 q136
                    cases e136
                    replace hx136_0 := (HB.out.cell (World.block_lt_of_cell? w _ hx136_0)).trans hx136_0
                    replace p136 := eq_true p136
                    replace q136 := eq_true q136
                    go_upto_region 15 with (first | ((with_reducible refine gate_callee (f := 10) rfl ?_); refine goesL_ (some 32) rfl rfl Try.func10 (by kernel_rfl) rfl #[.pointer (some ⟨g135, 0, none⟩)] rfl (by (try simp only [List.map_toArray, List.map_cons, List.map_nil]); first | done | rfl | (simp only [List.length_drop, List.length_take]; rfl)) ?_; (with_reducible refine (frame_Split_Closed.calls g135 x136000_1 x136001_1 t137 t138 t139 w _ ?side1 ?side2 A13.out).mono ?_); (case side1 => repeat (first | (with_reducible first | exact HI135.out | apply IsS43.alloc | apply IsS43.drewN | apply IsS43.drew | apply IsS43.set_0 | apply IsS43.set_1) | exact HI135.out)); (case side2 => repeat (first | (with_reducible first | exact HB.out | apply below_alloc | apply pw_below_drewN | apply below_drew1 | refine below_set ?_ (IsS43.ge HI135.out)) | exact HB.out)); rintro e w17 ⟨rfl, hi, hb, hk⟩; refine ⟨_, rfl, ?_⟩; have n0_ := Aside0.mk (hb); have n1_ := Aside0.mk (hi); clear HB; clear HI135; have HB := n0_; have HI135 := n1_; clear n0_ n1_; (try clear hb); (try clear hb2); (try clear hk); (try clear hi); have p140 : 0 ≤ (x5_1 : Int) := of_decide_eq_true (by first | (with_reducible assumption) | assumption); have q140 : x5_1 < (l0.length : Int) := of_decide_eq_true (by first | (with_reducible assumption) | assumption); obtain ⟨ad140, e140, hx140_0⟩ := Kd.at_string HR0.out x5_1 p140 q140; obtain rfl : ad136 = ad140 := (by injection e140); replace hx140_0 := (HB.out.cell (World.block_lt_of_cell? w _ hx140_0)).trans hx140_0; replace p140 := eq_true p140; replace q140 := eq_true q140) | ((with_reducible refine gate_callee (f := 11) rfl ?_); refine goesL_ (some 38) rfl rfl Try.func11 (by kernel_rfl) rfl #[.pointer (some ⟨g135, 0, none⟩), .string (rdOf ByteArray.empty l0 x5_1)] rfl (by (try simp only [List.map_toArray, List.map_cons, List.map_nil]); first | done | rfl | (simp only [List.length_drop, List.length_take]; rfl)) ?_; (with_reducible refine (frame_Split_Feed.calls g135 t138 t139 (rdOf ByteArray.empty l0 x5_1) t141 t142 t143 w _ ?side1 ?side2 A14.out).mono ?_); (case side1 => repeat (first | (with_reducible first | exact HI135.out | apply IsS43.alloc | apply IsS43.drewN | apply IsS43.drew | apply IsS43.set_0 | apply IsS43.set_1) | exact HI135.out)); (case side2 => repeat (first | (with_reducible first | exact HB.out | apply below_alloc | apply pw_below_drewN | apply below_drew1 | refine below_set ?_ (IsS43.ge HI135.out)) | exact HB.out)); rintro e w18 ⟨rfl, hi, hb, hk⟩; refine ⟨_, rfl, ?_⟩; have n0_ := Aside0.mk (hb); have n1_ := Aside0.mk (hi); clear HB; clear HI135; have HB := n0_; have HI135 := n1_; clear n0_ n1_; (try clear hb); (try clear hb2); (try clear hk); (try clear hi)) | ((with_reducible refine gate_callee (f := 12) rfl ?_); refine goesL_ (some 41) rfl rfl Try.func12 (by kernel_rfl) rfl #[.pointer (some ⟨g135, 0, none⟩)] rfl (by (try simp only [List.map_toArray, List.map_cons, List.map_nil]); first | done | rfl | (simp only [List.length_drop, List.length_take]; rfl)) ?_; (with_reducible refine (frame_Split_Next.calls g135 t142 t143 t144 t145 t146 t147 w _ ?side1 ?side2 A15.out).mono ?_); (case side1 => repeat (first | (with_reducible first | exact HI135.out | apply IsS43.alloc | apply IsS43.drewN | apply IsS43.drew | apply IsS43.set_0 | apply IsS43.set_1) | exact HI135.out)); (case side2 => repeat (first | (with_reducible first | exact HB.out | apply below_alloc | apply pw_below_drewN | apply below_drew1 | refine below_set ?_ (IsS43.ge HI135.out)) | exact HB.out)); rintro e w19 ⟨rfl, hi, hb, hk⟩; refine ⟨_, rfl, ?_⟩; have n0_ := Aside0.mk (hb); have n1_ := Aside0.mk (hi); clear HB; clear HI135; have HB := n0_; have HI135 := n1_; clear n0_ n1_; (try clear hb); (try clear hb2); (try clear hk); (try clear hi)))
                    (try simp only [Act.put, List.setIfInBounds_toArray, List.set_cons_zero, List.set_cons_succ])
                    go_cut [61] (fun v61 wc => ∃ (kq : Nat) (x61_15 : Bool) (x136000_15 : ByteArray) (x136001_15 : Bool), v61 = .bool x61_15 ∧ Aside0 (provostlaw05_FrameOnce.j2 kq l0 x4_1 x5_1 t137 t141 t144 t145 x61_15 x136000_15 x136001_15 = some r) ∧ Aside0 (kq ≤ kj6) ∧ Aside0 (IsS43 w wc g135 x136000_15 x136001_15) ∧ Aside0 (Below w.heap.size w wc))
                    case first =>
                      have H := HC16.out
                      clear HC16
                      by_cases c20 : t137 = true
                      · subst c20
                        have H1 : (if t141 = 400 then (if t145 = 400 then (if t144.toList = ([] : List UInt8) then ((frame_Split_Left.f t146 t147).bind fun bt148 => (provostlaw05_FrameOnce.j2 kj6 l0 x4_1 x5_1 true t141 t144 t145 (bt148.1 != 0) bt148.2.1 bt148.2.2)) else (provostlaw05_FrameOnce.j2 kj6 l0 x4_1 x5_1 true t141 t144 t145 true t146 t147)) else (provostlaw05_FrameOnce.j2 kj6 l0 x4_1 x5_1 true t141 t144 t145 true t146 t147)) else (provostlaw05_FrameOnce.j2 kj6 l0 x4_1 x5_1 true t141 t144 t145 true t146 t147)) = some r := by rw [if_pos rfl] at H; exact H
                        clear H
                        have H := H1
                        clear H1
                        by_cases c21 : t141 = 400
                        · rw [if_pos c21] at H
                          have c21b0 : (t141 == 400) = true := beq_iff_eq.mpr c21
                          have c21b1 : (t141 != 400) = false := bne_eq_false_iff_eq.mpr c21
                          clear c21
                          (first | rw [c21b0] | (simp only [i64_w, i32_w]; rw [c21b0]) | skip)
                          by_cases c22 : t145 = 400
                          · rw [if_pos c22] at H
                            have c22b0 : (t145 == 400) = true := beq_iff_eq.mpr c22
                            have c22b1 : (t145 != 400) = false := bne_eq_false_iff_eq.mpr c22
                            clear c22
                            by_cases c23 : t144.toList = ([] : List UInt8)
                            · rw [if_pos c23] at H
                              have c23b0 : (t144.toList == ([] : List UInt8)) = true := beq_iff_eq.mpr c23
                              have c23b1 : (t144.toList != ([] : List UInt8)) = false := bne_eq_false_iff_eq.mpr c23
                              clear c23
                              replace H := Option.bind_eq_some_iff.mp H
                              obtain ⟨⟨t148, t149, t150⟩, A240, H⟩ := H
                              replace H : (provostlaw05_FrameOnce.j2 kj6 l0 x4_1 x5_1 true t141 t144 t145 (t148 != 0) t149 t150) = some r := H
                              have A24 := Aside0.mk A240
                              clear A240
                              have H' := Aside0.mk H
                              clear H
                              go_wp2_with (first | (go_at_call 13; (with_reducible refine (frame_Split_Left.calls g135 t146 t147 t148 t149 t150 w _ ?side1 ?side2 A24.out).mono ?_); (case side1 => repeat (first | (with_reducible first | exact HI135.out | apply IsS43.alloc | apply IsS43.drewN | apply IsS43.drew | apply IsS43.set_0 | apply IsS43.set_1) | exact HI135.out)); (case side2 => repeat (first | (with_reducible first | exact HB.out | apply below_alloc | apply pw_below_drewN | apply below_drew1 | refine below_set ?_ (IsS43.ge HI135.out)) | exact HB.out)); rintro e w25 ⟨rfl, hi, hb, hk⟩; have n0_ := Aside0.mk (hb); have n1_ := Aside0.mk (hi); clear HB; clear HI135; have HB := n0_; have HI135 := n1_; clear n0_ n1_; (try clear hb); (try clear hb2); (try clear hk); (try clear hi)))
                              go_meet
                              case rel => exact ⟨_, ((t148 != 0)), (t149), (t150), (by first | rfl | (simp; done) | (simp [*]; done)), H', ⟨by have := HK1.out; have := HJ6.out; first | omega | exact Nat.le_refl _⟩, ⟨by repeat (first | (with_reducible first | exact HI135.out | apply IsS43.alloc | apply IsS43.drewN | apply IsS43.drew | apply IsS43.set_0 | apply IsS43.set_1) | exact HI135.out)⟩, ⟨by repeat (first | (with_reducible first | exact HB.out | apply below_alloc | apply pw_below_drewN | apply below_drew1 | refine below_set ?_ (IsS43.ge HI135.out)) | exact HB.out)⟩⟩
                            · rw [if_neg c23] at H
                              have c23b0 : (t144.toList == ([] : List UInt8)) = false := beq_eq_false_iff_ne.mpr c23
                              have c23b1 : (t144.toList != ([] : List UInt8)) = true := bne_iff_ne.mpr c23
                              have H' := Aside0.mk H
                              clear H
                              go_wp2
                              go_meet
                              case rel => exact ⟨_, (true), (t146), (t147), (by first | rfl | (simp; done) | (simp [*]; done)), H', ⟨by have := HK1.out; have := HJ6.out; first | omega | exact Nat.le_refl _⟩, ⟨by repeat (first | (with_reducible first | exact HI135.out | apply IsS43.alloc | apply IsS43.drewN | apply IsS43.drew | apply IsS43.set_0 | apply IsS43.set_1) | exact HI135.out)⟩, ⟨by repeat (first | (with_reducible first | exact HB.out | apply below_alloc | apply pw_below_drewN | apply below_drew1 | refine below_set ?_ (IsS43.ge HI135.out)) | exact HB.out)⟩⟩
                          · rw [if_neg c22] at H
                            have c22b0 : (t145 == 400) = false := beq_eq_false_iff_ne.mpr c22
                            have c22b1 : (t145 != 400) = true := bne_iff_ne.mpr c22
                            have H' := Aside0.mk H
                            clear H
                            go_wp2
                            go_meet
                            case rel => exact ⟨_, (true), (t146), (t147), (by first | rfl | (simp; done) | (simp [*]; done)), H', ⟨by have := HK1.out; have := HJ6.out; first | omega | exact Nat.le_refl _⟩, ⟨by repeat (first | (with_reducible first | exact HI135.out | apply IsS43.alloc | apply IsS43.drewN | apply IsS43.drew | apply IsS43.set_0 | apply IsS43.set_1) | exact HI135.out)⟩, ⟨by repeat (first | (with_reducible first | exact HB.out | apply below_alloc | apply pw_below_drewN | apply below_drew1 | refine below_set ?_ (IsS43.ge HI135.out)) | exact HB.out)⟩⟩
                        · rw [if_neg c21] at H
                          have c21b0 : (t141 == 400) = false := beq_eq_false_iff_ne.mpr c21
                          have c21b1 : (t141 != 400) = true := bne_iff_ne.mpr c21
                          (first | rw [c21b0] | (simp only [i64_w, i32_w]; rw [c21b0]) | skip)
                          have H' := Aside0.mk H
                          clear H
                          go_wp2
                          go_meet
                          case rel => exact ⟨_, (true), (t146), (t147), (by first | rfl | (simp; done) | (simp [*]; done)), H', ⟨by have := HK1.out; have := HJ6.out; first | omega | exact Nat.le_refl _⟩, ⟨by repeat (first | (with_reducible first | exact HI135.out | apply IsS43.alloc | apply IsS43.drewN | apply IsS43.drew | apply IsS43.set_0 | apply IsS43.set_1) | exact HI135.out)⟩, ⟨by repeat (first | (with_reducible first | exact HB.out | apply below_alloc | apply pw_below_drewN | apply below_drew1 | refine below_set ?_ (IsS43.ge HI135.out)) | exact HB.out)⟩⟩
                      · replace c20 := Bool.eq_false_iff.mpr c20
                        subst c20
                        have H1 : (provostlaw05_FrameOnce.j2 kj6 l0 x4_1 x5_1 false t141 t144 t145 false t146 t147) = some r := by rw [if_neg (show ¬ (false = true) by decide)] at H; exact H
                        clear H
                        have H := H1
                        clear H1
                        have H' := Aside0.mk H
                        clear H
                        go_wp2
                        go_meet
                        case rel => exact ⟨_, (false), (t146), (t147), (by first | rfl | (simp; done) | (simp [*]; done)), H', ⟨by have := HK1.out; have := HJ6.out; first | omega | exact Nat.le_refl _⟩, ⟨by repeat (first | (with_reducible first | exact HI135.out | apply IsS43.alloc | apply IsS43.drewN | apply IsS43.drew | apply IsS43.set_0 | apply IsS43.set_1) | exact HI135.out)⟩, ⟨by repeat (first | (with_reducible first | exact HB.out | apply below_alloc | apply pw_below_drewN | apply below_drew1 | refine below_set ?_ (IsS43.ge HI135.out)) | exact HB.out)⟩⟩
                    case rest =>
                      clear HC16
                      try clear c1
                      try clear p1
                      try clear q1
                      try clear hx1
                      try clear c2
                      try clear p2
                      try clear c3
                      try clear c4
                      try clear c6
                      try clear c8
                      try clear c8b0
                      try clear c9
                      try clear c10
                      try clear c10b0
                      try clear c11
                      try clear c11b0
                      try clear c12
                      try clear c12b0
                      try clear c12b1
                      try clear p13
                      try clear q13
                      try clear hx13
                      try clear p14
                      try clear q14
                      try clear hx14
                      try clear c20
                      try clear c21
                      try clear c21b0
                      try clear c21b1
                      try clear c22
                      try clear c22b0
                      try clear c22b1
                      try clear c23
                      try clear c23b0
                      try clear c23b1
                      try clear hx136_0
                      try clear hx140_0
                      try clear p136
                      try clear p140
                      try clear p2
                      try clear q136
                      try clear q140
                      obtain ⟨kq, x61_15, x136000_15, x136001_15, rfl, HA, HJ15, HI135, HB⟩ := hcut
                      cases kq with
                      | zero => exact absurd HA.out (by simp [provostlaw05_FrameOnce.j2])
                      | succ kj15 =>
                        have H := HA.out
                        clear HA
                        simp only [provostlaw05_FrameOnce.j2] at H
                        by_cases c26 : x61_15 = true
                        · subst c26
                          have H1 : (some false) = some r := by rw [if_pos rfl] at H; exact H
                          clear H
                          have H := H1
                          clear H1
                          obtain rfl := Option.some.inj H
                          go_wp2
                          go_ret
                          exact ⟨by first | rfl | (simp [errW_none, errW_some] <;> rfl) | (simp [*, errW_none, errW_some] <;> rfl), by repeat (first | (with_reducible first | exact HB.out | apply below_alloc | apply pw_below_drewN | apply below_drew1 | refine below_set ?_ (IsS43.ge HI135.out)) | exact HB.out)⟩
                        · replace c26 := Bool.eq_false_iff.mpr c26
                          subst c26
                          have H1 : (if t141 = 2 then (provostlaw05_FrameOnce.j3 kj15 l0 x4_1 x5_1 t137 t141 t144 t145 true x136000_15 x136001_15) else (provostlaw05_FrameOnce.j3 kj15 l0 x4_1 x5_1 t137 t141 t144 t145 (t145 == 2) x136000_15 x136001_15)) = some r := by rw [if_neg (show ¬ (false = true) by decide)] at H; exact H
                          clear H
                          have H := H1
                          clear H1
                          have HC27 := Aside0.mk H
                          clear H
                          go_upto_region 17 with (fail)
                          go_cut [67] (fun v67 wc => ∃ (kq : Nat) (x67_26 : Bool), v67 = .bool x67_26 ∧ Aside0 (provostlaw05_FrameOnce.j3 kq l0 x4_1 x5_1 t137 t141 t144 t145 x67_26 x136000_15 x136001_15 = some r) ∧ Aside0 (kq ≤ kj15) ∧ Aside0 (IsS43 w wc g135 x136000_15 x136001_15) ∧ Aside0 (Below w.heap.size w wc))
                          case first =>
                            have H := HC27.out
                            clear HC27
                            by_cases c28 : t141 = 2
                            · rw [if_pos c28] at H
                              have c28b0 : (t141 == 2) = true := beq_iff_eq.mpr c28
                              have c28b1 : (t141 != 2) = false := bne_eq_false_iff_eq.mpr c28
                              clear c28
                              (first | rw [c28b0] | (simp only [i64_w, i32_w]; rw [c28b0]) | skip)
                              have H' := Aside0.mk H
                              clear H
                              go_wp2
                              go_meet
                              case rel => exact ⟨_, (true), (by first | rfl | (simp; done) | (simp [*]; done)), H', ⟨by have := HK1.out; have := HJ6.out; have := HJ15.out; first | omega | exact Nat.le_refl _⟩, ⟨by repeat (first | (with_reducible first | exact HI135.out | apply IsS43.alloc | apply IsS43.drewN | apply IsS43.drew | apply IsS43.set_0 | apply IsS43.set_1) | exact HI135.out)⟩, ⟨by repeat (first | (with_reducible first | exact HB.out | apply below_alloc | apply pw_below_drewN | apply below_drew1 | refine below_set ?_ (IsS43.ge HI135.out)) | exact HB.out)⟩⟩
                            · rw [if_neg c28] at H
                              have c28b0 : (t141 == 2) = false := beq_eq_false_iff_ne.mpr c28
                              have c28b1 : (t141 != 2) = true := bne_iff_ne.mpr c28
                              (first | rw [c28b0] | (simp only [i64_w, i32_w]; rw [c28b0]) | skip)
                              have H' := Aside0.mk H
                              clear H
                              go_wp2
                              go_meet
                              case rel => exact ⟨_, ((t145 == 2)), (by first | rfl | (simp; done) | (simp [*]; done)), H', ⟨by have := HK1.out; have := HJ6.out; have := HJ15.out; first | omega | exact Nat.le_refl _⟩, ⟨by repeat (first | (with_reducible first | exact HI135.out | apply IsS43.alloc | apply IsS43.drewN | apply IsS43.drew | apply IsS43.set_0 | apply IsS43.set_1) | exact HI135.out)⟩, ⟨by repeat (first | (with_reducible first | exact HB.out | apply below_alloc | apply pw_below_drewN | apply below_drew1 | refine below_set ?_ (IsS43.ge HI135.out)) | exact HB.out)⟩⟩
                          case rest =>
                            clear HC27
                            try clear c1
                            try clear p1
                            try clear q1
                            try clear hx1
                            try clear c2
                            try clear p2
                            try clear c3
                            try clear c4
                            try clear c6
                            try clear c8
                            try clear c8b0
                            try clear c9
                            try clear c10
                            try clear c10b0
                            try clear c11
                            try clear c11b0
                            try clear c12
                            try clear c12b0
                            try clear c12b1
                            try clear p13
                            try clear q13
                            try clear hx13
                            try clear p14
                            try clear q14
                            try clear hx14
                            try clear c20
                            try clear c21
                            try clear c21b0
                            try clear c21b1
                            try clear c22
                            try clear c22b0
                            try clear c22b1
                            try clear c23
                            try clear c23b0
                            try clear c23b1
                            try clear c26
                            try clear c28
                            try clear c28b0
                            try clear c28b1
                            try clear hx136_0
                            try clear hx140_0
                            try clear p1
                            try clear p13
                            try clear p136
                            try clear p14
                            try clear p140
                            try clear p2
                            try clear q1
                            try clear q13
                            try clear q136
                            try clear q14
                            try clear q140
                            obtain ⟨kq, x67_26, rfl, HA, HJ26, HI135, HB⟩ := hcut
                            cases kq with
                            | zero => exact absurd HA.out (by simp [provostlaw05_FrameOnce.j3])
                            | succ kj26 =>
                              have H := HA.out
                              clear HA
                              simp only [provostlaw05_FrameOnce.j3] at H
                              by_cases c29 : x67_26 = true
                              · subst c29
                                have H1 : (if t141 = 2 then ((frame_Split_Closed.f x136000_15 x136001_15).bind fun bt151 => (if (true != bt151.1) = true then (some false) else (if (t144.size : Int) > 2048 then (some false) else (provostlaw05_FrameOnce.l0 kj26 l0 (wrap64 (x4_1 + 1)) (wrap64 (x5_1 + 1)) bt151.2.1 bt151.2.2)))) else (if t145 = 2 then ((frame_Split_Closed.f x136000_15 x136001_15).bind fun bt154 => (if (true != bt154.1) = true then (some false) else (if (t144.size : Int) > 2048 then (some false) else (provostlaw05_FrameOnce.l0 kj26 l0 (wrap64 (x4_1 + 1)) (wrap64 (x5_1 + 1)) bt154.2.1 bt154.2.2)))) else ((frame_Split_Closed.f x136000_15 x136001_15).bind fun bt157 => (if (t137 != bt157.1) = true then (some false) else (if (t144.size : Int) > 2048 then (some false) else (provostlaw05_FrameOnce.l0 kj26 l0 (wrap64 (x4_1 + 1)) (wrap64 (x5_1 + 1)) bt157.2.1 bt157.2.2)))))) = some r := by rw [if_pos rfl] at H; exact H
                                clear H
                                have H := H1
                                clear H1
                                by_cases c30 : t141 = 2
                                · rw [if_pos c30] at H
                                  have c30b0 : (t141 == 2) = true := beq_iff_eq.mpr c30
                                  have c30b1 : (t141 != 2) = false := bne_eq_false_iff_eq.mpr c30
                                  clear c30
                                  replace H := Option.bind_eq_some_iff.mp H
                                  obtain ⟨⟨t151, t152, t153⟩, A310, H⟩ := H
                                  replace H : (if (true != t151) = true then (some false) else (if (t144.size : Int) > 2048 then (some false) else (provostlaw05_FrameOnce.l0 kj26 l0 (wrap64 (x4_1 + 1)) (wrap64 (x5_1 + 1)) t152 t153))) = some r := H
                                  have A31 := Aside0.mk A310
                                  clear A310
                                  by_cases c32 : (true != t151) = true
                                  · rw [if_pos c32] at H
                                    have c32b0 : (true != t151) = true := c32
                                    (try (have c32b1 : decide (true = t151) = false := by simpa using c32))
                                    (try (have c32b2 : (true == t151) = false := by simpa using c32))
                                    (try (have c32b3 : ¬ (true = t151) := by simpa using c32))
                                    clear c32
                                    obtain rfl := Option.some.inj H
                                    go_wp2_with (first | ((with_reducible refine gate_callee (f := 10) rfl ?_); refine goesL_ (some 80) rfl rfl Try.func10 (by kernel_rfl) rfl #[.pointer (some ⟨g135, 0, none⟩)] rfl (by (try simp only [List.map_toArray, List.map_cons, List.map_nil]); first | done | rfl | (simp only [List.length_drop, List.length_take]; rfl)) ?_; (with_reducible refine (frame_Split_Closed.calls g135 x136000_15 x136001_15 t151 t152 t153 w _ ?side1 ?side2 A31.out).mono ?_); (case side1 => repeat (first | (with_reducible first | exact HI135.out | apply IsS43.alloc | apply IsS43.drewN | apply IsS43.drew | apply IsS43.set_0 | apply IsS43.set_1) | exact HI135.out)); (case side2 => repeat (first | (with_reducible first | exact HB.out | apply below_alloc | apply pw_below_drewN | apply below_drew1 | refine below_set ?_ (IsS43.ge HI135.out)) | exact HB.out)); rintro e w33 ⟨rfl, hi, hb, hk⟩; refine ⟨_, rfl, ?_⟩; have n0_ := Aside0.mk (hb); have n1_ := Aside0.mk (hi); clear HB; clear HI135; have HB := n0_; have HI135 := n1_; clear n0_ n1_; (try clear hb); (try clear hb2); (try clear hk); (try clear hi)))
                                    go_ret
                                    exact ⟨by first | rfl | (simp [errW_none, errW_some] <;> rfl) | (simp [*, errW_none, errW_some] <;> rfl), by repeat (first | (with_reducible first | exact HB.out | apply below_alloc | apply pw_below_drewN | apply below_drew1 | refine below_set ?_ (IsS43.ge HI135.out)) | exact HB.out)⟩
                                  · rw [if_neg c32] at H
                                    have c32b0 : (true != t151) = false := by simpa using c32
                                    (try (have c32b1 : decide (true = t151) = true := by simpa using c32))
                                    (try (have c32b2 : (true == t151) = true := by simpa using c32))
                                    clear c32
                                    by_cases c34 : (t144.size : Int) > 2048
                                    · rw [if_pos c34] at H
                                      have c34b0 : decide (2048 < (t144.size : Int)) = true := decide_eq_true c34
                                      have c34b1 : decide (2048 < t144.size) = true := decide_eq_true (by omega)
                                      clear c34
                                      obtain rfl := Option.some.inj H
                                      go_wp2_with (first | ((with_reducible refine gate_callee (f := 10) rfl ?_); refine goesL_ (some 80) rfl rfl Try.func10 (by kernel_rfl) rfl #[.pointer (some ⟨g135, 0, none⟩)] rfl (by (try simp only [List.map_toArray, List.map_cons, List.map_nil]); first | done | rfl | (simp only [List.length_drop, List.length_take]; rfl)) ?_; (with_reducible refine (frame_Split_Closed.calls g135 x136000_15 x136001_15 t151 t152 t153 w _ ?side1 ?side2 A31.out).mono ?_); (case side1 => repeat (first | (with_reducible first | exact HI135.out | apply IsS43.alloc | apply IsS43.drewN | apply IsS43.drew | apply IsS43.set_0 | apply IsS43.set_1) | exact HI135.out)); (case side2 => repeat (first | (with_reducible first | exact HB.out | apply below_alloc | apply pw_below_drewN | apply below_drew1 | refine below_set ?_ (IsS43.ge HI135.out)) | exact HB.out)); rintro e w35 ⟨rfl, hi, hb, hk⟩; refine ⟨_, rfl, ?_⟩; have n0_ := Aside0.mk (hb); have n1_ := Aside0.mk (hi); clear HB; clear HI135; have HB := n0_; have HI135 := n1_; clear n0_ n1_; (try clear hb); (try clear hb2); (try clear hk); (try clear hi)))
                                      go_ret
                                      exact ⟨by first | rfl | (simp [errW_none, errW_some] <;> rfl) | (simp [*, errW_none, errW_some] <;> rfl), by repeat (first | (with_reducible first | exact HB.out | apply below_alloc | apply pw_below_drewN | apply below_drew1 | refine below_set ?_ (IsS43.ge HI135.out)) | exact HB.out)⟩
                                    · rw [if_neg c34] at H
                                      have c34b0 : decide (2048 < (t144.size : Int)) = false := decide_eq_false c34
                                      have c34b1 : decide (2048 < t144.size) = false := decide_eq_false (by omega)
                                      clear c34
                                      have H' := Aside0.mk H
                                      clear H
                                      go_wp2_with (first | ((with_reducible refine gate_callee (f := 10) rfl ?_); refine goesL_ (some 80) rfl rfl Try.func10 (by kernel_rfl) rfl #[.pointer (some ⟨g135, 0, none⟩)] rfl (by (try simp only [List.map_toArray, List.map_cons, List.map_nil]); first | done | rfl | (simp only [List.length_drop, List.length_take]; rfl)) ?_; (with_reducible refine (frame_Split_Closed.calls g135 x136000_15 x136001_15 t151 t152 t153 w _ ?side1 ?side2 A31.out).mono ?_); (case side1 => repeat (first | (with_reducible first | exact HI135.out | apply IsS43.alloc | apply IsS43.drewN | apply IsS43.drew | apply IsS43.set_0 | apply IsS43.set_1) | exact HI135.out)); (case side2 => repeat (first | (with_reducible first | exact HB.out | apply below_alloc | apply pw_below_drewN | apply below_drew1 | refine below_set ?_ (IsS43.ge HI135.out)) | exact HB.out)); rintro e w36 ⟨rfl, hi, hb, hk⟩; refine ⟨_, rfl, ?_⟩; have n0_ := Aside0.mk (hb); have n1_ := Aside0.mk (hi); clear HB; clear HI135; have HB := n0_; have HI135 := n1_; clear n0_ n1_; (try clear hb); (try clear hb2); (try clear hk); (try clear hi)))
                                      go_roundg kj26
                                      case measure => have := HK1.out; have := HJ6.out; have := HJ15.out; have := HJ26.out; omega
                                      case rel => exact ⟨(wrap64 (x4_1 + 1)), (wrap64 (x5_1 + 1)), (t152), (t153), (by first | rfl | (simp; done) | (simp [*]; done)), (by first | rfl | (simp; done) | (simp [*]; done)), H', ⟨by have := HK1.out; have := HJ6.out; have := HJ15.out; have := HJ26.out; omega⟩, ⟨by repeat (first | (with_reducible first | exact HI135.out | apply IsS43.alloc | apply IsS43.drewN | apply IsS43.drew | apply IsS43.set_0 | apply IsS43.set_1) | exact HI135.out)⟩, ⟨by repeat (first | (with_reducible first | exact HB.out | apply below_alloc | apply pw_below_drewN | apply below_drew1 | refine below_set ?_ (IsS43.ge HI135.out)) | exact HB.out)⟩⟩
                                · rw [if_neg c30] at H
                                  have c30b0 : (t141 == 2) = false := beq_eq_false_iff_ne.mpr c30
                                  have c30b1 : (t141 != 2) = true := bne_iff_ne.mpr c30
                                  by_cases c37 : t145 = 2
                                  · rw [if_pos c37] at H
                                    have c37b0 : (t145 == 2) = true := beq_iff_eq.mpr c37
                                    have c37b1 : (t145 != 2) = false := bne_eq_false_iff_eq.mpr c37
                                    clear c37
                                    replace H := Option.bind_eq_some_iff.mp H
                                    obtain ⟨⟨t154, t155, t156⟩, A380, H⟩ := H
                                    replace H : (if (true != t154) = true then (some false) else (if (t144.size : Int) > 2048 then (some false) else (provostlaw05_FrameOnce.l0 kj26 l0 (wrap64 (x4_1 + 1)) (wrap64 (x5_1 + 1)) t155 t156))) = some r := H
                                    have A38 := Aside0.mk A380
                                    clear A380
                                    by_cases c39 : (true != t154) = true
                                    · rw [if_pos c39] at H
                                      have c39b0 : (true != t154) = true := c39
                                      (try (have c39b1 : decide (true = t154) = false := by simpa using c39))
                                      (try (have c39b2 : (true == t154) = false := by simpa using c39))
                                      (try (have c39b3 : ¬ (true = t154) := by simpa using c39))
                                      clear c39
                                      obtain rfl := Option.some.inj H
                                      go_wp2_with (first | ((with_reducible refine gate_callee (f := 10) rfl ?_); refine goesL_ (some 80) rfl rfl Try.func10 (by kernel_rfl) rfl #[.pointer (some ⟨g135, 0, none⟩)] rfl (by (try simp only [List.map_toArray, List.map_cons, List.map_nil]); first | done | rfl | (simp only [List.length_drop, List.length_take]; rfl)) ?_; (with_reducible refine (frame_Split_Closed.calls g135 x136000_15 x136001_15 t154 t155 t156 w _ ?side1 ?side2 A38.out).mono ?_); (case side1 => repeat (first | (with_reducible first | exact HI135.out | apply IsS43.alloc | apply IsS43.drewN | apply IsS43.drew | apply IsS43.set_0 | apply IsS43.set_1) | exact HI135.out)); (case side2 => repeat (first | (with_reducible first | exact HB.out | apply below_alloc | apply pw_below_drewN | apply below_drew1 | refine below_set ?_ (IsS43.ge HI135.out)) | exact HB.out)); rintro e w40 ⟨rfl, hi, hb, hk⟩; refine ⟨_, rfl, ?_⟩; have n0_ := Aside0.mk (hb); have n1_ := Aside0.mk (hi); clear HB; clear HI135; have HB := n0_; have HI135 := n1_; clear n0_ n1_; (try clear hb); (try clear hb2); (try clear hk); (try clear hi)))
                                      go_ret
                                      exact ⟨by first | rfl | (simp [errW_none, errW_some] <;> rfl) | (simp [*, errW_none, errW_some] <;> rfl), by repeat (first | (with_reducible first | exact HB.out | apply below_alloc | apply pw_below_drewN | apply below_drew1 | refine below_set ?_ (IsS43.ge HI135.out)) | exact HB.out)⟩
                                    · rw [if_neg c39] at H
                                      have c39b0 : (true != t154) = false := by simpa using c39
                                      (try (have c39b1 : decide (true = t154) = true := by simpa using c39))
                                      (try (have c39b2 : (true == t154) = true := by simpa using c39))
                                      clear c39
                                      by_cases c41 : (t144.size : Int) > 2048
                                      · rw [if_pos c41] at H
                                        have c41b0 : decide (2048 < (t144.size : Int)) = true := decide_eq_true c41
                                        have c41b1 : decide (2048 < t144.size) = true := decide_eq_true (by omega)
                                        clear c41
                                        obtain rfl := Option.some.inj H
                                        go_wp2_with (first | ((with_reducible refine gate_callee (f := 10) rfl ?_); refine goesL_ (some 80) rfl rfl Try.func10 (by kernel_rfl) rfl #[.pointer (some ⟨g135, 0, none⟩)] rfl (by (try simp only [List.map_toArray, List.map_cons, List.map_nil]); first | done | rfl | (simp only [List.length_drop, List.length_take]; rfl)) ?_; (with_reducible refine (frame_Split_Closed.calls g135 x136000_15 x136001_15 t154 t155 t156 w _ ?side1 ?side2 A38.out).mono ?_); (case side1 => repeat (first | (with_reducible first | exact HI135.out | apply IsS43.alloc | apply IsS43.drewN | apply IsS43.drew | apply IsS43.set_0 | apply IsS43.set_1) | exact HI135.out)); (case side2 => repeat (first | (with_reducible first | exact HB.out | apply below_alloc | apply pw_below_drewN | apply below_drew1 | refine below_set ?_ (IsS43.ge HI135.out)) | exact HB.out)); rintro e w42 ⟨rfl, hi, hb, hk⟩; refine ⟨_, rfl, ?_⟩; have n0_ := Aside0.mk (hb); have n1_ := Aside0.mk (hi); clear HB; clear HI135; have HB := n0_; have HI135 := n1_; clear n0_ n1_; (try clear hb); (try clear hb2); (try clear hk); (try clear hi)))
                                        go_ret
                                        exact ⟨by first | rfl | (simp [errW_none, errW_some] <;> rfl) | (simp [*, errW_none, errW_some] <;> rfl), by repeat (first | (with_reducible first | exact HB.out | apply below_alloc | apply pw_below_drewN | apply below_drew1 | refine below_set ?_ (IsS43.ge HI135.out)) | exact HB.out)⟩
                                      · rw [if_neg c41] at H
                                        have c41b0 : decide (2048 < (t144.size : Int)) = false := decide_eq_false c41
                                        have c41b1 : decide (2048 < t144.size) = false := decide_eq_false (by omega)
                                        clear c41
                                        have H' := Aside0.mk H
                                        clear H
                                        go_wp2_with (first | ((with_reducible refine gate_callee (f := 10) rfl ?_); refine goesL_ (some 80) rfl rfl Try.func10 (by kernel_rfl) rfl #[.pointer (some ⟨g135, 0, none⟩)] rfl (by (try simp only [List.map_toArray, List.map_cons, List.map_nil]); first | done | rfl | (simp only [List.length_drop, List.length_take]; rfl)) ?_; (with_reducible refine (frame_Split_Closed.calls g135 x136000_15 x136001_15 t154 t155 t156 w _ ?side1 ?side2 A38.out).mono ?_); (case side1 => repeat (first | (with_reducible first | exact HI135.out | apply IsS43.alloc | apply IsS43.drewN | apply IsS43.drew | apply IsS43.set_0 | apply IsS43.set_1) | exact HI135.out)); (case side2 => repeat (first | (with_reducible first | exact HB.out | apply below_alloc | apply pw_below_drewN | apply below_drew1 | refine below_set ?_ (IsS43.ge HI135.out)) | exact HB.out)); rintro e w43 ⟨rfl, hi, hb, hk⟩; refine ⟨_, rfl, ?_⟩; have n0_ := Aside0.mk (hb); have n1_ := Aside0.mk (hi); clear HB; clear HI135; have HB := n0_; have HI135 := n1_; clear n0_ n1_; (try clear hb); (try clear hb2); (try clear hk); (try clear hi)))
                                        go_roundg kj26
                                        case measure => have := HK1.out; have := HJ6.out; have := HJ15.out; have := HJ26.out; omega
                                        case rel => exact ⟨(wrap64 (x4_1 + 1)), (wrap64 (x5_1 + 1)), (t155), (t156), (by first | rfl | (simp; done) | (simp [*]; done)), (by first | rfl | (simp; done) | (simp [*]; done)), H', ⟨by have := HK1.out; have := HJ6.out; have := HJ15.out; have := HJ26.out; omega⟩, ⟨by repeat (first | (with_reducible first | exact HI135.out | apply IsS43.alloc | apply IsS43.drewN | apply IsS43.drew | apply IsS43.set_0 | apply IsS43.set_1) | exact HI135.out)⟩, ⟨by repeat (first | (with_reducible first | exact HB.out | apply below_alloc | apply pw_below_drewN | apply below_drew1 | refine below_set ?_ (IsS43.ge HI135.out)) | exact HB.out)⟩⟩
                                  · rw [if_neg c37] at H
                                    have c37b0 : (t145 == 2) = false := beq_eq_false_iff_ne.mpr c37
                                    have c37b1 : (t145 != 2) = true := bne_iff_ne.mpr c37
                                    replace H := Option.bind_eq_some_iff.mp H
                                    obtain ⟨⟨t157, t158, t159⟩, A440, H⟩ := H
                                    replace H : (if (t137 != t157) = true then (some false) else (if (t144.size : Int) > 2048 then (some false) else (provostlaw05_FrameOnce.l0 kj26 l0 (wrap64 (x4_1 + 1)) (wrap64 (x5_1 + 1)) t158 t159))) = some r := H
                                    have A44 := Aside0.mk A440
                                    clear A440
                                    by_cases c45 : (t137 != t157) = true
                                    · rw [if_pos c45] at H
                                      have c45b0 : (t137 != t157) = true := c45
                                      (try (have c45b1 : decide (t137 = t157) = false := by simpa using c45))
                                      (try (have c45b2 : (t137 == t157) = false := by simpa using c45))
                                      (try (have c45b3 : ¬ (t137 = t157) := by simpa using c45))
                                      clear c45
                                      obtain rfl := Option.some.inj H
                                      go_wp2_with (first | ((with_reducible refine gate_callee (f := 10) rfl ?_); refine goesL_ (some 80) rfl rfl Try.func10 (by kernel_rfl) rfl #[.pointer (some ⟨g135, 0, none⟩)] rfl (by (try simp only [List.map_toArray, List.map_cons, List.map_nil]); first | done | rfl | (simp only [List.length_drop, List.length_take]; rfl)) ?_; (with_reducible refine (frame_Split_Closed.calls g135 x136000_15 x136001_15 t157 t158 t159 w _ ?side1 ?side2 A44.out).mono ?_); (case side1 => repeat (first | (with_reducible first | exact HI135.out | apply IsS43.alloc | apply IsS43.drewN | apply IsS43.drew | apply IsS43.set_0 | apply IsS43.set_1) | exact HI135.out)); (case side2 => repeat (first | (with_reducible first | exact HB.out | apply below_alloc | apply pw_below_drewN | apply below_drew1 | refine below_set ?_ (IsS43.ge HI135.out)) | exact HB.out)); rintro e w46 ⟨rfl, hi, hb, hk⟩; refine ⟨_, rfl, ?_⟩; have n0_ := Aside0.mk (hb); have n1_ := Aside0.mk (hi); clear HB; clear HI135; have HB := n0_; have HI135 := n1_; clear n0_ n1_; (try clear hb); (try clear hb2); (try clear hk); (try clear hi)))
                                      go_ret
                                      exact ⟨by first | rfl | (simp [errW_none, errW_some] <;> rfl) | (simp [*, errW_none, errW_some] <;> rfl), by repeat (first | (with_reducible first | exact HB.out | apply below_alloc | apply pw_below_drewN | apply below_drew1 | refine below_set ?_ (IsS43.ge HI135.out)) | exact HB.out)⟩
                                    · rw [if_neg c45] at H
                                      have c45b0 : (t137 != t157) = false := by simpa using c45
                                      (try (have c45b1 : decide (t137 = t157) = true := by simpa using c45))
                                      (try (have c45b2 : (t137 == t157) = true := by simpa using c45))
                                      clear c45
                                      by_cases c47 : (t144.size : Int) > 2048
                                      · rw [if_pos c47] at H
                                        have c47b0 : decide (2048 < (t144.size : Int)) = true := decide_eq_true c47
                                        have c47b1 : decide (2048 < t144.size) = true := decide_eq_true (by omega)
                                        clear c47
                                        obtain rfl := Option.some.inj H
                                        go_wp2_with (first | ((with_reducible refine gate_callee (f := 10) rfl ?_); refine goesL_ (some 80) rfl rfl Try.func10 (by kernel_rfl) rfl #[.pointer (some ⟨g135, 0, none⟩)] rfl (by (try simp only [List.map_toArray, List.map_cons, List.map_nil]); first | done | rfl | (simp only [List.length_drop, List.length_take]; rfl)) ?_; (with_reducible refine (frame_Split_Closed.calls g135 x136000_15 x136001_15 t157 t158 t159 w _ ?side1 ?side2 A44.out).mono ?_); (case side1 => repeat (first | (with_reducible first | exact HI135.out | apply IsS43.alloc | apply IsS43.drewN | apply IsS43.drew | apply IsS43.set_0 | apply IsS43.set_1) | exact HI135.out)); (case side2 => repeat (first | (with_reducible first | exact HB.out | apply below_alloc | apply pw_below_drewN | apply below_drew1 | refine below_set ?_ (IsS43.ge HI135.out)) | exact HB.out)); rintro e w48 ⟨rfl, hi, hb, hk⟩; refine ⟨_, rfl, ?_⟩; have n0_ := Aside0.mk (hb); have n1_ := Aside0.mk (hi); clear HB; clear HI135; have HB := n0_; have HI135 := n1_; clear n0_ n1_; (try clear hb); (try clear hb2); (try clear hk); (try clear hi)))
                                        go_ret
                                        exact ⟨by first | rfl | (simp [errW_none, errW_some] <;> rfl) | (simp [*, errW_none, errW_some] <;> rfl), by repeat (first | (with_reducible first | exact HB.out | apply below_alloc | apply pw_below_drewN | apply below_drew1 | refine below_set ?_ (IsS43.ge HI135.out)) | exact HB.out)⟩
                                      · rw [if_neg c47] at H
                                        have c47b0 : decide (2048 < (t144.size : Int)) = false := decide_eq_false c47
                                        have c47b1 : decide (2048 < t144.size) = false := decide_eq_false (by omega)
                                        clear c47
                                        have H' := Aside0.mk H
                                        clear H
                                        go_wp2_with (first | ((with_reducible refine gate_callee (f := 10) rfl ?_); refine goesL_ (some 80) rfl rfl Try.func10 (by kernel_rfl) rfl #[.pointer (some ⟨g135, 0, none⟩)] rfl (by (try simp only [List.map_toArray, List.map_cons, List.map_nil]); first | done | rfl | (simp only [List.length_drop, List.length_take]; rfl)) ?_; (with_reducible refine (frame_Split_Closed.calls g135 x136000_15 x136001_15 t157 t158 t159 w _ ?side1 ?side2 A44.out).mono ?_); (case side1 => repeat (first | (with_reducible first | exact HI135.out | apply IsS43.alloc | apply IsS43.drewN | apply IsS43.drew | apply IsS43.set_0 | apply IsS43.set_1) | exact HI135.out)); (case side2 => repeat (first | (with_reducible first | exact HB.out | apply below_alloc | apply pw_below_drewN | apply below_drew1 | refine below_set ?_ (IsS43.ge HI135.out)) | exact HB.out)); rintro e w49 ⟨rfl, hi, hb, hk⟩; refine ⟨_, rfl, ?_⟩; have n0_ := Aside0.mk (hb); have n1_ := Aside0.mk (hi); clear HB; clear HI135; have HB := n0_; have HI135 := n1_; clear n0_ n1_; (try clear hb); (try clear hb2); (try clear hk); (try clear hi)))
                                        go_roundg kj26
                                        case measure => have := HK1.out; have := HJ6.out; have := HJ15.out; have := HJ26.out; omega
                                        case rel => exact ⟨(wrap64 (x4_1 + 1)), (wrap64 (x5_1 + 1)), (t158), (t159), (by first | rfl | (simp; done) | (simp [*]; done)), (by first | rfl | (simp; done) | (simp [*]; done)), H', ⟨by have := HK1.out; have := HJ6.out; have := HJ15.out; have := HJ26.out; omega⟩, ⟨by repeat (first | (with_reducible first | exact HI135.out | apply IsS43.alloc | apply IsS43.drewN | apply IsS43.drew | apply IsS43.set_0 | apply IsS43.set_1) | exact HI135.out)⟩, ⟨by repeat (first | (with_reducible first | exact HB.out | apply below_alloc | apply pw_below_drewN | apply below_drew1 | refine below_set ?_ (IsS43.ge HI135.out)) | exact HB.out)⟩⟩
                              · replace c29 := Bool.eq_false_iff.mpr c29
                                subst c29
                                have H1 : (if t141 = 2 then ((frame_Split_Closed.f x136000_15 x136001_15).bind fun bt160 => (if (true != bt160.1) = true then (some false) else (if (t144.size : Int) > 2048 then (some false) else (provostlaw05_FrameOnce.l0 kj26 l0 x4_1 (wrap64 (x5_1 + 1)) bt160.2.1 bt160.2.2)))) else (if t145 = 2 then ((frame_Split_Closed.f x136000_15 x136001_15).bind fun bt163 => (if (true != bt163.1) = true then (some false) else (if (t144.size : Int) > 2048 then (some false) else (provostlaw05_FrameOnce.l0 kj26 l0 x4_1 (wrap64 (x5_1 + 1)) bt163.2.1 bt163.2.2)))) else ((frame_Split_Closed.f x136000_15 x136001_15).bind fun bt166 => (if (t137 != bt166.1) = true then (some false) else (if (t144.size : Int) > 2048 then (some false) else (provostlaw05_FrameOnce.l0 kj26 l0 x4_1 (wrap64 (x5_1 + 1)) bt166.2.1 bt166.2.2)))))) = some r := by rw [if_neg (show ¬ (false = true) by decide)] at H; exact H
                                clear H
                                have H := H1
                                clear H1
                                by_cases c50 : t141 = 2
                                · rw [if_pos c50] at H
                                  have c50b0 : (t141 == 2) = true := beq_iff_eq.mpr c50
                                  have c50b1 : (t141 != 2) = false := bne_eq_false_iff_eq.mpr c50
                                  clear c50
                                  replace H := Option.bind_eq_some_iff.mp H
                                  obtain ⟨⟨t160, t161, t162⟩, A510, H⟩ := H
                                  replace H : (if (true != t160) = true then (some false) else (if (t144.size : Int) > 2048 then (some false) else (provostlaw05_FrameOnce.l0 kj26 l0 x4_1 (wrap64 (x5_1 + 1)) t161 t162))) = some r := H
                                  have A51 := Aside0.mk A510
                                  clear A510
                                  by_cases c52 : (true != t160) = true
                                  · rw [if_pos c52] at H
                                    have c52b0 : (true != t160) = true := c52
                                    (try (have c52b1 : decide (true = t160) = false := by simpa using c52))
                                    (try (have c52b2 : (true == t160) = false := by simpa using c52))
                                    (try (have c52b3 : ¬ (true = t160) := by simpa using c52))
                                    clear c52
                                    obtain rfl := Option.some.inj H
                                    go_wp2_with (first | ((with_reducible refine gate_callee (f := 10) rfl ?_); refine goesL_ (some 80) rfl rfl Try.func10 (by kernel_rfl) rfl #[.pointer (some ⟨g135, 0, none⟩)] rfl (by (try simp only [List.map_toArray, List.map_cons, List.map_nil]); first | done | rfl | (simp only [List.length_drop, List.length_take]; rfl)) ?_; (with_reducible refine (frame_Split_Closed.calls g135 x136000_15 x136001_15 t160 t161 t162 w _ ?side1 ?side2 A51.out).mono ?_); (case side1 => repeat (first | (with_reducible first | exact HI135.out | apply IsS43.alloc | apply IsS43.drewN | apply IsS43.drew | apply IsS43.set_0 | apply IsS43.set_1) | exact HI135.out)); (case side2 => repeat (first | (with_reducible first | exact HB.out | apply below_alloc | apply pw_below_drewN | apply below_drew1 | refine below_set ?_ (IsS43.ge HI135.out)) | exact HB.out)); rintro e w53 ⟨rfl, hi, hb, hk⟩; refine ⟨_, rfl, ?_⟩; have n0_ := Aside0.mk (hb); have n1_ := Aside0.mk (hi); clear HB; clear HI135; have HB := n0_; have HI135 := n1_; clear n0_ n1_; (try clear hb); (try clear hb2); (try clear hk); (try clear hi)))
                                    go_ret
                                    exact ⟨by first | rfl | (simp [errW_none, errW_some] <;> rfl) | (simp [*, errW_none, errW_some] <;> rfl), by repeat (first | (with_reducible first | exact HB.out | apply below_alloc | apply pw_below_drewN | apply below_drew1 | refine below_set ?_ (IsS43.ge HI135.out)) | exact HB.out)⟩
                                  · rw [if_neg c52] at H
                                    have c52b0 : (true != t160) = false := by simpa using c52
                                    (try (have c52b1 : decide (true = t160) = true := by simpa using c52))
                                    (try (have c52b2 : (true == t160) = true := by simpa using c52))
                                    clear c52
                                    by_cases c54 : (t144.size : Int) > 2048
                                    · rw [if_pos c54] at H
                                      have c54b0 : decide (2048 < (t144.size : Int)) = true := decide_eq_true c54
                                      have c54b1 : decide (2048 < t144.size) = true := decide_eq_true (by omega)
                                      clear c54
                                      obtain rfl := Option.some.inj H
                                      go_wp2_with (first | ((with_reducible refine gate_callee (f := 10) rfl ?_); refine goesL_ (some 80) rfl rfl Try.func10 (by kernel_rfl) rfl #[.pointer (some ⟨g135, 0, none⟩)] rfl (by (try simp only [List.map_toArray, List.map_cons, List.map_nil]); first | done | rfl | (simp only [List.length_drop, List.length_take]; rfl)) ?_; (with_reducible refine (frame_Split_Closed.calls g135 x136000_15 x136001_15 t160 t161 t162 w _ ?side1 ?side2 A51.out).mono ?_); (case side1 => repeat (first | (with_reducible first | exact HI135.out | apply IsS43.alloc | apply IsS43.drewN | apply IsS43.drew | apply IsS43.set_0 | apply IsS43.set_1) | exact HI135.out)); (case side2 => repeat (first | (with_reducible first | exact HB.out | apply below_alloc | apply pw_below_drewN | apply below_drew1 | refine below_set ?_ (IsS43.ge HI135.out)) | exact HB.out)); rintro e w55 ⟨rfl, hi, hb, hk⟩; refine ⟨_, rfl, ?_⟩; have n0_ := Aside0.mk (hb); have n1_ := Aside0.mk (hi); clear HB; clear HI135; have HB := n0_; have HI135 := n1_; clear n0_ n1_; (try clear hb); (try clear hb2); (try clear hk); (try clear hi)))
                                      go_ret
                                      exact ⟨by first | rfl | (simp [errW_none, errW_some] <;> rfl) | (simp [*, errW_none, errW_some] <;> rfl), by repeat (first | (with_reducible first | exact HB.out | apply below_alloc | apply pw_below_drewN | apply below_drew1 | refine below_set ?_ (IsS43.ge HI135.out)) | exact HB.out)⟩
                                    · rw [if_neg c54] at H
                                      have c54b0 : decide (2048 < (t144.size : Int)) = false := decide_eq_false c54
                                      have c54b1 : decide (2048 < t144.size) = false := decide_eq_false (by omega)
                                      clear c54
                                      have H' := Aside0.mk H
                                      clear H
                                      go_wp2_with (first | ((with_reducible refine gate_callee (f := 10) rfl ?_); refine goesL_ (some 80) rfl rfl Try.func10 (by kernel_rfl) rfl #[.pointer (some ⟨g135, 0, none⟩)] rfl (by (try simp only [List.map_toArray, List.map_cons, List.map_nil]); first | done | rfl | (simp only [List.length_drop, List.length_take]; rfl)) ?_; (with_reducible refine (frame_Split_Closed.calls g135 x136000_15 x136001_15 t160 t161 t162 w _ ?side1 ?side2 A51.out).mono ?_); (case side1 => repeat (first | (with_reducible first | exact HI135.out | apply IsS43.alloc | apply IsS43.drewN | apply IsS43.drew | apply IsS43.set_0 | apply IsS43.set_1) | exact HI135.out)); (case side2 => repeat (first | (with_reducible first | exact HB.out | apply below_alloc | apply pw_below_drewN | apply below_drew1 | refine below_set ?_ (IsS43.ge HI135.out)) | exact HB.out)); rintro e w56 ⟨rfl, hi, hb, hk⟩; refine ⟨_, rfl, ?_⟩; have n0_ := Aside0.mk (hb); have n1_ := Aside0.mk (hi); clear HB; clear HI135; have HB := n0_; have HI135 := n1_; clear n0_ n1_; (try clear hb); (try clear hb2); (try clear hk); (try clear hi)))
                                      go_roundg kj26
                                      case measure => have := HK1.out; have := HJ6.out; have := HJ15.out; have := HJ26.out; omega
                                      case rel => exact ⟨(x4_1), (wrap64 (x5_1 + 1)), (t161), (t162), (by first | rfl | (simp; done) | (simp [*]; done)), (by first | rfl | (simp; done) | (simp [*]; done)), H', ⟨by have := HK1.out; have := HJ6.out; have := HJ15.out; have := HJ26.out; omega⟩, ⟨by repeat (first | (with_reducible first | exact HI135.out | apply IsS43.alloc | apply IsS43.drewN | apply IsS43.drew | apply IsS43.set_0 | apply IsS43.set_1) | exact HI135.out)⟩, ⟨by repeat (first | (with_reducible first | exact HB.out | apply below_alloc | apply pw_below_drewN | apply below_drew1 | refine below_set ?_ (IsS43.ge HI135.out)) | exact HB.out)⟩⟩
                                · rw [if_neg c50] at H
                                  have c50b0 : (t141 == 2) = false := beq_eq_false_iff_ne.mpr c50
                                  have c50b1 : (t141 != 2) = true := bne_iff_ne.mpr c50
                                  by_cases c57 : t145 = 2
                                  · rw [if_pos c57] at H
                                    have c57b0 : (t145 == 2) = true := beq_iff_eq.mpr c57
                                    have c57b1 : (t145 != 2) = false := bne_eq_false_iff_eq.mpr c57
                                    clear c57
                                    replace H := Option.bind_eq_some_iff.mp H
                                    obtain ⟨⟨t163, t164, t165⟩, A580, H⟩ := H
                                    replace H : (if (true != t163) = true then (some false) else (if (t144.size : Int) > 2048 then (some false) else (provostlaw05_FrameOnce.l0 kj26 l0 x4_1 (wrap64 (x5_1 + 1)) t164 t165))) = some r := H
                                    have A58 := Aside0.mk A580
                                    clear A580
                                    by_cases c59 : (true != t163) = true
                                    · rw [if_pos c59] at H
                                      have c59b0 : (true != t163) = true := c59
                                      (try (have c59b1 : decide (true = t163) = false := by simpa using c59))
                                      (try (have c59b2 : (true == t163) = false := by simpa using c59))
                                      (try (have c59b3 : ¬ (true = t163) := by simpa using c59))
                                      clear c59
                                      obtain rfl := Option.some.inj H
                                      go_wp2_with (first | ((with_reducible refine gate_callee (f := 10) rfl ?_); refine goesL_ (some 80) rfl rfl Try.func10 (by kernel_rfl) rfl #[.pointer (some ⟨g135, 0, none⟩)] rfl (by (try simp only [List.map_toArray, List.map_cons, List.map_nil]); first | done | rfl | (simp only [List.length_drop, List.length_take]; rfl)) ?_; (with_reducible refine (frame_Split_Closed.calls g135 x136000_15 x136001_15 t163 t164 t165 w _ ?side1 ?side2 A58.out).mono ?_); (case side1 => repeat (first | (with_reducible first | exact HI135.out | apply IsS43.alloc | apply IsS43.drewN | apply IsS43.drew | apply IsS43.set_0 | apply IsS43.set_1) | exact HI135.out)); (case side2 => repeat (first | (with_reducible first | exact HB.out | apply below_alloc | apply pw_below_drewN | apply below_drew1 | refine below_set ?_ (IsS43.ge HI135.out)) | exact HB.out)); rintro e w60 ⟨rfl, hi, hb, hk⟩; refine ⟨_, rfl, ?_⟩; have n0_ := Aside0.mk (hb); have n1_ := Aside0.mk (hi); clear HB; clear HI135; have HB := n0_; have HI135 := n1_; clear n0_ n1_; (try clear hb); (try clear hb2); (try clear hk); (try clear hi)))
                                      go_ret
                                      exact ⟨by first | rfl | (simp [errW_none, errW_some] <;> rfl) | (simp [*, errW_none, errW_some] <;> rfl), by repeat (first | (with_reducible first | exact HB.out | apply below_alloc | apply pw_below_drewN | apply below_drew1 | refine below_set ?_ (IsS43.ge HI135.out)) | exact HB.out)⟩
                                    · rw [if_neg c59] at H
                                      have c59b0 : (true != t163) = false := by simpa using c59
                                      (try (have c59b1 : decide (true = t163) = true := by simpa using c59))
                                      (try (have c59b2 : (true == t163) = true := by simpa using c59))
                                      clear c59
                                      by_cases c61 : (t144.size : Int) > 2048
                                      · rw [if_pos c61] at H
                                        have c61b0 : decide (2048 < (t144.size : Int)) = true := decide_eq_true c61
                                        have c61b1 : decide (2048 < t144.size) = true := decide_eq_true (by omega)
                                        clear c61
                                        obtain rfl := Option.some.inj H
                                        go_wp2_with (first | ((with_reducible refine gate_callee (f := 10) rfl ?_); refine goesL_ (some 80) rfl rfl Try.func10 (by kernel_rfl) rfl #[.pointer (some ⟨g135, 0, none⟩)] rfl (by (try simp only [List.map_toArray, List.map_cons, List.map_nil]); first | done | rfl | (simp only [List.length_drop, List.length_take]; rfl)) ?_; (with_reducible refine (frame_Split_Closed.calls g135 x136000_15 x136001_15 t163 t164 t165 w _ ?side1 ?side2 A58.out).mono ?_); (case side1 => repeat (first | (with_reducible first | exact HI135.out | apply IsS43.alloc | apply IsS43.drewN | apply IsS43.drew | apply IsS43.set_0 | apply IsS43.set_1) | exact HI135.out)); (case side2 => repeat (first | (with_reducible first | exact HB.out | apply below_alloc | apply pw_below_drewN | apply below_drew1 | refine below_set ?_ (IsS43.ge HI135.out)) | exact HB.out)); rintro e w62 ⟨rfl, hi, hb, hk⟩; refine ⟨_, rfl, ?_⟩; have n0_ := Aside0.mk (hb); have n1_ := Aside0.mk (hi); clear HB; clear HI135; have HB := n0_; have HI135 := n1_; clear n0_ n1_; (try clear hb); (try clear hb2); (try clear hk); (try clear hi)))
                                        go_ret
                                        exact ⟨by first | rfl | (simp [errW_none, errW_some] <;> rfl) | (simp [*, errW_none, errW_some] <;> rfl), by repeat (first | (with_reducible first | exact HB.out | apply below_alloc | apply pw_below_drewN | apply below_drew1 | refine below_set ?_ (IsS43.ge HI135.out)) | exact HB.out)⟩
                                      · rw [if_neg c61] at H
                                        have c61b0 : decide (2048 < (t144.size : Int)) = false := decide_eq_false c61
                                        have c61b1 : decide (2048 < t144.size) = false := decide_eq_false (by omega)
                                        clear c61
                                        have H' := Aside0.mk H
                                        clear H
                                        go_wp2_with (first | ((with_reducible refine gate_callee (f := 10) rfl ?_); refine goesL_ (some 80) rfl rfl Try.func10 (by kernel_rfl) rfl #[.pointer (some ⟨g135, 0, none⟩)] rfl (by (try simp only [List.map_toArray, List.map_cons, List.map_nil]); first | done | rfl | (simp only [List.length_drop, List.length_take]; rfl)) ?_; (with_reducible refine (frame_Split_Closed.calls g135 x136000_15 x136001_15 t163 t164 t165 w _ ?side1 ?side2 A58.out).mono ?_); (case side1 => repeat (first | (with_reducible first | exact HI135.out | apply IsS43.alloc | apply IsS43.drewN | apply IsS43.drew | apply IsS43.set_0 | apply IsS43.set_1) | exact HI135.out)); (case side2 => repeat (first | (with_reducible first | exact HB.out | apply below_alloc | apply pw_below_drewN | apply below_drew1 | refine below_set ?_ (IsS43.ge HI135.out)) | exact HB.out)); rintro e w63 ⟨rfl, hi, hb, hk⟩; refine ⟨_, rfl, ?_⟩; have n0_ := Aside0.mk (hb); have n1_ := Aside0.mk (hi); clear HB; clear HI135; have HB := n0_; have HI135 := n1_; clear n0_ n1_; (try clear hb); (try clear hb2); (try clear hk); (try clear hi)))
                                        go_roundg kj26
                                        case measure => have := HK1.out; have := HJ6.out; have := HJ15.out; have := HJ26.out; omega
                                        case rel => exact ⟨(x4_1), (wrap64 (x5_1 + 1)), (t164), (t165), (by first | rfl | (simp; done) | (simp [*]; done)), (by first | rfl | (simp; done) | (simp [*]; done)), H', ⟨by have := HK1.out; have := HJ6.out; have := HJ15.out; have := HJ26.out; omega⟩, ⟨by repeat (first | (with_reducible first | exact HI135.out | apply IsS43.alloc | apply IsS43.drewN | apply IsS43.drew | apply IsS43.set_0 | apply IsS43.set_1) | exact HI135.out)⟩, ⟨by repeat (first | (with_reducible first | exact HB.out | apply below_alloc | apply pw_below_drewN | apply below_drew1 | refine below_set ?_ (IsS43.ge HI135.out)) | exact HB.out)⟩⟩
                                  · rw [if_neg c57] at H
                                    have c57b0 : (t145 == 2) = false := beq_eq_false_iff_ne.mpr c57
                                    have c57b1 : (t145 != 2) = true := bne_iff_ne.mpr c57
                                    replace H := Option.bind_eq_some_iff.mp H
                                    obtain ⟨⟨t166, t167, t168⟩, A640, H⟩ := H
                                    replace H : (if (t137 != t166) = true then (some false) else (if (t144.size : Int) > 2048 then (some false) else (provostlaw05_FrameOnce.l0 kj26 l0 x4_1 (wrap64 (x5_1 + 1)) t167 t168))) = some r := H
                                    have A64 := Aside0.mk A640
                                    clear A640
                                    by_cases c65 : (t137 != t166) = true
                                    · rw [if_pos c65] at H
                                      have c65b0 : (t137 != t166) = true := c65
                                      (try (have c65b1 : decide (t137 = t166) = false := by simpa using c65))
                                      (try (have c65b2 : (t137 == t166) = false := by simpa using c65))
                                      (try (have c65b3 : ¬ (t137 = t166) := by simpa using c65))
                                      clear c65
                                      obtain rfl := Option.some.inj H
                                      go_wp2_with (first | ((with_reducible refine gate_callee (f := 10) rfl ?_); refine goesL_ (some 80) rfl rfl Try.func10 (by kernel_rfl) rfl #[.pointer (some ⟨g135, 0, none⟩)] rfl (by (try simp only [List.map_toArray, List.map_cons, List.map_nil]); first | done | rfl | (simp only [List.length_drop, List.length_take]; rfl)) ?_; (with_reducible refine (frame_Split_Closed.calls g135 x136000_15 x136001_15 t166 t167 t168 w _ ?side1 ?side2 A64.out).mono ?_); (case side1 => repeat (first | (with_reducible first | exact HI135.out | apply IsS43.alloc | apply IsS43.drewN | apply IsS43.drew | apply IsS43.set_0 | apply IsS43.set_1) | exact HI135.out)); (case side2 => repeat (first | (with_reducible first | exact HB.out | apply below_alloc | apply pw_below_drewN | apply below_drew1 | refine below_set ?_ (IsS43.ge HI135.out)) | exact HB.out)); rintro e w66 ⟨rfl, hi, hb, hk⟩; refine ⟨_, rfl, ?_⟩; have n0_ := Aside0.mk (hb); have n1_ := Aside0.mk (hi); clear HB; clear HI135; have HB := n0_; have HI135 := n1_; clear n0_ n1_; (try clear hb); (try clear hb2); (try clear hk); (try clear hi)))
                                      go_ret
                                      exact ⟨by first | rfl | (simp [errW_none, errW_some] <;> rfl) | (simp [*, errW_none, errW_some] <;> rfl), by repeat (first | (with_reducible first | exact HB.out | apply below_alloc | apply pw_below_drewN | apply below_drew1 | refine below_set ?_ (IsS43.ge HI135.out)) | exact HB.out)⟩
                                    · rw [if_neg c65] at H
                                      have c65b0 : (t137 != t166) = false := by simpa using c65
                                      (try (have c65b1 : decide (t137 = t166) = true := by simpa using c65))
                                      (try (have c65b2 : (t137 == t166) = true := by simpa using c65))
                                      clear c65
                                      by_cases c67 : (t144.size : Int) > 2048
                                      · rw [if_pos c67] at H
                                        have c67b0 : decide (2048 < (t144.size : Int)) = true := decide_eq_true c67
                                        have c67b1 : decide (2048 < t144.size) = true := decide_eq_true (by omega)
                                        clear c67
                                        obtain rfl := Option.some.inj H
                                        go_wp2_with (first | ((with_reducible refine gate_callee (f := 10) rfl ?_); refine goesL_ (some 80) rfl rfl Try.func10 (by kernel_rfl) rfl #[.pointer (some ⟨g135, 0, none⟩)] rfl (by (try simp only [List.map_toArray, List.map_cons, List.map_nil]); first | done | rfl | (simp only [List.length_drop, List.length_take]; rfl)) ?_; (with_reducible refine (frame_Split_Closed.calls g135 x136000_15 x136001_15 t166 t167 t168 w _ ?side1 ?side2 A64.out).mono ?_); (case side1 => repeat (first | (with_reducible first | exact HI135.out | apply IsS43.alloc | apply IsS43.drewN | apply IsS43.drew | apply IsS43.set_0 | apply IsS43.set_1) | exact HI135.out)); (case side2 => repeat (first | (with_reducible first | exact HB.out | apply below_alloc | apply pw_below_drewN | apply below_drew1 | refine below_set ?_ (IsS43.ge HI135.out)) | exact HB.out)); rintro e w68 ⟨rfl, hi, hb, hk⟩; refine ⟨_, rfl, ?_⟩; have n0_ := Aside0.mk (hb); have n1_ := Aside0.mk (hi); clear HB; clear HI135; have HB := n0_; have HI135 := n1_; clear n0_ n1_; (try clear hb); (try clear hb2); (try clear hk); (try clear hi)))
                                        go_ret
                                        exact ⟨by first | rfl | (simp [errW_none, errW_some] <;> rfl) | (simp [*, errW_none, errW_some] <;> rfl), by repeat (first | (with_reducible first | exact HB.out | apply below_alloc | apply pw_below_drewN | apply below_drew1 | refine below_set ?_ (IsS43.ge HI135.out)) | exact HB.out)⟩
                                      · rw [if_neg c67] at H
                                        have c67b0 : decide (2048 < (t144.size : Int)) = false := decide_eq_false c67
                                        have c67b1 : decide (2048 < t144.size) = false := decide_eq_false (by omega)
                                        clear c67
                                        have H' := Aside0.mk H
                                        clear H
                                        go_wp2_with (first | ((with_reducible refine gate_callee (f := 10) rfl ?_); refine goesL_ (some 80) rfl rfl Try.func10 (by kernel_rfl) rfl #[.pointer (some ⟨g135, 0, none⟩)] rfl (by (try simp only [List.map_toArray, List.map_cons, List.map_nil]); first | done | rfl | (simp only [List.length_drop, List.length_take]; rfl)) ?_; (with_reducible refine (frame_Split_Closed.calls g135 x136000_15 x136001_15 t166 t167 t168 w _ ?side1 ?side2 A64.out).mono ?_); (case side1 => repeat (first | (with_reducible first | exact HI135.out | apply IsS43.alloc | apply IsS43.drewN | apply IsS43.drew | apply IsS43.set_0 | apply IsS43.set_1) | exact HI135.out)); (case side2 => repeat (first | (with_reducible first | exact HB.out | apply below_alloc | apply pw_below_drewN | apply below_drew1 | refine below_set ?_ (IsS43.ge HI135.out)) | exact HB.out)); rintro e w69 ⟨rfl, hi, hb, hk⟩; refine ⟨_, rfl, ?_⟩; have n0_ := Aside0.mk (hb); have n1_ := Aside0.mk (hi); clear HB; clear HI135; have HB := n0_; have HI135 := n1_; clear n0_ n1_; (try clear hb); (try clear hb2); (try clear hk); (try clear hi)))
                                        go_roundg kj26
                                        case measure => have := HK1.out; have := HJ6.out; have := HJ15.out; have := HJ26.out; omega
                                        case rel => exact ⟨(x4_1), (wrap64 (x5_1 + 1)), (t167), (t168), (by first | rfl | (simp; done) | (simp [*]; done)), (by first | rfl | (simp; done) | (simp [*]; done)), H', ⟨by have := HK1.out; have := HJ6.out; have := HJ15.out; have := HJ26.out; omega⟩, ⟨by repeat (first | (with_reducible first | exact HI135.out | apply IsS43.alloc | apply IsS43.drewN | apply IsS43.drew | apply IsS43.set_0 | apply IsS43.set_1) | exact HI135.out)⟩, ⟨by repeat (first | (with_reducible first | exact HB.out | apply below_alloc | apply pw_below_drewN | apply below_drew1 | refine below_set ?_ (IsS43.ge HI135.out)) | exact HB.out)⟩⟩
                · rw [if_neg c11] at H
                  exact absurd H (by simp)
              · rw [if_neg c10] at H
                exact absurd H (by simp)
            · replace c9 := Bool.eq_false_iff.mpr c9
              subst c9
              have H1 : (some (decide (x4_1 ≤ 1))) = some r := by rw [if_neg (show ¬ (false = true) by decide)] at H; exact H
              clear H
              have H := H1
              clear H1
              obtain rfl := Option.some.inj H
              go_wp2
              go_ret
              exact ⟨by first | rfl | (simp [errW_none, errW_some] <;> rfl) | (simp [*, errW_none, errW_some] <;> rfl), by repeat (first | (with_reducible first | exact HB.out | apply below_alloc | apply pw_below_drewN | apply below_drew1 | refine below_set ?_ (IsS43.ge HI135.out)) | exact HB.out)⟩
  · replace c3 := Bool.eq_false_iff.mpr c3
    subst c3
    have H1 : (some false) = some r := by rw [if_neg (show ¬ (false = true) by decide)] at H; exact H
    clear H
    have H := H1
    clear H1
    obtain rfl := Option.some.inj H
    go_enter Try.func4, Try.ntmps4
    go_wp2_with (first | ((with_reducible refine gate_callee (f := 6) rfl ?_); refine goesL_ (some 10) rfl rfl Try.func6 (by kernel_rfl) rfl #[] rfl (by (try simp only [List.map_toArray, List.map_cons, List.map_nil]); first | done | rfl | (simp only [List.length_drop, List.length_take]; rfl)) ?_; (with_reducible refine (provostlaw05_works.calls  false _ A2.out).mono ?_); rintro e w70 ⟨rfl, hb⟩; refine ⟨_, rfl, ?_⟩; have n0_ := Aside0.mk (below_step (by repeat (first | (with_reducible first | exact HB.out | apply below_alloc | apply pw_below_drewN | apply below_drew1) | exact HB.out)) hb); clear HB; have HB := n0_; clear n0_; (try clear hb); (try clear hb2); (try clear hk); (try clear hi)))
    go_ret
    exact ⟨by first | rfl | (simp [errW_none, errW_some] <;> rfl) | (simp [*, errW_none, errW_some] <;> rfl), by repeat (first | (with_reducible first | exact HB.out | apply below_alloc | apply pw_below_drewN | apply below_drew1) | exact HB.out)⟩

end Go.Proofs.Ytfbecehinloldaa.PFrameOnce
