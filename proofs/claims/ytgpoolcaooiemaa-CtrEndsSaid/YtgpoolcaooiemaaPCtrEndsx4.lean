-- Written by a changed copy of the print (some functions are given by contracts of this session): text of this seat
import Derived.Test.YtgpoolcaooiemaaPCtrEndsx0
import Derived.Test.YtgpoolcaooiemaaPCtrEndsx2
import Derived.Test.YtgpoolcaooiemaaPCtrEndsx3
namespace Go.Proofs.Ytgpoolcaooiemaa.PCtrEnds
open Go.RowKit Go.Proofs.YtgpoolcaooiemaaW.PrintWords Go.Proofs.YtgpoolcaooiemaaW.PrintLast Go.Proofs.YtgpoolcaooiemaaW.PrintMore
attribute [local go_sem] max2_int min2_int max_two min_two max_three min_three max_four min_four   -- for this text's walks alone
set_option linter.unusedVariables false
set_option linter.unusedSimpArgs false

attribute [local go_sem] Go.Proofs.Ytgpoolcaooiemaa.D.field59_3
/-! ### provostlaw19_CtrEnds: function 3 -/
mutual
def provostlaw19_CtrEnds.j0 : Nat → Int → List (S33) → Bool → Option (Bool)
  | 0, _, _, _ => none
  | k + 1, x0, x1, x17 => if x17 = true then (some true) else ((ctr_Made.f).bind fun bt188 => ((ctr_Start.f bt188.1 bt188.2.1 bt188.2.2).bind fun bt191 => ((ctr_Stop.f k bt191.1 bt191.2.1 bt191.2.2.1 x0).bind fun bt196 => (provostlaw19_CtrEnds.l0 k x0 x1 0 0 bt196.1 bt196.2.1 bt196.2.2.1))))
def provostlaw19_CtrEnds.l0 : Nat → Int → List (S33) → Int → Int → Int → Int → Int → Option (Bool)
  | 0, _, _, _, _, _, _, _ => none
  | k + 1, x0, x1, x7, x8, x196000, x196001, x196002 => if x8 < (x1.length : Int) then (provostlaw19_CtrEnds.j2 k x0 x1 x7 x8 (decide (x8 < 100)) x196000 x196001 x196002) else (provostlaw19_CtrEnds.j2 k x0 x1 x7 x8 false x196000 x196001 x196002)
def provostlaw19_CtrEnds.j2 : Nat → Int → List (S33) → Int → Int → Bool → Int → Int → Int → Option (Bool)
  | 0, _, _, _, _, _, _, _, _ => none
  | k + 1, x0, x1, x7, x8, x36, x196000, x196001, x196002 => if x36 = true then (if 0 ≤ x8 then (if x8 < (x1.length : Int) then ((provostlaw19_does.f k x196000 x196001 x196002 ((rd_T33 x1 x8).f0) ((rd_T33 x1 x8).f1)).bind fun bt201 => (if ((rd_T33 x1 x8).f0) < 0 then (provostlaw19_CtrEnds.j3 k x0 x1 x7 x8 true bt201.1 bt201.2.1 bt201.2.2) else (provostlaw19_CtrEnds.j3 k x0 x1 x7 x8 (decide (((rd_T33 x1 x8).f0) > 3)) bt201.1 bt201.2.1 bt201.2.2))) else (none)) else (none)) else (provostlaw19_CtrEnds.l1 k x0 0 x196000 x196001 x196002)
def provostlaw19_CtrEnds.j3 : Nat → Int → List (S33) → Int → Int → Bool → Int → Int → Int → Option (Bool)
  | 0, _, _, _, _, _, _, _, _ => none
  | k + 1, x0, x1, x7, x8, x58, x196000, x196001, x196002 => if x58 = true then (if (wrap64 (x7 + 1)) ≥ x0 then (if x196000 = 4 then (provostlaw19_CtrEnds.l0 k x0 x1 (wrap64 (x7 + 1)) (wrap64 (x8 + 1)) x196000 x196001 x196002) else (some false)) else (provostlaw19_CtrEnds.l0 k x0 x1 (wrap64 (x7 + 1)) (wrap64 (x8 + 1)) x196000 x196001 x196002)) else (if x7 ≥ x0 then (if x196000 = 4 then (provostlaw19_CtrEnds.l0 k x0 x1 x7 (wrap64 (x8 + 1)) x196000 x196001 x196002) else (some false)) else (provostlaw19_CtrEnds.l0 k x0 x1 x7 (wrap64 (x8 + 1)) x196000 x196001 x196002))
def provostlaw19_CtrEnds.l1 : Nat → Int → Int → Int → Int → Int → Option (Bool)
  | 0, _, _, _, _, _ => none
  | k + 1, x0, x9, x196000, x196001, x196002 => if x9 < x0 then ((ctr_Tick.f x196000 x196001 x196002).bind fun bt206 => (provostlaw19_CtrEnds.l1 k x0 (wrap64 (x9 + 1)) bt206.1 bt206.2.1 bt206.2.2.1)) else (if x196000 = 4 then ((ctr_Runs.f x196000 x196001 x196002).bind fun t210 => (some (!t210))) else (some false))
end
def provostlaw19_CtrEnds.f (k : Nat) (a0 : Int) (l1 : List (S33)) : Option (Bool) := (provostlaw19_works.f k).bind fun t187 => (if t187 = true then (if a0 < 0 then (provostlaw19_CtrEnds.j0 k a0 l1 true) else (provostlaw19_CtrEnds.j0 k a0 l1 (decide (a0 > 50)))) else (some false))
theorem provostlaw19_CtrEnds.mono_l : ∀ k, (∀ y0 y1 y2, LeO (provostlaw19_CtrEnds.j0 k y0 y1 y2) (provostlaw19_CtrEnds.j0 (k + 1) y0 y1 y2)) ∧ (∀ y0 y1 y2 y3 y4 y5 y6, LeO (provostlaw19_CtrEnds.l0 k y0 y1 y2 y3 y4 y5 y6) (provostlaw19_CtrEnds.l0 (k + 1) y0 y1 y2 y3 y4 y5 y6)) ∧ (∀ y0 y1 y2 y3 y4 y5 y6 y7, LeO (provostlaw19_CtrEnds.j2 k y0 y1 y2 y3 y4 y5 y6 y7) (provostlaw19_CtrEnds.j2 (k + 1) y0 y1 y2 y3 y4 y5 y6 y7)) ∧ (∀ y0 y1 y2 y3 y4 y5 y6 y7, LeO (provostlaw19_CtrEnds.j3 k y0 y1 y2 y3 y4 y5 y6 y7) (provostlaw19_CtrEnds.j3 (k + 1) y0 y1 y2 y3 y4 y5 y6 y7)) ∧ (∀ y0 y1 y2 y3 y4, LeO (provostlaw19_CtrEnds.l1 k y0 y1 y2 y3 y4) (provostlaw19_CtrEnds.l1 (k + 1) y0 y1 y2 y3 y4))
  | 0 => ⟨fun _ _ _ r h => by simp [provostlaw19_CtrEnds.j0] at h, fun _ _ _ _ _ _ _ r h => by simp [provostlaw19_CtrEnds.l0] at h, fun _ _ _ _ _ _ _ _ r h => by simp [provostlaw19_CtrEnds.j2] at h, fun _ _ _ _ _ _ _ _ r h => by simp [provostlaw19_CtrEnds.j3] at h, fun _ _ _ _ _ r h => by simp [provostlaw19_CtrEnds.l1] at h⟩
  | k + 1 => by
    obtain ⟨ih0, ih1, ih2, ih3, ih4⟩ := provostlaw19_CtrEnds.mono_l k
    refine ⟨?_, ?_, ?_, ?_, ?_⟩
    · intro y0 y1 y2
      unfold provostlaw19_CtrEnds.j0
      repeat' first
      | (with_reducible exact ih0 _ _ _)
      | (with_reducible exact ih1 _ _ _ _ _ _ _)
      | (with_reducible exact ih2 _ _ _ _ _ _ _ _)
      | (with_reducible exact ih3 _ _ _ _ _ _ _ _)
      | (with_reducible exact ih4 _ _ _ _ _)
      | (with_reducible exact ctr_Stop.mono _ _ _ _ _)
      | (with_reducible exact provostlaw19_does.mono _ _ _ _ _ _)
      | (with_reducible exact provostlaw19_works.mono _)
      | (with_reducible exact LeO.refl _)
      | (with_reducible exact LeO.none _)
      | (with_reducible refine LeO.ite ?_ ?_)
      | (with_reducible refine LeO.bind ?_ (fun _ => ?_))
      | exact ih0 _ _ _
      | exact ih1 _ _ _ _ _ _ _
      | exact ih2 _ _ _ _ _ _ _ _
      | exact ih3 _ _ _ _ _ _ _ _
      | exact ih4 _ _ _ _ _
      | exact ctr_Stop.mono _ _ _ _ _
      | exact provostlaw19_does.mono _ _ _ _ _ _
      | exact provostlaw19_works.mono _
      | exact LeO.none _
      | refine LeO.ite ?_ ?_
      | refine LeO.bind ?_ (fun _ => ?_)
    · intro y0 y1 y2 y3 y4 y5 y6
      unfold provostlaw19_CtrEnds.l0
      repeat' first
      | (with_reducible exact ih0 _ _ _)
      | (with_reducible exact ih1 _ _ _ _ _ _ _)
      | (with_reducible exact ih2 _ _ _ _ _ _ _ _)
      | (with_reducible exact ih3 _ _ _ _ _ _ _ _)
      | (with_reducible exact ih4 _ _ _ _ _)
      | (with_reducible exact ctr_Stop.mono _ _ _ _ _)
      | (with_reducible exact provostlaw19_does.mono _ _ _ _ _ _)
      | (with_reducible exact provostlaw19_works.mono _)
      | (with_reducible exact LeO.refl _)
      | (with_reducible exact LeO.none _)
      | (with_reducible refine LeO.ite ?_ ?_)
      | (with_reducible refine LeO.bind ?_ (fun _ => ?_))
      | exact ih0 _ _ _
      | exact ih1 _ _ _ _ _ _ _
      | exact ih2 _ _ _ _ _ _ _ _
      | exact ih3 _ _ _ _ _ _ _ _
      | exact ih4 _ _ _ _ _
      | exact ctr_Stop.mono _ _ _ _ _
      | exact provostlaw19_does.mono _ _ _ _ _ _
      | exact provostlaw19_works.mono _
      | exact LeO.none _
      | refine LeO.ite ?_ ?_
      | refine LeO.bind ?_ (fun _ => ?_)
    · intro y0 y1 y2 y3 y4 y5 y6 y7
      unfold provostlaw19_CtrEnds.j2
      repeat' first
      | (with_reducible exact ih0 _ _ _)
      | (with_reducible exact ih1 _ _ _ _ _ _ _)
      | (with_reducible exact ih2 _ _ _ _ _ _ _ _)
      | (with_reducible exact ih3 _ _ _ _ _ _ _ _)
      | (with_reducible exact ih4 _ _ _ _ _)
      | (with_reducible exact ctr_Stop.mono _ _ _ _ _)
      | (with_reducible exact provostlaw19_does.mono _ _ _ _ _ _)
      | (with_reducible exact provostlaw19_works.mono _)
      | (with_reducible exact LeO.refl _)
      | (with_reducible exact LeO.none _)
      | (with_reducible refine LeO.ite ?_ ?_)
      | (with_reducible refine LeO.bind ?_ (fun _ => ?_))
      | exact ih0 _ _ _
      | exact ih1 _ _ _ _ _ _ _
      | exact ih2 _ _ _ _ _ _ _ _
      | exact ih3 _ _ _ _ _ _ _ _
      | exact ih4 _ _ _ _ _
      | exact ctr_Stop.mono _ _ _ _ _
      | exact provostlaw19_does.mono _ _ _ _ _ _
      | exact provostlaw19_works.mono _
      | exact LeO.none _
      | refine LeO.ite ?_ ?_
      | refine LeO.bind ?_ (fun _ => ?_)
    · intro y0 y1 y2 y3 y4 y5 y6 y7
      unfold provostlaw19_CtrEnds.j3
      repeat' first
      | (with_reducible exact ih0 _ _ _)
      | (with_reducible exact ih1 _ _ _ _ _ _ _)
      | (with_reducible exact ih2 _ _ _ _ _ _ _ _)
      | (with_reducible exact ih3 _ _ _ _ _ _ _ _)
      | (with_reducible exact ih4 _ _ _ _ _)
      | (with_reducible exact ctr_Stop.mono _ _ _ _ _)
      | (with_reducible exact provostlaw19_does.mono _ _ _ _ _ _)
      | (with_reducible exact provostlaw19_works.mono _)
      | (with_reducible exact LeO.refl _)
      | (with_reducible exact LeO.none _)
      | (with_reducible refine LeO.ite ?_ ?_)
      | (with_reducible refine LeO.bind ?_ (fun _ => ?_))
      | exact ih0 _ _ _
      | exact ih1 _ _ _ _ _ _ _
      | exact ih2 _ _ _ _ _ _ _ _
      | exact ih3 _ _ _ _ _ _ _ _
      | exact ih4 _ _ _ _ _
      | exact ctr_Stop.mono _ _ _ _ _
      | exact provostlaw19_does.mono _ _ _ _ _ _
      | exact provostlaw19_works.mono _
      | exact LeO.none _
      | refine LeO.ite ?_ ?_
      | refine LeO.bind ?_ (fun _ => ?_)
    · intro y0 y1 y2 y3 y4
      unfold provostlaw19_CtrEnds.l1
      repeat' first
      | (with_reducible exact ih0 _ _ _)
      | (with_reducible exact ih1 _ _ _ _ _ _ _)
      | (with_reducible exact ih2 _ _ _ _ _ _ _ _)
      | (with_reducible exact ih3 _ _ _ _ _ _ _ _)
      | (with_reducible exact ih4 _ _ _ _ _)
      | (with_reducible exact ctr_Stop.mono _ _ _ _ _)
      | (with_reducible exact provostlaw19_does.mono _ _ _ _ _ _)
      | (with_reducible exact provostlaw19_works.mono _)
      | (with_reducible exact LeO.refl _)
      | (with_reducible exact LeO.none _)
      | (with_reducible refine LeO.ite ?_ ?_)
      | (with_reducible refine LeO.bind ?_ (fun _ => ?_))
      | exact ih0 _ _ _
      | exact ih1 _ _ _ _ _ _ _
      | exact ih2 _ _ _ _ _ _ _ _
      | exact ih3 _ _ _ _ _ _ _ _
      | exact ih4 _ _ _ _ _
      | exact ctr_Stop.mono _ _ _ _ _
      | exact provostlaw19_does.mono _ _ _ _ _ _
      | exact provostlaw19_works.mono _
      | exact LeO.none _
      | refine LeO.ite ?_ ?_
      | refine LeO.bind ?_ (fun _ => ?_)
theorem provostlaw19_CtrEnds.mono : ∀ a0 a1 k, LeO (provostlaw19_CtrEnds.f k a0 a1) (provostlaw19_CtrEnds.f (k + 1) a0 a1) := by
  intro a0 a1 k
  obtain ⟨ih0, ih1, ih2, ih3, ih4⟩ := provostlaw19_CtrEnds.mono_l k
  unfold provostlaw19_CtrEnds.f
  repeat' first
      | (with_reducible exact ih0 _ _ _)
      | (with_reducible exact ih1 _ _ _ _ _ _ _)
      | (with_reducible exact ih2 _ _ _ _ _ _ _ _)
      | (with_reducible exact ih3 _ _ _ _ _ _ _ _)
      | (with_reducible exact ih4 _ _ _ _ _)
      | (with_reducible exact ctr_Stop.mono _ _ _ _ _)
      | (with_reducible exact provostlaw19_does.mono _ _ _ _ _ _)
      | (with_reducible exact provostlaw19_works.mono _)
      | (with_reducible exact LeO.refl _)
      | (with_reducible exact LeO.none _)
      | (with_reducible refine LeO.ite ?_ ?_)
      | (with_reducible refine LeO.bind ?_ (fun _ => ?_))
      | exact ih0 _ _ _
      | exact ih1 _ _ _ _ _ _ _
      | exact ih2 _ _ _ _ _ _ _ _
      | exact ih3 _ _ _ _ _ _ _ _
      | exact ih4 _ _ _ _ _
      | exact ctr_Stop.mono _ _ _ _ _
      | exact provostlaw19_does.mono _ _ _ _ _ _
      | exact provostlaw19_works.mono _
      | exact LeO.none _
      | refine LeO.ite ?_ ?_
      | refine LeO.bind ?_ (fun _ => ?_)
set_option maxHeartbeats 8000000 in
set_option maxRecDepth 100000 in
theorem provostlaw19_CtrEnds.calls (k : Nat) (a0 : Int) (A1 : Option Addr) (c1 : Nat) (l1 : List (S33)) (r : Bool) (w : World) (hr1 : Kd.C k33 w A1 l1.length l1) (hc1 : l1.length ≤ c1) (h : provostlaw19_CtrEnds.f k a0 l1 = some r) :
    Calls Try.prog 3 #[.int .i64 a0, .slice A1 l1.length c1] w fun e w' => e = .returned (.bool r) ∧ Below w.heap.size w w' := by
  have hu25 := Try.underlying25
  have hu33 := Try.underlying33
  have HR1 := Aside0.mk hr1
  have HC1 := Aside0.mk hc1
  clear hr1 hc1
  have HB := Aside0.mk (Below.refl w.heap.size w)
  have H : ((provostlaw19_works.f k).bind fun t187 => (if t187 = true then (if a0 < 0 then (provostlaw19_CtrEnds.j0 k a0 l1 true) else (provostlaw19_CtrEnds.j0 k a0 l1 (decide (a0 > 50)))) else (some false))) = some r := h
  clear h
  replace H := Option.bind_eq_some_iff.mp H
  obtain ⟨t187, A30, H⟩ := H
  replace H : (if t187 = true then (if a0 < 0 then (provostlaw19_CtrEnds.j0 k a0 l1 true) else (provostlaw19_CtrEnds.j0 k a0 l1 (decide (a0 > 50)))) else (some false)) = some r := H
  have A3 := Aside0.mk A30
  clear A30
  by_cases c4 : t187 = true
  · subst c4
    have H1 : (if a0 < 0 then (provostlaw19_CtrEnds.j0 k a0 l1 true) else (provostlaw19_CtrEnds.j0 k a0 l1 (decide (a0 > 50)))) = some r := by rw [if_pos rfl] at H; exact H
    clear H
    have H := H1
    clear H1
    have HC5 := Aside0.mk H
    clear H
    go_enter Try.func3, Try.ntmps3
    go_upto_region 3 with (first | ((with_reducible refine gate_callee (f := 9) rfl ?_); refine goesL_ (some 10) rfl rfl Try.func9 (by kernel_rfl) rfl #[] rfl (by (try simp only [List.map_toArray, List.map_cons, List.map_nil]); first | done | rfl | (simp only [List.length_drop, List.length_take]; rfl)) ?_; (with_reducible refine (provostlaw19_works.calls k  true _ A3.out).mono ?_); rintro e w6 ⟨rfl, hb⟩; refine ⟨_, rfl, ?_⟩; have n0_ := Aside0.mk (below_step (by repeat (first | (with_reducible first | exact HB.out | apply below_alloc | apply pw_below_drewN | apply below_drew1) | exact HB.out)) hb); clear HB; have HB := n0_; clear n0_; (try clear hb); (try clear hb2); (try clear hk); (try clear hi)))
    (try simp only [Act.put, List.setIfInBounds_toArray, List.set_cons_zero, List.set_cons_succ])
    go_cut [17] (fun v17 wc => ∃ (kq : Nat) (x17_4 : Bool), v17 = .bool x17_4 ∧ Aside0 (provostlaw19_CtrEnds.j0 kq a0 l1 x17_4 = some r) ∧ Aside0 (kq ≤ k) ∧ Aside0 (Below w.heap.size w wc))
    case first =>
      have H := HC5.out
      clear HC5
      by_cases c7 : a0 < 0
      · rw [if_pos c7] at H
        have c7b0 : decide (a0 < 0) = true := decide_eq_true c7
        clear c7
        (first | rw [c7b0] | (simp only [i64_w, i32_w]; rw [c7b0]) | skip)
        have H' := Aside0.mk H
        clear H
        go_wp2
        go_meet
        case rel => exact ⟨_, (true), (by first | rfl | (simp; done) | (simp [*]; done)), H', ⟨by first | omega | exact Nat.le_refl _⟩, ⟨by repeat (first | (with_reducible first | exact HB.out | apply below_alloc | apply pw_below_drewN | apply below_drew1) | exact HB.out)⟩⟩
      · rw [if_neg c7] at H
        have c7b0 : decide (a0 < 0) = false := decide_eq_false c7
        clear c7
        (first | rw [c7b0] | (simp only [i64_w, i32_w]; rw [c7b0]) | skip)
        have H' := Aside0.mk H
        clear H
        go_wp2
        go_meet
        case rel => exact ⟨_, (decide (a0 > 50)), (by first | rfl | (simp; done) | (simp [*]; done)), H', ⟨by first | omega | exact Nat.le_refl _⟩, ⟨by repeat (first | (with_reducible first | exact HB.out | apply below_alloc | apply pw_below_drewN | apply below_drew1) | exact HB.out)⟩⟩
    case rest =>
      clear HC5
      try clear c1
      try clear p2
      try clear c3
      try clear c4
      try clear c7
      try clear c7b0
      obtain ⟨kq, x17_4, rfl, HA, HJ4, HB⟩ := hcut
      cases kq with
      | zero => exact absurd HA.out (by simp [provostlaw19_CtrEnds.j0])
      | succ kj4 =>
        have H := HA.out
        clear HA
        simp only [provostlaw19_CtrEnds.j0] at H
        by_cases c8 : x17_4 = true
        · subst c8
          have H1 : (some true) = some r := by rw [if_pos rfl] at H; exact H
          clear H
          have H := H1
          clear H1
          obtain rfl := Option.some.inj H
          go_wp2
          go_ret
          exact ⟨by first | rfl | (simp [errW_none, errW_some] <;> rfl) | (simp [*, errW_none, errW_some] <;> rfl), by repeat (first | (with_reducible first | exact HB.out | apply below_alloc | apply pw_below_drewN | apply below_drew1) | exact HB.out)⟩
        · replace c8 := Bool.eq_false_iff.mpr c8
          subst c8
          have H1 : ((ctr_Made.f).bind fun bt188 => ((ctr_Start.f bt188.1 bt188.2.1 bt188.2.2).bind fun bt191 => ((ctr_Stop.f kj4 bt191.1 bt191.2.1 bt191.2.2.1 a0).bind fun bt196 => (provostlaw19_CtrEnds.l0 kj4 a0 l1 0 0 bt196.1 bt196.2.1 bt196.2.2.1)))) = some r := by rw [if_neg (show ¬ (false = true) by decide)] at H; exact H
          clear H
          have H := H1
          clear H1
          replace H := Option.bind_eq_some_iff.mp H
          obtain ⟨⟨t188, t189, t190⟩, A90, H⟩ := H
          replace H : ((ctr_Start.f t188 t189 t190).bind fun bt191 => ((ctr_Stop.f kj4 bt191.1 bt191.2.1 bt191.2.2.1 a0).bind fun bt196 => (provostlaw19_CtrEnds.l0 kj4 a0 l1 0 0 bt196.1 bt196.2.1 bt196.2.2.1))) = some r := H
          have A9 := Aside0.mk A90
          clear A90
          replace H := Option.bind_eq_some_iff.mp H
          obtain ⟨⟨t191, t192, t193, t194⟩, A100, H⟩ := H
          replace H : ((ctr_Stop.f kj4 t191 t192 t193 a0).bind fun bt196 => (provostlaw19_CtrEnds.l0 kj4 a0 l1 0 0 bt196.1 bt196.2.1 bt196.2.2.1)) = some r := H
          have A10 := Aside0.mk A100
          clear A100
          replace H := Option.bind_eq_some_iff.mp H
          obtain ⟨⟨t196, t197, t198, t199⟩, A110, H⟩ := H
          replace H : (provostlaw19_CtrEnds.l0 kj4 a0 l1 0 0 t196 t197 t198) = some r := H
          have A11 := Aside0.mk A110
          clear A110
          have H' := Aside0.mk H
          clear H
          go_wp2_with (first | ((with_reducible refine gate_callee (f := 11) rfl ?_); refine goesL_ (some 19) rfl rfl Try.func11 (by kernel_rfl) rfl #[] rfl (by (try simp only [List.map_toArray, List.map_cons, List.map_nil]); first | done | rfl | (simp only [List.length_drop, List.length_take]; rfl)) ?_; (with_reducible refine (ctr_Made.calls  t188 t189 t190 _ A9.out).mono ?_); rintro e w12 ⟨rfl, hb⟩; refine ⟨_, rfl, ?_⟩; have n0_ := Aside0.mk (below_step (by repeat (first | (with_reducible first | exact HB.out | apply below_alloc | apply pw_below_drewN | apply below_drew1) | exact HB.out)) hb); clear HB; have HB := n0_; clear n0_; (try clear hb); (try clear hb2); (try clear hk); (try clear hi)) | ((with_reducible refine gate_callee (f := 10) rfl ?_); refine goesL_ (some 20) rfl rfl Try.func10 (by kernel_rfl) rfl #[.agg #[.int .i64 t188, .int .i64 t189, .int .i64 t190]] rfl (by (try simp only [List.map_toArray, List.map_cons, List.map_nil]); first | done | rfl | (simp only [List.length_drop, List.length_take]; rfl)) ?_; (with_reducible refine (ctr_Start.calls t188 t189 t190 t191 t192 t193 t194 _ A10.out).mono ?_); rintro e w13 ⟨rfl, hb⟩; refine ⟨_, rfl, ?_⟩; have n0_ := Aside0.mk (below_step (by repeat (first | (with_reducible first | exact HB.out | apply below_alloc | apply pw_below_drewN | apply below_drew1) | exact HB.out)) hb); clear HB; have HB := n0_; clear n0_; (try clear hb); (try clear hb2); (try clear hk); (try clear hi)) | ((with_reducible refine gate_dst (N := 5) rfl ?_); refine box_event ?hg (N := 5) ?hd (cs := #[.int .i64 0, .int .i64 0, .int .i64 0]) (t := 25) ?hr ?_; (case hd => rfl); (case hg => rfl); (case hr => first | (go_simp; done) | (go_simp; rfl)); intro gb195 hg w14 hbox hb; have n0_ := Aside0.mk (below_step (by repeat (first | (with_reducible first | exact HB.out | apply below_alloc | apply pw_below_drewN | apply below_drew1) | exact HB.out)) hb); have n1_ := Aside0.mk (hbox); have n2_ := Aside0.mk ((by rw [hg]; exact (below_size (by repeat (first | (with_reducible first | exact HB.out | apply below_alloc | apply pw_below_drewN | apply below_drew1) | exact HB.out))) : w.heap.size ≤ gb195)); have n3_ := Aside0.mk ((by rw [hg]; exact (below_size (by repeat (first | (with_reducible first | exact HB.out | apply below_alloc | apply pw_below_drewN | apply below_drew1) | exact HB.out))) : w.heap.size ≤ gb195)); clear HB; have HB := n0_; have BK195 := n1_; have GW195 := n2_; have GE195 := n3_; clear n0_ n1_ n2_ n3_; clear hb hbox hg; have hcz15_0 : w14.cell? ⟨gb195, 0, none⟩ = some (.int .i64 0) := (blk_cell BK195.out 0).trans rfl; have hcz15_1 : w14.cell? ⟨gb195, 1, none⟩ = some (.int .i64 0) := (blk_cell BK195.out 1).trans rfl; have hcz15_2 : w14.cell? ⟨gb195, 2, none⟩ = some (.int .i64 0) := (blk_cell BK195.out 2).trans rfl; have hfz15_0 := blk_frozen BK195.out 0; have hfz15_1 := blk_frozen BK195.out 1; have hfz15_2 := blk_frozen BK195.out 2) | ((with_reducible refine gate_callee (f := 12) rfl ?_); refine goesL_ (some 26) rfl rfl Try.func12 (by kernel_rfl) rfl #[.agg #[.int .i64 t191, .int .i64 t192, .int .i64 t193], .int .i64 a0] rfl (by (try simp only [List.map_toArray, List.map_cons, List.map_nil]); first | done | rfl | (simp only [List.length_drop, List.length_take]; rfl)) ?_; (with_reducible refine (ctr_Stop.calls kj4 t191 t192 t193 a0 t196 t197 t198 t199 _ A11.out).mono ?_); rintro e w16 ⟨rfl, hb⟩; refine ⟨_, rfl, ?_⟩; have n0_ := Aside0.mk (blk_below (g := gb195) (o := .cells #[.int .i64 t191, .int .i64 t192, .int .i64 t193] 25 (0, 0)) (by (with_reducible repeat (first | refine blk_drewN ?_ _ | refine blk_drew ?_ | refine blk_alloc ?_ _)); refine blk_put (cs := #[.int .i64 t191, .int .i64 t192, .int .i64 0]) ?_ 2 _ rfl; (with_reducible repeat (first | refine blk_drewN ?_ _ | refine blk_drew ?_ | refine blk_alloc ?_ _)); refine blk_put (cs := #[.int .i64 t191, .int .i64 0, .int .i64 0]) ?_ 1 _ rfl; (with_reducible repeat (first | refine blk_drewN ?_ _ | refine blk_drew ?_ | refine blk_alloc ?_ _)); refine blk_put (cs := #[.int .i64 0, .int .i64 0, .int .i64 0]) ?_ 0 _ rfl; (with_reducible repeat (first | refine blk_drewN ?_ _ | refine blk_drew ?_ | refine blk_alloc ?_ _)); exact BK195.out) hb); have n1_ := Aside0.mk (below_step (by repeat (first | (with_reducible first | exact HB.out | apply below_alloc | apply pw_below_drewN | apply below_drew1 | refine below_set ?_ GE195.out) | exact HB.out)) hb); clear BK195; clear HB; have BK195 := n0_; have HB := n1_; clear n0_ n1_; (try clear hb); (try clear hb2); (try clear hk); (try clear hi); have hcz17_0 : w16.cell? ⟨gb195, 0, none⟩ = some (.int .i64 t191) := (blk_cell BK195.out 0).trans rfl; have hcz17_1 : w16.cell? ⟨gb195, 1, none⟩ = some (.int .i64 t192) := (blk_cell BK195.out 1).trans rfl; have hcz17_2 : w16.cell? ⟨gb195, 2, none⟩ = some (.int .i64 t193) := (blk_cell BK195.out 2).trans rfl; have hfz17_0 := blk_frozen BK195.out 0; have hfz17_1 := blk_frozen BK195.out 1; have hfz17_2 := blk_frozen BK195.out 2))
          go_loopg [7, 8] kj4 (fun kq v7 v8 w' => ∃ (x7_2 : Int) (x8_2 : Int) (x196000_2 : Int) (x196001_2 : Int) (x196002_2 : Int), v7 = .int .i64 x7_2 ∧ v8 = .int .i64 x8_2 ∧ Aside0 (provostlaw19_CtrEnds.l0 kq a0 l1 x7_2 x8_2 x196000_2 x196001_2 x196002_2 = some r) ∧ Aside0 (kq ≤ kj4) ∧ Aside0 (w'.heap[gb195]? = some (.cells #[.int .i64 x196000_2, .int .i64 x196001_2, .int .i64 x196002_2] 25 (0, 0))) ∧ Aside0 (Below w.heap.size w w'))
          case atStart => exact ⟨(0), (0), (t196), (t197), (t198), (by first | rfl | (simp; done) | (simp [*]; done)), (by first | rfl | (simp; done) | (simp [*]; done)), H', ⟨Nat.le_refl _⟩, ⟨by (with_reducible repeat (first | refine blk_drewN ?_ _ | refine blk_drew ?_ | refine blk_alloc ?_ _)); refine blk_put (cs := #[.int .i64 t196, .int .i64 t197, .int .i64 t193]) ?_ 2 _ rfl; (with_reducible repeat (first | refine blk_drewN ?_ _ | refine blk_drew ?_ | refine blk_alloc ?_ _)); refine blk_put (cs := #[.int .i64 t196, .int .i64 t192, .int .i64 t193]) ?_ 1 _ rfl; (with_reducible repeat (first | refine blk_drewN ?_ _ | refine blk_drew ?_ | refine blk_alloc ?_ _)); refine blk_put (cs := #[.int .i64 t191, .int .i64 t192, .int .i64 t193]) ?_ 0 _ rfl; (with_reducible repeat (first | refine blk_drewN ?_ _ | refine blk_drew ?_ | refine blk_alloc ?_ _)); exact BK195.out⟩, ⟨by repeat (first | (with_reducible first | exact HB.out | apply below_alloc | apply pw_below_drewN | apply below_drew1 | refine below_set ?_ GE195.out) | exact HB.out)⟩⟩
          case round =>
            clear H'
            try clear c1
            try clear p2
            try clear c3
            try clear c4
            try clear c7
            try clear c7b0
            try clear c8
            try clear c9
            try clear c10
            try clear c11
            try clear c12
            try clear hcz15_0
            try clear hcz15_1
            try clear hcz15_2
            try clear hcz17_0
            try clear hcz17_1
            try clear hcz17_2
            try clear hfz15_0
            try clear hfz15_1
            try clear hfz15_2
            try clear hfz17_0
            try clear hfz17_1
            try clear hfz17_2
            try clear p2
            obtain ⟨x7_2, x8_2, x196000_2, x196001_2, x196002_2, rfl, rfl, HA, HK2, BK195, HB⟩ := hrel
            cases gk with
            | zero => exact absurd HA.out (by simp [provostlaw19_CtrEnds.l0])
            | succ k2 =>
              have H := HA.out
              clear HA
              simp only [provostlaw19_CtrEnds.l0] at H
              have HC18 := Aside0.mk H
              clear H
              go_upto_region 9 with (fail)
              go_cut [36] (fun v36 wc => ∃ (kq : Nat) (x36_17 : Bool), v36 = .bool x36_17 ∧ Aside0 (provostlaw19_CtrEnds.j2 kq a0 l1 x7_2 x8_2 x36_17 x196000_2 x196001_2 x196002_2 = some r) ∧ Aside0 (kq ≤ k2) ∧ Aside0 (wc.heap[gb195]? = some (.cells #[.int .i64 x196000_2, .int .i64 x196001_2, .int .i64 x196002_2] 25 (0, 0))) ∧ Aside0 (Below w.heap.size w wc))
              case first =>
                have H := HC18.out
                clear HC18
                by_cases c19 : x8_2 < (l1.length : Int)
                · rw [if_pos c19] at H
                  have c19b0 : decide (x8_2 < (l1.length : Int)) = true := decide_eq_true c19
                  clear c19
                  (first | rw [c19b0] | (simp only [i64_w, i32_w]; rw [c19b0]) | skip)
                  have H' := Aside0.mk H
                  clear H
                  go_wp2
                  go_meet
                  case rel => exact ⟨_, (decide (x8_2 < 100)), (by first | rfl | (simp; done) | (simp [*]; done)), H', ⟨by have := HJ4.out; have := HK2.out; first | omega | exact Nat.le_refl _⟩, ⟨by (with_reducible repeat (first | refine blk_drewN ?_ _ | refine blk_drew ?_ | refine blk_alloc ?_ _)); exact BK195.out⟩, ⟨by repeat (first | (with_reducible first | exact HB.out | apply below_alloc | apply pw_below_drewN | apply below_drew1 | refine below_set ?_ GE195.out) | exact HB.out)⟩⟩
                · rw [if_neg c19] at H
                  have c19b0 : decide (x8_2 < (l1.length : Int)) = false := decide_eq_false c19
                  clear c19
                  (first | rw [c19b0] | (simp only [i64_w, i32_w]; rw [c19b0]) | skip)
                  have H' := Aside0.mk H
                  clear H
                  go_wp2
                  go_meet
                  case rel => exact ⟨_, (false), (by first | rfl | (simp; done) | (simp [*]; done)), H', ⟨by have := HJ4.out; have := HK2.out; first | omega | exact Nat.le_refl _⟩, ⟨by (with_reducible repeat (first | refine blk_drewN ?_ _ | refine blk_drew ?_ | refine blk_alloc ?_ _)); exact BK195.out⟩, ⟨by repeat (first | (with_reducible first | exact HB.out | apply below_alloc | apply pw_below_drewN | apply below_drew1 | refine below_set ?_ GE195.out) | exact HB.out)⟩⟩
              case rest =>
                clear HC18
                try clear c1
                try clear p2
                try clear c3
                try clear c4
                try clear c7
                try clear c7b0
                try clear c8
                try clear c9
                try clear c10
                try clear c11
                try clear c12
                try clear c19
                try clear c19b0
                try clear hcz15_0
                try clear hcz15_1
                try clear hcz15_2
                try clear hcz17_0
                try clear hcz17_1
                try clear hcz17_2
                try clear hfz15_0
                try clear hfz15_1
                try clear hfz15_2
                try clear hfz17_0
                try clear hfz17_1
                try clear hfz17_2
                try clear p2
                obtain ⟨kq, x36_17, rfl, HA, HJ17, BK195, HB⟩ := hcut
                cases kq with
                | zero => exact absurd HA.out (by simp [provostlaw19_CtrEnds.j2])
                | succ kj17 =>
                  have H := HA.out
                  clear HA
                  simp only [provostlaw19_CtrEnds.j2] at H
                  by_cases c20 : x36_17 = true
                  · subst c20
                    have H1 : (if 0 ≤ x8_2 then (if x8_2 < (l1.length : Int) then ((provostlaw19_does.f kj17 x196000_2 x196001_2 x196002_2 ((rd_T33 l1 x8_2).f0) ((rd_T33 l1 x8_2).f1)).bind fun bt201 => (if ((rd_T33 l1 x8_2).f0) < 0 then (provostlaw19_CtrEnds.j3 kj17 a0 l1 x7_2 x8_2 true bt201.1 bt201.2.1 bt201.2.2) else (provostlaw19_CtrEnds.j3 kj17 a0 l1 x7_2 x8_2 (decide (((rd_T33 l1 x8_2).f0) > 3)) bt201.1 bt201.2.1 bt201.2.2))) else (none)) else (none)) = some r := by rw [if_pos rfl] at H; exact H
                    clear H
                    have H := H1
                    clear H1
                    by_cases c21 : 0 ≤ x8_2
                    · rw [if_pos c21] at H
                      have c21b0 : decide (0 ≤ x8_2) = true := decide_eq_true c21
                      clear c21
                      by_cases c22 : x8_2 < (l1.length : Int)
                      · rw [if_pos c22] at H
                        have c22b0 : decide (x8_2 < (l1.length : Int)) = true := decide_eq_true c22
                        clear c22
                        replace H := Option.bind_eq_some_iff.mp H
                        obtain ⟨⟨t201, t202, t203⟩, A230, H⟩ := H
                        replace H : (if ((rd_T33 l1 x8_2).f0) < 0 then (provostlaw19_CtrEnds.j3 kj17 a0 l1 x7_2 x8_2 true t201 t202 t203) else (provostlaw19_CtrEnds.j3 kj17 a0 l1 x7_2 x8_2 (decide (((rd_T33 l1 x8_2).f0) > 3)) t201 t202 t203)) = some r := H
                        have A23 := Aside0.mk A230
                        clear A230
                        have HC24 := Aside0.mk H
                        clear H
                        try go_wp2
                        have n0_ := Aside0.mk (blk_drew BK195.out)
                        have n1_ := Aside0.mk (below_drew1 HB.out)
                        clear BK195
                        clear HB
                        have BK195 := n0_
                        have HB := n1_
                        clear n0_ n1_
                        have p200 : 0 ≤ (x8_2 : Int) := of_decide_eq_true (by first | (with_reducible assumption) | assumption)
                        have q200 : x8_2 < (l1.length : Int) := of_decide_eq_true (by first | (with_reducible assumption) | assumption)
                        obtain ⟨ad200, e200, hx200_0, hx200_1⟩ := at_T33 HR1.out x8_2 p200 q200
                        have hw200_1 := hx200_1
                        have hw200_0 := hx200_0
                        cases e200
                        replace hx200_0 := (HB.out.cell (World.block_lt_of_cell? w _ hx200_0)).trans hx200_0
                        replace hx200_1 := (HB.out.cell (World.block_lt_of_cell? w _ hx200_1)).trans hx200_1
                        replace p200 := eq_true p200
                        replace q200 := eq_true q200
                        refine start_ (n := 7) (S := fun w' => w'.cell? ⟨gb195, 0, none⟩ = some (.int .i64 x196000_2) ∧ w'.cell? ⟨gb195, 1, none⟩ = some (.int .i64 x196001_2) ∧ w'.cell? ⟨gb195, 2, none⟩ = some (.int .i64 x196002_2) ∧ w'.cell? (ad200.add ((x8_2).toNat * 2)) = some (.int .i64 ((rd_T33 l1 x8_2).f0)) ∧ w'.cell? ⟨(ad200.add ((x8_2).toNat * 2)).block, (ad200.add ((x8_2).toNat * 2)).off + 1, none⟩ = some (.int .i64 ((rd_T33 l1 x8_2).f1))) (ds := [6]) #[false, false, false, false, false, false, false] (by kernel_rfl) rfl rfl ⟨(blk_cell BK195.out 0).trans rfl, (blk_cell BK195.out 1).trans rfl, (blk_cell BK195.out 2).trans rfl, ((HB.out.cell (World.block_lt_of_cell? w _ hw200_0)).trans hw200_0), ((HB.out.cell (World.block_lt_of_cell? w _ hw200_1)).trans hw200_1)⟩ (fun hHeld => ?_)
                        generalize wc.drew = w25 at BK195 HB hx200_0 hx200_1 hHeld ⊢
                        refine pure_ (i := 1) (N := some 40) (v := ?_) (a' := ?_) #[false, true, false, false, false, false, false] rfl rfl (by kernel_rfl) (fun _ _ _ h => h) (Or.inl ⟨by rfl, ?_⟩) ?_ ?_
                        rotate_left
                        · intro w'
                          go_simp
                          with_reducible rfl
                        rotate_left
                        · simp only [Act.put, List.setIfInBounds_toArray, List.set_cons_zero, List.set_cons_succ, i64_w, i32_w]
                          rfl
                        refine pure_ (i := 2) (N := some 41) (v := ?_) (a' := ?_) #[false, true, true, false, false, false, false] rfl rfl (by kernel_rfl) (fun _ _ _ h => h) (Or.inl ⟨by rfl, ?_⟩) ?_ ?_
                        rotate_left
                        · intro w'
                          go_simp
                          with_reducible rfl
                        rotate_left
                        · simp only [Act.put, List.setIfInBounds_toArray, List.set_cons_zero, List.set_cons_succ, i64_w, i32_w]
                          rfl
                        refine pure_ (i := 3) (N := some 42) (v := ?_) (a' := ?_) #[false, true, true, true, false, false, false] rfl rfl (by kernel_rfl) (fun _ _ _ h => h) (Or.inl ⟨by rfl, ?_⟩) ?_ ?_
                        rotate_left
                        · intro w'
                          go_simp
                          with_reducible rfl
                        rotate_left
                        · simp only [Act.put, List.setIfInBounds_toArray, List.set_cons_zero, List.set_cons_succ, i64_w, i32_w]
                          rfl
                        refine take_ (i := 0) (N := some 39) (v := ?_) (a' := ?_) #[true, true, true, true, false, false, false] rfl rfl (by kernel_rfl) (fun _ _ _ h => h) (Or.inl ⟨by rfl, ?_⟩) hHeld ?_ ?_
                        rotate_left
                        · rintro w' ⟨s0, s1, s2, s3, s4⟩
                          go_simp
                          with_reducible rfl
                        rotate_left
                        · simp only [Act.put, List.setIfInBounds_toArray, List.set_cons_zero, List.set_cons_succ, i64_w, i32_w]
                          rfl
                        refine take_ (i := 4) (N := some 43) (v := ?_) (a' := ?_) #[true, true, true, true, true, false, false] rfl rfl (by kernel_rfl) (fun _ _ _ h => h) (Or.inl ⟨by rfl, ?_⟩) hHeld ?_ ?_
                        rotate_left
                        · rintro w' ⟨s0, s1, s2, s3, s4⟩
                          go_simp
                          with_reducible rfl
                        rotate_left
                        · simp only [Act.put, List.setIfInBounds_toArray, List.set_cons_zero, List.set_cons_succ, i64_w, i32_w]
                          rfl
                        refine one_ (i := 5) (N := some 44) #[true, true, true, true, true, true, false] rfl rfl (by kernel_rfl) (by decide) (fun K hK => ?_)
                        refine goes_ Try.func13 (by kernel_rfl) rfl #[.agg #[.int .i64 x196000_2, .int .i64 x196001_2, .int .i64 x196002_2], .agg #[.int .i64 ((rd_T33 l1 x8_2).f0), .int .i64 ((rd_T33 l1 x8_2).f1)]] (by rfl) rfl rfl (by (try simp only [List.map_toArray, List.map_cons, List.map_nil]); first | done | rfl | (simp only [List.length_drop, List.length_take]; rfl)) ?_
                        with_reducible refine (provostlaw19_does.calls kj17 x196000_2 x196001_2 x196002_2 ((rd_T33 l1 x8_2).f0) ((rd_T33 l1 x8_2).f1) t201 t202 t203 _ A23.out).mono ?_
                        rintro e w26 ⟨rfl, hb⟩
                        refine ⟨_, rfl, ?_⟩
                        have n0_ := Aside0.mk (blk_below (g := gb195) (o := .cells #[.int .i64 x196000_2, .int .i64 x196001_2, .int .i64 x196002_2] 25 (0, 0)) (by (with_reducible repeat (first | refine blk_drewN ?_ _ | refine blk_drew ?_ | refine blk_alloc ?_ _)); exact BK195.out) hb)
                        have n1_ := Aside0.mk (below_step (by repeat (first | (with_reducible first | exact HB.out | apply below_alloc | apply pw_below_drewN | apply below_drew1 | refine below_set ?_ GE195.out) | exact HB.out)) hb)
                        clear BK195
                        clear HB
                        have BK195 := n0_
                        have HB := n1_
                        clear n0_ n1_
                        (try clear hb)
                        (try clear hb2)
                        (try clear hk)
                        (try clear hi)
                        refine hK.out _ _ ⟨(blk_cell BK195.out 0).trans rfl, (blk_cell BK195.out 1).trans rfl, (blk_cell BK195.out 2).trans rfl, ((HB.out.cell (World.block_lt_of_cell? w _ hw200_0)).trans hw200_0), ((HB.out.cell (World.block_lt_of_cell? w _ hw200_1)).trans hw200_1)⟩ (fun hHeld => ?_)
                        clear hK K
                        refine norm_ (a' := ?_) ?_ ?_
                        rotate_left
                        · show Act.put _ (some 44) _ = _
                          simp only [Act.put, List.setIfInBounds_toArray, List.set_cons_zero, List.set_cons_succ, i64_w, i32_w]
                          rfl
                        refine last_ (i := 6) (N := none) #[true, true, true, true, true, true, true] rfl rfl (by kernel_rfl) (by decide) (fun K hK => ?_)
                        have hs27 : w26.cell? ⟨gb195, 0, none⟩ = some (.int .i64 x196000_2) := (blk_cell BK195.out 0).trans rfl
                        have hfs27 := blk_frozen BK195.out 0
                        have hs28 : w26.cell? ⟨gb195, 1, none⟩ = some (.int .i64 x196001_2) := (blk_cell BK195.out 1).trans rfl
                        have hfs28 := blk_frozen BK195.out 1
                        have hs29 : w26.cell? ⟨gb195, 2, none⟩ = some (.int .i64 x196002_2) := (blk_cell BK195.out 2).trans rfl
                        have hfs29 := blk_frozen BK195.out 2
                        refine skip_ (w1 := ?_) (by rfl) rfl ?_ ?_
                        rotate_left
                        · go_simp
                          rfl
                        refine hK.out _ _ ?_
                        clear hK K
                        refine done_ (by kernel_rfl) ?_
                        go_upto_region 12 with (fail)
                        go_cut [58] (fun v58 wc => ∃ (kq : Nat) (x58_23 : Bool), v58 = .bool x58_23 ∧ Aside0 (provostlaw19_CtrEnds.j3 kq a0 l1 x7_2 x8_2 x58_23 t201 t202 t203 = some r) ∧ Aside0 (kq ≤ kj17) ∧ Aside0 (wc.heap[gb195]? = some (.cells #[.int .i64 t201, .int .i64 t202, .int .i64 t203] 25 (0, 0))) ∧ Aside0 (Below w.heap.size w wc))
                        case first =>
                          have H := HC24.out
                          clear HC24
                          by_cases c30 : ((rd_T33 l1 x8_2).f0) < 0
                          · rw [if_pos c30] at H
                            have c30b0 : decide (((rd_T33 l1 x8_2).f0) < 0) = true := decide_eq_true c30
                            clear c30
                            (first | rw [c30b0] | (simp only [i64_w, i32_w]; rw [c30b0]) | skip)
                            have H' := Aside0.mk H
                            clear H
                            have p204 : 0 ≤ (x8_2 : Int) := of_decide_eq_true (by first | (with_reducible assumption) | assumption)
                            have q204 : x8_2 < (l1.length : Int) := of_decide_eq_true (by first | (with_reducible assumption) | assumption)
                            obtain ⟨ad204, e204, hx204_0, hx204_1⟩ := at_T33 HR1.out x8_2 p204 q204
                            obtain rfl : ad200 = ad204 := (by injection e204)
                            have hn204_0 : ad200.block ≠ gb195 := Nat.ne_of_lt (Nat.lt_of_lt_of_le (by have := World.block_lt_of_cell? _ _ hx204_0; first | rwa [add_block] at this | exact this) GW195.out)
                            have hn204_1 : ad200.block ≠ gb195 := Nat.ne_of_lt (Nat.lt_of_lt_of_le (by have := World.block_lt_of_cell? _ _ hx204_0; first | rwa [add_block] at this | exact this) GW195.out)
                            have hn204_2 : ad200.block ≠ gb195 := Nat.ne_of_lt (Nat.lt_of_lt_of_le (by have := World.block_lt_of_cell? _ _ hx204_0; first | rwa [add_block] at this | exact this) GW195.out)
                            replace hx204_0 := (HB.out.cell (World.block_lt_of_cell? w _ hx204_0)).trans hx204_0
                            replace hx204_1 := (HB.out.cell (World.block_lt_of_cell? w _ hx204_1)).trans hx204_1
                            replace hx204_0 := (cell_far (p := ⟨gb195, 0, none⟩) (by first | (rw [add_block]; exact hn204_0) | (show (Addr.add _ _).block ≠ _; rw [add_block]; exact hn204_0) | exact hn204_0) (.int .i64 t201)).trans hx204_0
                            replace hx204_1 := (cell_far (p := ⟨gb195, 0, none⟩) (by first | (rw [add_block]; exact hn204_0) | (show (Addr.add _ _).block ≠ _; rw [add_block]; exact hn204_0) | exact hn204_0) (.int .i64 t201)).trans hx204_1
                            replace hx204_0 := (cell_far (p := ⟨gb195, 1, none⟩) (by first | (rw [add_block]; exact hn204_1) | (show (Addr.add _ _).block ≠ _; rw [add_block]; exact hn204_1) | exact hn204_1) (.int .i64 t202)).trans hx204_0
                            replace hx204_1 := (cell_far (p := ⟨gb195, 1, none⟩) (by first | (rw [add_block]; exact hn204_1) | (show (Addr.add _ _).block ≠ _; rw [add_block]; exact hn204_1) | exact hn204_1) (.int .i64 t202)).trans hx204_1
                            replace hx204_0 := (cell_far (p := ⟨gb195, 2, none⟩) (by first | (rw [add_block]; exact hn204_2) | (show (Addr.add _ _).block ≠ _; rw [add_block]; exact hn204_2) | exact hn204_2) (.int .i64 t203)).trans hx204_0
                            replace hx204_1 := (cell_far (p := ⟨gb195, 2, none⟩) (by first | (rw [add_block]; exact hn204_2) | (show (Addr.add _ _).block ≠ _; rw [add_block]; exact hn204_2) | exact hn204_2) (.int .i64 t203)).trans hx204_1
                            clear hn204_0
                            clear hn204_1
                            clear hn204_2
                            replace p204 := eq_true p204
                            replace q204 := eq_true q204
                            go_wp2
                            go_meet
                            case rel => exact ⟨_, (true), (by first | rfl | (simp; done) | (simp [*]; done)), H', ⟨by have := HJ4.out; have := HK2.out; have := HJ17.out; first | omega | exact Nat.le_refl _⟩, ⟨by (with_reducible repeat (first | refine blk_drewN ?_ _ | refine blk_drew ?_ | refine blk_alloc ?_ _)); refine blk_put (cs := #[.int .i64 t201, .int .i64 t202, .int .i64 x196002_2]) ?_ 2 _ rfl; (with_reducible repeat (first | refine blk_drewN ?_ _ | refine blk_drew ?_ | refine blk_alloc ?_ _)); refine blk_put (cs := #[.int .i64 t201, .int .i64 x196001_2, .int .i64 x196002_2]) ?_ 1 _ rfl; (with_reducible repeat (first | refine blk_drewN ?_ _ | refine blk_drew ?_ | refine blk_alloc ?_ _)); refine blk_put (cs := #[.int .i64 x196000_2, .int .i64 x196001_2, .int .i64 x196002_2]) ?_ 0 _ rfl; (with_reducible repeat (first | refine blk_drewN ?_ _ | refine blk_drew ?_ | refine blk_alloc ?_ _)); exact BK195.out⟩, ⟨by repeat (first | (with_reducible first | exact HB.out | apply below_alloc | apply pw_below_drewN | apply below_drew1 | refine below_set ?_ GE195.out) | exact HB.out)⟩⟩
                          · rw [if_neg c30] at H
                            have c30b0 : decide (((rd_T33 l1 x8_2).f0) < 0) = false := decide_eq_false c30
                            clear c30
                            (first | rw [c30b0] | (simp only [i64_w, i32_w]; rw [c30b0]) | skip)
                            have H' := Aside0.mk H
                            clear H
                            have p204 : 0 ≤ (x8_2 : Int) := of_decide_eq_true (by first | (with_reducible assumption) | assumption)
                            have q204 : x8_2 < (l1.length : Int) := of_decide_eq_true (by first | (with_reducible assumption) | assumption)
                            obtain ⟨ad204, e204, hx204_0, hx204_1⟩ := at_T33 HR1.out x8_2 p204 q204
                            obtain rfl : ad200 = ad204 := (by injection e204)
                            have hn204_0 : ad200.block ≠ gb195 := Nat.ne_of_lt (Nat.lt_of_lt_of_le (by have := World.block_lt_of_cell? _ _ hx204_0; first | rwa [add_block] at this | exact this) GW195.out)
                            have hn204_1 : ad200.block ≠ gb195 := Nat.ne_of_lt (Nat.lt_of_lt_of_le (by have := World.block_lt_of_cell? _ _ hx204_0; first | rwa [add_block] at this | exact this) GW195.out)
                            have hn204_2 : ad200.block ≠ gb195 := Nat.ne_of_lt (Nat.lt_of_lt_of_le (by have := World.block_lt_of_cell? _ _ hx204_0; first | rwa [add_block] at this | exact this) GW195.out)
                            replace hx204_0 := (HB.out.cell (World.block_lt_of_cell? w _ hx204_0)).trans hx204_0
                            replace hx204_1 := (HB.out.cell (World.block_lt_of_cell? w _ hx204_1)).trans hx204_1
                            replace hx204_0 := (cell_far (p := ⟨gb195, 0, none⟩) (by first | (rw [add_block]; exact hn204_0) | (show (Addr.add _ _).block ≠ _; rw [add_block]; exact hn204_0) | exact hn204_0) (.int .i64 t201)).trans hx204_0
                            replace hx204_1 := (cell_far (p := ⟨gb195, 0, none⟩) (by first | (rw [add_block]; exact hn204_0) | (show (Addr.add _ _).block ≠ _; rw [add_block]; exact hn204_0) | exact hn204_0) (.int .i64 t201)).trans hx204_1
                            replace hx204_0 := (cell_far (p := ⟨gb195, 1, none⟩) (by first | (rw [add_block]; exact hn204_1) | (show (Addr.add _ _).block ≠ _; rw [add_block]; exact hn204_1) | exact hn204_1) (.int .i64 t202)).trans hx204_0
                            replace hx204_1 := (cell_far (p := ⟨gb195, 1, none⟩) (by first | (rw [add_block]; exact hn204_1) | (show (Addr.add _ _).block ≠ _; rw [add_block]; exact hn204_1) | exact hn204_1) (.int .i64 t202)).trans hx204_1
                            replace hx204_0 := (cell_far (p := ⟨gb195, 2, none⟩) (by first | (rw [add_block]; exact hn204_2) | (show (Addr.add _ _).block ≠ _; rw [add_block]; exact hn204_2) | exact hn204_2) (.int .i64 t203)).trans hx204_0
                            replace hx204_1 := (cell_far (p := ⟨gb195, 2, none⟩) (by first | (rw [add_block]; exact hn204_2) | (show (Addr.add _ _).block ≠ _; rw [add_block]; exact hn204_2) | exact hn204_2) (.int .i64 t203)).trans hx204_1
                            clear hn204_0
                            clear hn204_1
                            clear hn204_2
                            replace p204 := eq_true p204
                            replace q204 := eq_true q204
                            have p205 : 0 ≤ (x8_2 : Int) := of_decide_eq_true (by first | (with_reducible assumption) | assumption)
                            have q205 : x8_2 < (l1.length : Int) := of_decide_eq_true (by first | (with_reducible assumption) | assumption)
                            obtain ⟨ad205, e205, hx205_0, hx205_1⟩ := at_T33 HR1.out x8_2 p205 q205
                            obtain rfl : ad200 = ad205 := (by injection e205)
                            have hn205_0 : ad200.block ≠ gb195 := Nat.ne_of_lt (Nat.lt_of_lt_of_le (by have := World.block_lt_of_cell? _ _ hx205_0; first | rwa [add_block] at this | exact this) GW195.out)
                            have hn205_1 : ad200.block ≠ gb195 := Nat.ne_of_lt (Nat.lt_of_lt_of_le (by have := World.block_lt_of_cell? _ _ hx205_0; first | rwa [add_block] at this | exact this) GW195.out)
                            have hn205_2 : ad200.block ≠ gb195 := Nat.ne_of_lt (Nat.lt_of_lt_of_le (by have := World.block_lt_of_cell? _ _ hx205_0; first | rwa [add_block] at this | exact this) GW195.out)
                            replace hx205_0 := (HB.out.cell (World.block_lt_of_cell? w _ hx205_0)).trans hx205_0
                            replace hx205_1 := (HB.out.cell (World.block_lt_of_cell? w _ hx205_1)).trans hx205_1
                            replace hx205_0 := (cell_far (p := ⟨gb195, 0, none⟩) (by first | (rw [add_block]; exact hn205_0) | (show (Addr.add _ _).block ≠ _; rw [add_block]; exact hn205_0) | exact hn205_0) (.int .i64 t201)).trans hx205_0
                            replace hx205_1 := (cell_far (p := ⟨gb195, 0, none⟩) (by first | (rw [add_block]; exact hn205_0) | (show (Addr.add _ _).block ≠ _; rw [add_block]; exact hn205_0) | exact hn205_0) (.int .i64 t201)).trans hx205_1
                            replace hx205_0 := (cell_far (p := ⟨gb195, 1, none⟩) (by first | (rw [add_block]; exact hn205_1) | (show (Addr.add _ _).block ≠ _; rw [add_block]; exact hn205_1) | exact hn205_1) (.int .i64 t202)).trans hx205_0
                            replace hx205_1 := (cell_far (p := ⟨gb195, 1, none⟩) (by first | (rw [add_block]; exact hn205_1) | (show (Addr.add _ _).block ≠ _; rw [add_block]; exact hn205_1) | exact hn205_1) (.int .i64 t202)).trans hx205_1
                            replace hx205_0 := (cell_far (p := ⟨gb195, 2, none⟩) (by first | (rw [add_block]; exact hn205_2) | (show (Addr.add _ _).block ≠ _; rw [add_block]; exact hn205_2) | exact hn205_2) (.int .i64 t203)).trans hx205_0
                            replace hx205_1 := (cell_far (p := ⟨gb195, 2, none⟩) (by first | (rw [add_block]; exact hn205_2) | (show (Addr.add _ _).block ≠ _; rw [add_block]; exact hn205_2) | exact hn205_2) (.int .i64 t203)).trans hx205_1
                            clear hn205_0
                            clear hn205_1
                            clear hn205_2
                            replace p205 := eq_true p205
                            replace q205 := eq_true q205
                            go_wp2
                            go_meet
                            case rel => exact ⟨_, (decide (((rd_T33 l1 x8_2).f0) > 3)), (by first | rfl | (simp; done) | (simp [*]; done)), H', ⟨by have := HJ4.out; have := HK2.out; have := HJ17.out; first | omega | exact Nat.le_refl _⟩, ⟨by (with_reducible repeat (first | refine blk_drewN ?_ _ | refine blk_drew ?_ | refine blk_alloc ?_ _)); refine blk_put (cs := #[.int .i64 t201, .int .i64 t202, .int .i64 x196002_2]) ?_ 2 _ rfl; (with_reducible repeat (first | refine blk_drewN ?_ _ | refine blk_drew ?_ | refine blk_alloc ?_ _)); refine blk_put (cs := #[.int .i64 t201, .int .i64 x196001_2, .int .i64 x196002_2]) ?_ 1 _ rfl; (with_reducible repeat (first | refine blk_drewN ?_ _ | refine blk_drew ?_ | refine blk_alloc ?_ _)); refine blk_put (cs := #[.int .i64 x196000_2, .int .i64 x196001_2, .int .i64 x196002_2]) ?_ 0 _ rfl; (with_reducible repeat (first | refine blk_drewN ?_ _ | refine blk_drew ?_ | refine blk_alloc ?_ _)); exact BK195.out⟩, ⟨by repeat (first | (with_reducible first | exact HB.out | apply below_alloc | apply pw_below_drewN | apply below_drew1 | refine below_set ?_ GE195.out) | exact HB.out)⟩⟩
                        case rest =>
                          clear HC24
                          try clear c1
                          try clear c2
                          try clear p2
                          try clear q2
                          try clear hx2
                          try clear c3
                          try clear c4
                          try clear c7
                          try clear c7b0
                          try clear c8
                          try clear c9
                          try clear c10
                          try clear c11
                          try clear c12
                          try clear c13
                          try clear c19
                          try clear c19b0
                          try clear c20
                          try clear p20
                          try clear q20
                          try clear hx20
                          try clear c21
                          try clear c21b0
                          try clear c22
                          try clear c22b0
                          try clear c30
                          try clear c30b0
                          try clear hcz15_0
                          try clear hcz15_1
                          try clear hcz15_2
                          try clear hcz17_0
                          try clear hcz17_1
                          try clear hcz17_2
                          try clear hfz15_0
                          try clear hfz15_1
                          try clear hfz15_2
                          try clear hfz17_0
                          try clear hfz17_1
                          try clear hfz17_2
                          try clear hx200_0
                          try clear hx200_1
                          try clear hx204_0
                          try clear hx204_1
                          try clear hx205_0
                          try clear hx205_1
                          try clear p2
                          try clear p200
                          try clear p204
                          try clear p205
                          try clear q200
                          try clear q204
                          try clear q205
                          obtain ⟨kq, x58_23, rfl, HA, HJ23, BK195, HB⟩ := hcut
                          cases kq with
                          | zero => exact absurd HA.out (by simp [provostlaw19_CtrEnds.j3])
                          | succ kj23 =>
                            have H := HA.out
                            clear HA
                            simp only [provostlaw19_CtrEnds.j3] at H
                            by_cases c31 : x58_23 = true
                            · subst c31
                              have H1 : (if (wrap64 (x7_2 + 1)) ≥ a0 then (if t201 = 4 then (provostlaw19_CtrEnds.l0 kj23 a0 l1 (wrap64 (x7_2 + 1)) (wrap64 (x8_2 + 1)) t201 t202 t203) else (some false)) else (provostlaw19_CtrEnds.l0 kj23 a0 l1 (wrap64 (x7_2 + 1)) (wrap64 (x8_2 + 1)) t201 t202 t203)) = some r := by rw [if_pos rfl] at H; exact H
                              clear H
                              have H := H1
                              clear H1
                              by_cases c32 : (wrap64 (x7_2 + 1)) ≥ a0
                              · rw [if_pos c32] at H
                                have c32b0 : decide (a0 ≤ (wrap64 (x7_2 + 1))) = true := decide_eq_true c32
                                clear c32
                                by_cases c33 : t201 = 4
                                · rw [if_pos c33] at H
                                  have c33b0 : (t201 == 4) = true := beq_iff_eq.mpr c33
                                  have c33b1 : (t201 != 4) = false := bne_eq_false_iff_eq.mpr c33
                                  clear c33
                                  have H' := Aside0.mk H
                                  clear H
                                  have hcz34_0 : wc.cell? ⟨gb195, 0, none⟩ = some (.int .i64 t201) := (blk_cell BK195.out 0).trans rfl
                                  have hcz34_1 : wc.cell? ⟨gb195, 1, none⟩ = some (.int .i64 t202) := (blk_cell BK195.out 1).trans rfl
                                  have hcz34_2 : wc.cell? ⟨gb195, 2, none⟩ = some (.int .i64 t203) := (blk_cell BK195.out 2).trans rfl
                                  have hfz34_0 := blk_frozen BK195.out 0
                                  have hfz34_1 := blk_frozen BK195.out 1
                                  have hfz34_2 := blk_frozen BK195.out 2
                                  go_wp2
                                  go_roundg kj23
                                  case measure => have := HJ4.out; have := HK2.out; have := HJ17.out; have := HJ23.out; omega
                                  case rel => exact ⟨(wrap64 (x7_2 + 1)), (wrap64 (x8_2 + 1)), (t201), (t202), (t203), (by first | rfl | (simp; done) | (simp [*]; done)), (by first | rfl | (simp; done) | (simp [*]; done)), H', ⟨by have := HJ4.out; have := HK2.out; have := HJ17.out; have := HJ23.out; omega⟩, ⟨by (with_reducible repeat (first | refine blk_drewN ?_ _ | refine blk_drew ?_ | refine blk_alloc ?_ _)); exact BK195.out⟩, ⟨by repeat (first | (with_reducible first | exact HB.out | apply below_alloc | apply pw_below_drewN | apply below_drew1 | refine below_set ?_ GE195.out) | exact HB.out)⟩⟩
                                · rw [if_neg c33] at H
                                  have c33b0 : (t201 == 4) = false := beq_eq_false_iff_ne.mpr c33
                                  have c33b1 : (t201 != 4) = true := bne_iff_ne.mpr c33
                                  obtain rfl := Option.some.inj H
                                  have hcz35_0 : wc.cell? ⟨gb195, 0, none⟩ = some (.int .i64 t201) := (blk_cell BK195.out 0).trans rfl
                                  have hcz35_1 : wc.cell? ⟨gb195, 1, none⟩ = some (.int .i64 t202) := (blk_cell BK195.out 1).trans rfl
                                  have hcz35_2 : wc.cell? ⟨gb195, 2, none⟩ = some (.int .i64 t203) := (blk_cell BK195.out 2).trans rfl
                                  have hfz35_0 := blk_frozen BK195.out 0
                                  have hfz35_1 := blk_frozen BK195.out 1
                                  have hfz35_2 := blk_frozen BK195.out 2
                                  go_wp2
                                  go_ret
                                  exact ⟨by first | rfl | (simp [errW_none, errW_some] <;> rfl) | (simp [*, errW_none, errW_some] <;> rfl), by repeat (first | (with_reducible first | exact HB.out | apply below_alloc | apply pw_below_drewN | apply below_drew1 | refine below_set ?_ GE195.out) | exact HB.out)⟩
                              · rw [if_neg c32] at H
                                have c32b0 : decide (a0 ≤ (wrap64 (x7_2 + 1))) = false := decide_eq_false c32
                                clear c32
                                have H' := Aside0.mk H
                                clear H
                                go_wp2
                                go_roundg kj23
                                case measure => have := HJ4.out; have := HK2.out; have := HJ17.out; have := HJ23.out; omega
                                case rel => exact ⟨(wrap64 (x7_2 + 1)), (wrap64 (x8_2 + 1)), (t201), (t202), (t203), (by first | rfl | (simp; done) | (simp [*]; done)), (by first | rfl | (simp; done) | (simp [*]; done)), H', ⟨by have := HJ4.out; have := HK2.out; have := HJ17.out; have := HJ23.out; omega⟩, ⟨by (with_reducible repeat (first | refine blk_drewN ?_ _ | refine blk_drew ?_ | refine blk_alloc ?_ _)); exact BK195.out⟩, ⟨by repeat (first | (with_reducible first | exact HB.out | apply below_alloc | apply pw_below_drewN | apply below_drew1 | refine below_set ?_ GE195.out) | exact HB.out)⟩⟩
                            · replace c31 := Bool.eq_false_iff.mpr c31
                              subst c31
                              have H1 : (if x7_2 ≥ a0 then (if t201 = 4 then (provostlaw19_CtrEnds.l0 kj23 a0 l1 x7_2 (wrap64 (x8_2 + 1)) t201 t202 t203) else (some false)) else (provostlaw19_CtrEnds.l0 kj23 a0 l1 x7_2 (wrap64 (x8_2 + 1)) t201 t202 t203)) = some r := by rw [if_neg (show ¬ (false = true) by decide)] at H; exact H
                              clear H
                              have H := H1
                              clear H1
                              by_cases c36 : x7_2 ≥ a0
                              · rw [if_pos c36] at H
                                have c36b0 : decide (a0 ≤ x7_2) = true := decide_eq_true c36
                                clear c36
                                by_cases c37 : t201 = 4
                                · rw [if_pos c37] at H
                                  have c37b0 : (t201 == 4) = true := beq_iff_eq.mpr c37
                                  have c37b1 : (t201 != 4) = false := bne_eq_false_iff_eq.mpr c37
                                  clear c37
                                  have H' := Aside0.mk H
                                  clear H
                                  have hcz38_0 : wc.cell? ⟨gb195, 0, none⟩ = some (.int .i64 t201) := (blk_cell BK195.out 0).trans rfl
                                  have hcz38_1 : wc.cell? ⟨gb195, 1, none⟩ = some (.int .i64 t202) := (blk_cell BK195.out 1).trans rfl
                                  have hcz38_2 : wc.cell? ⟨gb195, 2, none⟩ = some (.int .i64 t203) := (blk_cell BK195.out 2).trans rfl
                                  have hfz38_0 := blk_frozen BK195.out 0
                                  have hfz38_1 := blk_frozen BK195.out 1
                                  have hfz38_2 := blk_frozen BK195.out 2
                                  go_wp2
                                  go_roundg kj23
                                  case measure => have := HJ4.out; have := HK2.out; have := HJ17.out; have := HJ23.out; omega
                                  case rel => exact ⟨(x7_2), (wrap64 (x8_2 + 1)), (t201), (t202), (t203), (by first | rfl | (simp; done) | (simp [*]; done)), (by first | rfl | (simp; done) | (simp [*]; done)), H', ⟨by have := HJ4.out; have := HK2.out; have := HJ17.out; have := HJ23.out; omega⟩, ⟨by (with_reducible repeat (first | refine blk_drewN ?_ _ | refine blk_drew ?_ | refine blk_alloc ?_ _)); exact BK195.out⟩, ⟨by repeat (first | (with_reducible first | exact HB.out | apply below_alloc | apply pw_below_drewN | apply below_drew1 | refine below_set ?_ GE195.out) | exact HB.out)⟩⟩
                                · rw [if_neg c37] at H
                                  have c37b0 : (t201 == 4) = false := beq_eq_false_iff_ne.mpr c37
                                  have c37b1 : (t201 != 4) = true := bne_iff_ne.mpr c37
                                  obtain rfl := Option.some.inj H
                                  have hcz39_0 : wc.cell? ⟨gb195, 0, none⟩ = some (.int .i64 t201) := (blk_cell BK195.out 0).trans rfl
                                  have hcz39_1 : wc.cell? ⟨gb195, 1, none⟩ = some (.int .i64 t202) := (blk_cell BK195.out 1).trans rfl
                                  have hcz39_2 : wc.cell? ⟨gb195, 2, none⟩ = some (.int .i64 t203) := (blk_cell BK195.out 2).trans rfl
                                  have hfz39_0 := blk_frozen BK195.out 0
                                  have hfz39_1 := blk_frozen BK195.out 1
                                  have hfz39_2 := blk_frozen BK195.out 2
                                  go_wp2
                                  go_ret
                                  exact ⟨by first | rfl | (simp [errW_none, errW_some] <;> rfl) | (simp [*, errW_none, errW_some] <;> rfl), by repeat (first | (with_reducible first | exact HB.out | apply below_alloc | apply pw_below_drewN | apply below_drew1 | refine below_set ?_ GE195.out) | exact HB.out)⟩
                              · rw [if_neg c36] at H
                                have c36b0 : decide (a0 ≤ x7_2) = false := decide_eq_false c36
                                clear c36
                                have H' := Aside0.mk H
                                clear H
                                go_wp2
                                go_roundg kj23
                                case measure => have := HJ4.out; have := HK2.out; have := HJ17.out; have := HJ23.out; omega
                                case rel => exact ⟨(x7_2), (wrap64 (x8_2 + 1)), (t201), (t202), (t203), (by first | rfl | (simp; done) | (simp [*]; done)), (by first | rfl | (simp; done) | (simp [*]; done)), H', ⟨by have := HJ4.out; have := HK2.out; have := HJ17.out; have := HJ23.out; omega⟩, ⟨by (with_reducible repeat (first | refine blk_drewN ?_ _ | refine blk_drew ?_ | refine blk_alloc ?_ _)); exact BK195.out⟩, ⟨by repeat (first | (with_reducible first | exact HB.out | apply below_alloc | apply pw_below_drewN | apply below_drew1 | refine below_set ?_ GE195.out) | exact HB.out)⟩⟩
                      · rw [if_neg c22] at H
                        exact absurd H (by simp)
                    · rw [if_neg c21] at H
                      exact absurd H (by simp)
                  · replace c20 := Bool.eq_false_iff.mpr c20
                    subst c20
                    have H1 : (provostlaw19_CtrEnds.l1 kj17 a0 0 x196000_2 x196001_2 x196002_2) = some r := by rw [if_neg (show ¬ (false = true) by decide)] at H; exact H
                    clear H
                    have H := H1
                    clear H1
                    have H' := Aside0.mk H
                    clear H
                    go_wp2
                    go_loopg [9] kj17 (fun kq v9 w' => ∃ (x9_4 : Int) (x196000_4 : Int) (x196001_4 : Int) (x196002_4 : Int), v9 = .int .i64 x9_4 ∧ Aside0 (provostlaw19_CtrEnds.l1 kq a0 x9_4 x196000_4 x196001_4 x196002_4 = some r) ∧ Aside0 (kq ≤ kj17) ∧ Aside0 (w'.heap[gb195]? = some (.cells #[.int .i64 x196000_4, .int .i64 x196001_4, .int .i64 x196002_4] 25 (0, 0))) ∧ Aside0 (Below w.heap.size w w'))
                    case atStart => exact ⟨(0), (x196000_2), (x196001_2), (x196002_2), (by first | rfl | (simp; done) | (simp [*]; done)), H', ⟨Nat.le_refl _⟩, ⟨by (with_reducible repeat (first | refine blk_drewN ?_ _ | refine blk_drew ?_ | refine blk_alloc ?_ _)); exact BK195.out⟩, ⟨by repeat (first | (with_reducible first | exact HB.out | apply below_alloc | apply pw_below_drewN | apply below_drew1 | refine below_set ?_ GE195.out) | exact HB.out)⟩⟩
                    case round =>
                      clear H'
                      try clear c1
                      try clear c2
                      try clear p2
                      try clear q2
                      try clear hx2
                      try clear c3
                      try clear c4
                      try clear p6
                      try clear c7
                      try clear c7b0
                      try clear c8
                      try clear c9
                      try clear c10
                      try clear c11
                      try clear c12
                      try clear c13
                      try clear c19
                      try clear c19b0
                      try clear c20
                      try clear p20
                      try clear q20
                      try clear hx20
                      try clear c21
                      try clear c21b0
                      try clear c22
                      try clear c22b0
                      try clear c30
                      try clear c30b0
                      try clear c31
                      try clear c32
                      try clear c32b0
                      try clear c33
                      try clear c33b0
                      try clear c33b1
                      try clear c36
                      try clear c36b0
                      try clear c37
                      try clear c37b0
                      try clear c37b1
                      try clear hcz15_0
                      try clear hcz15_1
                      try clear hcz15_2
                      try clear hcz17_0
                      try clear hcz17_1
                      try clear hcz17_2
                      try clear hcz34_0
                      try clear hcz34_1
                      try clear hcz34_2
                      try clear hcz35_0
                      try clear hcz35_1
                      try clear hcz35_2
                      try clear hcz38_0
                      try clear hcz38_1
                      try clear hcz38_2
                      try clear hcz39_0
                      try clear hcz39_1
                      try clear hcz39_2
                      try clear hfz15_0
                      try clear hfz15_1
                      try clear hfz15_2
                      try clear hfz17_0
                      try clear hfz17_1
                      try clear hfz17_2
                      try clear hfz34_0
                      try clear hfz34_1
                      try clear hfz34_2
                      try clear hfz35_0
                      try clear hfz35_1
                      try clear hfz35_2
                      try clear hfz38_0
                      try clear hfz38_1
                      try clear hfz38_2
                      try clear hfz39_0
                      try clear hfz39_1
                      try clear hfz39_2
                      try clear hx200_0
                      try clear hx200_1
                      try clear hx204_0
                      try clear hx204_1
                      try clear hx205_0
                      try clear hx205_1
                      try clear p2
                      try clear p20
                      try clear p200
                      try clear p204
                      try clear p205
                      try clear q2
                      try clear q20
                      try clear q200
                      try clear q204
                      try clear q205
                      obtain ⟨x9_4, x196000_4, x196001_4, x196002_4, rfl, HA, HK4, BK195, HB⟩ := hrel
                      cases gk with
                      | zero => exact absurd HA.out (by simp [provostlaw19_CtrEnds.l1])
                      | succ k4 =>
                        have H := HA.out
                        clear HA
                        simp only [provostlaw19_CtrEnds.l1] at H
                        by_cases c40 : x9_4 < a0
                        · rw [if_pos c40] at H
                          have c40b0 : decide (x9_4 < a0) = true := decide_eq_true c40
                          clear c40
                          replace H := Option.bind_eq_some_iff.mp H
                          obtain ⟨⟨t206, t207, t208, t209⟩, A410, H⟩ := H
                          replace H : (provostlaw19_CtrEnds.l1 k4 a0 (wrap64 (x9_4 + 1)) t206 t207 t208) = some r := H
                          have A41 := Aside0.mk A410
                          clear A410
                          have H' := Aside0.mk H
                          clear H
                          have hcz42_0 : wr.cell? ⟨gb195, 0, none⟩ = some (.int .i64 x196000_4) := (blk_cell BK195.out 0).trans rfl
                          have hcz42_1 : wr.cell? ⟨gb195, 1, none⟩ = some (.int .i64 x196001_4) := (blk_cell BK195.out 1).trans rfl
                          have hcz42_2 : wr.cell? ⟨gb195, 2, none⟩ = some (.int .i64 x196002_4) := (blk_cell BK195.out 2).trans rfl
                          have hfz42_0 := blk_frozen BK195.out 0
                          have hfz42_1 := blk_frozen BK195.out 1
                          have hfz42_2 := blk_frozen BK195.out 2
                          go_wp2_with (first | ((with_reducible refine gate_callee (f := 14) rfl ?_); refine goesL_ (some 76) rfl rfl Try.func14 (by kernel_rfl) rfl #[.agg #[.int .i64 x196000_4, .int .i64 x196001_4, .int .i64 x196002_4]] rfl (by (try simp only [List.map_toArray, List.map_cons, List.map_nil]); first | done | rfl | (simp only [List.length_drop, List.length_take]; rfl)) ?_; (with_reducible refine (ctr_Tick.calls x196000_4 x196001_4 x196002_4 t206 t207 t208 t209 _ A41.out).mono ?_); rintro e w43 ⟨rfl, hb⟩; refine ⟨_, rfl, ?_⟩; have n0_ := Aside0.mk (blk_below (g := gb195) (o := .cells #[.int .i64 x196000_4, .int .i64 x196001_4, .int .i64 x196002_4] 25 (0, 0)) (by (with_reducible repeat (first | refine blk_drewN ?_ _ | refine blk_drew ?_ | refine blk_alloc ?_ _)); exact BK195.out) hb); have n1_ := Aside0.mk (below_step (by repeat (first | (with_reducible first | exact HB.out | apply below_alloc | apply pw_below_drewN | apply below_drew1 | refine below_set ?_ GE195.out) | exact HB.out)) hb); clear BK195; clear HB; have BK195 := n0_; have HB := n1_; clear n0_ n1_; (try clear hb); (try clear hb2); (try clear hk); (try clear hi); have hcz44_0 : w43.cell? ⟨gb195, 0, none⟩ = some (.int .i64 x196000_4) := (blk_cell BK195.out 0).trans rfl; have hcz44_1 : w43.cell? ⟨gb195, 1, none⟩ = some (.int .i64 x196001_4) := (blk_cell BK195.out 1).trans rfl; have hcz44_2 : w43.cell? ⟨gb195, 2, none⟩ = some (.int .i64 x196002_4) := (blk_cell BK195.out 2).trans rfl; have hfz44_0 := blk_frozen BK195.out 0; have hfz44_1 := blk_frozen BK195.out 1; have hfz44_2 := blk_frozen BK195.out 2))
                          go_roundg k4
                          case measure => have := HJ4.out; have := HK2.out; have := HJ17.out; have := HK4.out; omega
                          case rel => exact ⟨(wrap64 (x9_4 + 1)), (t206), (t207), (t208), (by first | rfl | (simp; done) | (simp [*]; done)), H', ⟨by have := HJ4.out; have := HK2.out; have := HJ17.out; have := HK4.out; omega⟩, ⟨by (with_reducible repeat (first | refine blk_drewN ?_ _ | refine blk_drew ?_ | refine blk_alloc ?_ _)); refine blk_put (cs := #[.int .i64 t206, .int .i64 t207, .int .i64 x196002_4]) ?_ 2 _ rfl; (with_reducible repeat (first | refine blk_drewN ?_ _ | refine blk_drew ?_ | refine blk_alloc ?_ _)); refine blk_put (cs := #[.int .i64 t206, .int .i64 x196001_4, .int .i64 x196002_4]) ?_ 1 _ rfl; (with_reducible repeat (first | refine blk_drewN ?_ _ | refine blk_drew ?_ | refine blk_alloc ?_ _)); refine blk_put (cs := #[.int .i64 x196000_4, .int .i64 x196001_4, .int .i64 x196002_4]) ?_ 0 _ rfl; (with_reducible repeat (first | refine blk_drewN ?_ _ | refine blk_drew ?_ | refine blk_alloc ?_ _)); exact BK195.out⟩, ⟨by repeat (first | (with_reducible first | exact HB.out | apply below_alloc | apply pw_below_drewN | apply below_drew1 | refine below_set ?_ GE195.out) | exact HB.out)⟩⟩
                        · rw [if_neg c40] at H
                          have c40b0 : decide (x9_4 < a0) = false := decide_eq_false c40
                          clear c40
                          by_cases c45 : x196000_4 = 4
                          · rw [if_pos c45] at H
                            have c45b0 : (x196000_4 == 4) = true := beq_iff_eq.mpr c45
                            have c45b1 : (x196000_4 != 4) = false := bne_eq_false_iff_eq.mpr c45
                            clear c45
                            replace H := Option.bind_eq_some_iff.mp H
                            obtain ⟨t210, A460, H⟩ := H
                            replace H : (some (!t210)) = some r := H
                            have A46 := Aside0.mk A460
                            clear A460
                            obtain rfl := Option.some.inj H
                            have hcz47_0 : wr.cell? ⟨gb195, 0, none⟩ = some (.int .i64 x196000_4) := (blk_cell BK195.out 0).trans rfl
                            have hcz47_1 : wr.cell? ⟨gb195, 1, none⟩ = some (.int .i64 x196001_4) := (blk_cell BK195.out 1).trans rfl
                            have hcz47_2 : wr.cell? ⟨gb195, 2, none⟩ = some (.int .i64 x196002_4) := (blk_cell BK195.out 2).trans rfl
                            have hfz47_0 := blk_frozen BK195.out 0
                            have hfz47_1 := blk_frozen BK195.out 1
                            have hfz47_2 := blk_frozen BK195.out 2
                            go_wp2_with (first | (go_at_call 15; (with_reducible refine (ctr_Runs.calls x196000_4 x196001_4 x196002_4 t210 _ A46.out).mono ?_); rintro e w48 ⟨rfl, hb⟩; have n0_ := Aside0.mk (blk_below (g := gb195) (o := .cells #[.int .i64 x196000_4, .int .i64 x196001_4, .int .i64 x196002_4] 25 (0, 0)) (by (with_reducible repeat (first | refine blk_drewN ?_ _ | refine blk_drew ?_ | refine blk_alloc ?_ _)); exact BK195.out) hb); have n1_ := Aside0.mk (below_step (by repeat (first | (with_reducible first | exact HB.out | apply below_alloc | apply pw_below_drewN | apply below_drew1 | refine below_set ?_ GE195.out) | exact HB.out)) hb); clear BK195; clear HB; have BK195 := n0_; have HB := n1_; clear n0_ n1_; (try clear hb); (try clear hb2); (try clear hk); (try clear hi)))
                            go_ret
                            exact ⟨by first | rfl | (simp [errW_none, errW_some] <;> rfl) | (simp [*, errW_none, errW_some] <;> rfl), by repeat (first | (with_reducible first | exact HB.out | apply below_alloc | apply pw_below_drewN | apply below_drew1 | refine below_set ?_ GE195.out) | exact HB.out)⟩
                          · rw [if_neg c45] at H
                            have c45b0 : (x196000_4 == 4) = false := beq_eq_false_iff_ne.mpr c45
                            have c45b1 : (x196000_4 != 4) = true := bne_iff_ne.mpr c45
                            obtain rfl := Option.some.inj H
                            have hcz49_0 : wr.cell? ⟨gb195, 0, none⟩ = some (.int .i64 x196000_4) := (blk_cell BK195.out 0).trans rfl
                            have hcz49_1 : wr.cell? ⟨gb195, 1, none⟩ = some (.int .i64 x196001_4) := (blk_cell BK195.out 1).trans rfl
                            have hcz49_2 : wr.cell? ⟨gb195, 2, none⟩ = some (.int .i64 x196002_4) := (blk_cell BK195.out 2).trans rfl
                            have hfz49_0 := blk_frozen BK195.out 0
                            have hfz49_1 := blk_frozen BK195.out 1
                            have hfz49_2 := blk_frozen BK195.out 2
                            go_wp2
                            go_ret
                            exact ⟨by first | rfl | (simp [errW_none, errW_some] <;> rfl) | (simp [*, errW_none, errW_some] <;> rfl), by repeat (first | (with_reducible first | exact HB.out | apply below_alloc | apply pw_below_drewN | apply below_drew1 | refine below_set ?_ GE195.out) | exact HB.out)⟩
  · replace c4 := Bool.eq_false_iff.mpr c4
    subst c4
    have H1 : (some false) = some r := by rw [if_neg (show ¬ (false = true) by decide)] at H; exact H
    clear H
    have H := H1
    clear H1
    obtain rfl := Option.some.inj H
    go_enter Try.func3, Try.ntmps3
    go_wp2_with (first | ((with_reducible refine gate_callee (f := 9) rfl ?_); refine goesL_ (some 10) rfl rfl Try.func9 (by kernel_rfl) rfl #[] rfl (by (try simp only [List.map_toArray, List.map_cons, List.map_nil]); first | done | rfl | (simp only [List.length_drop, List.length_take]; rfl)) ?_; (with_reducible refine (provostlaw19_works.calls k  false _ A3.out).mono ?_); rintro e w50 ⟨rfl, hb⟩; refine ⟨_, rfl, ?_⟩; have n0_ := Aside0.mk (below_step (by repeat (first | (with_reducible first | exact HB.out | apply below_alloc | apply pw_below_drewN | apply below_drew1) | exact HB.out)) hb); clear HB; have HB := n0_; clear n0_; (try clear hb); (try clear hb2); (try clear hk); (try clear hi)))
    go_ret
    exact ⟨by first | rfl | (simp [errW_none, errW_some] <;> rfl) | (simp [*, errW_none, errW_some] <;> rfl), by repeat (first | (with_reducible first | exact HB.out | apply below_alloc | apply pw_below_drewN | apply below_drew1) | exact HB.out)⟩

end Go.Proofs.Ytgpoolcaooiemaa.PCtrEnds
