/- Fail, Next, Drop. -/
import Derived.Test.YtbamdihbpfdbjaaBook
import Derived.Deep.CutBlock
import Derived.Deep.DeepCutAuto
import Derived.RegionTactic
import Derived.ChangeAlike
import Derived.Test.YtbamdihbpfdbjaaRefs1
import Derived.Test.YtbamdihbpfdbjaaPDelayPlaysx2
namespace Go.Proofs.Ytbamdihbpfdbjaa.R
open Go Go.RowKit Go.Proofs.Ytbamdihbpfdbjaa.K
set_option linter.unusedVariables false
set_option linter.unusedSimpArgs false
/-- How long one waits behind n failures. -/
def aft (n : Int) : Int := if n < 1 then 0 else if n = 1 then 1 else if n = 2 then 2 else if n = 3 then 4 else if n = 4 then 8 else if n = 5 then 16 else 32
theorem aft_bd (n : Int) : 0 ≤ aft n ∧ aft n ≤ 32 := by unfold aft; omega
theorem after_f (n : Int) (h1 : -9223372036854775808 ≤ n) (h2 : n ≤ 9223372036854775807) : PDelayPlays.delay_After.f 10 n = some (aft n) := by
  unfold PDelayPlays.delay_After.f aft
  by_cases h : n < 1
  · rw [if_pos h, if_pos h]
  · rw [if_neg h, if_neg h]
    have hw : wrap64 (n - 1) = n - 1 := by unfold wrap64; omega
    rw [hw]
    have W : ∀ x : Int, -9223372036854775808 ≤ x → x ≤ 9223372036854775807 → wrap64 x = x := fun x _ _ => by unfold wrap64; omega
    have w1 : wrap64 2 = 2 := W _ (by omega) (by omega)
    have w2 : wrap64 4 = 4 := W _ (by omega) (by omega)
    have w3 : wrap64 8 = 8 := W _ (by omega) (by omega)
    have w4 : wrap64 16 = 16 := W _ (by omega) (by omega)
    have w5 : wrap64 32 = 32 := W _ (by omega) (by omega)
    have w6 : wrap64 1 = 1 := W _ (by omega) (by omega)
    have w7 : wrap64 3 = 3 := W _ (by omega) (by omega)
    have w8 : wrap64 5 = 5 := W _ (by omega) (by omega)
    by_cases h6 : 6 ≤ n
    · have e : (if n = 1 then 1 else if n = 2 then 2 else if n = 3 then 4 else if n = 4 then 8 else if n = 5 then 16 else 32 : Int) = 32 := by omega
      rw [e]
      obtain ⟨m, hm, hm5⟩ : ∃ m, m = n - 1 ∧ 5 ≤ m := ⟨_, rfl, by omega⟩
      rw [← hm]
      have a0 : 0 < m := by omega
      have a1 : 1 < m := by omega
      have a2 : 2 < m := by omega
      have a3 : 3 < m := by omega
      have a4 : 4 < m := by omega
      simp [PDelayPlays.delay_After.l0, w1, w2, w3, w4, w5, w6, w7, w8, a0, a1, a2, a3, a4]
    · have hc : n = 1 ∨ n = 2 ∨ n = 3 ∨ n = 4 ∨ n = 5 := by omega
      rcases hc with rfl | rfl | rfl | rfl | rfl <;> simp [PDelayPlays.delay_After.l0, w1, w2, w3, w4, w5, w6, w7, w8]
theorem After_any (n : Int) (w : World) (h1 : -9223372036854775808 ≤ n) (h2 : n ≤ 9223372036854775807) : Calls Try.prog 6 #[.int .i64 n] w fun e w' => e = .returned (.int .i64 (aft n)) ∧ ∃ q, w' = w.drewN q :=
  (PDelayPlays.delay_After.calls 10 n (aft n) w (after_f n h1 h2)).mono fun e w' ⟨he, hc⟩ => ⟨he, hc.out⟩
theorem Fail_any (b mb : Nat) (l : List ((Int × Int) × (Int × Int))) (u n now f : Int) (w : World) (h : BookIs w b mb l) (hok : okK (u, n)) (hn : 0 ≤ now) (hn2 : now ≤ 1000000000000000000) (hf : (att l (u, n)).1 = f) (hf0 : 0 ≤ f) (hf1 : f ≤ 100) :
    Calls Try.prog 11 #[.pointer (some ⟨b, 0, none⟩), .int .i64 u, .int .i64 n, .int .i64 now] w fun e w' => e = .returned (.int .i64 (now + aft (min (f + 1) 100))) ∧ BookIs w' b mb (mput l (u, n) (min (f + 1) 100, now + aft (min (f + 1) 100))) ∧ Ch [mb] w w' := by
  have c0 := h.cell
  have HM := Lib.hid h.2
  have HB := Lib.hid h.1
  have hne := Lib.hid h.ne
  have hbl := h.1.lt
  have hml := h.2.lt
  have HL : Hid (∀ w', MapIs w' mb kv kv okK l → (Instr.lookup 48 (.map (some mb)) (.agg #[.int .i64 u, .int .i64 n]) false).run Try.prog w' = .ok (.agg #[.int .i64 f, .int .i64 (att l (u, n)).2]) w') := Lib.hid (fun w' hm => by
    have := hm.lookup k52 Try.underlying48 (zero54 w') (x := (u, n)) hok false
    rw [getD_kv, hf] at this
    exact this)
  clear h hf
  generalize (att l (u, n)).2 = z0 at *
  obtain ⟨g, hg, hg0, hg1⟩ : ∃ g, g = min (f + 1) 100 ∧ 0 ≤ g ∧ g ≤ 100 := ⟨_, rfl, by omega, by omega⟩
  have ab := aft_bd g
  rw [← hg]
  have HG := Lib.hid hg
  clear hg
  go_enter Try.func11, Try.ntmps11
  go_upto_region 2 with fail
  go_cut [10] (fun s10 wx => s10 = .pointer (some ⟨w.heap.size + 1, 0, none⟩) ∧ Hid (MapIs wx mb kv kv okK l) ∧ Hid (Blk wx b #[.map (some mb)] 50) ∧ Hid (Blk wx w.heap.size #[.int .i64 u, .int .i64 n] 52) ∧ Hid (Blk wx (w.heap.size + 1) #[.int .i64 f, .int .i64 z0] 54) ∧ Hid (Ch [] w wx))
  case first =>
    go_region_held3 (fun w' => w'.cell? ⟨b, 0, none⟩ = some (.map (some mb)) ∧ w'.cell? ⟨w.heap.size, 0, none⟩ = some (.int .i64 u) ∧ w'.cell? ⟨w.heap.size, 1, none⟩ = some (.int .i64 n) ∧ (Instr.lookup 48 (.map (some mb)) (.agg #[.int .i64 u, .int .i64 n]) false).run Try.prog w' = .ok (.agg #[.int .i64 f, .int .i64 z0]) w')
      ((go_split_ands; refine ⟨by go_keep, by go_keep, by go_keep, HL.out _ (by (repeat (first | exact HM.out | apply MapIs.drew | apply MapIs.set | apply MapIs.alloc)))⟩))
      (fail)
    all_goals
      go_wp2_with fail
      go_meet
      have B1 := blk_new w #[.int .i64 u, .int .i64 n] 52
      have B2 := blk_new (w.alloc (.cells #[.int .i64 u, .int .i64 n] 52)) #[.int .i64 f, .int .i64 z0] 54
      rw [show (w.alloc (.cells #[.int .i64 u, .int .i64 n] 52)).heap.size = w.heap.size + 1 by simp] at B2
      exact ⟨rfl, Lib.hid (HM.out.alloc _ |>.alloc _), Lib.hid ((HB.out.alloc _).alloc _), Lib.hid (B1.alloc _), Lib.hid B2, Lib.hid (((Ch.refl _ _).alloc _).alloc _ |>.drew)⟩
  case rest =>
    obtain ⟨rfl, M2, B2, K2, T2, C2⟩ := hcut
    have x0 := B2.out.cell 0
    have x1 := K2.out.cell 0
    have x2 := K2.out.cell 1
    have x3 := T2.out.cell 0
    have x4 := T2.out.cell 1
    have y3 := T2.out.frozen 0
    have y4 := T2.out.frozen 1
    simp at x0 x1 x2 x3 x4
    have z1 := T2.out.lt
    have z2 := hbl
    generalize hH : w.heap.size = H at *
    have hHl : w.heap.size ≤ H := by omega
    clear hH
    go_upto_region 5 with (go_at_call 6; with_reducible refine (After_any _ _ (by omega) (by omega)).mono ?_; rintro e w1 ⟨rfl, nq, rfl⟩)
    have hgi : (if 100 < f + 1 then 100 else f + 1 : Int) = g := by have := HG.out; omega
    rw [hgi, show wrap64 (now + aft g) = now + aft g by unfold wrap64; omega]
    clear hgi
    have M3 := Lib.hid (((M2.out.set ⟨H + 1, 0, none⟩ (.int .i64 g)).keep ((Ch.refl [] _).drewN nq) (by simp)).set ⟨H + 1, 1, none⟩ (.int .i64 (now + aft g)))
    have B3 := Lib.hid (((B2.out.far (p := ⟨H + 1, 0, none⟩) (by simp; omega) (.int .i64 g)).drewN nq).far (p := ⟨H + 1, 1, none⟩) (by simp; omega) (.int .i64 (now + aft g)))
    have K3 := Lib.hid (((K2.out.far (p := ⟨H + 1, 0, none⟩) (by simp) (.int .i64 g)).drewN nq).far (p := ⟨H + 1, 1, none⟩) (by simp) (.int .i64 (now + aft g)))
    have T3 := Lib.hid (((T2.out.set 0 (.int .i64 g)).drewN nq).set 1 (.int .i64 (now + aft g)))
    have C3 := Lib.hid (((C2.out.setCell (p := ⟨H + 1, 0, none⟩) (.inr (by simp; omega)) (.int .i64 g)).drewN nq).setCell (p := ⟨H + 1, 1, none⟩) (.inr (by simp; omega)) (.int .i64 (now + aft g)))
    clear M2 B2 K2 T2 C2 x0 x1 x2 x3 x4 y3 y4 z1
    generalize ((wc.setCell ⟨H + 1, 0, none⟩ (.int .i64 g)).drewN nq).setCell ⟨H + 1, 1, none⟩ (.int .i64 (now + aft g)) = wd at *
    have x0 := B3.out.cell 0
    have x1 := K3.out.cell 0
    have x2 := K3.out.cell 1
    have x3 := T3.out.cell 0
    have x4 := T3.out.cell 1
    simp at x0 x1 x2 x3 x4
    obtain ⟨we, hrun, h1, h2⟩ := M3.out.drew.update k52 Try.underlying48 (x := (u, n)) hok (g, now + aft g)
    have M4 := Lib.hid h1
    have C4 := Lib.hid (show Ch [mb] wd we from ((Ch.refl [mb] wd).drew).trans h2)
    clear h1 h2
    have hrun' : (Instr.mapUpdate 48 (.map (some mb)) (.agg #[.int .i64 u, .int .i64 n]) (.agg #[.int .i64 g, .int .i64 (now + aft g)])).run Try.prog wd.drew = .ok () we := hrun
    clear hrun
    have x5 := (C4.out.blk T3.out (by simp; omega)).cell 1
    simp at x5
    go_region
    all_goals
      go_wp2
      go_ret
      exact ⟨rfl, ⟨C4.out.blk B3.out (by simpa using hne.out), M4.out⟩, C3.out.mono (by simp) |>.trans C4.out⟩
end Go.Proofs.Ytbamdihbpfdbjaa.R
