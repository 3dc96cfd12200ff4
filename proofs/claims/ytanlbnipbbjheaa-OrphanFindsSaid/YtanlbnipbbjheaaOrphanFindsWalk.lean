/- The walk of the law OrphanFinds: orphans are found, and go, as the document has it. -/
import Derived.Test.YtanlbnipbbjheaaOrphanCalls
import Derived.Test.YtanlbnipbbjheaaOrphanKinds
import Derived.Test.YtanlbnipbbjheaaKit2
namespace Go.Proofs.Ytanlbnipbbjheaa.orphanFindsWalk
open Go Go.RowKit Go.Proofs.Ytanlbnipbbjheaa.K Go.Proofs.YtanlbnipbbjheaaW.PrintWords Go.Proofs.Ytanlbnipbbjheaa.POrphanFinds Go.Proofs.Ytanlbnipbbjheaa.R Go.Proofs.Ytanlbnipbbjheaa.F
set_option linter.unusedVariables false
set_option linter.unusedSimpArgs false
theorem chD {w w' : World} (h : Drawn0 w w') : Ch [] w w' := by
  obtain ⟨n, rfl⟩ := h.out
  exact (Ch.refl _ _).drewN n
set_option maxRecDepth 100000 in
set_option maxHeartbeats 4000000 in
theorem core (A0 : Option Addr) (c0 : Nat) (l0 : List S28) (A1 : Option Addr) (c1 : Nat) (l1 : List Int) (w : World) (h0 : Kd.C k28 w A0 l0.length l0) (g0 : l0.length ≤ c0) (h1 : Kd.C (Kd.int .i64) w A1 l1.length l1) (g1 : l1.length ≤ c1) :
    Calls Try.prog 3 #[.slice A0 l0.length c0, .slice A1 l1.length c1] w fun e w' => e = .returned (.bool true) ∧ Below w.heap.size w w' := by
  by_cases hbig : 100 < l0.length ∨ 100 < l1.length
  · have hc : 100 < l0.length ∨ (l0.length ≤ 100 ∧ 100 < l1.length) := by omega
    clear hbig
    rcases hc with hc | ⟨hc, hc2⟩
    all_goals
      go_enter Try.func3, Try.ntmps3
      go_wp2_with fail
      refine (provostlaw32_works.calls 3000 true _ works_f).mono ?_
      rintro e w2 ⟨rfl, hb⟩
      have B2 := Lib.hid hb
      clear hb
      go_wp2_with fail
      go_ret
      exact ⟨rfl, B2.out⟩
  · have k0 : l0.length ≤ 100 := by omega
    have k1 : l1.length ≤ 100 := by omega
    have H0 := Lib.hid h0
    have H1 := Lib.hid h1
    clear hbig h0 h1
    go_enter Try.func3, Try.ntmps3
    go_wp2_with fail
    refine (RFind H0.out g0 H1.out g1 (by omega) (by omega)).mono ?_
    rintro e w2 ⟨A, c, rfl, gF, hF, hc⟩
    have HF := Lib.hid hF
    have C2 := Lib.hid hc
    have hfl := fo_len l0 l1
    obtain ⟨F, hFo⟩ : ∃ F, Fo l0 l1 = F := ⟨_, rfl⟩
    rw [hFo] at HF hfl gF ⊢
    have HFo := Lib.hid hFo
    clear hF hc hFo
    go_wp2_with fail
    have G0 := H0.out
    have A0C := Lib.hid (Kd.C_below H0.out C2.out.below0)
    have A1C := Lib.hid (Kd.C_below H1.out C2.out.below0)
    clear G0
    go_loopg [6, 7] F.length (fun kq v6 v7 wr => ∃ (k : Nat), kq + k = F.length ∧ v7 = .int .i64 k ∧ Hid (Kd.R (Kd.int .i64) 3 wr w2.heap.size (fun _ => True) v6 ((F.take k).map (·.f0))) ∧ Hid (Below w2.heap.size w2 wr))
    case atStart => exact ⟨0, by omega, by simp, Lib.hid (Kd.R_nil _ _ _ _ _), Lib.hid (Below.refl _ _)⟩
    case round =>
      obtain ⟨k, hk, rfl, R3, B3⟩ := hrel
      by_cases hlt : k < F.length
      · have p0 : (0 : Int) ≤ (k : Int) := by omega
        have q0 : (k : Int) < (F.length : Int) := by omega
        obtain ⟨ad, A3, c3, e, hx0, hx1, hx2, hx3, hl3, hi3⟩ := at_T28 (Kd.C_below HF.out B3.out) (k : Int) p0 q0
        cases e
        rw [rd28 hlt] at hx0
        have E3 := Lib.hid (show (F.take (k + 1)).map (·.f0) = (F.take k).map (·.f0) ++ [F[k].f0] by rw [List.take_succ_eq_append_getElem hlt, List.map_append]; rfl)
        have Lk := Lib.hid (show ((F.take k).map (·.f0)).length ≤ 100 by simp; omega)
        obtain ⟨z, hz⟩ : ∃ z, F[k].f0 = z := ⟨_, rfl⟩
        rw [hz] at hx0 E3
        clear hx1 hx2 hx3 hl3 hi3 hz
        try simp only [Int.toNat_natCast] at hx0
        go_wp2_with (at_builtin; refine Kd.R_append (Kd.int .i64) (w0 := w2) w2.heap.size rfl (.tmp 29) (.tmp 35) 23 3 (.int .i64 0) 8 rfl Try.underlying23 info3 rfl (by decide) (by omega) u6 ((F.take k).map (·.f0)) z [.int .i64 z] (fun _ => True) (fun _ => False) rfl rfl ?aP (fun _ hk => hk.elim) ?aF ?aO ?aB ?aS ?aL ?_; (case aP => rfl); (case aB => exact B3.out); (case aF => exact (fun _ _ => trivial)); (case aO => exact R3.out); (case aS => exact below_size B3.out); (case aL => have := Lk.out; omega); intro v4 w4 ho hb hg hat)
        rw [← E3.out] at ho
        have R4 := Lib.hid ho
        have B4 := Lib.hid hb
        clear ho hb hg hat
        go_wp2_with fail
        go_roundg (gk - 1)
        case measure => omega
        case rel => exact ⟨k + 1, by omega, by simp, R4, B4⟩
      · have hk' : k = F.length := by omega
        have R4 := Lib.hid (show Kd.R (Kd.int .i64) 3 wr w2.heap.size (fun _ => True) u6 (F.map (·.f0)) by have := R3.out; rwa [hk', List.take_length] at this)
        clear R3 hk hk'
        obtain ⟨ids, hids⟩ : ∃ ids, F.map (·.f0) = ids := ⟨_, rfl⟩
        have idl : ids.length ≤ 100 := by rw [← hids]; simp; omega
        rw [hids] at R4
        have HI := Lib.hid hids
        clear hids
        obtain ⟨A6, c6, hv6⟩ := Kd.R_slice R4.out
        subst hv6
        by_cases hF0 : F.length = 0
        · have e0 : decide (0 < (F.length : Int)) = false := decide_eq_false (by omega)
          have stp := Lib.hid (show orphan_Next.f 3000 l0 l1 = some (0, 0, 0, 0, 0, 0, ⟨#[]⟩, ⟨#[]⟩, false) by
            rw [next_f l0 l1 (by omega) (by omega), HFo.out, List.length_eq_zero_iff.1 hF0]; rfl)
          go_wp2_with fail
          with_reducible refine (orphan_Next.calls 3000 A0 c0 l0 A1 c1 l1 _ _ _ _ _ _ _ _ _ _ (Kd.C_below A0C.out B3.out) g0 (Kd.C_below A1C.out B3.out) g1 stp.out).mono ?_
          rintro e w5 ⟨rfl, hb⟩
          have B5 := Lib.hid (B3.out.trans (hb.mono B3.out.size))
          have R5 := Lib.hid (Kd.R_below R4.out hb)
          clear hb
          go_upto_region 15 with fail
          have X8 := Lib.hid ((blk_new w5 #[.int .i64 0, .int .i64 0, .int .i64 0, .int .i64 0, .int .i64 0, .int .i64 0, .string ⟨#[]⟩, .string ⟨#[]⟩] 30).alloc (.cells #[.int .i64 0, .int .i64 0, .int .i64 0, .int .i64 0, .int .i64 0, .int .i64 0, .string ⟨#[]⟩, .string ⟨#[]⟩] 30))
          have X10 := Lib.hid (show Blk ((w5.alloc (.cells #[.int .i64 0, .int .i64 0, .int .i64 0, .int .i64 0, .int .i64 0, .int .i64 0, .string ⟨#[]⟩, .string ⟨#[]⟩] 30)).alloc (.cells #[.int .i64 0, .int .i64 0, .int .i64 0, .int .i64 0, .int .i64 0, .int .i64 0, .string ⟨#[]⟩, .string ⟨#[]⟩] 30)) (w5.heap.size + 1) #[.int .i64 0, .int .i64 0, .int .i64 0, .int .i64 0, .int .i64 0, .int .i64 0, .string ⟨#[]⟩, .string ⟨#[]⟩] 30 by
            have := blk_new (w5.alloc (.cells #[.int .i64 0, .int .i64 0, .int .i64 0, .int .i64 0, .int .i64 0, .int .i64 0, .string ⟨#[]⟩, .string ⟨#[]⟩] 30)) #[.int .i64 0, .int .i64 0, .int .i64 0, .int .i64 0, .int .i64 0, .int .i64 0, .string ⟨#[]⟩, .string ⟨#[]⟩] 30
            rwa [show (w5.alloc (.cells #[.int .i64 0, .int .i64 0, .int .i64 0, .int .i64 0, .int .i64 0, .int .i64 0, .string ⟨#[]⟩, .string ⟨#[]⟩] 30)).heap.size = w5.heap.size + 1 by simp] at this)
          have B6 := Lib.hid (below_alloc (below_alloc B5.out (.cells #[.int .i64 0, .int .i64 0, .int .i64 0, .int .i64 0, .int .i64 0, .int .i64 0, .string ⟨#[]⟩, .string ⟨#[]⟩] 30)) (.cells #[.int .i64 0, .int .i64 0, .int .i64 0, .int .i64 0, .int .i64 0, .int .i64 0, .string ⟨#[]⟩, .string ⟨#[]⟩] 30))
          have R6 := Lib.hid (Kd.R_alloc (Kd.R_alloc R5.out (.cells #[.int .i64 0, .int .i64 0, .int .i64 0, .int .i64 0, .int .i64 0, .int .i64 0, .string ⟨#[]⟩, .string ⟨#[]⟩] 30)) (.cells #[.int .i64 0, .int .i64 0, .int .i64 0, .int .i64 0, .int .i64 0, .int .i64 0, .string ⟨#[]⟩, .string ⟨#[]⟩] 30))
          have stI := Lib.hid (show orphan_Find.f 3000 l0 l1 = some ids by rw [ids_f l0 l1 (by omega) (by omega), HFo.out, HI.out])
          go_wp2_with fail
          with_reducible refine (orphan_Find.calls 3000 A0 c0 l0 A1 c1 l1 _ _ (Kd.C_below A0C.out B6.out) g0 (Kd.C_below A1C.out B6.out) g1 stI.out).mono ?_
          rintro e w7 ⟨v7, rfl, hr, hb⟩
          obtain ⟨A7, c7, hv7⟩ := Kd.R_slice hr
          subst hv7
          have B7 := Lib.hid (B6.out.trans (hb.mono B6.out.size))
          have R7 := Lib.hid (Kd.R_below R6.out hb)
          have I7 := Lib.hid hr
          have X8' := Lib.hid ((chB hb).blk X8.out (by simp))
          have X10' := Lib.hid ((chB hb).blk X10.out (by simp))
          clear hr hb X8 X10
          have sm := Lib.hid (same_f ids (by omega))
          go_wp2_with fail
          with_reducible refine (provostbook_SameInts.calls 3000 A7 c7 ids A6 c6 ids true _ (Kd.R_reads' I7.out).2.2 (Kd.R_reads' I7.out).2.1 (Kd.R_reads' R7.out).2.2 (Kd.R_reads' R7.out).2.1 sm.out).mono ?_
          rintro e w8 ⟨rfl, hb⟩
          have hc : Ch [] w7 w8 := by first | exact chB hb | exact chD hb
          have B8 := Lib.hid (B7.out.trans (hc.below0.mono B7.out.size))
          have Y8 := hc.blk X8'.out (by simp)
          have Y10 := hc.blk X10'.out (by simp)
          have v80 := Y8.cell 0
          have v81 := Y8.cell 1
          have v82 := Y8.cell 2
          have v83 := Y8.cell 3
          have v84 := Y8.cell 4
          have v85 := Y8.cell 5
          have v86 := Y8.cell 6
          have v87 := Y8.cell 7
          have va0 := Y10.cell 0
          have va1 := Y10.cell 1
          have va2 := Y10.cell 2
          have va3 := Y10.cell 3
          have va4 := Y10.cell 4
          have va5 := Y10.cell 5
          have va6 := Y10.cell 6
          have va7 := Y10.cell 7
          simp at v80 v81 v82 v83 v84 v85 v86 v87 va0 va1 va2 va3 va4 va5 va6 va7
          clear hb hc Y8 Y10 X8' X10'
          have stL := Lib.hid (show orphan_Left.f 3000 l0 l1 = some (twos F) by rw [left_f l0 l1 (by omega) (by omega), HFo.out])
          have stR := Lib.hid (show provostref32_Left.f 3000 l0 l1 = some (twos F) by rw [rleft_f l0 l1 (by omega) (by omega), HFo.out])
          go_wp2_with fail
          with_reducible refine (orphan_Left.calls 3000 A0 c0 l0 A1 c1 l1 _ _ (Kd.C_below A0C.out B8.out) g0 (Kd.C_below A1C.out B8.out) g1 stL.out).mono ?_
          rintro e w9 ⟨rfl, hb⟩
          have B9 := Lib.hid (B8.out.trans (hb.mono B8.out.size))
          clear hb v80 v81 v82 v83 v84 v85 v86 v87 va0 va1 va2 va3 va4 va5 va6 va7
          go_wp2_with fail
          with_reducible refine (provostref32_Left.calls 3000 A0 c0 l0 A1 c1 l1 _ _ (Kd.C_below A0C.out B9.out) g0 (Kd.C_below A1C.out B9.out) g1 stR.out).mono ?_
          rintro e w10 ⟨rfl, hb⟩
          have B10 := Lib.hid (B9.out.trans (hb.mono B9.out.size))
          clear hb
          go_wp2_with fail
          refine (provostlaw32_works.calls 3000 true _ works_f).mono ?_
          rintro e w11 ⟨rfl, hb⟩
          have B11 := Lib.hid (B10.out.trans (hb.mono B10.out.size))
          clear hb
          go_wp2_with fail
          go_ret
          exact ⟨rfl, C2.out.below0.trans (B11.out.mono C2.out.size)⟩
        · have e0 : decide (0 < (F.length : Int)) = true := decide_eq_true (by omega)
          have e1 : (0 : Int) < (F.length : Int) := by omega
          obtain ⟨ad, A3, c3, e, hx0, hx1, hx2, hx3, hl3, hi3⟩ := at_T28 (Kd.C_below HF.out B3.out) (0 : Int) (by omega) e1
          cases e
          have hr0 : rd_T28 F 0 = F[0] := rd28 (i := 0) (by omega)
          rw [hr0] at hx0 hx2
          have ea : ad.add ((0 : Int).toNat * 4) = ad := by simp [Addr.add]
          rw [ea] at hx0 hx2
          obtain ⟨fb, fo, rfl⟩ := spot0 hx0
          obtain ⟨b0, hb0⟩ : ∃ b0, F[0] = b0 := ⟨_, rfl⟩
          rw [hb0] at hx0 hx2
          have HB0 := Lib.hid (show F[0]? = some b0 by rw [List.getElem?_eq_getElem (by omega), hb0])
          obtain ⟨z0, hz0'⟩ : ∃ z0, b0.f0 = z0 := ⟨_, rfl⟩
          have hz0 := Lib.hid hz0'
          rw [hz0'] at hx0
          have y0 := hx0
          have y2 := hx2
          clear hx0 hx1 hx2 hx3 hl3 hi3 ea hr0 hz0' hb0
          obtain ⟨z2, hz2'⟩ : ∃ z2, b0.f2 = z2 := ⟨_, rfl⟩
          rw [hz2'] at y2
          by_cases h1 : z2 = 1
          · subst h1
            have hz2 := Lib.hid hz2'
            clear hz2'
            have stp := Lib.hid (show orphan_Next.f 3000 l0 l1 = some (10, z0, 0, 0, 0, 0, ⟨#[]⟩, ⟨#[]⟩, true) by
              rw [next_f l0 l1 (by omega) (by omega), HFo.out]
              have hb0 := HB0.out
              have hst := hz2.out
              rcases F with _ | ⟨y, F'⟩
              · simp at hF0
              · have e : y = b0 := by simpa using hb0
                subst e
                simp [stepOf, hst, hz0.out])
            go_wp2_with fail
            with_reducible refine (orphan_Next.calls 3000 A0 c0 l0 A1 c1 l1 _ _ _ _ _ _ _ _ _ _ (Kd.C_below A0C.out B3.out) g0 (Kd.C_below A1C.out B3.out) g1 stp.out).mono ?_
            rintro e w5 ⟨rfl, hb⟩
            have B5 := Lib.hid (B3.out.trans (hb.mono B3.out.size))
            have R5 := Lib.hid (Kd.R_below R4.out hb)
            have x0 := (chB hb).get y0
            have x2 := (chB hb).get y2
            have hgl : fb < w5.heap.size := World.block_lt_of_cell? w5 _ x0
            clear hb y0 y2
            go_upto_region 15 with fail
            have X8 := Lib.hid ((blk_new w5 #[.int .i64 10, .int .i64 z0, .int .i64 0, .int .i64 0, .int .i64 0, .int .i64 0, .string ⟨#[]⟩, .string ⟨#[]⟩] 30).alloc (.cells #[.int .i64 10, .int .i64 z0, .int .i64 0, .int .i64 0, .int .i64 0, .int .i64 0, .string ⟨#[]⟩, .string ⟨#[]⟩] 30))
            have X10 := Lib.hid (show Blk ((w5.alloc (.cells #[.int .i64 10, .int .i64 z0, .int .i64 0, .int .i64 0, .int .i64 0, .int .i64 0, .string ⟨#[]⟩, .string ⟨#[]⟩] 30)).alloc (.cells #[.int .i64 10, .int .i64 z0, .int .i64 0, .int .i64 0, .int .i64 0, .int .i64 0, .string ⟨#[]⟩, .string ⟨#[]⟩] 30)) (w5.heap.size + 1) #[.int .i64 10, .int .i64 z0, .int .i64 0, .int .i64 0, .int .i64 0, .int .i64 0, .string ⟨#[]⟩, .string ⟨#[]⟩] 30 by
              have := blk_new (w5.alloc (.cells #[.int .i64 10, .int .i64 z0, .int .i64 0, .int .i64 0, .int .i64 0, .int .i64 0, .string ⟨#[]⟩, .string ⟨#[]⟩] 30)) #[.int .i64 10, .int .i64 z0, .int .i64 0, .int .i64 0, .int .i64 0, .int .i64 0, .string ⟨#[]⟩, .string ⟨#[]⟩] 30
              rwa [show (w5.alloc (.cells #[.int .i64 10, .int .i64 z0, .int .i64 0, .int .i64 0, .int .i64 0, .int .i64 0, .string ⟨#[]⟩, .string ⟨#[]⟩] 30)).heap.size = w5.heap.size + 1 by simp] at this)
            have B6 := Lib.hid (below_alloc (below_alloc B5.out (.cells #[.int .i64 10, .int .i64 z0, .int .i64 0, .int .i64 0, .int .i64 0, .int .i64 0, .string ⟨#[]⟩, .string ⟨#[]⟩] 30)) (.cells #[.int .i64 10, .int .i64 z0, .int .i64 0, .int .i64 0, .int .i64 0, .int .i64 0, .string ⟨#[]⟩, .string ⟨#[]⟩] 30))
            have R6 := Lib.hid (Kd.R_alloc (Kd.R_alloc R5.out (.cells #[.int .i64 10, .int .i64 z0, .int .i64 0, .int .i64 0, .int .i64 0, .int .i64 0, .string ⟨#[]⟩, .string ⟨#[]⟩] 30)) (.cells #[.int .i64 10, .int .i64 z0, .int .i64 0, .int .i64 0, .int .i64 0, .int .i64 0, .string ⟨#[]⟩, .string ⟨#[]⟩] 30))
            have stI := Lib.hid (show orphan_Find.f 3000 l0 l1 = some ids by rw [ids_f l0 l1 (by omega) (by omega), HFo.out, HI.out])
            go_wp2_with fail
            with_reducible refine (orphan_Find.calls 3000 A0 c0 l0 A1 c1 l1 _ _ (Kd.C_below A0C.out B6.out) g0 (Kd.C_below A1C.out B6.out) g1 stI.out).mono ?_
            rintro e w7 ⟨v7, rfl, hr, hb⟩
            obtain ⟨A7, c7, hv7⟩ := Kd.R_slice hr
            subst hv7
            have B7 := Lib.hid (B6.out.trans (hb.mono B6.out.size))
            have R7 := Lib.hid (Kd.R_below R6.out hb)
            have I7 := Lib.hid hr
            have X8' := Lib.hid ((chB hb).blk X8.out (by simp))
            have X10' := Lib.hid ((chB hb).blk X10.out (by simp))
            clear hr hb X8 X10
            have sm := Lib.hid (same_f ids (by omega))
            go_wp2_with fail
            with_reducible refine (provostbook_SameInts.calls 3000 A7 c7 ids A6 c6 ids true _ (Kd.R_reads' I7.out).2.2 (Kd.R_reads' I7.out).2.1 (Kd.R_reads' R7.out).2.2 (Kd.R_reads' R7.out).2.1 sm.out).mono ?_
            rintro e w8 ⟨rfl, hb⟩
            have hc : Ch [] w7 w8 := by first | exact chB hb | exact chD hb
            have B8 := Lib.hid (B7.out.trans (hc.below0.mono B7.out.size))
            have Y8 := hc.blk X8'.out (by simp)
            have Y10 := hc.blk X10'.out (by simp)
            have v80 := Y8.cell 0
            have v81 := Y8.cell 1
            have v82 := Y8.cell 2
            have v83 := Y8.cell 3
            have v84 := Y8.cell 4
            have v85 := Y8.cell 5
            have v86 := Y8.cell 6
            have v87 := Y8.cell 7
            have va0 := Y10.cell 0
            have va1 := Y10.cell 1
            have va2 := Y10.cell 2
            have va3 := Y10.cell 3
            have va4 := Y10.cell 4
            have va5 := Y10.cell 5
            have va6 := Y10.cell 6
            have va7 := Y10.cell 7
            simp at v80 v81 v82 v83 v84 v85 v86 v87 va0 va1 va2 va3 va4 va5 va6 va7
            clear hb hc Y8 Y10 X8' X10'
            have stL := Lib.hid (show orphan_Left.f 3000 l0 l1 = some (twos F) by rw [left_f l0 l1 (by omega) (by omega), HFo.out])
            have stR := Lib.hid (show provostref32_Left.f 3000 l0 l1 = some (twos F) by rw [rleft_f l0 l1 (by omega) (by omega), HFo.out])
            go_wp2_with fail
            with_reducible refine (orphan_Left.calls 3000 A0 c0 l0 A1 c1 l1 _ _ (Kd.C_below A0C.out B8.out) g0 (Kd.C_below A1C.out B8.out) g1 stL.out).mono ?_
            rintro e w9 ⟨rfl, hb⟩
            have B9 := Lib.hid (B8.out.trans (hb.mono B8.out.size))
            clear hb v80 v81 v82 v83 v84 v85 v86 v87 va0 va1 va2 va3 va4 va5 va6 va7
            go_wp2_with fail
            with_reducible refine (provostref32_Left.calls 3000 A0 c0 l0 A1 c1 l1 _ _ (Kd.C_below A0C.out B9.out) g0 (Kd.C_below A1C.out B9.out) g1 stR.out).mono ?_
            rintro e w10 ⟨rfl, hb⟩
            have B10 := Lib.hid (B9.out.trans (hb.mono B9.out.size))
            clear hb
            go_wp2_with fail
            refine (provostlaw32_works.calls 3000 true _ works_f).mono ?_
            rintro e w11 ⟨rfl, hb⟩
            have B11 := Lib.hid (B10.out.trans (hb.mono B10.out.size))
            clear hb
            go_wp2_with fail
            go_ret
            exact ⟨rfl, C2.out.below0.trans (B11.out.mono C2.out.size)⟩
          · have hz2 := Lib.hid (show ¬ b0.f2 = 1 by rw [hz2']; exact h1)
            have e2 : (z2 == 1) = false := beq_eq_false_iff_ne.2 h1
            clear hz2'
            have stp := Lib.hid (show orphan_Next.f 3000 l0 l1 = some (11, z0, 0, 0, 0, 0, ⟨#[]⟩, ⟨#[]⟩, true) by
              rw [next_f l0 l1 (by omega) (by omega), HFo.out]
              have hb0 := HB0.out
              have hst := hz2.out
              rcases F with _ | ⟨y, F'⟩
              · simp at hF0
              · have e : y = b0 := by simpa using hb0
                subst e
                simp [stepOf, hst, hz0.out])
            go_wp2_with fail
            with_reducible refine (orphan_Next.calls 3000 A0 c0 l0 A1 c1 l1 _ _ _ _ _ _ _ _ _ _ (Kd.C_below A0C.out B3.out) g0 (Kd.C_below A1C.out B3.out) g1 stp.out).mono ?_
            rintro e w5 ⟨rfl, hb⟩
            have B5 := Lib.hid (B3.out.trans (hb.mono B3.out.size))
            have R5 := Lib.hid (Kd.R_below R4.out hb)
            have x0 := (chB hb).get y0
            have x2 := (chB hb).get y2
            have hgl : fb < w5.heap.size := World.block_lt_of_cell? w5 _ x0
            clear hb y0 y2
            go_upto_region 15 with fail
            have X8 := Lib.hid ((blk_new w5 #[.int .i64 11, .int .i64 z0, .int .i64 0, .int .i64 0, .int .i64 0, .int .i64 0, .string ⟨#[]⟩, .string ⟨#[]⟩] 30).alloc (.cells #[.int .i64 11, .int .i64 z0, .int .i64 0, .int .i64 0, .int .i64 0, .int .i64 0, .string ⟨#[]⟩, .string ⟨#[]⟩] 30))
            have X10 := Lib.hid (show Blk ((w5.alloc (.cells #[.int .i64 11, .int .i64 z0, .int .i64 0, .int .i64 0, .int .i64 0, .int .i64 0, .string ⟨#[]⟩, .string ⟨#[]⟩] 30)).alloc (.cells #[.int .i64 11, .int .i64 z0, .int .i64 0, .int .i64 0, .int .i64 0, .int .i64 0, .string ⟨#[]⟩, .string ⟨#[]⟩] 30)) (w5.heap.size + 1) #[.int .i64 11, .int .i64 z0, .int .i64 0, .int .i64 0, .int .i64 0, .int .i64 0, .string ⟨#[]⟩, .string ⟨#[]⟩] 30 by
              have := blk_new (w5.alloc (.cells #[.int .i64 11, .int .i64 z0, .int .i64 0, .int .i64 0, .int .i64 0, .int .i64 0, .string ⟨#[]⟩, .string ⟨#[]⟩] 30)) #[.int .i64 11, .int .i64 z0, .int .i64 0, .int .i64 0, .int .i64 0, .int .i64 0, .string ⟨#[]⟩, .string ⟨#[]⟩] 30
              rwa [show (w5.alloc (.cells #[.int .i64 11, .int .i64 z0, .int .i64 0, .int .i64 0, .int .i64 0, .int .i64 0, .string ⟨#[]⟩, .string ⟨#[]⟩] 30)).heap.size = w5.heap.size + 1 by simp] at this)
            have B6 := Lib.hid (below_alloc (below_alloc B5.out (.cells #[.int .i64 11, .int .i64 z0, .int .i64 0, .int .i64 0, .int .i64 0, .int .i64 0, .string ⟨#[]⟩, .string ⟨#[]⟩] 30)) (.cells #[.int .i64 11, .int .i64 z0, .int .i64 0, .int .i64 0, .int .i64 0, .int .i64 0, .string ⟨#[]⟩, .string ⟨#[]⟩] 30))
            have R6 := Lib.hid (Kd.R_alloc (Kd.R_alloc R5.out (.cells #[.int .i64 11, .int .i64 z0, .int .i64 0, .int .i64 0, .int .i64 0, .int .i64 0, .string ⟨#[]⟩, .string ⟨#[]⟩] 30)) (.cells #[.int .i64 11, .int .i64 z0, .int .i64 0, .int .i64 0, .int .i64 0, .int .i64 0, .string ⟨#[]⟩, .string ⟨#[]⟩] 30))
            have stI := Lib.hid (show orphan_Find.f 3000 l0 l1 = some ids by rw [ids_f l0 l1 (by omega) (by omega), HFo.out, HI.out])
            go_wp2_with fail
            with_reducible refine (orphan_Find.calls 3000 A0 c0 l0 A1 c1 l1 _ _ (Kd.C_below A0C.out B6.out) g0 (Kd.C_below A1C.out B6.out) g1 stI.out).mono ?_
            rintro e w7 ⟨v7, rfl, hr, hb⟩
            obtain ⟨A7, c7, hv7⟩ := Kd.R_slice hr
            subst hv7
            have B7 := Lib.hid (B6.out.trans (hb.mono B6.out.size))
            have R7 := Lib.hid (Kd.R_below R6.out hb)
            have I7 := Lib.hid hr
            have X8' := Lib.hid ((chB hb).blk X8.out (by simp))
            have X10' := Lib.hid ((chB hb).blk X10.out (by simp))
            clear hr hb X8 X10
            have sm := Lib.hid (same_f ids (by omega))
            go_wp2_with fail
            with_reducible refine (provostbook_SameInts.calls 3000 A7 c7 ids A6 c6 ids true _ (Kd.R_reads' I7.out).2.2 (Kd.R_reads' I7.out).2.1 (Kd.R_reads' R7.out).2.2 (Kd.R_reads' R7.out).2.1 sm.out).mono ?_
            rintro e w8 ⟨rfl, hb⟩
            have hc : Ch [] w7 w8 := by first | exact chB hb | exact chD hb
            have B8 := Lib.hid (B7.out.trans (hc.below0.mono B7.out.size))
            have Y8 := hc.blk X8'.out (by simp)
            have Y10 := hc.blk X10'.out (by simp)
            have v80 := Y8.cell 0
            have v81 := Y8.cell 1
            have v82 := Y8.cell 2
            have v83 := Y8.cell 3
            have v84 := Y8.cell 4
            have v85 := Y8.cell 5
            have v86 := Y8.cell 6
            have v87 := Y8.cell 7
            have va0 := Y10.cell 0
            have va1 := Y10.cell 1
            have va2 := Y10.cell 2
            have va3 := Y10.cell 3
            have va4 := Y10.cell 4
            have va5 := Y10.cell 5
            have va6 := Y10.cell 6
            have va7 := Y10.cell 7
            simp at v80 v81 v82 v83 v84 v85 v86 v87 va0 va1 va2 va3 va4 va5 va6 va7
            clear hb hc Y8 Y10 X8' X10'
            have stL := Lib.hid (show orphan_Left.f 3000 l0 l1 = some (twos F) by rw [left_f l0 l1 (by omega) (by omega), HFo.out])
            have stR := Lib.hid (show provostref32_Left.f 3000 l0 l1 = some (twos F) by rw [rleft_f l0 l1 (by omega) (by omega), HFo.out])
            go_wp2_with fail
            with_reducible refine (orphan_Left.calls 3000 A0 c0 l0 A1 c1 l1 _ _ (Kd.C_below A0C.out B8.out) g0 (Kd.C_below A1C.out B8.out) g1 stL.out).mono ?_
            rintro e w9 ⟨rfl, hb⟩
            have B9 := Lib.hid (B8.out.trans (hb.mono B8.out.size))
            clear hb v80 v81 v82 v83 v84 v85 v86 v87 va0 va1 va2 va3 va4 va5 va6 va7
            go_wp2_with fail
            with_reducible refine (provostref32_Left.calls 3000 A0 c0 l0 A1 c1 l1 _ _ (Kd.C_below A0C.out B9.out) g0 (Kd.C_below A1C.out B9.out) g1 stR.out).mono ?_
            rintro e w10 ⟨rfl, hb⟩
            have B10 := Lib.hid (B9.out.trans (hb.mono B9.out.size))
            clear hb
            go_wp2_with fail
            refine (provostlaw32_works.calls 3000 true _ works_f).mono ?_
            rintro e w11 ⟨rfl, hb⟩
            have B11 := Lib.hid (B10.out.trans (hb.mono B10.out.size))
            clear hb
            go_wp2_with fail
            go_ret
            exact ⟨rfl, C2.out.below0.trans (B11.out.mono C2.out.size)⟩
/-- What is told of the sandboxes, and of the pods, that come in. -/
def InB (w : World) (a : Option Addr) (len cap : Nat) : Prop := ∃ l : List S28, l.length = len ∧ l.length ≤ cap ∧ Kd.C k28 w a l.length l ∧ l.length ≤ maxLen
def InU (w : World) (a : Option Addr) (len cap : Nat) : Prop := ∃ l : List Int, l.length = len ∧ l.length ≤ cap ∧ Kd.C (Kd.int .i64) w a l.length l ∧ l.length ≤ maxLen
theorem walk (a0 : Option Addr) (len0 cap0 : Nat) (a1 : Option Addr) (len1 cap1 : Nat) (w : World) (w0 : InB w a0 len0 cap0) (w1 : InU w a1 len1 cap1) :
    Calls Try.prog 3 #[.slice a0 len0 cap0, .slice a1 len1 cap1] w fun e w' => e = .returned (.bool true) ∧ Below w.heap.size w w' := by
  obtain ⟨l, rfl, hc, hC, _⟩ := w0
  obtain ⟨m, rfl, hd, hD, _⟩ := w1
  exact core a0 cap0 l a1 cap1 m w hC hc hD hd
end Go.Proofs.Ytanlbnipbbjheaa.orphanFindsWalk
