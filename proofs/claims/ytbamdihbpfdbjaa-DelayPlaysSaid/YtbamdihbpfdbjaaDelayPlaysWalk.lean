/- The walk of the law DelayPlays: the book answers as the document has it. -/
import Derived.Test.YtbamdihbpfdbjaaRefCalls
import Derived.Test.YtbamdihbpfdbjaaDelayNextWalk
import Derived.Deep.CutBlock
import Derived.Deep.DeepCutAuto
namespace Go.Proofs.Ytbamdihbpfdbjaa.delayPlaysWalk
open Go Go.RowKit Go.Proofs.Ytbamdihbpfdbjaa.K Go.Proofs.Ytbamdihbpfdbjaa.R Go.Proofs.Ytbamdihbpfdbjaa.PDelayPlays Go.Proofs.Ytbamdihbpfdbjaa.delayNextWalk
set_option linter.unusedVariables false
set_option linter.unusedSimpArgs false
/-- What is told of a book's list: failures and ticks are small. -/
def Iv (l : List E) (now : Int) : Prop := ∀ p ∈ l, (1 ≤ p.2.1 ∧ p.2.1 ≤ 100) ∧ 0 ≤ p.2.2 ∧ p.2.2 ≤ now + 32
theorem iv_att {l : List E} {now : Int} (h : Iv l now) (hn : 0 ≤ now) (x : Int × Int) : (0 ≤ (att l x).1 ∧ (att l x).1 ≤ 100) ∧ 0 ≤ (att l x).2 ∧ (att l x).2 ≤ now + 32 := by
  unfold att
  rcases hl : mlook l x with _ | y
  · simp; omega
  · have := h _ (mlook_mem hl)
    simp at this ⊢
    omega
theorem iv_put {l : List E} {now now' u n f : Int} (h : Iv l now) (hn : now ≤ now') (h0 : 0 ≤ now) (hf : 1 ≤ f ∧ f ≤ 100) : Iv (mput l (u, n) (f, now' + aft f)) now' := by
  have ab := aft_bd f
  intro p hp
  unfold mput at hp
  split at hp
  · obtain ⟨q, hq, rfl⟩ := List.mem_map.1 hp
    have := h q hq
    split
    · simp; omega
    · omega
  · rcases List.mem_append.1 hp with hp | hp
    · have := h p hp; omega
    · simp at hp; subst hp; simp; omega
theorem iv_sub {l l' : List E} {now now' : Int} (h : Iv l now) (hn : now ≤ now') (hs : ∀ p ∈ l', p ∈ l) : Iv l' now' := fun p hp => by
  have := h p (hs p hp)
  omega
theorem mput_len (l : List E) (x y : Int × Int) : (mput l x y).length ≤ l.length + 1 := by
  unfold mput
  split <;> simp
set_option maxRecDepth 100000 in
set_option maxHeartbeats 4000000 in
theorem walk (a0 : Option Addr) (len0 cap0 : Nat) (x1 x2 : Int) (w : World) (w0 : len0 = 0 ∨ ∃ b off, a0 = some ⟨b, off, none⟩ ∧ b < w.heap.size ∧ ∀ i, i < len0 → (∃ z : Int, w.cell? ⟨b, off + (i * 4 + 0), none⟩ = some (.int .i64 z) ∧ (Lit.int .i64 z).wf = true) ∧ (∃ z : Int, w.cell? ⟨b, off + (i * 4 + 1), none⟩ = some (.int .i64 z) ∧ (Lit.int .i64 z).wf = true) ∧ (∃ z : Int, w.cell? ⟨b, off + (i * 4 + 2), none⟩ = some (.int .i64 z) ∧ (Lit.int .i64 z).wf = true) ∧ (∃ z : Int, w.cell? ⟨b, off + (i * 4 + 3), none⟩ = some (.int .i64 z) ∧ (Lit.int .i64 z).wf = true)) (w1 : (Lit.int .i64 x1).wf = true) (w2 : (Lit.int .i64 x2).wf = true) :
    Calls Try.prog 5 #[.slice a0 len0 cap0, .int .i64 x1, .int .i64 x2] w fun e w' => e = .returned (.bool true) ∧ Below w.heap.size w w' := by
  have W0 := Lib.hid w0
  have OK := Lib.hid (show okK (x1, x2) from ⟨w1, w2⟩)
  clear w0 w1 w2
  go_enter Try.func5, Try.ntmps5
  go_wp2_with fail
  refine (New_any _).mono ?_
  rintro e w2 ⟨b, mb, rfl, hb, hge, hge2, hc⟩
  have B2 := Lib.hid hb
  have C2 := Lib.hid hc
  have N1 := Lib.hid hge
  have N2 := Lib.hid hge2
  clear hb hc hge hge2
  go_wp2_with fail
  go_loopg [8, 9, 10] 100 (fun kq v8 v9 v10 wr => ∃ (k : Nat) (now : Int) (l : List E) (A : Option Addr) (c : Nat), kq + k = 100 ∧ k ≤ len0 ∧ v10 = .int .i64 k ∧ v9 = .int .i64 now ∧ v8 = .slice A l.length c ∧ 0 ≤ now ∧ now ≤ 1000 * k ∧ l.length ≤ k ∧ Hid (BookIs wr b mb l) ∧ Hid (QIs wr A c l) ∧ Hid (Iv l now) ∧ Hid (Ch [] w wr))
  case atStart => exact ⟨0, 0, [], none, 0, by omega, by omega, by simp, rfl, rfl, by omega, by omega, by simp, B2, Lib.hid (QIs.nil _), Lib.hid (by intro p hp; simp at hp), C2⟩
  case round =>
    obtain ⟨k, now, l, A, c, hkq, hk, rfl, rfl, rfl, hn0, hn1, hlk, B3, Q3, I3, C3⟩ := hrel
    by_cases hlt : k < len0 ∧ k < 100
    · obtain ⟨hk1, hk2⟩ := hlt
      obtain ⟨rb, off, rfl, hrb, hrow⟩ := W0.out.resolve_left (by omega)
      obtain ⟨⟨z0, y0, g0⟩, ⟨z1, y1, g1⟩, ⟨z2, y2, g2⟩, ⟨z3, y3, _⟩⟩ := hrow k hk1
      have q0 := C3.out.get y0
      have q1 := C3.out.get y1
      have q2 := C3.out.get y2
      have q3 := C3.out.get y3
      simp only [Nat.add_zero, ← Nat.add_assoc] at q0 q1 q2 q3
      clear y0 y1 y2 y3
      have ok := Lib.hid (show okK (z1, z2) from ⟨g1, g2⟩)
      have ok0 := Lib.hid (show okK (z1, 0) from ⟨g1, WalkArith.wf_i64 (by simp only; omega)⟩)
      obtain ⟨b0, b0'⟩ := bounds_i64 g0
      clear g0 g1 g2
      have tb := tk_bd z3
      go_wp2_with fail
      refine (ticks_any z0 z1 z2 z3 _).mono ?_
      rintro e w4 ⟨rfl, hb⟩
      have hc4 := ((Ch.refl [] wr).alloc _).trans (chBelow hb)
      have X := (chBelow hb).blk (blk_new wr #[.int .i64 z0, .int .i64 z1, .int .i64 z2, .int .i64 z3] 30) (by simp)
      have C4 := Lib.hid (C3.out.trans hc4)
      have B4 := Lib.hid (B3.out.keep hc4 (by simp) (by simp))
      have Q4 := Lib.hid (Q3.out.ch0 hc4)
      clear hb hc4 q0 q1 q2 q3
      have hH : w.heap.size ≤ wr.heap.size := C3.out.size
      have hne : Hid (wr.heap.size ≠ mb) := Lib.hid (by have := B3.out.2.lt; omega)
      generalize wr.heap.size = H at *
      have X4 := Lib.hid X
      clear X B3 Q3 C3
      have x0 := X4.out.cell 0
      have x1' := X4.out.cell 1
      have x2' := X4.out.cell 2
      have x3 := X4.out.cell 3
      simp at x0 x1' x2' x3
      go_upto_block 2 with fail
      obtain ⟨t, ht⟩ : ∃ t, now + tk z3 = t := ⟨_, rfl⟩
      have ht0 : now ≤ t := by omega
      have ht1 : t ≤ 1000 * (k + 1 : Nat) := by omega
      rw [ht]
      clear ht tb
      go_cut [8, 12] (fun s8 s12 wx => s12 = .bool true ∧ ∃ (l' : List E) (A' : Option Addr) (c' : Nat), s8 = .slice A' l'.length c' ∧ l'.length ≤ k + 1 ∧ Hid (BookIs wx b mb l') ∧ Hid (QIs wx A' c' l') ∧ Hid (Iv l' t) ∧ Hid (Ch [] w wx))
      case first =>
        by_cases k0 : z0 = 0
        · subst k0
          obtain ⟨⟨hf0, hf1⟩, _, _⟩ := iv_att I3.out hn0 (z1, z2)
          obtain ⟨f, hf⟩ : ∃ f, (att l (z1, z2)).1 = f := ⟨_, rfl⟩
          rw [hf] at hf0 hf1
          have HF := Lib.hid hf
          clear hf
          have I5 := Lib.hid (iv_put (u := z1) (n := z2) (f := min (f + 1) 100) I3.out ht0 hn0 (by omega))
          have L5 := mput_len l (z1, z2) (min (f + 1) 100, t + aft (min (f + 1) 100))
          go_wp2_with fail
          refine (RFail z1 z2 t Q4.out (by omega) B4.out.2.nodup (by omega) (by omega) f HF.out hf0 hf1).mono ?_
          rintro e w5 ⟨A', c', rfl, hq, hc⟩
          have Q5 := Lib.hid hq
          have B5 := Lib.hid (B4.out.keep hc (by simp) (by simp))
          have C5 := Lib.hid (C4.out.trans hc)
          have X5 := Lib.hid (hc.blk X4.out (by simp))
          clear hq hc x0 x1' x2' x3
          have x0 := X5.out.cell 0
          have x1' := X5.out.cell 1
          have x2' := X5.out.cell 2
          simp at x0 x1' x2'
          obtain ⟨l', hl'⟩ : ∃ l', mput l (z1, z2) (min (f + 1) 100, t + aft (min (f + 1) 100)) = l' := ⟨_, rfl⟩
          rw [hl'] at Q5 I5 L5 ⊢
          have HL := Lib.hid hl'
          clear hl'
          go_wp2_with fail
          refine (Fail_any b mb l z1 z2 t f _ B5.out ok.out (by omega) (by omega) HF.out hf0 hf1).mono ?_
          rw [HL.out]
          rintro e w6 ⟨rfl, hb, hc⟩
          have B6 := Lib.hid hb
          have Q6 := Lib.hid (Q5.out.map B5.out.2 hc)
          have C6 := Lib.hid (C5.out.trans' hc (in1 N2.out))
          clear hb hc
          go_wp2_with fail
          go_meet
          exact ⟨rfl, l', A', c', rfl, by omega, B6, Q6, I5, C6⟩
        · have e0 : (z0 == 0) = false := beq_eq_false_iff_ne.2 k0
          by_cases k1 : z0 = 1
          · subst k1
            have I5 := Lib.hid (iv_sub (l' := mdel l (z1, z2)) I3.out ht0 (fun p hp => (List.mem_filter.1 hp).1))
            have L5 : (mdel l (z1, z2)).length ≤ l.length := List.length_filter_le _ _
            go_wp2_with fail
            refine (RGood z1 z2 Q4.out (by omega)).mono ?_
            rintro e w5 ⟨A', c', rfl, hq, hc⟩
            have Q5 := Lib.hid hq
            have B5 := Lib.hid (B4.out.keep hc (by simp) (by simp))
            have C5 := Lib.hid (C4.out.trans hc)
            have X5 := Lib.hid (hc.blk X4.out (by simp))
            clear hq hc x0 x1' x2' x3
            have x0 := X5.out.cell 0
            have x1' := X5.out.cell 1
            have x2' := X5.out.cell 2
            simp at x0 x1' x2'
            obtain ⟨l', hl'⟩ : ∃ l', mdel l (z1, z2) = l' := ⟨_, rfl⟩
            rw [hl'] at Q5 I5 L5 ⊢
            have HL := Lib.hid hl'
            clear hl'
            go_wp2_with fail
            refine (Good_any b mb l z1 z2 _ B5.out ok.out).mono ?_
            rw [HL.out]
            rintro e w6 ⟨rfl, hb, hc⟩
            have B6 := Lib.hid hb
            have Q6 := Lib.hid (Q5.out.map B5.out.2 hc)
            have C6 := Lib.hid (C5.out.trans' hc (in1 N2.out))
            clear hb hc
            go_wp2_with fail
            go_meet
            exact ⟨rfl, l', A', c', rfl, by omega, B6, Q6, I5, C6⟩
          · have e1 : (z0 == 1) = false := beq_eq_false_iff_ne.2 k1
            have I5 := Lib.hid (iv_sub (l' := l.filter (fun p => decide (p.1.1 ≠ z1))) I3.out ht0 (fun p hp => (List.mem_filter.1 hp).1))
            have L5 : (l.filter (fun p => decide (p.1.1 ≠ z1))).length ≤ l.length := List.length_filter_le _ _
            go_wp2_with fail
            refine (RGoodAll z1 0 Q4.out (by omega)).mono ?_
            rintro e w5 ⟨A', c', rfl, hq, hc⟩
            have Q5 := Lib.hid hq
            have B5 := Lib.hid (B4.out.keep hc (by simp) (by simp))
            have C5 := Lib.hid (C4.out.trans hc)
            have X5 := Lib.hid (hc.blk X4.out (by simp))
            clear hq hc x0 x1' x2' x3
            have x0 := X5.out.cell 0
            have x1' := X5.out.cell 1
            have x2' := X5.out.cell 2
            simp at x0 x1' x2'
            obtain ⟨l', hl'⟩ : ∃ l', l.filter (fun p => decide (p.1.1 ≠ z1)) = l' := ⟨_, rfl⟩
            rw [hl'] at Q5 I5 L5 ⊢
            have HL := Lib.hid hl'
            clear hl'
            go_wp2_with fail
            refine (Drop_any b mb l z1 _ B5.out (by omega)).mono ?_
            rw [HL.out]
            rintro e w6 ⟨rfl, hb, hc⟩
            have B6 := Lib.hid hb
            have Q6 := Lib.hid (Q5.out.map B5.out.2 hc)
            have C6 := Lib.hid (C5.out.trans' hc (in1 N2.out))
            clear hb hc
            go_wp2_with fail
            go_meet
            exact ⟨rfl, l', A', c', rfl, by omega, B6, Q6, I5, C6⟩
      case rest =>
        obtain ⟨rfl, l', A', c', rfl, hl', B5, Q5, I5, C5⟩ := hcut
        have t0 : 0 ≤ t := by omega
        have ND := Lib.hid B5.out.2.nodup
        obtain ⟨_, a1, a2⟩ := iv_att I5.out t0 (x1, x2)
        have IB := Lib.hid (show ∀ p ∈ l', 0 ≤ p.2.2 ∧ p.2.2 ≤ 10000000000 from fun p hp => by have := I5.out p hp; omega)
        go_wp2_with fail
        refine (RLeft x1 x2 t Q5.out (by omega) ND.out t0 (by omega) IB.out).mono ?_
        rintro e w6 ⟨rfl, hc⟩
        have B6 := Lib.hid (B5.out.keep hc (by simp) (by simp))
        have Q6 := Lib.hid (Q5.out.ch0 hc)
        have C6 := Lib.hid (C5.out.trans hc)
        clear hc
        obtain ⟨L, hL⟩ : ∃ L, leftF l' (x1, x2) t = L := ⟨_, rfl⟩
        rw [hL]
        have HL := Lib.hid hL
        clear hL
        obtain ⟨F, hF⟩ : ∃ F, (att l' (x1, x2)).1 = F := ⟨_, rfl⟩
        have HF := Lib.hid hF
        clear hF
        go_wp2_with fail
        have hix := index_f l' x1 x2 (by omega) ND.out
        have hcase : (∃ r, provostref25_Index.f 2000 (l'.map toS) x1 x2 = some r ∧ r < 0 ∧ F = 0) ∨ (∃ j : Nat, provostref25_Index.f 2000 (l'.map toS) x1 x2 = some (j : Int) ∧ ∃ hj : j < l'.length, l'[j].2.1 = F) := by
          rcases hix with ⟨h1, h2⟩ | ⟨j, y, h1, h2, h3, h4⟩
          · refine .inl ⟨-1, h1, by omega, ?_⟩
            rw [← HF.out]; unfold att; rw [h2]; rfl
          · refine .inr ⟨j, h1, h2, ?_⟩
            rw [← HF.out]; unfold att; rw [h4]
            rw [(List.getElem?_eq_some_iff.1 h3).2]; rfl
        clear hix
        rcases hcase with ⟨r, hr, hr0, rfl⟩ | ⟨j, hr, hj, hjF⟩
        · have d0 : decide (0 ≤ r) = false := decide_eq_false (by omega)
          have d0' : decide (r ≥ 0) = false := decide_eq_false (by omega)
          refine (RIndex x1 x2 Q6.out (by omega) r hr).mono ?_
          rintro e w8 ⟨rfl, hc⟩
          have B8 := Lib.hid (B6.out.keep hc (by simp) (by simp))
          have Q8 := Lib.hid (Q6.out.ch0 hc)
          have C8 := Lib.hid (C6.out.trans hc)
          clear hc hr
          go_wp2_with fail
          refine (Len_any b mb l' _ B8.out).mono ?_
          rintro e w9 ⟨rfl, rfl⟩
          go_wp2_with fail
          refine (Left_any b mb l' x1 x2 t _ B8.out OK.out t0 (by omega) (by omega) (by omega)).mono ?_
          rw [HL.out]
          rintro e w9 ⟨rfl, hc⟩
          have B9 := Lib.hid (B8.out.keep hc (by simp) (by simp))
          have Q9 := Lib.hid (Q8.out.ch0 hc)
          have C9 := Lib.hid (C8.out.trans hc)
          clear hc
          go_wp2_with fail
          refine (Ready_any b mb l' x1 x2 t _ B9.out OK.out t0 (by omega) (by omega) (by omega)).mono ?_
          rw [HL.out]
          rintro e w10 ⟨rfl, hc⟩
          have B10 := Lib.hid (B9.out.keep hc (by simp) (by simp))
          have Q10 := Lib.hid (Q9.out.ch0 hc)
          have C10 := Lib.hid (C9.out.trans hc)
          clear hc
          go_wp2_with fail
          refine (Fails_any b mb l' x1 x2 _ B10.out OK.out).mono ?_
          rw [HF.out]
          rintro e w11 ⟨rfl, rfl⟩
          go_wp2_with fail
          refine (Next_any b mb l' t _ B10.out t0).mono ?_
          rintro e w11 ⟨nx, rfl, hP, hc⟩
          have P11 := Lib.hid hP
          have B11 := Lib.hid (B10.out.keep hc (by simp) (by simp))
          have Q11 := Lib.hid (Q10.out.ch0 hc)
          have C11 := Lib.hid (C10.out.trans hc)
          clear hc hP
          go_wp2_with fail
          refine (RNext t Q11.out (by omega) t0 P11.out).mono ?_
          rintro e w12 ⟨rfl, hc⟩
          have B12 := Lib.hid (B11.out.keep hc (by simp) (by simp))
          have Q12 := Lib.hid (Q11.out.ch0 hc)
          have C12 := Lib.hid (C11.out.trans hc)
          clear hc
          go_wp2_with fail
          go_roundg (gk - 1)
          case measure => omega
          case rel => exact ⟨k + 1, t, l', _, c', by omega, by omega, by simp, rfl, rfl, by omega, ht1, hl', B12, Q12, I5, C12⟩
        · refine (RIndex x1 x2 Q6.out (by omega) j hr).mono ?_
          rintro e w8 ⟨rfl, hc⟩
          have B8 := Lib.hid (B6.out.keep hc (by simp) (by simp))
          have Q8 := Lib.hid (Q6.out.ch0 hc)
          have C8 := Lib.hid (C6.out.trans hc)
          clear hc hr
          obtain ⟨g, rfl, hcell⟩ := Q8.out.cell hj
          rw [hjF] at hcell
          clear hjF
          have i0 : (0 : Int) ≤ (j : Int) := by omega
          have i1 : (j : Int) < (l'.length : Int) := by omega
          go_wp2_with fail
          refine (Len_any b mb l' _ B8.out).mono ?_
          rintro e w9 ⟨rfl, rfl⟩
          go_wp2_with fail
          refine (Left_any b mb l' x1 x2 t _ B8.out OK.out t0 (by omega) (by omega) (by omega)).mono ?_
          rw [HL.out]
          rintro e w9 ⟨rfl, hc⟩
          have B9 := Lib.hid (B8.out.keep hc (by simp) (by simp))
          have Q9 := Lib.hid (Q8.out.ch0 hc)
          have C9 := Lib.hid (C8.out.trans hc)
          clear hc
          go_wp2_with fail
          refine (Ready_any b mb l' x1 x2 t _ B9.out OK.out t0 (by omega) (by omega) (by omega)).mono ?_
          rw [HL.out]
          rintro e w10 ⟨rfl, hc⟩
          have B10 := Lib.hid (B9.out.keep hc (by simp) (by simp))
          have Q10 := Lib.hid (Q9.out.ch0 hc)
          have C10 := Lib.hid (C9.out.trans hc)
          clear hc
          go_wp2_with fail
          refine (Fails_any b mb l' x1 x2 _ B10.out OK.out).mono ?_
          rw [HF.out]
          rintro e w11 ⟨rfl, rfl⟩
          go_wp2_with fail
          refine (Next_any b mb l' t _ B10.out t0).mono ?_
          rintro e w11 ⟨nx, rfl, hP, hc⟩
          have P11 := Lib.hid hP
          have B11 := Lib.hid (B10.out.keep hc (by simp) (by simp))
          have Q11 := Lib.hid (Q10.out.ch0 hc)
          have C11 := Lib.hid (C10.out.trans hc)
          clear hc hP
          go_wp2_with fail
          refine (RNext t Q11.out (by omega) t0 P11.out).mono ?_
          rintro e w12 ⟨rfl, hc⟩
          have B12 := Lib.hid (B11.out.keep hc (by simp) (by simp))
          have Q12 := Lib.hid (Q11.out.ch0 hc)
          have C12 := Lib.hid (C11.out.trans hc)
          clear hc
          go_wp2_with fail
          go_roundg (gk - 1)
          case measure => omega
          case rel => exact ⟨k + 1, t, l', _, c', by omega, by omega, by simp, rfl, rfl, by omega, ht1, hl', B12, Q12, I5, C12⟩
    · have hex : len0 ≤ k ∨ (k < len0 ∧ 100 ≤ k) := by omega
      rcases hex with hex | ⟨hex, hex2⟩
      all_goals
        go_wp2_with fail
        refine (Len_any b mb l _ B3.out).mono ?_
        rintro e w9 ⟨rfl, rfl⟩
        go_wp2_with fail
        refine (works_any _).mono ?_
        rintro e w9 ⟨rfl, hc⟩
        have C9 := Lib.hid (C3.out.trans hc)
        clear hc
        go_wp2_with fail
        go_ret
        exact ⟨rfl, C9.out.below0⟩
end Go.Proofs.Ytbamdihbpfdbjaa.delayPlaysWalk
