/- The walk of the law PipeParts: to read in parts is to read at once. -/
import Derived.Test.YtcfkdglaedpnjaaPipeWorks
import Derived.Test.YtcfkdglaedpnjaaKit2
namespace Go.Proofs.Ytcfkdglaedpnjaa.pipePartsWalk
open Go Go.RowKit Go.Proofs.Ytcfkdglaedpnjaa.K Go.Proofs.Ytcfkdglaedpnjaa.R
set_option linter.unusedVariables false
set_option linter.unusedSimpArgs false
theorem keepS {W w1 : World} {b rb x : Nat} {v : Value} (hn : rb ∉ [b]) (h : W.cell? ⟨rb, x, none⟩ = some v) (hc : Ch [b] W w1) : w1.cell? ⟨rb, x, none⟩ = some v :=
  (hc.cell (p := ⟨rb, x, none⟩) (World.block_lt_of_cell? W _ h) hn).trans h
theorem str_nil_append (l : List UInt8) : (str l).toList = l := by rw [ByteArray.toList_eq]; rfl
set_option maxRecDepth 100000 in
set_option maxHeartbeats 2000000 in
theorem walkRow (rb off len0 cap0 : Nat) (a1 a2 : Int) (w : World) (hrb : rb < w.heap.size) (hrow : ∀ i, i < len0 → ∃ s : ByteArray, w.cell? ⟨rb, off + i, none⟩ = some (.string s) ∧ s.size ≤ maxLen) (b11 : -9223372036854775808 ≤ a1) (b12 : a1 ≤ 9223372036854775807) (b21 : -9223372036854775808 ≤ a2) (b22 : a2 ≤ 9223372036854775807) :
    Calls Try.prog 3 #[.slice (some ⟨rb, off, none⟩) len0 cap0, .int .i64 a1, .int .i64 a2] w fun e w' => e = .returned (.bool true) ∧ Below w.heap.size w w' := by
  go_enter Try.func3, Try.ntmps3
  go_wp2_with fail
  refine (works_any _).mono ?_
  rintro e w1 ⟨rfl, hc⟩
  have C1 := Lib.hid hc
  clear hc
  go_wp2_with fail
  refine (New_any _).mono ?_
  rintro e w2 ⟨b1, rfl, hb, hge, hc⟩
  have g1 : w.heap.size ≤ b1 := Nat.le_trans C1.out.size hge
  have B1 := Lib.hid hb
  have C2 := Lib.hid (C1.out.trans hc)
  clear hb hge hc
  go_wp2_with fail
  refine (New_any _).mono ?_
  rintro e w3 ⟨b2, rfl, hb, hge, hc⟩
  have g3 : b1 < b2 := Nat.lt_of_lt_of_le B1.out.lt hge
  have D1 := Lib.hid (chPipe hc B1.out (by simp))
  have D2 := Lib.hid hb
  have C3 := Lib.hid (C2.out.trans hc)
  have g2 : w.heap.size ≤ b2 := by omega
  have N1 := Lib.hid (in1 g1)
  have N2 := Lib.hid (in1 g2)
  have M1 := Lib.hid (show b2 ∉ [b1] by simp; omega)
  have M2 := Lib.hid (show b1 ∉ [b2] by simp; omega)
  clear hb hge hc B1
  go_wp2_with fail
  go_loopw [9] (fun ii wr => ∃ (k : Nat) (q : List UInt8) (i o : Nat), k ≤ 60 ∧ k ≤ len0 ∧ ii = .int .i64 k ∧ i ≤ 64 * k ∧ Hid (PipeIs wr b1 q i o false) ∧ Hid (PipeIs wr b2 q i o false) ∧ Hid (Ch [] w wr)) (fun ii _ => (60 - intOf ii).toNat)
  case atStart => exact ⟨0, [], 0, 0, by omega, by omega, by simp, by omega, D1, D2, C3⟩
  case round =>
    obtain ⟨k, q, i, o, hk1, hk2, rfl, hi, P1, P2, HW⟩ := hrel
    by_cases hlt : k < len0
    · by_cases hl1 : k < 60
      · obtain ⟨s, hs, hsz⟩ := hrow k hlt
        unfold maxLen at hsz
        have hcx : wr.cell? ⟨rb, off + k, none⟩ = some (.string s) := HW.out.get hs
        have K1 := Lib.hid (show rb ∉ [b1] by simp; omega)
        have K2 := Lib.hid (show rb ∉ [b2] by simp; omega)
        have HS := Lib.hid hs
        clear hs
        by_cases h300 : 300 < s.size
        · have e1 : decide (300 < (s.size : Int)) = true := by simp; omega
          have e2 : decide (300 < s.size) = true := by simp; omega
          go_wp2_with fail
          go_ret
          exact ⟨rfl, HW.out.below0⟩
        · have e1 : decide (300 < (s.size : Int)) = false := by simp; omega
          have e2 : decide (300 < s.size) = false := by simp; omega
          by_cases hm3 : k % 3 = 2
          · have mk : k % 3 = 2 := hm3
            have mk1 : ((k : Int) % 3 == 2) = true := beq_iff_eq.2 (by omega)
            have mk2 : (k % 3 == 2) = true := beq_iff_eq.2 (by omega)
            have MK := Lib.hid mk
            clear mk hm3
            obtain ⟨n, hn⟩ : ∃ n, n = min s.size (room q false) := ⟨_, rfl⟩
            have hn64 : n ≤ 64 := by
              have : room q false ≤ 64 := by simp [room]
              omega
            have WA := Lib.hid (show ∀ W, PipeIs W b1 q i o false → Calls Try.prog 8 #[.pointer (some ⟨b1, 0, none⟩), .string s] W fun e w' => e = .returned (.int .i64 n) ∧ PipeIs w' b1 (q ++ s.data.toList.take n) (i + n) o false ∧ Ch [b1] W w' from fun W h => by rw [hn]; exact Write_any _ _ _ _ _ _ _ h (by omega) (by omega))
            have WB := Lib.hid (show ∀ W, PipeIs W b2 q i o false → Calls Try.prog 8 #[.pointer (some ⟨b2, 0, none⟩), .string s] W fun e w' => e = .returned (.int .i64 n) ∧ PipeIs w' b2 (q ++ s.data.toList.take n) (i + n) o false ∧ Ch [b2] W w' from fun W h => by rw [hn]; exact Write_any _ _ _ _ _ _ _ h (by omega) (by omega))
            clear hn
            go_wp2_with fail
            have P1d := Lib.hid (chPipe (Ch.refl [] wr).drew P1.out (by simp))
            have P2d := Lib.hid (chPipe (Ch.refl [] wr).drew P2.out (by simp))
            have hcxd : wr.drew.cell? ⟨rb, off + k, none⟩ = some (.string s) := hcx
            have WRd := Lib.hid (HW.out.drew)
            go_region_held3 (fun w' => w'.cell? ⟨rb, off + k, none⟩ = some (.string s)) (first | exact hcxd | exact keepS K1.out (by assumption) (by assumption) | exact keepS K2.out (by assumption) (by assumption))
              (first | (go_at_call_of 8 (b1); with_reducible refine (WA.out _ P1d.out).mono ?_; rintro e w4 ⟨rfl, hp4, hc4⟩; have P4 := Lib.hid hp4; have Q4 := Lib.hid (chPipe hc4 P2d.out M1.out); have F4 := Lib.hid (WRd.out.trans' hc4 N1.out); clear hp4) | (go_at_call_of 8 (b2); with_reducible refine (WB.out _ Q4.out).mono ?_; rintro e w5 ⟨rfl, hp5, hc5⟩; have P5 := Lib.hid (chPipe hc5 P4.out M2.out); have Q5 := Lib.hid hp5; have F5 := Lib.hid (F4.out.trans' hc5 N2.out); clear hp5))
            clear hcxd
            go_wp2_with fail
            refine (Read_any b1 (q ++ s.data.toList.take n) (i + n) o false 20 _ P5.out (by omega) (by omega) (by omega)).mono ?_
            rintro e w6 ⟨rfl, hb, hc⟩
            generalize hm : min (max (20 : Int) 0).toNat (q ++ s.data.toList.take n).length = m at hb ⊢
            have P6 := Lib.hid hb
            have Q6 := Lib.hid (chPipe hc Q5.out M1.out)
            have F6 := Lib.hid (F5.out.trans' hc N1.out)
            have HM := Lib.hid hm
            clear hb hc hm
            go_wp2_with fail
            refine (Read_any b2 (q ++ s.data.toList.take n) (i + n) o false 20 _ Q6.out (by omega) (by omega) (by omega)).mono ?_
            rintro e w7 ⟨rfl, hb, hc⟩
            rw [HM.out] at hb ⊢
            have P7 := Lib.hid (chPipe hc P6.out M2.out)
            have Q7 := Lib.hid hb
            have F7 := Lib.hid (F6.out.trans' hc N2.out)
            have d0 : ((str ((q ++ s.data.toList.take n).take m)).toList == (str ((q ++ s.data.toList.take n).take m)).toList) = true := by simp
            clear hb hc
            go_wp2_with fail
            go_roundw
            case rel => exact ⟨k + 1, (q ++ s.data.toList.take n).drop m, i + n, o + m, by omega, by omega, by go_num, by omega, P7, Q7, F7⟩
            case measure => simp [intOf]; omega
          · have mk : k % 3 ≠ 2 := hm3
            have mk1 : ((k : Int) % 3 == 2) = false := beq_eq_false_iff_ne.2 (by omega)
            have mk2 : (k % 3 == 2) = false := beq_eq_false_iff_ne.2 (by omega)
            have MK := Lib.hid mk
            clear mk hm3
            obtain ⟨n, hn⟩ : ∃ n, n = min s.size (room q false) := ⟨_, rfl⟩
            have hn64 : n ≤ 64 := by
              have : room q false ≤ 64 := by simp [room]
              omega
            have WA := Lib.hid (show ∀ W, PipeIs W b1 q i o false → Calls Try.prog 8 #[.pointer (some ⟨b1, 0, none⟩), .string s] W fun e w' => e = .returned (.int .i64 n) ∧ PipeIs w' b1 (q ++ s.data.toList.take n) (i + n) o false ∧ Ch [b1] W w' from fun W h => by rw [hn]; exact Write_any _ _ _ _ _ _ _ h (by omega) (by omega))
            have WB := Lib.hid (show ∀ W, PipeIs W b2 q i o false → Calls Try.prog 8 #[.pointer (some ⟨b2, 0, none⟩), .string s] W fun e w' => e = .returned (.int .i64 n) ∧ PipeIs w' b2 (q ++ s.data.toList.take n) (i + n) o false ∧ Ch [b2] W w' from fun W h => by rw [hn]; exact Write_any _ _ _ _ _ _ _ h (by omega) (by omega))
            clear hn
            go_wp2_with fail
            have P1d := Lib.hid (chPipe (Ch.refl [] wr).drew P1.out (by simp))
            have P2d := Lib.hid (chPipe (Ch.refl [] wr).drew P2.out (by simp))
            have hcxd : wr.drew.cell? ⟨rb, off + k, none⟩ = some (.string s) := hcx
            have WRd := Lib.hid (HW.out.drew)
            go_region_held3 (fun w' => w'.cell? ⟨rb, off + k, none⟩ = some (.string s)) (first | exact hcxd | exact keepS K1.out (by assumption) (by assumption) | exact keepS K2.out (by assumption) (by assumption))
              (first | (go_at_call_of 8 (b1); with_reducible refine (WA.out _ P1d.out).mono ?_; rintro e w4 ⟨rfl, hp4, hc4⟩; have P4 := Lib.hid hp4; have Q4 := Lib.hid (chPipe hc4 P2d.out M1.out); have F4 := Lib.hid (WRd.out.trans' hc4 N1.out); clear hp4) | (go_at_call_of 8 (b2); with_reducible refine (WB.out _ Q4.out).mono ?_; rintro e w5 ⟨rfl, hp5, hc5⟩; have P5 := Lib.hid (chPipe hc5 P4.out M2.out); have Q5 := Lib.hid hp5; have F5 := Lib.hid (F4.out.trans' hc5 N2.out); clear hp5))
            clear hcxd
            go_wp2_with fail
            go_roundw
            case rel => exact ⟨k + 1, q ++ s.data.toList.take n, i + n, o, by omega, by omega, by go_num, by omega, P5, Q5, F5⟩
            case measure => simp [intOf]; omega
      · obtain rfl : k = 60 := by omega
        have hlt2 : decide (60 < len0) = true := decide_eq_true hlt
        obtain ⟨hl1, hl2⟩ := P1.out.len
        have ho : o ≤ i := by omega
        go_wp2_with fail
        all_goals
          refine (Read_any b1 q i o false _ _ P1.out (by omega) (by omega) (by omega)).mono ?_
          rintro e w4 ⟨rfl, hb, hc⟩
          generalize hn1 : min (max (_ : Int) 0).toNat q.length = n1 at hb ⊢
          have E1 := Lib.hid hb
          have E2 := Lib.hid (chPipe hc P2.out M1.out)
          have F1 := Lib.hid (HW.out.trans' hc N1.out)
          have z1 : (str (q.take n1)).size ≤ 64 := by rw [str_size, List.length_take]; omega
          have HN1 := Lib.hid hn1
          clear hb hc hn1
          go_wp2_with fail
          refine (Read_any b1 (q.drop n1) i (o + n1) false _ _ E1.out (by omega) (by omega) (by omega)).mono ?_
          rintro e w5 ⟨rfl, hb, hc⟩
          generalize hn2 : min (max (_ : Int) 0).toNat (q.drop n1).length = n2 at hb ⊢
          have G1 := Lib.hid hb
          have G2 := Lib.hid (chPipe hc E2.out M1.out)
          have F2 := Lib.hid (F1.out.trans' hc N1.out)
          have z2 : (str ((q.drop n1).take n2)).size ≤ 64 := by rw [str_size, List.length_take, List.length_drop]; omega
          have HN2 := Lib.hid hn2
          clear hb hc hn2
          go_wp2_with fail
          refine (Read_any b2 q i o false _ _ G2.out (by omega) (by omega) (by omega)).mono ?_
          rintro e w6 ⟨rfl, hb, hc⟩
          generalize hn3 : min (max (_ : Int) 0).toNat q.length = n3 at hb ⊢
          have he : n1 + n2 = n3 := by
            have h1 := HN1.out
            have h2 := HN2.out
            rw [List.length_drop] at h2
            omega
          have I1 := Lib.hid (chPipe hc G1.out M2.out)
          have I2 := Lib.hid hb
          have F3 := Lib.hid (F2.out.trans' hc N2.out)
          have hs : str (q.take n1) ++ str ((q.drop n1).take n2) = str (q.take n3) := by
            rw [str_append, ← he, List.take_add]
          have d1 : ((str (q.take n1) ++ str ((q.drop n1).take n2)).toList == (str (q.take n3)).toList) = true := by rw [hs]; simp
          have hlen : ((q.drop n1).drop n2).length = (q.drop n3).length := by rw [List.drop_drop, he]
          have HL := Lib.hid hlen
          clear hb hc hn3 he hs hlen
          go_wp2_with fail
          refine (Len_any _ _ _ _ _ _ I1.out (by omega)).mono ?_
          rintro e w7 ⟨rfl, nq, rfl⟩
          rw [HL.out]
          have J2 := Lib.hid (chPipe ((Ch.refl [] w6).drewN nq) I2.out (by simp))
          have F4 := Lib.hid (F3.out.drewN nq)
          go_wp2_with fail
          refine (Len_any _ _ _ _ _ _ J2.out (by omega)).mono ?_
          rintro e w8 ⟨rfl, nq2, rfl⟩
          go_wp2_with fail
          go_ret
          exact ⟨rfl, by have := (F4.out.drewN nq2).below0; simpa using this⟩
    · have hlt2 : decide (k < len0) = false := decide_eq_false hlt
      obtain ⟨hl1, hl2⟩ := P1.out.len
      have ho : o ≤ i := by omega
      go_wp2_with fail
      all_goals
        refine (Read_any b1 q i o false _ _ P1.out (by omega) (by omega) (by omega)).mono ?_
        rintro e w4 ⟨rfl, hb, hc⟩
        generalize hn1 : min (max (_ : Int) 0).toNat q.length = n1 at hb ⊢
        have E1 := Lib.hid hb
        have E2 := Lib.hid (chPipe hc P2.out M1.out)
        have F1 := Lib.hid (HW.out.trans' hc N1.out)
        have z1 : (str (q.take n1)).size ≤ 64 := by rw [str_size, List.length_take]; omega
        have HN1 := Lib.hid hn1
        clear hb hc hn1
        go_wp2_with fail
        refine (Read_any b1 (q.drop n1) i (o + n1) false _ _ E1.out (by omega) (by omega) (by omega)).mono ?_
        rintro e w5 ⟨rfl, hb, hc⟩
        generalize hn2 : min (max (_ : Int) 0).toNat (q.drop n1).length = n2 at hb ⊢
        have G1 := Lib.hid hb
        have G2 := Lib.hid (chPipe hc E2.out M1.out)
        have F2 := Lib.hid (F1.out.trans' hc N1.out)
        have z2 : (str ((q.drop n1).take n2)).size ≤ 64 := by rw [str_size, List.length_take, List.length_drop]; omega
        have HN2 := Lib.hid hn2
        clear hb hc hn2
        go_wp2_with fail
        refine (Read_any b2 q i o false _ _ G2.out (by omega) (by omega) (by omega)).mono ?_
        rintro e w6 ⟨rfl, hb, hc⟩
        generalize hn3 : min (max (_ : Int) 0).toNat q.length = n3 at hb ⊢
        have he : n1 + n2 = n3 := by
          have h1 := HN1.out
          have h2 := HN2.out
          rw [List.length_drop] at h2
          omega
        have I1 := Lib.hid (chPipe hc G1.out M2.out)
        have I2 := Lib.hid hb
        have F3 := Lib.hid (F2.out.trans' hc N2.out)
        have hs : str (q.take n1) ++ str ((q.drop n1).take n2) = str (q.take n3) := by
          rw [str_append, ← he, List.take_add]
        have d1 : ((str (q.take n1) ++ str ((q.drop n1).take n2)).toList == (str (q.take n3)).toList) = true := by rw [hs]; simp
        have hlen : ((q.drop n1).drop n2).length = (q.drop n3).length := by rw [List.drop_drop, he]
        have HL := Lib.hid hlen
        clear hb hc hn3 he hs hlen
        go_wp2_with fail
        refine (Len_any _ _ _ _ _ _ I1.out (by omega)).mono ?_
        rintro e w7 ⟨rfl, nq, rfl⟩
        rw [HL.out]
        have J2 := Lib.hid (chPipe ((Ch.refl [] w6).drewN nq) I2.out (by simp))
        have F4 := Lib.hid (F3.out.drewN nq)
        go_wp2_with fail
        refine (Len_any _ _ _ _ _ _ J2.out (by omega)).mono ?_
        rintro e w8 ⟨rfl, nq2, rfl⟩
        go_wp2_with fail
        go_ret
        exact ⟨rfl, by have := (F4.out.drewN nq2).below0; simpa using this⟩
set_option maxRecDepth 100000 in
set_option maxHeartbeats 1000000 in
theorem walkNil (a0 : Option Addr) (cap0 : Nat) (a1 a2 : Int) (w : World) (b11 : -9223372036854775808 ≤ a1) (b12 : a1 ≤ 9223372036854775807) (b21 : -9223372036854775808 ≤ a2) (b22 : a2 ≤ 9223372036854775807) :
    Calls Try.prog 3 #[.slice a0 0 cap0, .int .i64 a1, .int .i64 a2] w fun e w' => e = .returned (.bool true) ∧ Below w.heap.size w w' := by
  go_enter Try.func3, Try.ntmps3
  go_wp2_with fail
  refine (works_any _).mono ?_
  rintro e w1 ⟨rfl, hc⟩
  have C1 := Lib.hid hc
  clear hc
  go_wp2_with fail
  refine (New_any _).mono ?_
  rintro e w2 ⟨b1, rfl, hb, hge, hc⟩
  have g1 : w.heap.size ≤ b1 := Nat.le_trans C1.out.size hge
  have B1 := Lib.hid hb
  have C2 := Lib.hid (C1.out.trans hc)
  clear hb hge hc
  go_wp2_with fail
  refine (New_any _).mono ?_
  rintro e w3 ⟨b2, rfl, hb, hge, hc⟩
  have g3 : b1 < b2 := Nat.lt_of_lt_of_le B1.out.lt hge
  have D1 := Lib.hid (chPipe hc B1.out (by simp))
  have D2 := Lib.hid hb
  have C3 := Lib.hid (C2.out.trans hc)
  have g2 : w.heap.size ≤ b2 := by omega
  have N1 := Lib.hid (in1 g1)
  have N2 := Lib.hid (in1 g2)
  have M1 := Lib.hid (show b2 ∉ [b1] by simp; omega)
  have M2 := Lib.hid (show b1 ∉ [b2] by simp; omega)
  clear hb hge hc B1
  go_wp2_with fail
  go_loopw [9] (fun ii wr => ∃ (k : Nat) (q : List UInt8) (i o : Nat), k ≤ 60 ∧ k ≤ 0 ∧ ii = .int .i64 k ∧ i ≤ 64 * k ∧ Hid (PipeIs wr b1 q i o false) ∧ Hid (PipeIs wr b2 q i o false) ∧ Hid (Ch [] w wr)) (fun ii _ => (60 - intOf ii).toNat)
  case atStart => exact ⟨0, [], 0, 0, by omega, by omega, by simp, by omega, D1, D2, C3⟩
  case round =>
    obtain ⟨k, q, i, o, hk1, hk2, rfl, hi, P1, P2, HW⟩ := hrel
    obtain rfl : k = 0 := by omega
    obtain ⟨hl1, hl2⟩ := P1.out.len
    have ho : o ≤ i := by omega
    go_wp2_with fail
    all_goals
      refine (Read_any b1 q i o false _ _ P1.out (by omega) (by omega) (by omega)).mono ?_
      rintro e w4 ⟨rfl, hb, hc⟩
      generalize hn1 : min (max (_ : Int) 0).toNat q.length = n1 at hb ⊢
      have E1 := Lib.hid hb
      have E2 := Lib.hid (chPipe hc P2.out M1.out)
      have F1 := Lib.hid (HW.out.trans' hc N1.out)
      have z1 : (str (q.take n1)).size ≤ 64 := by rw [str_size, List.length_take]; omega
      have HN1 := Lib.hid hn1
      clear hb hc hn1
      go_wp2_with fail
      refine (Read_any b1 (q.drop n1) i (o + n1) false _ _ E1.out (by omega) (by omega) (by omega)).mono ?_
      rintro e w5 ⟨rfl, hb, hc⟩
      generalize hn2 : min (max (_ : Int) 0).toNat (q.drop n1).length = n2 at hb ⊢
      have G1 := Lib.hid hb
      have G2 := Lib.hid (chPipe hc E2.out M1.out)
      have F2 := Lib.hid (F1.out.trans' hc N1.out)
      have z2 : (str ((q.drop n1).take n2)).size ≤ 64 := by rw [str_size, List.length_take, List.length_drop]; omega
      have HN2 := Lib.hid hn2
      clear hb hc hn2
      go_wp2_with fail
      refine (Read_any b2 q i o false _ _ G2.out (by omega) (by omega) (by omega)).mono ?_
      rintro e w6 ⟨rfl, hb, hc⟩
      generalize hn3 : min (max (_ : Int) 0).toNat q.length = n3 at hb ⊢
      have he : n1 + n2 = n3 := by
        have h1 := HN1.out
        have h2 := HN2.out
        rw [List.length_drop] at h2
        omega
      have I1 := Lib.hid (chPipe hc G1.out M2.out)
      have I2 := Lib.hid hb
      have F3 := Lib.hid (F2.out.trans' hc N2.out)
      have hs : str (q.take n1) ++ str ((q.drop n1).take n2) = str (q.take n3) := by
        rw [str_append, ← he, List.take_add]
      have d1 : ((str (q.take n1) ++ str ((q.drop n1).take n2)).toList == (str (q.take n3)).toList) = true := by rw [hs]; simp
      have hlen : ((q.drop n1).drop n2).length = (q.drop n3).length := by rw [List.drop_drop, he]
      have HL := Lib.hid hlen
      clear hb hc hn3 he hs hlen
      go_wp2_with fail
      refine (Len_any _ _ _ _ _ _ I1.out (by omega)).mono ?_
      rintro e w7 ⟨rfl, nq, rfl⟩
      rw [HL.out]
      have J2 := Lib.hid (chPipe ((Ch.refl [] w6).drewN nq) I2.out (by simp))
      have F4 := Lib.hid (F3.out.drewN nq)
      go_wp2_with fail
      refine (Len_any _ _ _ _ _ _ J2.out (by omega)).mono ?_
      rintro e w8 ⟨rfl, nq2, rfl⟩
      go_wp2_with fail
      go_ret
      exact ⟨rfl, by have := (F4.out.drewN nq2).below0; simpa using this⟩
theorem walk (a0 : Option Addr) (len0 cap0 : Nat) (a1 a2 : Int) (w : World) (w0 : IsStrs w a0 len0) (w1 : (Lit.int .i64 a1).wf = true) (w2 : (Lit.int .i64 a2).wf = true) :
    Calls Try.prog 3 #[.slice a0 len0 cap0, .int .i64 a1, .int .i64 a2] w fun e w' => e = .returned (.bool true) ∧ Below w.heap.size w w' := by
  obtain ⟨b11, b12⟩ := bounds_i64 w1
  obtain ⟨b21, b22⟩ := bounds_i64 w2
  rcases w0 with rfl | ⟨rb, off, rfl, hrb, hrow⟩
  · exact walkNil a0 cap0 a1 a2 w b11 b12 b21 b22
  · exact walkRow rb off len0 cap0 a1 a2 w hrb hrow b11 b12 b21 b22
end Go.Proofs.Ytcfkdglaedpnjaa.pipePartsWalk
