/- The walk of the law PipePrefix: what was read begins what was written. -/
import Derived.Test.YtcfkdglaedpnjaaPipeWorks
import Derived.Test.YtcfkdglaedpnjaaKit2
namespace Go.Proofs.Ytcfkdglaedpnjaa.pipePrefixWalk
open Go Go.RowKit Go.Proofs.Ytcfkdglaedpnjaa.K Go.Proofs.Ytcfkdglaedpnjaa.R
set_option linter.unusedVariables false
set_option linter.unusedSimpArgs false
theorem str_take (s : ByteArray) (n : Nat) : s.extract 0 n = str (s.data.toList.take n) := by
  apply ByteArray.ext
  apply Array.ext'
  simp [str, ByteArray.extract, ByteArray.copySlice]
  done
theorem str_nil : str [] = ⟨#[]⟩ := rfl
set_option maxRecDepth 100000 in
set_option maxHeartbeats 2000000 in
theorem walkRow (rb off len0 cap0 : Nat) (w : World) (hrb : rb < w.heap.size) (hrow : (∀ i, i < len0 → (∃ z : Int, w.cell? ⟨rb, off + (i * 3 + 0), none⟩ = some (.int .i64 z) ∧ (Lit.int .i64 z).wf = true) ∧ (∃ z : Int, w.cell? ⟨rb, off + (i * 3 + 1), none⟩ = some (.int .i64 z) ∧ (Lit.int .i64 z).wf = true) ∧ ∃ z : ByteArray, w.cell? ⟨rb, off + (i * 3 + 2), none⟩ = some (.string z) ∧ z.size ≤ maxLen)) :
    Calls Try.prog 4 #[.slice (some ⟨rb, off, none⟩) len0 cap0] w fun e w' => e = .returned (.bool true) ∧ Below w.heap.size w w' := by
  go_enter Try.func4, Try.ntmps4
  go_wp2_with fail
  refine (works_any _).mono ?_
  rintro e w1 ⟨rfl, hc⟩
  have C1 := Lib.hid hc
  clear hc
  go_wp2_with fail
  refine (New_any _).mono ?_
  rintro e w2 ⟨b1, rfl, hb, hge, hc⟩
  have g1 : w.heap.size ≤ b1 := Nat.le_trans C1.out.size hge
  have D1 := Lib.hid hb
  have C2 := Lib.hid (C1.out.trans hc)
  have N1 := Lib.hid (in1 g1)
  clear hb hge hc
  go_wp2_with fail
  go_loopw [4, 5, 6] (fun wt rd ii wr => ∃ (k : Nat) (q R : List UInt8) (i o : Nat) (sh : Bool), k ≤ 100 ∧ k ≤ len0 ∧ ii = .int .i64 k ∧ wt = .string (str (R ++ q)) ∧ rd = .string (str R) ∧ i ≤ 64 * k ∧ R.length ≤ 64 * k ∧ Hid (PipeIs wr b1 q i o sh) ∧ Hid (Ch [] w wr)) (fun _ _ ii _ => (100 - intOf ii).toNat)
  case atStart => exact ⟨0, [], [], 0, 0, false, by omega, by omega, by simp, rfl, rfl, by omega, by simp, D1, C2⟩
  case round =>
    obtain ⟨k, q, R, i, o, sh, hk1, hk2, rfl, rfl, rfl, hi, hR, P1, HW⟩ := hrel
    by_cases hlt : k < len0
    · by_cases hl1 : k < 100
      · obtain ⟨⟨kd, hk, hkw⟩, ⟨nn, hn, hnw⟩, ⟨s, hs, hsz⟩⟩ := hrow k hlt
        obtain ⟨kb1, kb2⟩ := bounds_i64 hkw
        obtain ⟨nb1, nb2⟩ := bounds_i64 hnw
        clear hkw hnw
        unfold maxLen at hsz
        have hc0 : wr.cell? ⟨rb, off + (k * 3 + 0), none⟩ = some (.int .i64 kd) := HW.out.get hk
        have hc1 : wr.cell? ⟨rb, off + (k * 3 + 1), none⟩ = some (.int .i64 nn) := HW.out.get hn
        have hc2 : wr.cell? ⟨rb, off + (k * 3 + 2), none⟩ = some (.string s) := HW.out.get hs
        clear hk hn hs
        simp only [Nat.add_zero, ← Nat.add_assoc] at hc0 hc1 hc2
        by_cases h300 : 300 < s.size
        · have e1 : decide (300 < (s.size : Int)) = true := by simp; omega
          have e2 : decide (300 < s.size) = true := by simp; omega
          go_wp2_with fail
          go_ret
          exact ⟨rfl, (HW.out.alloc _).below0⟩
        · have e1 : decide (300 < (s.size : Int)) = false := by simp; omega
          have e2 : decide (300 < s.size) = false := by simp; omega
          by_cases k0 : kd = 0
          · subst k0
            go_wp2_with fail
            have P1a := Lib.hid (chPipe ((Ch.refl [] wr).alloc (.cells #[.int .i64 0, .int .i64 nn, .string s] 32)) P1.out (by simp))
            have HWa := Lib.hid (HW.out.alloc (.cells #[.int .i64 0, .int .i64 nn, .string s] 32))
            obtain ⟨hl1, hl2⟩ := P1.out.len
            have hz := Lib.hid (show wr.heap.size ∉ [b1] by have := P1.out.lt; simp; omega)
            have hb := Lib.hid (blk_new wr #[.int .i64 0, .int .i64 nn, .string s] 32)
            refine (Write_any b1 q i o sh s _ P1a.out (by omega) (by omega)).mono ?_
            obtain ⟨n, hn⟩ : ∃ n, n = min s.size (room q sh) := ⟨_, rfl⟩
            have hn64 : n ≤ 64 := by
              have : room q sh ≤ 64 := by unfold room; split <;> omega
              omega
            have hns : n ≤ s.size := by omega
            rw [← hn]
            rintro e w4 ⟨rfl, hp, hc⟩
            have PT := Lib.hid hp
            have FT := Lib.hid (HWa.out.trans' hc N1.out)
            have HV := Lib.hid (hc.blk hb.out hz.out)
            have v2 := HV.out.cell 2
            simp at v2
            have zw : (str (R ++ q)).size ≤ 10000 := by rw [str_size, List.length_append]; omega
            have zs : (s.extract 0 n).size ≤ 64 := by rw [str_take, str_size, List.length_take]; omega
            have d4 : decide (s.size < n) = false := by simp; omega
            have d5 : decide ((s.size : Int) < (n : Int)) = false := by simp; omega
            have htk : s.data.toList.take n = s.data.toList.take n := rfl
            clear hn hp hc
            obtain ⟨hl1, hl2⟩ := PT.out.len
            go_wp2_with fail
            have zr : (str R).size ≤ 10000 := by rw [str_size]; omega
            refine (Peek_any b1 (q ++ s.data.toList.take n) (i + n) (o) sh 1000 _ PT.out (by omega) (by omega) (by omega)).mono ?_
            rintro e wp ⟨rfl, hc⟩
            have ht : (q ++ s.data.toList.take n).take (min (max (1000 : Int) 0).toNat (q ++ s.data.toList.take n).length) = q ++ s.data.toList.take n := List.take_of_length_le (by omega)
            rw [ht]
            have PV := Lib.hid (chPipe hc PT.out (by simp))
            have FV := Lib.hid (FT.out.trans hc)
            have d1 : ((str R ++ str (q ++ s.data.toList.take n)).toList == (str (R ++ q) ++ s.extract 0 n).toList) = true := by simp [str_append, str_take]
            have zq : (str (q ++ s.data.toList.take n)).size ≤ 64 := by rw [str_size]; omega
            clear hc ht
            go_wp2_with fail
            refine (Len_any _ _ _ _ _ _ PV.out (by omega)).mono ?_
            rintro e wl ⟨rfl, nq, rfl⟩
            have PX := Lib.hid (chPipe ((Ch.refl [] wp).drewN nq) PV.out (by simp))
            have FX := Lib.hid (FV.out.drewN nq)
            have d2 : decide (64 < (((q ++ s.data.toList.take n).length : Nat) : Int)) = false := by apply decide_eq_false; omega
            have d3 : decide (64 < (q ++ s.data.toList.take n).length) = false := by apply decide_eq_false; omega
            go_wp2_with fail
            go_roundw
            case rel => exact ⟨k + 1, q ++ s.data.toList.take n, R, i + n, o, sh, by omega, by omega, by go_num, by simp [str_append, str_take], by simp [str_append], by omega, by omega, PX, FX⟩
            case measure => simp [intOf]; omega
          · by_cases k1 : kd = 1
            · subst k1
              go_wp2_with fail
              have P1a := Lib.hid (chPipe ((Ch.refl [] wr).alloc (.cells #[.int .i64 1, .int .i64 nn, .string s] 32)) P1.out (by simp))
              have HWa := Lib.hid (HW.out.alloc (.cells #[.int .i64 1, .int .i64 nn, .string s] 32))
              obtain ⟨hl1, hl2⟩ := P1.out.len
              have hz := Lib.hid (show wr.heap.size ∉ [b1] by have := P1.out.lt; simp; omega)
              have hb := Lib.hid (blk_new wr #[.int .i64 1, .int .i64 nn, .string s] 32)
              refine (Read_any b1 q i o sh nn _ P1a.out (by omega) (by omega) (by omega)).mono ?_
              obtain ⟨n, hn⟩ : ∃ n, n = min (max nn 0).toNat q.length := ⟨_, rfl⟩
              have hnl : n ≤ q.length := by omega
              rw [← hn]
              rintro e w4 ⟨rfl, hp, hc⟩
              have PT := Lib.hid hp
              have FT := Lib.hid (HWa.out.trans' hc N1.out)
              have zo : (str R).size ≤ 6400 := by rw [str_size]; omega
              have zt : (str (q.take n)).size ≤ 64 := by rw [str_size, List.length_take]; omega
              clear hn hp hc
              obtain ⟨hl1, hl2⟩ := PT.out.len
              go_wp2_with fail
              have zr : ((str R ++ str (q.take n))).size ≤ 10000 := by rw [str_append, str_size, List.length_append, List.length_take]; omega
              refine (Peek_any b1 (q.drop n) (i) (o + n) sh 1000 _ PT.out (by omega) (by omega) (by omega)).mono ?_
              rintro e wp ⟨rfl, hc⟩
              have ht : (q.drop n).take (min (max (1000 : Int) 0).toNat (q.drop n).length) = q.drop n := List.take_of_length_le (by omega)
              rw [ht]
              have PV := Lib.hid (chPipe hc PT.out (by simp))
              have FV := Lib.hid (FT.out.trans hc)
              have d1 : (((str R ++ str (q.take n)) ++ str (q.drop n)).toList == (str (R ++ q)).toList) = true := by simp [str_append, str_take]
              have zq : (str (q.drop n)).size ≤ 64 := by rw [str_size]; omega
              clear hc ht
              go_wp2_with fail
              refine (Len_any _ _ _ _ _ _ PV.out (by omega)).mono ?_
              rintro e wl ⟨rfl, nq, rfl⟩
              have PX := Lib.hid (chPipe ((Ch.refl [] wp).drewN nq) PV.out (by simp))
              have FX := Lib.hid (FV.out.drewN nq)
              have d2 : decide (64 < (((q.drop n).length : Nat) : Int)) = false := by apply decide_eq_false; omega
              have d3 : decide (64 < (q.drop n).length) = false := by apply decide_eq_false; omega
              go_wp2_with fail
              go_roundw
              case rel => exact ⟨k + 1, q.drop n, R ++ q.take n, i, o + n, sh, by omega, by omega, by go_num, by simp [str_append, str_take], by simp [str_append], by omega, by rw [List.length_append, List.length_take]; omega, PX, FX⟩
              case measure => simp [intOf]; omega
            · by_cases k2 : kd = 2
              · subst k2
                go_wp2_with fail
                have P1a := Lib.hid (chPipe ((Ch.refl [] wr).alloc (.cells #[.int .i64 2, .int .i64 nn, .string s] 32)) P1.out (by simp))
                have HWa := Lib.hid (HW.out.alloc (.cells #[.int .i64 2, .int .i64 nn, .string s] 32))
                obtain ⟨hl1, hl2⟩ := P1.out.len
                have hz := Lib.hid (show wr.heap.size ∉ [b1] by have := P1.out.lt; simp; omega)
                have hb := Lib.hid (blk_new wr #[.int .i64 2, .int .i64 nn, .string s] 32)
                refine (Peek_any b1 q i o sh nn _ P1a.out (by omega) (by omega) (by omega)).mono ?_
                rintro e w4 ⟨rfl, hc⟩
                have PT := Lib.hid (chPipe hc P1a.out (by simp))
                have FT := Lib.hid (HWa.out.trans hc)
                clear hc
                obtain ⟨hl1, hl2⟩ := PT.out.len
                go_wp2_with fail
                have zr : (str R).size ≤ 10000 := by rw [str_size]; omega
                refine (Peek_any b1 (q) (i) (o) sh 1000 _ PT.out (by omega) (by omega) (by omega)).mono ?_
                rintro e wp ⟨rfl, hc⟩
                have ht : (q).take (min (max (1000 : Int) 0).toNat (q).length) = q := List.take_of_length_le (by omega)
                rw [ht]
                have PV := Lib.hid (chPipe hc PT.out (by simp))
                have FV := Lib.hid (FT.out.trans hc)
                have d1 : ((str R ++ str (q)).toList == (str (R ++ q)).toList) = true := by simp [str_append, str_take]
                have zq : (str (q)).size ≤ 64 := by rw [str_size]; omega
                clear hc ht
                go_wp2_with fail
                refine (Len_any _ _ _ _ _ _ PV.out (by omega)).mono ?_
                rintro e wl ⟨rfl, nq, rfl⟩
                have PX := Lib.hid (chPipe ((Ch.refl [] wp).drewN nq) PV.out (by simp))
                have FX := Lib.hid (FV.out.drewN nq)
                have d2 : decide (64 < (((q).length : Nat) : Int)) = false := by apply decide_eq_false; omega
                have d3 : decide (64 < (q).length) = false := by apply decide_eq_false; omega
                go_wp2_with fail
                go_roundw
                case rel => exact ⟨k + 1, q, R, i, o, sh, by omega, by omega, by go_num, by simp [str_append, str_take], by simp [str_append], by omega, by omega, PX, FX⟩
                case measure => simp [intOf]; omega
              · have f0 : (kd == 0) = false := by simpa using k0
                have f1 : (kd == 1) = false := by simpa using k1
                have f2 : (kd == 2) = false := by simpa using k2
                go_wp2_with fail
                have P1a := Lib.hid (chPipe ((Ch.refl [] wr).alloc (.cells #[.int .i64 kd, .int .i64 nn, .string s] 32)) P1.out (by simp))
                have HWa := Lib.hid (HW.out.alloc (.cells #[.int .i64 kd, .int .i64 nn, .string s] 32))
                obtain ⟨hl1, hl2⟩ := P1.out.len
                have hz := Lib.hid (show wr.heap.size ∉ [b1] by have := P1.out.lt; simp; omega)
                have hb := Lib.hid (blk_new wr #[.int .i64 kd, .int .i64 nn, .string s] 32)
                refine (Shut_any b1 q i o sh _ P1a.out).mono ?_
                rintro e w4 ⟨rfl, hp, hc⟩
                have PT := Lib.hid hp
                have FT := Lib.hid (HWa.out.trans' hc N1.out)
                clear hp hc
                obtain ⟨hl1, hl2⟩ := PT.out.len
                go_wp2_with fail
                have zr : (str R).size ≤ 10000 := by rw [str_size]; omega
                refine (Peek_any b1 (q) (i) (o) true 1000 _ PT.out (by omega) (by omega) (by omega)).mono ?_
                rintro e wp ⟨rfl, hc⟩
                have ht : (q).take (min (max (1000 : Int) 0).toNat (q).length) = q := List.take_of_length_le (by omega)
                rw [ht]
                have PV := Lib.hid (chPipe hc PT.out (by simp))
                have FV := Lib.hid (FT.out.trans hc)
                have d1 : ((str R ++ str (q)).toList == (str (R ++ q)).toList) = true := by simp [str_append, str_take]
                have zq : (str (q)).size ≤ 64 := by rw [str_size]; omega
                clear hc ht
                go_wp2_with fail
                refine (Len_any _ _ _ _ _ _ PV.out (by omega)).mono ?_
                rintro e wl ⟨rfl, nq, rfl⟩
                have PX := Lib.hid (chPipe ((Ch.refl [] wp).drewN nq) PV.out (by simp))
                have FX := Lib.hid (FV.out.drewN nq)
                have d2 : decide (64 < (((q).length : Nat) : Int)) = false := by apply decide_eq_false; omega
                have d3 : decide (64 < (q).length) = false := by apply decide_eq_false; omega
                go_wp2_with fail
                go_roundw
                case rel => exact ⟨k + 1, q, R, i, o, true, by omega, by omega, by go_num, by simp [str_append, str_take], by simp [str_append], by omega, by omega, PX, FX⟩
                case measure => simp [intOf]; omega
      · obtain rfl : k = 100 := by omega
        have hlt2 : decide (100 < len0) = true := decide_eq_true hlt
        go_wp2_with fail
        go_ret
        exact ⟨rfl, HW.out.below0⟩
    · have hlt2 : decide (k < len0) = false := decide_eq_false hlt
      go_wp2_with fail
      go_ret
      exact ⟨rfl, HW.out.below0⟩
set_option maxRecDepth 100000 in
set_option maxHeartbeats 1000000 in
theorem walkNil (a0 : Option Addr) (cap0 : Nat) (w : World) :
    Calls Try.prog 4 #[.slice a0 0 cap0] w fun e w' => e = .returned (.bool true) ∧ Below w.heap.size w w' := by
  go_enter Try.func4, Try.ntmps4
  go_wp2_with fail
  refine (works_any _).mono ?_
  rintro e w1 ⟨rfl, hc⟩
  have C1 := Lib.hid hc
  clear hc
  go_wp2_with fail
  refine (New_any _).mono ?_
  rintro e w2 ⟨b1, rfl, hb, hge, hc⟩
  have g1 : w.heap.size ≤ b1 := Nat.le_trans C1.out.size hge
  have D1 := Lib.hid hb
  have C2 := Lib.hid (C1.out.trans hc)
  have N1 := Lib.hid (in1 g1)
  clear hb hge hc
  go_wp2_with fail
  go_loopw [4, 5, 6] (fun wt rd ii wr => ∃ (k : Nat) (q R : List UInt8) (i o : Nat) (sh : Bool), k ≤ 100 ∧ k ≤ 0 ∧ ii = .int .i64 k ∧ wt = .string (str (R ++ q)) ∧ rd = .string (str R) ∧ i ≤ 64 * k ∧ R.length ≤ 64 * k ∧ Hid (PipeIs wr b1 q i o sh) ∧ Hid (Ch [] w wr)) (fun _ _ ii _ => (100 - intOf ii).toNat)
  case atStart => exact ⟨0, [], [], 0, 0, false, by omega, by omega, by simp, rfl, rfl, by omega, by simp, D1, C2⟩
  case round =>
    obtain ⟨k, q, R, i, o, sh, hk1, hk2, rfl, rfl, rfl, hi, hR, P1, HW⟩ := hrel
    obtain rfl : k = 0 := by omega
    go_wp2_with fail
    go_ret
    exact ⟨rfl, HW.out.below0⟩
theorem walk (a0 : Option Addr) (len0 cap0 : Nat) (w : World) (w0 : len0 = 0 ∨ ∃ b off, a0 = some ⟨b, off, none⟩ ∧ b < w.heap.size ∧ ∀ i, i < len0 → (∃ z : Int, w.cell? ⟨b, off + (i * 3 + 0), none⟩ = some (.int .i64 z) ∧ (Lit.int .i64 z).wf = true) ∧ (∃ z : Int, w.cell? ⟨b, off + (i * 3 + 1), none⟩ = some (.int .i64 z) ∧ (Lit.int .i64 z).wf = true) ∧ ∃ z : ByteArray, w.cell? ⟨b, off + (i * 3 + 2), none⟩ = some (.string z) ∧ z.size ≤ maxLen) :
    Calls Try.prog 4 #[.slice a0 len0 cap0] w fun e w' => e = .returned (.bool true) ∧ Below w.heap.size w w' := by
  rcases w0 with rfl | ⟨rb, off, rfl, hrb, hrow⟩
  · exact walkNil a0 cap0 w
  · exact walkRow rb off len0 cap0 w hrb hrow
end Go.Proofs.Ytcfkdglaedpnjaa.pipePrefixWalk
