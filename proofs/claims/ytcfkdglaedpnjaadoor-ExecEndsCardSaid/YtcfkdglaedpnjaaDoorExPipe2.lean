/- The contracts of package pipe's Peek, Read and Write. -/
import Derived.Test.YtcfkdglaedpnjaaDoorExPipe
namespace Go.Proofs.YtcfkdglaedpnjaaDoor.R
open Go Go.RowKit Go.Proofs.YtcfkdglaedpnjaaDoor.K
set_option linter.unusedVariables false
set_option linter.unusedSimpArgs false
theorem len44 : Tryd.prog.arrayLen 81 = 64 := by kernel_rfl
theorem und44 : Tryd.prog.underlying 81 = some (.array (Tryd.prog.arrayLen 81) (Tryd.prog.elem 81)) := by kernel_rfl
theorem size44 (w : World) : (sizeOf (Tryd.prog.elem 81)).run Tryd.prog w = .ok 1 w := by kernel_rfl
theorem slice_lh (W : World) (b l h : Nat) (L H : Int) (hL : L = l) (hH : H = h) (h1 : l ≤ h) (h2 : h ≤ 64) (h3 : l < 64) :
    (Instr.sliceAt 81 (.pointer (some ⟨b, 0, none⟩)) (some (.int .i64 L)) (some (.int .i64 H)) none).run Tryd.prog W = .ok (.slice (some ⟨b, l, none⟩) (h - l) (64 - l)) W := by
  subst hL hH
  rw [run_sliceAt_array_lh W 81 ⟨b, 0, none⟩ und44 .i64 .i64 l h (by omega) (by omega) (by rw [len44]; omega), len44, size44]
  have hn : ¬ 64 = l := by omega
  by_cases h0 : l = 0
  · subst h0; rfl
  · simp [Result.andThen, slicedAt, Addr.add, h0, hn]
theorem slice_h (W : World) (b h : Nat) (H : Int) (hH : H = h) (h2 : h ≤ 64) :
    (Instr.sliceAt 81 (.pointer (some ⟨b, 0, none⟩)) none (some (.int .i64 H)) none).run Tryd.prog W = .ok (.slice (some ⟨b, 0, none⟩) h 64) W := by
  subst hH
  rw [run_sliceAt_array_h W 81 ⟨b, 0, none⟩ und44 .i64 h (by omega) (by rw [len44]; omega), len44, size44]
  rfl
theorem slice_l (W : World) (b l : Nat) (L : Int) (hL : L = l) (h3 : l < 64) :
    (Instr.sliceAt 81 (.pointer (some ⟨b, 0, none⟩)) (some (.int .i64 L)) none none).run Tryd.prog W = .ok (.slice (some ⟨b, l, none⟩) (64 - l) (64 - l)) W := by
  subst hL
  rw [run_sliceAt_array_l W 81 ⟨b, 0, none⟩ und44 .i64 l (by omega) (by rw [len44]; omega), len44, size44]
  have hn : ¬ 64 = l := by omega
  by_cases h0 : l = 0
  · subst h0; rfl
  · simp [Result.andThen, slicedAt, Addr.add, h0, hn]
theorem slice_all (W : World) (b : Nat) :
    (Instr.sliceAt 81 (.pointer (some ⟨b, 0, none⟩)) none none none).run Tryd.prog W = .ok (.slice (some ⟨b, 0, none⟩) 64 64) W := by
  rw [run_sliceAt_array_all W 81 ⟨b, 0, none⟩ und44, len44, size44]
  rfl
def str (l : List UInt8) : ByteArray := ⟨l.toArray⟩
theorem str_size (l : List UInt8) : (str l).size = l.length := by simp [str, ByteArray.size]
theorem str_append (a b : List UInt8) : str a ++ str b = str (a ++ b) := by
  apply ByteArray.ext
  simp [str, ByteArray.data_append]
theorem conv_ring (w : World) (b off len cap : Nat) (cs : Array Value) (l : List UInt8) (hb : Blk w b cs 83) (hl : l.length = len) (hc : ∀ j, j < len → cs[off + j]? = some (.int .u8 ((nums l).getD j 0))) :
    ∀ nq, (convert 72 9 (.slice (some ⟨b, off, none⟩) len cap)).run Tryd.prog (w.drewN nq) = .ok (.string (str l)) (w.drewN nq) := fun nq => by
  have := run_convert_bytes_arg (w.drewN nq) 72 5 Tryd.underlying72 Tryd.underlying5 b off len cap (nums l) (by simp [nums, hl]) (fun i hi => ((hb.drewN nq).cell (off + i)).trans (hc i hi)) 9 Tryd.underlying9
  rwa [strOfNums_nums] at this
theorem Peek_any (b : Nat) (q : List UInt8) (i o : Nat) (sh : Bool) (most : Int) (w : World) (hp : PipeIs w b q i o sh) (hi : i ≤ 1000000000000) (m1 : -9223372036854775808 ≤ most) (m2 : most ≤ 9223372036854775807) :
    Calls Tryd.prog 40 #[.pointer (some ⟨b, 0, none⟩), .int .i64 most] w fun e w' => e = .returned (.string (str (q.take (min (max most 0).toNat q.length)))) ∧ Ch [] w w' := by
  obtain ⟨c1, c2, c3⟩ := hp.cells
  obtain ⟨h1, h2⟩ := hp.len
  have HP := Lib.hid hp
  obtain ⟨cs, hb, hr⟩ := hp
  have HB := Lib.hid hb
  have HR := Lib.hid hr
  obtain ⟨at_, hat⟩ : ∃ a, a = o % 64 := ⟨_, rfl⟩
  have hat1 : (o : Int) % 64 = (at_ : Int) := by omega
  have hat2 : at_ < 64 := by omega
  obtain ⟨g, hg⟩ : ∃ g, g = 64 - at_ := ⟨_, rfl⟩
  have hg1 : 64 - (at_ : Int) = (g : Int) := by omega
  have hg2 : g + at_ = 64 := by omega
  clear hg hb hr h1
  by_cases k1 : most < 0
  · have hs100 := fun W => slice_lh W b at_ (at_ + 0) ((o : Int) % 64) ((o : Int) % 64) (by omega) (by omega) (by omega) (by omega) (by omega)
    rw [show at_ + 0 - at_ = 0 by omega] at hs100
    have hs101 := fun W => slice_lh W b at_ (at_ + 0) ((o : Int) % 64) (at_ : Int) (by omega) (by omega) (by omega) (by omega) (by omega)
    rw [show at_ + 0 - at_ = 0 by omega] at hs101
    have hs110 := fun W => slice_lh W b at_ (at_ + 0) (at_ : Int) ((o : Int) % 64) (by omega) (by omega) (by omega) (by omega) (by omega)
    rw [show at_ + 0 - at_ = 0 by omega] at hs110
    have hs111 := fun W => slice_lh W b at_ (at_ + 0) (at_ : Int) (at_ : Int) (by omega) (by omega) (by omega) (by omega) (by omega)
    rw [show at_ + 0 - at_ = 0 by omega] at hs111
    have hs2 := fun W => slice_h W b (0 - 0) (0 - 0) (by omega) (by omega)
    have hs4 := fun W => slice_h W b 0 0 (by omega) (by omega)
    rw [show 0 - 0 = 0 by omega] at hs2
    have hqt : (q.take 0) = q.take 0 := rfl
    have hc1 := conv_ring w b (o % 64) 0 (64 - o % 64) cs (q.take 0) HB.out (by rw [hqt, List.length_take]; omega) (fun j hj => by rw [hqt]; exact HR.out.first 0 (by omega) (by omega) j hj)
    have hc2 := conv_ring w b 0 0 64 cs [] HB.out rfl (fun j hj => by omega)
    have hz1 : (str (q.take 0)).size ≤ 64 := by rw [str_size, hqt, List.length_take]; omega
    have hz2 : (str ([] : List UInt8)).size ≤ 64 := by rw [str_size]; simp
    have HF := Lib.hid (show str (q.take 0) ++ str [] = str (q.take 0) by rw [str_append, List.append_nil, hqt])
    clear hqt
    rw [← hat] at hc1
    have HN := Lib.hid (show min (max most 0).toNat q.length = 0 by omega)
    have HAT := Lib.hid hat
    clear hat
    go_enter Tryd.func40, Tryd.ntmps40
    go_wp2_with (go_at_call 39; with_reducible refine (Len_any _ _ _ _ _ _ HP.out hi).mono ?_; rintro e w1 ⟨rfl, nq, rfl⟩)
    go_quiet (fail)
    go_wp2
    go_ret
    exact ⟨by rw [HN.out]; exact congrArg (fun x => Ending.returned (Value.string x)) HF.out, ((Ch.refl _ _).drewN _).drewN _⟩
  · obtain ⟨m, rfl⟩ := Int.eq_ofNat_of_zero_le (show 0 ≤ most by omega)
    by_cases k2 : m ≤ q.length
    · by_cases k3 : m ≤ g
      · have hs100 := fun W => slice_lh W b at_ (at_ + m) ((o : Int) % 64) (((o : Int) % 64) + (m : Int)) (by omega) (by omega) (by omega) (by omega) (by omega)
        rw [show at_ + m - at_ = m by omega] at hs100
        have hs101 := fun W => slice_lh W b at_ (at_ + m) ((o : Int) % 64) ((at_ : Int) + (m : Int)) (by omega) (by omega) (by omega) (by omega) (by omega)
        rw [show at_ + m - at_ = m by omega] at hs101
        have hs110 := fun W => slice_lh W b at_ (at_ + m) (at_ : Int) (((o : Int) % 64) + (m : Int)) (by omega) (by omega) (by omega) (by omega) (by omega)
        rw [show at_ + m - at_ = m by omega] at hs110
        have hs111 := fun W => slice_lh W b at_ (at_ + m) (at_ : Int) ((at_ : Int) + (m : Int)) (by omega) (by omega) (by omega) (by omega) (by omega)
        rw [show at_ + m - at_ = m by omega] at hs111
        have hs2 := fun W => slice_h W b (m - m) ((m : Int) - (m : Int)) (by omega) (by omega)
        have hs4 := fun W => slice_h W b 0 0 (by omega) (by omega)
        rw [show m - m = 0 by omega] at hs2
        have hqt : (q.take m) = q.take m := rfl
        have hc1 := conv_ring w b (o % 64) m (64 - o % 64) cs (q.take m) HB.out (by rw [hqt, List.length_take]; omega) (fun j hj => by rw [hqt]; exact HR.out.first m (by omega) (by omega) j hj)
        have hc2 := conv_ring w b 0 0 64 cs [] HB.out rfl (fun j hj => by omega)
        have hz1 : (str (q.take m)).size ≤ 64 := by rw [str_size, hqt, List.length_take]; omega
        have hz2 : (str ([] : List UInt8)).size ≤ 64 := by rw [str_size]; simp
        have HF := Lib.hid (show str (q.take m) ++ str [] = str (q.take m) by rw [str_append, List.append_nil, hqt])
        clear hqt
        rw [← hat] at hc1
        have HN := Lib.hid (show min (max (m : Int) 0).toNat q.length = m by omega)
        have HAT := Lib.hid hat
        clear hat
        go_enter Tryd.func40, Tryd.ntmps40
        go_wp2_with (go_at_call 39; with_reducible refine (Len_any _ _ _ _ _ _ HP.out hi).mono ?_; rintro e w1 ⟨rfl, nq, rfl⟩)
        go_quiet (fail)
        go_wp2
        go_ret
        exact ⟨by rw [HN.out]; exact congrArg (fun x => Ending.returned (Value.string x)) HF.out, ((Ch.refl _ _).drewN _).drewN _⟩
      · have hs100 := fun W => slice_lh W b at_ (at_ + g) ((o : Int) % 64) (((o : Int) % 64) + (g : Int)) (by omega) (by omega) (by omega) (by omega) (by omega)
        rw [show at_ + g - at_ = g by omega] at hs100
        have hs101 := fun W => slice_lh W b at_ (at_ + g) ((o : Int) % 64) ((at_ : Int) + (g : Int)) (by omega) (by omega) (by omega) (by omega) (by omega)
        rw [show at_ + g - at_ = g by omega] at hs101
        have hs110 := fun W => slice_lh W b at_ (at_ + g) (at_ : Int) (((o : Int) % 64) + (g : Int)) (by omega) (by omega) (by omega) (by omega) (by omega)
        rw [show at_ + g - at_ = g by omega] at hs110
        have hs111 := fun W => slice_lh W b at_ (at_ + g) (at_ : Int) ((at_ : Int) + (g : Int)) (by omega) (by omega) (by omega) (by omega) (by omega)
        rw [show at_ + g - at_ = g by omega] at hs111
        have hs2 := fun W => slice_h W b (m - g) ((m : Int) - (g : Int)) (by omega) (by omega)
        have hqt : (q.take m) = q.take m := rfl
        have hc1 := conv_ring w b (o % 64) g (64 - o % 64) cs (q.take g) HB.out (by rw [List.length_take]; omega) (fun j hj => HR.out.first g (by omega) (by omega) j hj)
        have hc2 := conv_ring w b 0 (m - g) 64 cs ((q.take m).drop g) HB.out (by rw [hqt, List.length_drop, List.length_take]; omega) (fun j hj => by
          have := HR.out.second m (by omega) (by omega) j (by omega)
          rw [show 64 - o % 64 = g by omega] at this
          rw [Nat.zero_add, hqt]
          exact this)
        have hz1 : (str (q.take g)).size ≤ 64 := by rw [str_size, List.length_take]; omega
        have hz2 : (str ((q.take m).drop g)).size ≤ 64 := by rw [str_size, hqt, List.length_drop, List.length_take]; omega
        have HF := Lib.hid (show str (q.take g) ++ str ((q.take m).drop g) = str (q.take m) by
          rw [str_append, hqt]
          congr 1
          rw [show q.take g = (q.take m).take g by rw [List.take_take, show min g m = g by omega], List.take_append_drop])
        clear hqt
        rw [← hat] at hc1
        have HN := Lib.hid (show min (max (m : Int) 0).toNat q.length = m by omega)
        have HAT := Lib.hid hat
        clear hat
        go_enter Tryd.func40, Tryd.ntmps40
        go_wp2_with (go_at_call 39; with_reducible refine (Len_any _ _ _ _ _ _ HP.out hi).mono ?_; rintro e w1 ⟨rfl, nq, rfl⟩)
        go_quiet (fail)
        go_wp2
        go_ret
        exact ⟨by rw [HN.out]; exact congrArg (fun x => Ending.returned (Value.string x)) HF.out, ((Ch.refl _ _).drewN _).drewN _⟩
    · by_cases k3 : q.length ≤ g
      · have hs100 := fun W => slice_lh W b at_ (at_ + q.length) ((o : Int) % 64) (((o : Int) % 64) + (q.length : Int)) (by omega) (by omega) (by omega) (by omega) (by omega)
        rw [show at_ + q.length - at_ = q.length by omega] at hs100
        have hs101 := fun W => slice_lh W b at_ (at_ + q.length) ((o : Int) % 64) ((at_ : Int) + (q.length : Int)) (by omega) (by omega) (by omega) (by omega) (by omega)
        rw [show at_ + q.length - at_ = q.length by omega] at hs101
        have hs110 := fun W => slice_lh W b at_ (at_ + q.length) (at_ : Int) (((o : Int) % 64) + (q.length : Int)) (by omega) (by omega) (by omega) (by omega) (by omega)
        rw [show at_ + q.length - at_ = q.length by omega] at hs110
        have hs111 := fun W => slice_lh W b at_ (at_ + q.length) (at_ : Int) ((at_ : Int) + (q.length : Int)) (by omega) (by omega) (by omega) (by omega) (by omega)
        rw [show at_ + q.length - at_ = q.length by omega] at hs111
        have hs2 := fun W => slice_h W b (q.length - q.length) ((q.length : Int) - (q.length : Int)) (by omega) (by omega)
        have hs4 := fun W => slice_h W b 0 0 (by omega) (by omega)
        rw [show q.length - q.length = 0 by omega] at hs2
        have hc1 := conv_ring w b (o % 64) q.length (64 - o % 64) cs q HB.out rfl (fun j hj => by
          have := HR.out.first q.length (by omega) (by omega) j hj
          rwa [List.take_length] at this)
        have hc2 := conv_ring w b 0 0 64 cs [] HB.out rfl (fun j hj => by omega)
        have hz1 : (str q).size ≤ 64 := by rw [str_size]; omega
        have hz2 : (str ([] : List UInt8)).size ≤ 64 := by rw [str_size]; simp
        have HF := Lib.hid (show str q ++ str [] = str (q.take q.length) by rw [str_append, List.append_nil, List.take_length])
        rw [← hat] at hc1
        have HN := Lib.hid (show min (max (m : Int) 0).toNat q.length = q.length by omega)
        have HAT := Lib.hid hat
        clear hat
        go_enter Tryd.func40, Tryd.ntmps40
        go_wp2_with (go_at_call 39; with_reducible refine (Len_any _ _ _ _ _ _ HP.out hi).mono ?_; rintro e w1 ⟨rfl, nq, rfl⟩)
        go_quiet (fail)
        go_wp2
        go_ret
        exact ⟨by rw [HN.out]; exact congrArg (fun x => Ending.returned (Value.string x)) HF.out, ((Ch.refl _ _).drewN _).drewN _⟩
      · have hs100 := fun W => slice_lh W b at_ (at_ + g) ((o : Int) % 64) (((o : Int) % 64) + (g : Int)) (by omega) (by omega) (by omega) (by omega) (by omega)
        rw [show at_ + g - at_ = g by omega] at hs100
        have hs101 := fun W => slice_lh W b at_ (at_ + g) ((o : Int) % 64) ((at_ : Int) + (g : Int)) (by omega) (by omega) (by omega) (by omega) (by omega)
        rw [show at_ + g - at_ = g by omega] at hs101
        have hs110 := fun W => slice_lh W b at_ (at_ + g) (at_ : Int) (((o : Int) % 64) + (g : Int)) (by omega) (by omega) (by omega) (by omega) (by omega)
        rw [show at_ + g - at_ = g by omega] at hs110
        have hs111 := fun W => slice_lh W b at_ (at_ + g) (at_ : Int) ((at_ : Int) + (g : Int)) (by omega) (by omega) (by omega) (by omega) (by omega)
        rw [show at_ + g - at_ = g by omega] at hs111
        have hs2 := fun W => slice_h W b (q.length - g) ((q.length : Int) - (g : Int)) (by omega) (by omega)
        have hc1 := conv_ring w b (o % 64) g (64 - o % 64) cs (q.take g) HB.out (by rw [List.length_take]; omega) (fun j hj => HR.out.first g (by omega) (by omega) j hj)
        have hc2 := conv_ring w b 0 (q.length - g) 64 cs (q.drop g) HB.out (by rw [List.length_drop]) (fun j hj => by
          have := HR.out.second q.length (by omega) (by omega) j (by omega)
          rw [show 64 - o % 64 = g by omega, List.take_length] at this
          rw [Nat.zero_add]
          exact this)
        have hz1 : (str (q.take g)).size ≤ 64 := by rw [str_size, List.length_take]; omega
        have hz2 : (str (q.drop g)).size ≤ 64 := by rw [str_size, List.length_drop]; omega
        have HF := Lib.hid (show str (q.take g) ++ str (q.drop g) = str (q.take q.length) by rw [str_append, List.take_append_drop, List.take_length])
        rw [← hat] at hc1
        have HN := Lib.hid (show min (max (m : Int) 0).toNat q.length = q.length by omega)
        have HAT := Lib.hid hat
        clear hat
        go_enter Tryd.func40, Tryd.ntmps40
        go_wp2_with (go_at_call 39; with_reducible refine (Len_any _ _ _ _ _ _ HP.out hi).mono ?_; rintro e w1 ⟨rfl, nq, rfl⟩)
        go_quiet (fail)
        go_wp2
        go_ret
        exact ⟨by rw [HN.out]; exact congrArg (fun x => Ending.returned (Value.string x)) HF.out, ((Ch.refl _ _).drewN _).drewN _⟩
theorem Read_any (b : Nat) (q : List UInt8) (i o : Nat) (sh : Bool) (most : Int) (w : World) (hp : PipeIs w b q i o sh) (hi : i ≤ 1000000000000) (m1 : -9223372036854775808 ≤ most) (m2 : most ≤ 9223372036854775807) :
    Calls Tryd.prog 26 #[.pointer (some ⟨b, 0, none⟩), .int .i64 most] w fun e w' => e = .returned (.string (str (q.take (min (max most 0).toNat q.length)))) ∧ PipeIs w' b (q.drop (min (max most 0).toNat q.length)) i (o + min (max most 0).toNat q.length) sh ∧ Ch [b] w w' := by
  obtain ⟨n, hn⟩ : ∃ n, n = min (max most 0).toNat q.length := ⟨_, rfl⟩
  have hnl : n ≤ q.length := by omega
  have HN := Lib.hid hn
  have HS := Lib.hid (show (str (q.take n)).size = n by rw [str_size, List.length_take]; omega)
  obtain ⟨hl1, hl2⟩ := hp.len
  have ho : o ≤ i := by omega
  clear hl1
  have HP := Lib.hid hp
  clear hp hn
  go_enter Tryd.func26, Tryd.ntmps26
  go_wp2_with fail
  refine (Peek_any _ _ _ _ _ _ _ HP.out hi m1 m2).mono ?_
  rintro e w1 ⟨rfl, hc⟩
  rw [← HN.out]
  obtain ⟨cs, hb, hr⟩ := chPipe hc HP.out (by simp)
  have c65 : w1.cell? ⟨b, 65, none⟩ = some (.int .i64 o) := (hb.cell 65).trans hr.2.2.2.2.2.2.1
  have f65 := hb.frozen 65
  have HB := Lib.hid hb
  have HR := Lib.hid hr
  have HC := Lib.hid hc
  have hs := HS.out
  clear hb hr hc
  go_wp2_with fail
  go_ret
  refine ⟨by rw [← HN.out]; rfl, ⟨_, HB.out.set 65 _, ?_⟩, HC.out.of0.setCell (.inl (by simp)) _⟩
  rw [← HN.out]
  simpa using HR.out.read n hnl
set_option maxHeartbeats 1000000 in
theorem Write_any (b : Nat) (q : List UInt8) (i o : Nat) (sh : Bool) (s : ByteArray) (w : World) (hp : PipeIs w b q i o sh) (hi : i ≤ 1000000000000) (hs : s.size ≤ 9223372036854775807) :
    Calls Tryd.prog 25 #[.pointer (some ⟨b, 0, none⟩), .string s] w fun e w' => e = .returned (.int .i64 ((min s.size (room q sh) : Nat) : Int)) ∧ PipeIs w' b (q ++ s.data.toList.take (min s.size (room q sh))) (i + min s.size (room q sh)) o sh ∧ Ch [b] w w' := by
  obtain ⟨h1, h2⟩ := hp.len
  have HP := Lib.hid hp
  obtain ⟨cs, hb, hr⟩ := hp
  have HB := Lib.hid hb
  have HR := Lib.hid hr
  obtain ⟨r, hrm⟩ : ∃ r, r = room q sh := ⟨_, rfl⟩
  have hr1 : r + q.length ≤ 64 := by rw [hrm]; unfold room; split <;> omega
  have HRM := Lib.hid hrm.symm
  obtain ⟨at_, hat⟩ : ∃ a, a = i % 64 := ⟨_, rfl⟩
  have hat2 : at_ < 64 := by omega
  have hat3 : (i : Int) % 64 = (at_ : Int) := by omega
  have HAT := Lib.hid hat
  clear hb hr hrm hat h1
  by_cases k : s.size ≤ r
  · have hex : s.extract 0 s.size = s := by
      apply ByteArray.ext
      simp [ByteArray.data_extract]
    have HLT := Lib.hid (show s.data.toList.length = s.size from Array.length_toList)
    have HTL := Lib.hid (show s.data.toList.take s.size = s.data.toList from List.take_of_length_le (by simp))
    have k' : (s.size : Int) ≤ (r : Int) := by omega
    obtain ⟨n1, hn1⟩ : ∃ k, k = min s.size (64 - at_) := ⟨_, rfl⟩
    have hq1 : n1 ≤ s.size := by omega
    have hq2 : (n1 : Int) ≤ ((s.size : Nat) : Int) := by omega
    have hq3 : n1 ≤ 64 - at_ := by omega
    have hq5 : s.size - n1 ≤ 64 := by omega
    have HNW := Lib.hid (show min s.size (room q sh) = s.size by rw [HRM.out]; omega)
    have HN1 := Lib.hid hn1
    clear hn1
    go_enter Tryd.func25, Tryd.ntmps25
    go_wp2_with fail
    refine (Room_any _ _ _ _ _ _ HP.out hi).mono ?_
    rintro e w1 ⟨rfl, nq, rfl⟩
    rw [HRM.out]
    have HB1 := Lib.hid (HB.out.drewN nq)
    have HW1 := Lib.hid ((Ch.refl [] w).drewN nq)
    generalize w.drewN nq = w1 at *
    have c64 : w1.cell? ⟨b, 64, none⟩ = some (.int .i64 i) := (HB1.out.cell 64).trans HR.out.2.2.2.2.2.1
    have hs1 := fun W => slice_l W b at_ ((i : Int) % 64) (by omega) (by omega)
    have hs2 := fun W => slice_l W b at_ (at_ : Int) rfl (by omega)
    have hcp : (Builtin.copy_ #[72, 9] 3 #[.slice (some ⟨b, at_, none⟩) (64 - at_) (64 - at_), .string s]).run Tryd.prog w1 = .ok (.int .i64 n1) (w1.setCells b at_ (byteVals (s.data.toList.take n1))) :=
      run_copy_str w1 72 9 3 5 b at_ (64 - at_) (64 - at_) s n1 (HN1.out) Tryd.underlying72 (by kernel_rfl) (fun j hj => by rw [HB1.out.cell, Array.getElem?_eq_getElem (by rw [HR.out.1]; omega)]; rfl) (fun j hj => HB1.out.frozen _)
    go_wp2_with fail
    have HB2 := Lib.hid (blk_setCells (byteVals (s.data.toList.take n1)) w1 b cs 83 at_ HB1.out)
    have HW2 := Lib.hid (ch_setCells (byteVals (s.data.toList.take n1)) w w1 [b] b at_ HW1.out.of0 (.inl (by simp)))
    clear hcp c64 hs1 hs2
    generalize w1.setCells b at_ (byteVals (s.data.toList.take n1)) = w2 at *
    have hs3 := fun W => slice_all W b
    have hq4 : (s.extract n1 s.size).size = s.size - n1 := by rw [ByteArray.size_extract]; omega
    obtain ⟨L2, hL2⟩ : ∃ L, L = byteVals ((s.extract n1 s.size).data.toList.take (s.size - n1)) := ⟨_, rfl⟩
    have hcp : (Builtin.copy_ #[72, 9] 3 #[.slice (some ⟨b, 0, none⟩) 64 64, .string (s.extract n1 s.size)]).run Tryd.prog w2.drew = .ok (.int .i64 ((s.size - n1 : Nat) : Int)) (w2.drew.setCells b 0 L2) := by
      rw [hL2]
      exact run_copy_str w2.drew 72 9 3 5 b 0 64 64 _ (s.size - n1) (by rw [hq4]; exact (Nat.min_eq_left hq5).symm) Tryd.underlying72 (by kernel_rfl) (fun j hj => by rw [HB2.out.drew.cell, Array.getElem?_eq_getElem (by rw [put_size, HR.out.1]; omega)]; rfl) (fun j hj => HB2.out.drew.frozen _)
    have HL2 := Lib.hid hL2
    clear hL2
    have HQ4 := Lib.hid hq4
    clear hq4
    go_region
    have HB3 := Lib.hid (blk_setCells L2 w2.drew b _ 83 0 HB2.out.drew)
    have HW3 := Lib.hid (ch_setCells L2 w w2.drew [b] b 0 HW2.out.drew (.inl (by simp)))
    clear hcp hs3
    generalize w2.drew.setCells b 0 L2 = w3 at *
    have hlist : put (put cs at_ (byteVals (s.data.toList.take n1))) 0 L2 = put (put cs (i % 64) (byteVals (s.data.toList.take (min s.data.toList.length (64 - i % 64))))) 0 (byteVals (s.data.toList.drop (min s.data.toList.length (64 - i % 64)))) := by
      rw [HL2.out, HLT.out, ← HAT.out, ← HN1.out]
      congr 2
      rw [ByteArray.data_extract, Array.toList_extract, List.extract_eq_take_drop, List.take_take, List.take_of_length_le (by rw [List.length_drop, HLT.out]; omega)]
    rw [hlist] at HB3
    have hd64 : w3.cell? ⟨b, 64, none⟩ = some (.int .i64 i) := (HB3.out.cell 64).trans (by
      rw [put_out _ _ _ _ (by rw [byteVals_length, List.length_drop, HLT.out]; omega), put_out _ _ _ _ (by rw [byteVals_length, List.length_take, HLT.out]; omega)]
      exact HR.out.2.2.2.2.2.1)
    have f64 := HB3.out.frozen 64
    clear hlist
    go_wp2
    go_ret
    refine ⟨by rw [HNW.out]; rfl, ⟨_, HB3.out.set 64 _, ?_⟩, HW3.out.setCell (.inl (by simp)) _⟩
    rw [HNW.out, HTL.out]
    have := HR.out.write s.data.toList (by rw [HLT.out]; omega)
    rw [HLT.out] at this
    simpa [wr, HLT.out] using this
  · obtain ⟨T, hT⟩ : ∃ T, T = s.extract 0 r := ⟨_, rfl⟩
    have hex : s.extract 0 r = T := hT.symm
    have HTS := Lib.hid (show T.size = r by rw [hT, ByteArray.size_extract]; omega)
    have HTL := Lib.hid (show s.data.toList.take r = T.data.toList by rw [hT, ByteArray.data_extract, Array.toList_extract, List.extract_eq_take_drop]; simp)
    have k' : (r : Int) < (s.size : Int) := by omega
    have HLT := Lib.hid (show T.data.toList.length = r from Array.length_toList.trans HTS.out)
    clear hT
    have hTs : T.size = r := HTS.out
    obtain ⟨n1, hn1⟩ : ∃ k, k = min r (64 - at_) := ⟨_, rfl⟩
    have hq1 : n1 ≤ r := by omega
    have hq2 : (n1 : Int) ≤ ((r : Nat) : Int) := by omega
    have hq3 : n1 ≤ 64 - at_ := by omega
    have hq5 : r - n1 ≤ 64 := by omega
    have HNW := Lib.hid (show min s.size (room q sh) = r by rw [HRM.out]; omega)
    have HN1 := Lib.hid hn1
    clear hn1
    go_enter Tryd.func25, Tryd.ntmps25
    go_wp2_with fail
    refine (Room_any _ _ _ _ _ _ HP.out hi).mono ?_
    rintro e w1 ⟨rfl, nq, rfl⟩
    rw [HRM.out]
    have HB1 := Lib.hid (HB.out.drewN nq)
    have HW1 := Lib.hid ((Ch.refl [] w).drewN nq)
    generalize w.drewN nq = w1 at *
    have c64 : w1.cell? ⟨b, 64, none⟩ = some (.int .i64 i) := (HB1.out.cell 64).trans HR.out.2.2.2.2.2.1
    have hs1 := fun W => slice_l W b at_ ((i : Int) % 64) (by omega) (by omega)
    have hs2 := fun W => slice_l W b at_ (at_ : Int) rfl (by omega)
    have hcp : (Builtin.copy_ #[72, 9] 3 #[.slice (some ⟨b, at_, none⟩) (64 - at_) (64 - at_), .string T]).run Tryd.prog w1 = .ok (.int .i64 n1) (w1.setCells b at_ (byteVals (T.data.toList.take n1))) :=
      run_copy_str w1 72 9 3 5 b at_ (64 - at_) (64 - at_) T n1 (by rw [hTs]; exact HN1.out) Tryd.underlying72 (by kernel_rfl) (fun j hj => by rw [HB1.out.cell, Array.getElem?_eq_getElem (by rw [HR.out.1]; omega)]; rfl) (fun j hj => HB1.out.frozen _)
    go_wp2_with fail
    have HB2 := Lib.hid (blk_setCells (byteVals (T.data.toList.take n1)) w1 b cs 83 at_ HB1.out)
    have HW2 := Lib.hid (ch_setCells (byteVals (T.data.toList.take n1)) w w1 [b] b at_ HW1.out.of0 (.inl (by simp)))
    clear hcp c64 hs1 hs2
    generalize w1.setCells b at_ (byteVals (T.data.toList.take n1)) = w2 at *
    have hs3 := fun W => slice_all W b
    have hq4 : (T.extract n1 r).size = r - n1 := by rw [ByteArray.size_extract]; omega
    obtain ⟨L2, hL2⟩ : ∃ L, L = byteVals ((T.extract n1 r).data.toList.take (r - n1)) := ⟨_, rfl⟩
    have hcp : (Builtin.copy_ #[72, 9] 3 #[.slice (some ⟨b, 0, none⟩) 64 64, .string (T.extract n1 r)]).run Tryd.prog w2.drew = .ok (.int .i64 ((r - n1 : Nat) : Int)) (w2.drew.setCells b 0 L2) := by
      rw [hL2]
      exact run_copy_str w2.drew 72 9 3 5 b 0 64 64 _ (r - n1) (by rw [hq4]; exact (Nat.min_eq_left hq5).symm) Tryd.underlying72 (by kernel_rfl) (fun j hj => by rw [HB2.out.drew.cell, Array.getElem?_eq_getElem (by rw [put_size, HR.out.1]; omega)]; rfl) (fun j hj => HB2.out.drew.frozen _)
    have HL2 := Lib.hid hL2
    clear hL2
    have HQ4 := Lib.hid hq4
    clear hq4
    go_region
    have HB3 := Lib.hid (blk_setCells L2 w2.drew b _ 83 0 HB2.out.drew)
    have HW3 := Lib.hid (ch_setCells L2 w w2.drew [b] b 0 HW2.out.drew (.inl (by simp)))
    clear hcp hs3
    generalize w2.drew.setCells b 0 L2 = w3 at *
    have hlist : put (put cs at_ (byteVals (T.data.toList.take n1))) 0 L2 = put (put cs (i % 64) (byteVals (T.data.toList.take (min T.data.toList.length (64 - i % 64))))) 0 (byteVals (T.data.toList.drop (min T.data.toList.length (64 - i % 64)))) := by
      rw [HL2.out, HLT.out, ← HAT.out, ← HN1.out]
      congr 2
      rw [ByteArray.data_extract, Array.toList_extract, List.extract_eq_take_drop, List.take_take, List.take_of_length_le (by rw [List.length_drop, HLT.out]; omega)]
    rw [hlist] at HB3
    have hd64 : w3.cell? ⟨b, 64, none⟩ = some (.int .i64 i) := (HB3.out.cell 64).trans (by
      rw [put_out _ _ _ _ (by rw [byteVals_length, List.length_drop, HLT.out]; omega), put_out _ _ _ _ (by rw [byteVals_length, List.length_take, HLT.out]; omega)]
      exact HR.out.2.2.2.2.2.1)
    have f64 := HB3.out.frozen 64
    clear hlist
    go_wp2
    go_ret
    refine ⟨by rw [HNW.out]; rfl, ⟨_, HB3.out.set 64 _, ?_⟩, HW3.out.setCell (.inl (by simp)) _⟩
    rw [HNW.out, HTL.out]
    have := HR.out.write T.data.toList (by rw [HLT.out]; omega)
    rw [HLT.out] at this
    simpa [wr, HLT.out] using this
end Go.Proofs.YtcfkdglaedpnjaaDoor.R
