/- The reference functions of layer 20. -/
import Derived.Test.YtcfkdglaedpnjaaPipeWorks
namespace Go.Proofs.Ytcfkdglaedpnjaa.R
open Go Go.RowKit Go.Proofs.Ytcfkdglaedpnjaa.K
set_option linter.unusedVariables false
set_option linter.unusedSimpArgs false
theorem ext_take (l : List UInt8) (n : Nat) : (str l).extract 0 n = str (l.take n) := by
  apply ByteArray.ext
  apply Array.ext'
  simp [str, ByteArray.extract, ByteArray.copySlice]
theorem ext_take' (s : ByteArray) (n : Nat) : s.extract 0 n = str (s.data.toList.take n) := ext_take s.data.toList n
theorem ext_drop (l : List UInt8) (n : Nat) : (str l).extract n l.length = str (l.drop n) := by
  apply ByteArray.ext
  apply Array.ext'
  simp [str, ByteArray.extract, ByteArray.copySlice]
  rw [List.take_of_length_le (by simp)]
theorem RefRoom_any (q : List UInt8) (i o : Nat) (sh : Bool) (w : World) (hl : q.length ≤ 64) :
    Calls Try.prog 18 #[.agg #[.string (str q), .int .i64 i, .int .i64 o, .bool sh]] w fun e w' => e = .returned (.int .i64 (room q sh)) ∧ Ch [] w w' := by
  have hs := str_size q
  generalize str q = S at *
  go_enter Try.func18, Try.ntmps18
  cases sh
  · go_wp2_with fail
    go_ret
    refine ⟨?_, (Ch.refl _ _).alloc _⟩
    unfold room
    simp
    omega
  · go_wp2_with fail
    go_ret
    exact ⟨by simp [room], (Ch.refl _ _).alloc _⟩
theorem RefPeek_any (q : List UInt8) (i o : Nat) (sh : Bool) (most : Int) (w : World) (hl : q.length ≤ 64) (m1 : -9223372036854775808 ≤ most) (m2 : most ≤ 9223372036854775807) :
    Calls Try.prog 15 #[.agg #[.string (str q), .int .i64 i, .int .i64 o, .bool sh], .int .i64 most] w fun e w' => e = .returned (.string (str (q.take (min (max most 0).toNat q.length)))) ∧ Ch [] w w' := by
  have hs := str_size q
  have he := Lib.hid (ext_take q)
  go_enter Try.func15, Try.ntmps15
  by_cases h1 : most < 1
  · have d1 : decide (most < 1) = true := decide_eq_true h1
    go_wp2_with fail
    go_ret
    refine ⟨?_, (Ch.refl _ _).alloc _⟩
    rw [show min (max most 0).toNat q.length = 0 by omega]
    rfl
  · have d1 : decide (most < 1) = false := decide_eq_false h1
    by_cases h2 : (q.length : Int) < most
    · have d2 : decide ((q.length : Int) < most) = true := decide_eq_true h2
      have d3 : decide (((str q).size : Int) < most) = true := by rw [hs]; exact d2
      go_wp2_with fail
      go_ret
      refine ⟨?_, (Ch.refl _ _).alloc _⟩
      rw [show min (max most 0).toNat q.length = q.length by omega, List.take_length]
      rfl
    · have d2 : decide ((q.length : Int) < most) = false := decide_eq_false h2
      obtain ⟨m, rfl⟩ : ∃ m : Nat, most = m := ⟨most.toNat, by omega⟩
      have d3 : decide (((str q).size : Int) < (m : Int)) = false := by rw [hs]; exact d2
      have d4 : decide ((str q).size < m) = false := by rw [hs]; exact decide_eq_false (by omega)
      have d5 : decide (q.length < m) = false := decide_eq_false (by omega)
      go_wp2_with fail
      go_ret
      refine ⟨?_, (Ch.refl _ _).alloc _⟩
      rw [show min m q.length = m by omega, ← he.out]
      rfl
theorem RefWrite_any (q : List UInt8) (i o : Nat) (sh : Bool) (s : ByteArray) (w : World) (hl : q.length ≤ 64) (hi : i ≤ 1000000000000) (hz : s.size ≤ 300) :
    Calls Try.prog 13 #[.agg #[.string (str q), .int .i64 i, .int .i64 o, .bool sh], .string s] w fun e w' => e = .returned (.tuple #[.agg #[.string (str (q ++ s.data.toList.take (min s.size (room q sh)))), .int .i64 ((i + min s.size (room q sh) : Nat) : Int), .int .i64 ((o : Nat) : Int), .bool sh], .int .i64 ((min s.size (room q sh) : Nat) : Int)]) ∧ Ch [] w w' := by
  obtain ⟨n, hn⟩ : ∃ n, n = min s.size (room q sh) := ⟨_, rfl⟩
  rw [← hn]
  have hr64 : room q sh ≤ 64 := by unfold room; split <;> omega
  obtain ⟨r, hr⟩ : ∃ r, r = room q sh := ⟨_, rfl⟩
  have HR := Lib.hid hr
  rw [← hr] at hn hr64
  clear hr
  have hs := str_size q
  go_enter Try.func13, Try.ntmps13
  go_wp2_with fail
  refine (RefRoom_any q i o sh _ hl).mono ?_
  rintro e w1 ⟨rfl, hc⟩
  rw [← HR.out]
  have B := hc.blk (((blk_new w #[.string (str q), .int .i64 i, .int .i64 o, .bool sh] 35).alloc _)) (by simp)
  have B2 := hc.blk (blk_new (w.alloc (.cells #[.string (str q), .int .i64 i, .int .i64 o, .bool sh] 35)) #[.string ⟨#[]⟩, .int .i64 0, .int .i64 0, .bool false] 35) (by simp)
  have hs2 : (w.alloc (.cells #[.string (str q), .int .i64 i, .int .i64 o, .bool sh] 35)).heap.size = w.heap.size + 1 := by simp
  rw [hs2] at B2
  have c0 := B.cell 0
  have c1 := B.cell 1
  have c2 := B.cell 2
  have c3 := B.cell 3
  have f0 := B.frozen 0
  have f1 := B.frozen 1
  have e0 := B2.cell 0
  have e1 := B2.cell 1
  have e2 := B2.cell 2
  have e3 := B2.cell 3
  have k0 := B2.frozen 0
  have k1 := B2.frozen 1
  have k2 := B2.frozen 2
  have k3 := B2.frozen 3
  simp at c0 c1 c2 c3 e0 e1 e2 e3
  have hlt := B2.lt
  have HC := Lib.hid (Ch.trans ((((Ch.refl [] w).alloc _).alloc _)) hc)
  have hd := Lib.hid (ext_take' s)
  clear hc B B2 hs2
  by_cases h : s.size < r
  · obtain rfl : n = s.size := by omega
    clear hn
    have d1 : decide (s.size < r) = true := decide_eq_true h
    have d2 : decide ((s.size : Int) < (r : Int)) = true := decide_eq_true (by omega)
    go_wp2_with fail
    go_region
    go_wp2_with fail
    have hp : (q ++ s.data.toList.take s.size) = q ++ s.data.toList.take s.size := rfl
    refine bodyPost_ret (v := .tuple #[.agg #[.string (str q ++ s), .int .i64 (↑i + ↑s.size), .int .i64 o, .bool sh], .int .i64 s.size]) (by simp [results, Try.results13, go_sem, c0, c1, c2, c3, e0, e1, e2, e3]) rfl ⟨?_, ?_⟩
    · have he := hd.out s.size
      simp at he
      have he2 : str q ++ s = str (q ++ s.data.toList.take s.size) := by rw [← str_append, ← he]
      simp [he2]
    · exact ((((((HC.out.setCell (.inr (by simp)) _).setCell (.inr (by simp)) _).setCell (.inr (by simp)) _).setCell (.inr (by simp)) _).setCell (.inr (by simp)) _).setCell (.inr (by simp)) _).drew
  · obtain rfl : n = r := by omega
    clear hn
    have d1 : decide (s.size < n) = false := decide_eq_false h
    have d2 : decide ((s.size : Int) < (n : Int)) = false := decide_eq_false (by omega)
    go_wp2_with fail
    go_region
    go_wp2_with fail
    have hp : (q ++ s.data.toList.take n) = q ++ s.data.toList.take n := rfl
    refine bodyPost_ret (v := .tuple #[.agg #[.string (str q ++ s.extract 0 n), .int .i64 (↑i + ↑n), .int .i64 o, .bool sh], .int .i64 n]) (by simp [results, Try.results13, go_sem, c0, c1, c2, c3, e0, e1, e2, e3]) rfl ⟨?_, ?_⟩
    · simp [str_append, hd.out n]
    · exact ((((((HC.out.setCell (.inr (by simp)) _).setCell (.inr (by simp)) _).setCell (.inr (by simp)) _).setCell (.inr (by simp)) _).setCell (.inr (by simp)) _).setCell (.inr (by simp)) _).drew
theorem RefRead_any (q : List UInt8) (i o : Nat) (sh : Bool) (most : Int) (w : World) (hl : q.length ≤ 64) (ho : o ≤ 1000000000000) (m1 : -9223372036854775808 ≤ most) (m2 : most ≤ 9223372036854775807) :
    Calls Try.prog 14 #[.agg #[.string (str q), .int .i64 i, .int .i64 o, .bool sh], .int .i64 most] w fun e w' => e = .returned (.tuple #[.agg #[.string (str (q.drop (min (max most 0).toNat q.length))), .int .i64 ((i : Nat) : Int), .int .i64 ((o + min (max most 0).toNat q.length : Nat) : Int), .bool sh], .string (str (q.take (min (max most 0).toNat q.length)))]) ∧ Ch [] w w' := by
  obtain ⟨n, hn⟩ : ∃ n, n = min (max most 0).toNat q.length := ⟨_, rfl⟩
  have HN := Lib.hid hn
  have hnl : n ≤ q.length := by omega
  rw [← hn]
  clear hn
  have hs := str_size q
  have ht : (str (q.take n)).size = n := by rw [str_size, List.length_take]; omega
  have hd := Lib.hid (ext_drop q n)
  go_enter Try.func14, Try.ntmps14
  go_wp2_with fail
  refine (RefPeek_any q i o sh most _ hl m1 m2).mono ?_
  rintro e w1 ⟨rfl, hc⟩
  rw [← HN.out]
  have B := hc.blk (((blk_new w #[.string (str q), .int .i64 i, .int .i64 o, .bool sh] 35).alloc _)) (by simp)
  have B2 := hc.blk (blk_new (w.alloc (.cells #[.string (str q), .int .i64 i, .int .i64 o, .bool sh] 35)) #[.string ⟨#[]⟩, .int .i64 0, .int .i64 0, .bool false] 35) (by simp)
  have hs2 : (w.alloc (.cells #[.string (str q), .int .i64 i, .int .i64 o, .bool sh] 35)).heap.size = w.heap.size + 1 := by simp
  rw [hs2] at B2
  have c0 := B.cell 0
  have c1 := B.cell 1
  have c2 := B.cell 2
  have c3 := B.cell 3
  have f0 := B.frozen 0
  have f2 := B.frozen 2
  have e0 := B2.cell 0
  have e1 := B2.cell 1
  have e2 := B2.cell 2
  have e3 := B2.cell 3
  have k0 := B2.frozen 0
  have k1 := B2.frozen 1
  have k2 := B2.frozen 2
  have k3 := B2.frozen 3
  simp at c0 c1 c2 c3 e0 e1 e2 e3
  have hlt := B2.lt
  have HC := Lib.hid (Ch.trans ((((Ch.refl [] w).alloc _).alloc _)) hc)
  clear hc B B2 hs2
  go_wp2_with fail
  refine bodyPost_ret (v := .tuple #[.agg #[.string (str (q.drop n)), .int .i64 i, .int .i64 (↑o + ↑n), .bool sh], .string (str (q.take n))]) (by simp [results, Try.results14, go_sem, c0, c1, c2, c3, e0, e1, e2, e3, hd.out]) rfl ⟨?_, ?_⟩
  · simp
  · exact (((((HC.out.setCell (.inr (by simp)) _).setCell (.inr (by simp)) _).setCell (.inr (by simp)) _).setCell (.inr (by simp)) _).setCell (.inr (by simp)) _).setCell (.inr (by simp)) _
end Go.Proofs.Ytcfkdglaedpnjaa.R
