/- The walk of the law PipePlays: the pipe answers as the document has it. -/
import Derived.Test.YtcfkdglaedpnjaaPipeRef
import Derived.Test.YtcfkdglaedpnjaaKit2
import Derived.Deep.CutBlock
import Derived.Deep.DeepCutAuto
namespace Go.Proofs.Ytcfkdglaedpnjaa.pipePlaysWalk
open Go Go.RowKit Go.Proofs.Ytcfkdglaedpnjaa.K Go.Proofs.Ytcfkdglaedpnjaa.R
set_option linter.unusedVariables false
set_option linter.unusedSimpArgs false
theorem cells35 {w : World} {b : Nat} {q : List UInt8} {i o : Nat} {sh : Bool} (h : Blk w b #[.string (str q), .int .i64 i, .int .i64 o, .bool sh] 35) :
    w.cell? ⟨b, 0, none⟩ = some (.string (str q)) ∧ w.cell? ⟨b, 1, none⟩ = some (.int .i64 i) ∧ w.cell? ⟨b, 2, none⟩ = some (.int .i64 o) ∧ w.cell? ⟨b, 3, none⟩ = some (.bool sh) ∧
    w.frozen? ⟨b, 0, none⟩ = false ∧ w.frozen? ⟨b, 1, none⟩ = false ∧ w.frozen? ⟨b, 2, none⟩ = false ∧ w.frozen? ⟨b, 3, none⟩ = false ∧ b < w.heap.size :=
  ⟨h.cell 0, h.cell 1, h.cell 2, h.cell 3, h.frozen 0, h.frozen 1, h.frozen 2, h.frozen 3, h.lt⟩
theorem stepQ {w w3 : World} {qb b1 ab : Nat} {q q1 : List UInt8} {i o i1 o1 : Nat} {sh sh1 : Bool} {cs : Array Value} {t : TypeId} (P3 : PipeIs w3 b1 q i o sh) (Q3 : Blk w3 qb #[.string (str q1), .int .i64 i1, .int .i64 o1, .bool sh1] 35) (H3 : Blk w3 ab cs t) (F3 : Ch [] w w3) (hne : b1 ≠ qb) (hne2 : ab ≠ qb) (hq : w.heap.size ≤ qb) (v0 v1 v2 v3 : Value) (ob : Obj) :
    PipeIs (((((w3.setCell ⟨qb, 0, none⟩ v0).setCell ⟨qb, 1, none⟩ v1).setCell ⟨qb, 2, none⟩ v2).setCell ⟨qb, 3, none⟩ v3).alloc ob) b1 q i o sh ∧
    Blk (((((w3.setCell ⟨qb, 0, none⟩ v0).setCell ⟨qb, 1, none⟩ v1).setCell ⟨qb, 2, none⟩ v2).setCell ⟨qb, 3, none⟩ v3).alloc ob) qb #[v0, v1, v2, v3] 35 ∧
    Blk (((((w3.setCell ⟨qb, 0, none⟩ v0).setCell ⟨qb, 1, none⟩ v1).setCell ⟨qb, 2, none⟩ v2).setCell ⟨qb, 3, none⟩ v3).alloc ob) ab cs t ∧
    Ch [] w (((((w3.setCell ⟨qb, 0, none⟩ v0).setCell ⟨qb, 1, none⟩ v1).setCell ⟨qb, 2, none⟩ v2).setCell ⟨qb, 3, none⟩ v3).alloc ob) := by
  have h1 : Ch [qb] w3 (((((w3.setCell ⟨qb, 0, none⟩ v0).setCell ⟨qb, 1, none⟩ v1).setCell ⟨qb, 2, none⟩ v2).setCell ⟨qb, 3, none⟩ v3).alloc ob) :=
    (((((Ch.refl [qb] w3).setCell (.inl (by simp)) v0).setCell (.inl (by simp)) v1).setCell (.inl (by simp)) v2).setCell (.inl (by simp)) v3).alloc ob
  refine ⟨chPipe h1 P3 (by simpa using hne), ?_, h1.blk H3 (by simpa using hne2), F3.trans' h1 fun x hx => .inr (by have : x = qb := by simpa using hx
                                                                                                                    omega)⟩
  have := ((((Q3.set 0 v0).set 1 v1).set 2 v2).set 3 v3).alloc ob
  simpa using this
theorem set35 {w : World} {b : Nat} {q q' : List UInt8} {i o i' o' : Nat} {sh sh' : Bool} (h : Blk w b #[.string (str q), .int .i64 i, .int .i64 o, .bool sh] 35) (v0 v1 v2 v3 : Value) :
    Blk ((((w.setCell ⟨b, 0, none⟩ v0).setCell ⟨b, 1, none⟩ v1).setCell ⟨b, 2, none⟩ v2).setCell ⟨b, 3, none⟩ v3) b #[v0, v1, v2, v3] 35 := by
  have := (((h.set 0 v0).set 1 v1).set 2 v2).set 3 v3
  simpa using this
set_option maxRecDepth 100000 in
set_option maxHeartbeats 2000000 in
theorem walkRow (rb off len0 cap0 : Nat) (w : World) (hrb : rb < w.heap.size) (hrow : (∀ i, i < len0 → (∃ z : Int, w.cell? ⟨rb, off + (i * 3 + 0), none⟩ = some (.int .i64 z) ∧ (Lit.int .i64 z).wf = true) ∧ (∃ z : Int, w.cell? ⟨rb, off + (i * 3 + 1), none⟩ = some (.int .i64 z) ∧ (Lit.int .i64 z).wf = true) ∧ ∃ z : ByteArray, w.cell? ⟨rb, off + (i * 3 + 2), none⟩ = some (.string z) ∧ z.size ≤ maxLen)) :
    Calls Try.prog 5 #[.slice (some ⟨rb, off, none⟩) len0 cap0] w fun e w' => e = .returned (.bool true) ∧ Below w.heap.size w w' := by
  go_enter Try.func5, Try.ntmps5
  go_wp2_with fail
  refine (New_any _).mono ?_
  rintro e w2 ⟨b1, rfl, hb, hge, hc⟩
  have g1 : w.heap.size ≤ b1 := hge
  have D1 := Lib.hid hb
  have C2 := Lib.hid hc
  have N1 := Lib.hid (in1 g1)
  clear hb hge hc
  go_wp2_with fail
  have HD := Lib.hid (chPipe ((Ch.refl [] w2).alloc (.cells #[.string ⟨#[]⟩, .int .i64 0, .int .i64 0, .bool false] 35)) D1.out (by simp))
  have HQ := Lib.hid (blk_new w2 #[.string ⟨#[]⟩, .int .i64 0, .int .i64 0, .bool false] 35)
  have HC := Lib.hid (C2.out.alloc (.cells #[.string ⟨#[]⟩, .int .i64 0, .int .i64 0, .bool false] 35))
  have g2 : b1 < w2.heap.size := D1.out.lt
  have hw2 : w.heap.size ≤ w2.heap.size := by omega
  generalize w2.heap.size = qb at *
  go_loopw [5] (fun ii wr => ∃ (k : Nat) (q : List UInt8) (i o : Nat) (sh : Bool), k ≤ 100 ∧ k ≤ len0 ∧ ii = .int .i64 k ∧ i ≤ 64 * k ∧ Hid (PipeIs wr b1 q i o sh) ∧ Hid (Blk wr qb #[.string (str q), .int .i64 i, .int .i64 o, .bool sh] 35) ∧ Hid (Ch [] w wr)) (fun ii _ => (100 - intOf ii).toNat)
  case atStart => exact ⟨0, [], 0, 0, false, by omega, by omega, by simp, by omega, HD, HQ, HC⟩
  case round =>
    obtain ⟨k, q, i, o, sh, hk1, hk2, rfl, hi, P1, Q1, HW⟩ := hrel
    by_cases hlt : k < len0
    · by_cases hl1 : k < 100
      · obtain ⟨⟨kd, hk, hkw⟩, ⟨nn, hn, hnw⟩, ⟨s, hs, hsz⟩⟩ := hrow k hlt
        obtain ⟨kb1, kb2⟩ := bounds_i64 hkw
        obtain ⟨nb1, nb2⟩ := bounds_i64 hnw
        clear hkw hnw
        unfold maxLen at hsz
        have hc0 : wr.cell? ⟨rb, off + (k * 3 + 0), none⟩ = some (.int .i64 kd) := HW.out.get hk
        have hc1 : wr.cell? ⟨rb, off + (k * 3 + 1), none⟩ = some (.int .i64 nn) := HW.out.get hn
        have hc2 : wr.cell? ⟨rb, off + (k * 3 + 2), none⟩ = some (.string s) := HW.out.get hs
        clear hk hn hs
        simp only [Nat.add_zero, ← Nat.add_assoc] at hc0 hc1 hc2
        by_cases h300 : 300 < s.size
        · have e1 : decide (300 < (s.size : Int)) = true := by simp; omega
          have e2 : decide (300 < s.size) = true := by simp; omega
          go_wp2_with fail
          refine (works_any _).mono ?_
          rintro e w3 ⟨rfl, hc⟩
          have F3 := Lib.hid ((HW.out.alloc _).trans hc)
          clear hc
          go_wp2_with fail
          go_ret
          exact ⟨rfl, F3.out.below0⟩
        · have e1 : decide (300 < (s.size : Int)) = false := by simp; omega
          have e2 : decide (300 < s.size) = false := by simp; omega
          obtain ⟨s0, s1, s2, s3, y0, y1, y2, y3, hqlt⟩ := cells35 Q1.out
          obtain ⟨hl1', hl2⟩ := P1.out.len
          have HL := Lib.hid hl1'
          have hoi : o ≤ i := by omega
          clear hl1'
          have hz := Lib.hid (show wr.heap.size ∉ [b1] by have := P1.out.lt; simp; omega)
          go_upto_block 2 with fail
          have P1a := Lib.hid (chPipe ((Ch.refl [] wr).alloc (.cells #[.int .i64 kd, .int .i64 nn, .string s] 32)) P1.out (by simp))
          have Q1a := Lib.hid (Q1.out.alloc (.cells #[.int .i64 kd, .int .i64 nn, .string s] 32))
          have HWa := Lib.hid (HW.out.alloc (.cells #[.int .i64 kd, .int .i64 nn, .string s] 32))
          have hb := Lib.hid (blk_new wr #[.int .i64 kd, .int .i64 nn, .string s] 32)
          have hne := Lib.hid (show wr.heap.size ≠ qb by omega)
          generalize wr.heap.size = ab at *
          generalize wr.alloc (.cells #[.int .i64 kd, .int .i64 nn, .string s] 32) = wa at *
          go_cut [7] (fun s7 wx => s7 = .bool true ∧ ∃ (q' : List UInt8) (i' o' : Nat) (sh' : Bool), i' ≤ 64 * k + 64 ∧ o' ≤ i' ∧ Hid (PipeIs wx b1 q' i' o' sh') ∧ Hid (Blk wx qb #[.string (str q'), .int .i64 i', .int .i64 o', .bool sh'] 35) ∧ Hid (Ch [] w wx))
          case first =>
            have x0 := hb.out.cell 0
            have x1 := hb.out.cell 1
            have x2 := hb.out.cell 2
            simp at x0 x1 x2
            have hablt := hb.out.lt
            clear s0 s1 s2 s3 y0 y1 y2 y3
            obtain ⟨s0, s1, s2, s3, y0, y1, y2, y3, hqlt⟩ := cells35 Q1a.out
            by_cases k0 : kd = 0
            · subst k0
              go_wp2_with fail
              with_reducible refine (RefWrite_any q i o sh s _ (by omega) (by omega) (by omega)).mono ?_
              obtain ⟨n, hn⟩ : ∃ n, n = min s.size (room q sh) := ⟨_, rfl⟩
              have hn64 : n ≤ 64 := by
                have : room q sh ≤ 64 := by unfold room; split <;> omega
                omega
              rw [← hn]
              have HN := Lib.hid hn
              clear hn
              rintro e w3 ⟨rfl, hc⟩
              have P3 := Lib.hid (chPipe hc P1a.out (by simp))
              have Q3 := Lib.hid (hc.blk Q1a.out (by simp))
              have F3 := Lib.hid (HWa.out.trans hc)
              have H3 := Lib.hid (hc.blk hb.out (by simp))
              have v1 := H3.out.cell 1
              have v2 := H3.out.cell 2
              obtain ⟨t0, t1, t2, t3, z0, z1, z2, z3, hq3⟩ := cells35 Q3.out
              simp at v1 v2
              have hwlt := H3.out.lt
              obtain ⟨p4, q4, a4, f4⟩ := stepQ P3.out Q3.out H3.out F3.out (by omega) (by omega) (by omega) (.string (str (q ++ s.data.toList.take n))) (.int .i64 ((i : Int) + (n : Int))) (.int .i64 ((o : Int))) (.bool sh) (.cells #[.string (str (q ++ s.data.toList.take n)), .int .i64 ((i : Int) + (n : Int)), .int .i64 ((o : Int)), .bool sh] 35)
              have P4 := Lib.hid p4
              have Q4 := Lib.hid q4
              have F4 := Lib.hid f4
              have A4 := Lib.hid a4
              clear p4 q4 f4 a4 hc P1a Q1a HWa hb s0 s1 s2 s3 y0 y1 y2 y3
              go_wp2_with fail
              refine (Write_any b1 q i o sh s _ P4.out (by omega) (by omega)).mono ?_
              rw [← HN.out]
              rintro e w5 ⟨rfl, hp, hc⟩
              have PT := Lib.hid hp
              have QT := Lib.hid (hc.blk Q4.out (by simp; omega))
              have FT := Lib.hid (F4.out.trans' hc N1.out)
              clear hp hc
              go_wp2_with fail
              go_meet
              exact ⟨rfl, q ++ s.data.toList.take n, i + n, o, sh, by omega, by omega, PT, by simpa using QT, FT⟩
            · by_cases k1 : kd = 1
              · subst k1
                go_wp2_with fail
                with_reducible refine (RefRead_any q i o sh nn _ (by omega) (by omega) (by omega) (by omega)).mono ?_
                obtain ⟨n, hn⟩ : ∃ n, n = min (max nn 0).toNat q.length := ⟨_, rfl⟩
                have hnl : n ≤ q.length := by omega
                rw [← hn]
                have HN := Lib.hid hn
                clear hn
                rintro e w3 ⟨rfl, hc⟩
                have P3 := Lib.hid (chPipe hc P1a.out (by simp))
                have Q3 := Lib.hid (hc.blk Q1a.out (by simp))
                have F3 := Lib.hid (HWa.out.trans hc)
                have H3 := Lib.hid (hc.blk hb.out (by simp))
                have v1 := H3.out.cell 1
                have v2 := H3.out.cell 2
                obtain ⟨t0, t1, t2, t3, z0, z1, z2, z3, hq3⟩ := cells35 Q3.out
                simp at v1 v2
                have hwlt := H3.out.lt
                obtain ⟨p4, q4, a4, f4⟩ := stepQ P3.out Q3.out H3.out F3.out (by omega) (by omega) (by omega) (.string (str (q.drop n))) (.int .i64 ((i : Int))) (.int .i64 ((o : Int) + (n : Int))) (.bool sh) (.cells #[.string (str (q.drop n)), .int .i64 ((i : Int)), .int .i64 ((o : Int) + (n : Int)), .bool sh] 35)
                have P4 := Lib.hid p4
                have Q4 := Lib.hid q4
                have F4 := Lib.hid f4
                have A4 := Lib.hid a4
                clear p4 q4 f4 a4 hc P1a Q1a HWa hb s0 s1 s2 s3 y0 y1 y2 y3
                go_wp2_with fail
                refine (Read_any b1 q i o sh nn _ P4.out (by omega) (by omega) (by omega)).mono ?_
                rw [← HN.out]
                rintro e w5 ⟨rfl, hp, hc⟩
                have PT := Lib.hid hp
                have QT := Lib.hid (hc.blk Q4.out (by simp; omega))
                have FT := Lib.hid (F4.out.trans' hc N1.out)
                have d9 : ((str (q.take n)).toList == (str (q.take n)).toList) = true := by simp
                clear hp hc
                go_wp2_with fail
                go_meet
                exact ⟨rfl, q.drop n, i, o + n, sh, by omega, by have := HL.out; omega, PT, by simpa using QT, FT⟩
              · by_cases k2 : kd = 2
                · subst k2
                  go_wp2_with fail
                  obtain ⟨S, hS⟩ : ∃ S, S = str (q.take (min (max nn 0).toNat q.length)) := ⟨_, rfl⟩
                  have K1 := Lib.hid (show ∀ W', Ch [] wa W' → Calls Try.prog 11 #[.pointer (some ⟨b1, 0, none⟩), .int .i64 nn] W' fun e w' => e = .returned (.string S) ∧ Ch [] W' w' from fun W' h => by
                    rw [hS]
                    exact Peek_any _ _ _ _ _ _ _ (chPipe h P1a.out (by simp)) (by omega) (by omega) (by omega))
                  have K2 := Lib.hid (show ∀ W', Ch [] wa W' → Calls Try.prog 15 #[.agg #[.string (str q), .int .i64 i, .int .i64 o, .bool sh], .int .i64 nn] W' fun e w' => e = .returned (.string S) ∧ Ch [] W' w' from fun W' h => by
                    rw [hS]
                    exact RefPeek_any _ _ _ _ _ _ (by omega) (by omega) (by omega))
                  clear hS
                  have R := @From.cell wa
                  have d9 : (S.toList == S.toList) = true := by simp
                  refine wp_region_from (by kernel_rfl) (by kernel_rfl) ?_
                  repeat (go_big_quiet_step (first | (go_at_call 11; with_reducible exact class_of (K1.out _ (From.property _))) | (go_at_call 15; with_reducible exact class_of (K2.out _ (From.property _)))))
                  refine wpQuiet_nil ?_
                  rintro w3 ⟨y, hy⟩
                  have hc3 := Lib.hid (show Ch [] wa w3 from hy ▸ y.property)
                  clear hy y R
                  have PT := Lib.hid (chPipe hc3.out P1a.out (by simp))
                  have QT := Lib.hid (hc3.out.blk Q1a.out (by simp))
                  have FT := Lib.hid (HWa.out.trans hc3.out)
                  go_wp2_with fail
                  go_meet
                  exact ⟨rfl, q, i, o, sh, by omega, by omega, PT, QT, FT⟩
                · have f0 : (kd == 0) = false := by simpa using k0
                  have f1 : (kd == 1) = false := by simpa using k1
                  have f2 : (kd == 2) = false := by simpa using k2
                  go_wp2_with fail
                  refine (Shut_any b1 q i o sh _ P1a.out).mono ?_
                  rintro e w4 ⟨rfl, hp, hc⟩
                  have PT := Lib.hid hp
                  have Q4 := Lib.hid (hc.blk Q1a.out (by simp; omega))
                  have F4 := Lib.hid (HWa.out.trans' hc N1.out)
                  obtain ⟨t0, t1, t2, t3, z0, z1, z2, z3, hq3⟩ := cells35 Q4.out
                  clear hp hc
                  go_wp2_with fail
                  go_meet
                  refine ⟨rfl, q, i, o, true, by omega, by omega, Lib.hid (chPipe ((Ch.refl [qb] w4).setCell (.inl (by simp)) _) PT.out (by simp; omega)), Lib.hid ?_, Lib.hid (F4.out.setCell (.inr hw2) _)⟩
                  have := Q4.out.set 3 (.bool true)
                  simpa using this
          case rest =>
            obtain ⟨rfl, q', i', o', sh', hi', ho', PT0, QT0, FT0⟩ := hcut
            clear P1a Q1a HWa hb
            obtain ⟨hl1', hl2'⟩ := PT0.out.len
            clear hl1'
            clear s0 s1 s2 s3 y0 y1 y2 y3
            obtain ⟨s0, s1, s2, s3, y0, y1, y2, y3, hqlt'⟩ := cells35 QT0.out
            go_wp2_with fail
            refine (Counts_any b1 q' i' o' sh' _ PT0.out).mono ?_
            rintro e wd ⟨rfl, nq, hwd⟩
            have PT : Hid (PipeIs wd b1 q' i' o' sh') := Lib.hid (by rw [hwd]; exact chPipe ((Ch.refl [] _).drewN nq) PT0.out (by simp))
            have QT : Hid (Blk wd qb #[.string (str q'), .int .i64 i', .int .i64 o', .bool sh'] 35) := Lib.hid (by rw [hwd]; exact QT0.out)
            have FT : Hid (Ch [] w wd) := Lib.hid (by rw [hwd]; exact FT0.out.drewN nq)
            clear hwd PT0 QT0 FT0 s0 s1 s2 s3 y0 y1 y2 y3
            obtain ⟨s0, s1, s2, s3, y0, y1, y2, y3, hqlt''⟩ := cells35 QT.out
            go_wp2_with fail
            have hs : (str q').size = q'.length := str_size q'
            obtain ⟨L, hL⟩ : ∃ L, q'.length = L := ⟨_, rfl⟩
            rw [hL] at hs
            have HLL := Lib.hid hL
            have KL := Lib.hid (show ∀ W', Ch [] wd W' → Calls Try.prog 10 #[.pointer (some ⟨b1, 0, none⟩)] W' fun e w' => e = .returned (.int .i64 L) ∧ Ch [] W' w' from fun W' h =>
              (Len_any _ _ _ _ _ _ (chPipe h PT.out (by simp)) (by omega)).mono fun e w' ⟨he, n, hw⟩ => ⟨by rw [he, hL], hw ▸ (Ch.refl _ _).drewN n⟩)
            have KW := Lib.hid (show ∀ W', Ch [] wd W' → Calls Try.prog 6 #[] W' fun e w' => e = .returned (.bool true) ∧ Ch [] W' w' from fun W' h => works_any _)
            obtain ⟨RM, hRM⟩ : ∃ r, r = room q' sh' := ⟨_, rfl⟩
            have KR := Lib.hid (show ∀ W', Ch [] wd W' → Calls Try.prog 17 #[.pointer (some ⟨b1, 0, none⟩)] W' fun e w' => e = .returned (.int .i64 RM) ∧ Ch [] W' w' from fun W' h =>
              (Room_any _ _ _ _ _ _ (chPipe h PT.out (by simp)) (by omega)).mono fun e w' ⟨he, n, hw⟩ => ⟨by rw [he, hRM], hw ▸ (Ch.refl _ _).drewN n⟩)
            have KQ := Lib.hid (show ∀ W', Ch [] wd W' → Calls Try.prog 18 #[.agg #[.string (str q'), .int .i64 i', .int .i64 o', .bool sh']] W' fun e w' => e = .returned (.int .i64 RM) ∧ Ch [] W' w' from fun W' h => by
              rw [hRM]
              exact RefRoom_any _ _ _ _ _ (by omega))
            clear hRM
            obtain ⟨B, hB⟩ : ∃ B, decide (q'.length = 0) = B := ⟨_, rfl⟩
            have hE : ((str q').toList == (⟨#[]⟩ : ByteArray).toList) = B := by
              rw [← hB, ByteArray.toList_eq, ByteArray.toList_eq]
              cases q' <;> simp [str]
            have hE2 : ((str q').toList == []) = B := by rw [← hB, ByteArray.toList_eq]; cases q' <;> simp [str]
            cases sh'
            · have KO := Lib.hid (show ∀ W', Ch [] wd W' → Calls Try.prog 19 #[.pointer (some ⟨b1, 0, none⟩)] W' fun e w' => e = .returned (.bool false) ∧ Ch [] W' w' from fun W' h =>
                (Over_any _ _ _ _ _ _ (chPipe h PT.out (by simp)) (by omega)).mono fun e w' ⟨he, n, hw⟩ => ⟨by rw [he]; rw [Bool.false_and], hw ▸ (Ch.refl _ _).drewN n⟩)
              clear hB hL
              have R := @From.cell wd
              refine wp_region_from (by kernel_rfl) (by kernel_rfl) ?_
              repeat (go_big_quiet_step (first | (go_at_call 10; with_reducible exact class_of (KL.out _ (From.property _))) | (go_at_call 17; with_reducible exact class_of (KR.out _ (From.property _))) | (go_at_call 18; with_reducible exact class_of (KQ.out _ (From.property _))) | (go_at_call 19; with_reducible exact class_of (KO.out _ (From.property _)))))
              refine wpQuiet_nil ?_
              rintro w3 ⟨y, hy⟩
              have hc3 := Lib.hid (show Ch [] wd w3 from hy ▸ y.property)
              clear hy y R
              have PV := Lib.hid (chPipe hc3.out PT.out (by simp))
              have QV := Lib.hid (hc3.out.blk QT.out (by simp))
              have FV := Lib.hid (FT.out.trans hc3.out)
              go_wp2_with fail
              go_roundw
              case rel =>
                exact ⟨k + 1, q', i', o', false, by omega, by omega, by go_num, by omega, PV, QV, FV⟩
              case measure => simp [intOf]; omega
            · have KO := Lib.hid (show ∀ W', Ch [] wd W' → Calls Try.prog 19 #[.pointer (some ⟨b1, 0, none⟩)] W' fun e w' => e = .returned (.bool B) ∧ Ch [] W' w' from fun W' h =>
                (Over_any _ _ _ _ _ _ (chPipe h PT.out (by simp)) (by omega)).mono fun e w' ⟨he, n, hw⟩ => ⟨by rw [he]; rw [hB, Bool.true_and], hw ▸ (Ch.refl _ _).drewN n⟩)
              clear hB hL
              have R := @From.cell wd
              refine wp_region_from (by kernel_rfl) (by kernel_rfl) ?_
              repeat (go_big_quiet_step (first | (go_at_call 10; with_reducible exact class_of (KL.out _ (From.property _))) | (go_at_call 17; with_reducible exact class_of (KR.out _ (From.property _))) | (go_at_call 18; with_reducible exact class_of (KQ.out _ (From.property _))) | (go_at_call 19; with_reducible exact class_of (KO.out _ (From.property _)))))
              refine wpQuiet_nil ?_
              rintro w3 ⟨y, hy⟩
              have hc3 := Lib.hid (show Ch [] wd w3 from hy ▸ y.property)
              clear hy y R
              have PV := Lib.hid (chPipe hc3.out PT.out (by simp))
              have QV := Lib.hid (hc3.out.blk QT.out (by simp))
              have FV := Lib.hid (FT.out.trans hc3.out)
              go_wp2_with fail
              go_roundw
              case rel =>
                exact ⟨k + 1, q', i', o', true, by omega, by omega, by go_num, by omega, PV, QV, FV⟩
              case measure => simp [intOf]; omega
      · obtain rfl : k = 100 := by omega
        have hlt2 : decide (100 < len0) = true := decide_eq_true hlt
        go_wp2_with fail
        obtain ⟨s0, s1, s2, s3, y0, y1, y2, y3, hqlt⟩ := cells35 Q1.out
        have hs : (str q).size = q.length := str_size q
        obtain ⟨L, hL⟩ : ∃ L, q.length = L := ⟨_, rfl⟩
        rw [hL] at hs
        have HLL := Lib.hid hL
        have KL := Lib.hid (show ∀ W', Ch [] wr W' → Calls Try.prog 10 #[.pointer (some ⟨b1, 0, none⟩)] W' fun e w' => e = .returned (.int .i64 L) ∧ Ch [] W' w' from fun W' h =>
          (Len_any _ _ _ _ _ _ (chPipe h P1.out (by simp)) (by omega)).mono fun e w' ⟨he, n, hw⟩ => ⟨by rw [he, hL], hw ▸ (Ch.refl _ _).drewN n⟩)
        have KW := Lib.hid (show ∀ W', Ch [] wr W' → Calls Try.prog 6 #[] W' fun e w' => e = .returned (.bool true) ∧ Ch [] W' w' from fun W' h => works_any _)
        clear hL
        have R := @From.cell wr
        refine wp_region_from (by kernel_rfl) (by kernel_rfl) ?_
        repeat (go_big_quiet_step (first | (go_at_call 10; with_reducible exact class_of (KL.out _ (From.property _))) | (go_at_call 6; with_reducible exact class_of (KW.out _ (From.property _)))))
        refine wpQuiet_nil ?_
        rintro w3 ⟨y, hy⟩
        have FV := Lib.hid (HW.out.trans (show Ch [] wr w3 from hy ▸ y.property))
        clear hy y R
        go_wp2_with fail
        go_ret
        exact ⟨rfl, FV.out.below0⟩
    · have hlt2 : decide (k < len0) = false := decide_eq_false hlt
      go_wp2_with fail
      obtain ⟨s0, s1, s2, s3, y0, y1, y2, y3, hqlt⟩ := cells35 Q1.out
      have hs : (str q).size = q.length := str_size q
      obtain ⟨L, hL⟩ : ∃ L, q.length = L := ⟨_, rfl⟩
      rw [hL] at hs
      have HLL := Lib.hid hL
      have KL := Lib.hid (show ∀ W', Ch [] wr W' → Calls Try.prog 10 #[.pointer (some ⟨b1, 0, none⟩)] W' fun e w' => e = .returned (.int .i64 L) ∧ Ch [] W' w' from fun W' h =>
        (Len_any _ _ _ _ _ _ (chPipe h P1.out (by simp)) (by omega)).mono fun e w' ⟨he, n, hw⟩ => ⟨by rw [he, hL], hw ▸ (Ch.refl _ _).drewN n⟩)
      have KW := Lib.hid (show ∀ W', Ch [] wr W' → Calls Try.prog 6 #[] W' fun e w' => e = .returned (.bool true) ∧ Ch [] W' w' from fun W' h => works_any _)
      clear hL
      have R := @From.cell wr
      refine wp_region_from (by kernel_rfl) (by kernel_rfl) ?_
      repeat (go_big_quiet_step (first | (go_at_call 10; with_reducible exact class_of (KL.out _ (From.property _))) | (go_at_call 6; with_reducible exact class_of (KW.out _ (From.property _)))))
      refine wpQuiet_nil ?_
      rintro w3 ⟨y, hy⟩
      have FV := Lib.hid (HW.out.trans (show Ch [] wr w3 from hy ▸ y.property))
      clear hy y R
      go_wp2_with fail
      go_ret
      exact ⟨rfl, FV.out.below0⟩
set_option maxRecDepth 100000 in
set_option maxHeartbeats 1000000 in
theorem walkNil (a0 : Option Addr) (cap0 : Nat) (w : World) :
    Calls Try.prog 5 #[.slice a0 0 cap0] w fun e w' => e = .returned (.bool true) ∧ Below w.heap.size w w' := by
  go_enter Try.func5, Try.ntmps5
  go_wp2_with fail
  refine (New_any _).mono ?_
  rintro e w2 ⟨b1, rfl, hb, hge, hc⟩
  have g1 : w.heap.size ≤ b1 := hge
  have D1 := Lib.hid hb
  have C2 := Lib.hid hc
  have N1 := Lib.hid (in1 g1)
  clear hb hge hc
  go_wp2_with fail
  have HD := Lib.hid (chPipe ((Ch.refl [] w2).alloc (.cells #[.string ⟨#[]⟩, .int .i64 0, .int .i64 0, .bool false] 35)) D1.out (by simp))
  have HQ := Lib.hid (blk_new w2 #[.string ⟨#[]⟩, .int .i64 0, .int .i64 0, .bool false] 35)
  have HC := Lib.hid (C2.out.alloc (.cells #[.string ⟨#[]⟩, .int .i64 0, .int .i64 0, .bool false] 35))
  have g2 : b1 < w2.heap.size := D1.out.lt
  have hw2 : w.heap.size ≤ w2.heap.size := by omega
  generalize w2.heap.size = qb at *
  go_loopw [5] (fun ii wr => ∃ (k : Nat) (q : List UInt8) (i o : Nat) (sh : Bool), k ≤ 100 ∧ k ≤ 0 ∧ ii = .int .i64 k ∧ i ≤ 64 * k ∧ Hid (PipeIs wr b1 q i o sh) ∧ Hid (Blk wr qb #[.string (str q), .int .i64 i, .int .i64 o, .bool sh] 35) ∧ Hid (Ch [] w wr)) (fun ii _ => (100 - intOf ii).toNat)
  case atStart => exact ⟨0, [], 0, 0, false, by omega, by omega, by simp, by omega, HD, HQ, HC⟩
  case round =>
    obtain ⟨k, q, i, o, sh, hk1, hk2, rfl, hi, P1, Q1, HW⟩ := hrel
    obtain rfl : k = 0 := by omega
    go_wp2_with fail
    obtain ⟨s0, s1, s2, s3, y0, y1, y2, y3, hqlt⟩ := cells35 Q1.out
    have hs : (str q).size = q.length := str_size q
    obtain ⟨L, hL⟩ : ∃ L, q.length = L := ⟨_, rfl⟩
    rw [hL] at hs
    have HLL := Lib.hid hL
    have KL := Lib.hid (show ∀ W', Ch [] wr W' → Calls Try.prog 10 #[.pointer (some ⟨b1, 0, none⟩)] W' fun e w' => e = .returned (.int .i64 L) ∧ Ch [] W' w' from fun W' h =>
      (Len_any _ _ _ _ _ _ (chPipe h P1.out (by simp)) (by omega)).mono fun e w' ⟨he, n, hw⟩ => ⟨by rw [he, hL], hw ▸ (Ch.refl _ _).drewN n⟩)
    have KW := Lib.hid (show ∀ W', Ch [] wr W' → Calls Try.prog 6 #[] W' fun e w' => e = .returned (.bool true) ∧ Ch [] W' w' from fun W' h => works_any _)
    clear hL
    have R := @From.cell wr
    refine wp_region_from (by kernel_rfl) (by kernel_rfl) ?_
    repeat (go_big_quiet_step (first | (go_at_call 10; with_reducible exact class_of (KL.out _ (From.property _))) | (go_at_call 6; with_reducible exact class_of (KW.out _ (From.property _)))))
    refine wpQuiet_nil ?_
    rintro w3 ⟨y, hy⟩
    have FV := Lib.hid (HW.out.trans (show Ch [] wr w3 from hy ▸ y.property))
    clear hy y R
    go_wp2_with fail
    go_ret
    exact ⟨rfl, FV.out.below0⟩
theorem walk (a0 : Option Addr) (len0 cap0 : Nat) (w : World) (w0 : len0 = 0 ∨ ∃ b off, a0 = some ⟨b, off, none⟩ ∧ b < w.heap.size ∧ ∀ i, i < len0 → (∃ z : Int, w.cell? ⟨b, off + (i * 3 + 0), none⟩ = some (.int .i64 z) ∧ (Lit.int .i64 z).wf = true) ∧ (∃ z : Int, w.cell? ⟨b, off + (i * 3 + 1), none⟩ = some (.int .i64 z) ∧ (Lit.int .i64 z).wf = true) ∧ ∃ z : ByteArray, w.cell? ⟨b, off + (i * 3 + 2), none⟩ = some (.string z) ∧ z.size ≤ maxLen) :
    Calls Try.prog 5 #[.slice a0 len0 cap0] w fun e w' => e = .returned (.bool true) ∧ Below w.heap.size w w' := by
  rcases w0 with rfl | ⟨rb, off, rfl, hrb, hrow⟩
  · exact walkNil a0 cap0 w
  · exact walkRow rb off len0 cap0 w hrb hrow
end Go.Proofs.Ytcfkdglaedpnjaa.pipePlaysWalk
