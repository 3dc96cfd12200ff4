/- What each call answers of all sessions, and what they are behind it. -/
import Derived.Test.YtcfkdglaedpnjaaDoorExF
namespace Go.Proofs.YtcfkdglaedpnjaaDoor.V
open Go Go.RowKit Go.Proofs.YtcfkdglaedpnjaaDoor.K Go.Proofs.YtcfkdglaedpnjaaDoor.R Go.Proofs.YtcfkdglaedpnjaaDoorW.PrintLast
set_option linter.unusedVariables false
set_option linter.unusedSimpArgs false
set_option maxRecDepth 100000
section
variable {w w' : World} {lo x c : Nat} {Bs : List Nat} {E : HX}
theorem ExIs.lt (h : ExIs w lo Bs x c E) : ∀ k, k ∈ Bs → lo ≤ k ∧ k < w.heap.size := by
  obtain ⟨v, K, rfl, h1, h2, h3, h4, h5⟩ := h
  intro k hk
  simp only [List.mem_cons, List.mem_append] at hk
  rcases hk with rfl | hk | hk
  · exact ⟨h1, h3.lt⟩
  · exact h4.lt k hk
  · exact ⟨h2 k hk, h5.lt k hk⟩
theorem ExIs.ch (h : ExIs w lo Bs x c E) {bs : List Nat} (cc : Ch bs w w') (hn : ∀ k, k ∈ Bs → k ∉ bs) : ExIs w' lo Bs x c E := by
  obtain ⟨v, K, rfl, h1, h2, h3, h4, h5⟩ := h
  exact ⟨v, K, rfl, h1, h2, cc.blk h3 (hn _ (by simp)), h4.ch cc (fun k hk => hn k (by simp [hk])), h5.ch cc (fun z hz => hn z (by simp [hz]))⟩
theorem ExIs.up (h : ExIs w lo Bs x c E) {c' : Nat} (hc : c ≤ c') : ExIs w lo Bs x c' E := by
  obtain ⟨v, K, rfl, h1, h2, h3, h4, h5⟩ := h
  exact ⟨v, K, rfl, h1, h2, h3, h4, h5.up hc⟩
theorem ExIs.same (h : ExIs w lo Bs x c E) (cc : Ch [] w w') {c' : Nat} (hc : c ≤ c') : Step w w' lo Bs x c' E := ⟨Bs, (h.ch cc (by simp)).up hc, cc.of0, fun k hk => .inl hk⟩
/-- The slice of sessions, as the walks read it. -/
theorem ExIs.form (h : ExIs w lo Bs x c E) : ∃ A z K, Bs = x :: (rl (.slice A K.length z) ++ kbs K) ∧ lo ≤ x ∧ (∀ k ∈ kbs K, lo ≤ k) ∧ Blk w x #[.slice A K.length z, .int .i64 E.last] 60 ∧ OwnS w lo 61 1 (.slice A K.length z) K.length (K.flatMap ptrC) ∧ SrcIs w (.slice A K.length z) K.length (K.flatMap ptrC) 1 ∧ AllIs w c K E.L := by
  obtain ⟨v, K, rfl, h1, h2, h3, h4, h5⟩ := h
  obtain ⟨A, z, rfl, _, _⟩ := h4.slice
  rw [← h5.len] at h3 h4 ⊢
  exact ⟨A, z, K, rfl, h1, h2, h3, h4, h4.src, h5⟩
theorem xb_rl {A : Option Addr} {n z : Nat} {xs : List Value} (h : OwnS w lo 61 1 (.slice A n z) n xs) : ∀ k, k ∈ xb (.slice A n z) → k ∈ rl (.slice A n z) := by
  intro k hk
  rcases Nat.eq_zero_or_pos n with h0 | hn
  · subst h0
    cases A <;> simp [xb] at hk
  · obtain ⟨g, cap, he, _, _, hr, _, _⟩ := h.some_ hn
    injection he with e1 e2 e3
    subst e1 e3
    rw [hr]
    rw [xb_some _ _ _ hn] at hk
    exact hk
theorem SessIs.apart {k : SB} {s : HS} (h : SessIs w c k s) {v : Value} {n : Nat} {xs : List Value} (ho : OwnS w lo 61 1 v n xs) : ∀ z, z ∈ [k.b, k.bi, k.bo] → z ∉ rl v := by
  intro z hz
  simp only [List.mem_cons, List.not_mem_nil, or_false] at hz
  rcases hz with rfl | rfl | rfl
  · exact ho.ne h.blk (by decide)
  · obtain ⟨cs, hb⟩ := h.pin.blk; exact ho.ne hb (by decide)
  · obtain ⟨cs, hb⟩ := h.pout.blk; exact ho.ne hb (by decide)
theorem SessIs.apartX {k : SB} {s : HS} (h : SessIs w c k s) {cs : Array Value} (hx : Blk w x cs 60) : ∀ z, z ∈ [k.b, k.bi, k.bo] → z ≠ x := by
  intro z hz
  simp only [List.mem_cons, List.not_mem_nil, or_false] at hz
  rcases hz with rfl | rfl | rfl
  · exact Blk.ne_type h.blk hx (by decide)
  · exact h.pin.ne hx (by decide)
  · exact h.pout.ne hx (by decide)
theorem AllIs.apart {K : List SB} {L : List HS} (h : AllIs w c K L) {v : Value} {n : Nat} {xs : List Value} (ho : OwnS w lo 61 1 v n xs) : ∀ z, z ∈ kbs K → z ∉ rl v := by
  intro z hz
  obtain ⟨j, k, hk, hz⟩ := mem_kbs hz
  obtain ⟨s, _, hs⟩ := h.get hk
  exact hs.apart ho z hz
theorem AllIs.apartX {K : List SB} {L : List HS} (h : AllIs w c K L) {cs : Array Value} (hx : Blk w x cs 60) : ∀ z, z ∈ kbs K → z ≠ x := by
  intro z hz
  obtain ⟨j, k, hk, hz⟩ := mem_kbs hz
  obtain ⟨s, _, hs⟩ := h.get hk
  exact hs.apartX hx z hz
def setE (E : HX) (j : Nat) (s : HS) : HX := ⟨E.L.set j s, E.last⟩
/-- One session is another: so are all. -/
theorem set_step {A : Option Addr} {z : Nat} {K : List SB} (h1 : lo ≤ x) (h2 : ∀ k ∈ kbs K, lo ≤ k) (h3 : Blk w x #[.slice A K.length z, .int .i64 E.last] 60) (h4 : OwnS w lo 61 1 (.slice A K.length z) K.length (K.flatMap ptrC)) (h5 : AllIs w c K E.L)
    {j : Nat} {k : SB} (hk : K[j]? = some k) {bs : List Nat} (cc : Ch bs w w') (hb : ∀ z, z ∈ bs → z ∈ [k.b, k.bi, k.bo]) {s' : HS} {c' : Nat} (hc : c ≤ c') (hs : SessIs w' c' k s') : Step w w' lo (x :: (rl (.slice A K.length z) ++ kbs K)) x c' (setE E j s') := by
  obtain ⟨s, _, hs0⟩ := h5.get hk
  refine ⟨_, ⟨_, K, rfl, h1, h2, cc.blk h3 (fun hm => hs0.apartX h3 x (hb x hm) rfl), ?_, h5.set hk cc hb hc hs⟩, cc.mono fun y hy => ?_, fun k hk => .inl hk⟩
  · show OwnS w' lo 61 1 _ (E.L.set j s').length _
    rw [List.length_set, ← h5.len]
    exact h4.ch cc (fun y hy hm => hs0.apart h4 y (hb y hm) hy)
  · simp only [List.mem_cons, List.mem_append]
    exact .inr (.inr (kbs_mem hk (hb y hy)))
def writeR (E : HX) (id : Int) (t : ByteArray) : Int × Int := match fx id E.L with
  | none => (0, 6)
  | some j => match E.L[j]? with
    | none => (0, 6)
    | some s => if s.op then ((min t.size (room s.qi false) : Nat), 0) else (0, 400)
def writeS (E : HX) (id : Int) (t : ByteArray) : HX := match fx id E.L with
  | none => E
  | some j => match E.L[j]? with
    | none => E
    | some s => if s.op then setE E j { s with qi := s.qi ++ t.data.toList.take (min t.size (room s.qi false)) } else E
theorem write_l {id : Int} {t : ByteArray} (h : ExIs w lo Bs x c E) (hn : E.L.length ≤ 100) (hc : c ≤ 100000) (ht : t.size ≤ 100000) :
    Calls Tryd.prog 9 #[.pointer (some ⟨x, 0, none⟩), .int .i64 id, .string t] w fun en w' => en = .returned (.tuple #[.int .i64 (writeR E id t).1, .int .i64 (writeR E id t).2]) ∧ Step w w' lo Bs x (c + 64) (writeS E id t) := by
  have hh := h
  obtain ⟨A, z, K, rfl, h1, h2, h3, h4, h6, h5⟩ := h.form
  have hn2 := Lib.hid (show K.length ≤ 100 by rw [h5.len]; exact hn)
  unfold writeR writeS
  cases hf : fx id E.L with
  | none => exact (write_none hn2 (Lib.hid h5) (Lib.hid hf) (Lib.hid h6) (Lib.hid h3)).mono fun _ _ ⟨e, cc⟩ => ⟨e, hh.same cc (by omega)⟩
  | some j =>
    obtain ⟨s, hs, _⟩ := fx_at hf
    obtain ⟨k, hk, hsi⟩ := h5.at hs
    simp only [hs]
    cases hop : s.op with
    | false =>
      have hb := hsi.blk
      unfold sessA at hb
      rw [hop] at hb
      exact (write_closed (s := s) hn2 (Lib.hid h5) (Lib.hid hf) (Lib.hid hk) (Lib.hid h6) (Lib.hid h3) (Lib.hid hb)).mono fun _ _ ⟨e, cc⟩ => ⟨e, hh.same cc (by omega)⟩
    | true =>
      have hb := hsi.blk
      have hp := hsi.pin
      unfold sessA at hb
      rw [hop] at hb hp
      refine (write_ok (s := s) hn2 (Lib.hid h5) (Lib.hid hf) (Lib.hid hk) (Lib.hid ⟨hc, ht⟩) (Lib.hid fun hm => hsi.apart h4 k.bi (by simp) (xb_rl h4 _ hm)) (Lib.hid h6) (Lib.hid h3) (Lib.hid hb) (Lib.hid hp)).mono ?_
      rintro e w' ⟨rfl, p1, cc⟩
      have h7 := h5.three hk
      refine ⟨rfl, set_step h1 h2 h3 h4 h5 hk cc (by simp) (by omega) ⟨?_, ?_, (hsi.pout.ch cc (by simp; exact Ne.symm h7.2.2)).up (by omega)⟩⟩
      · have := cc.blk hsi.blk (by simp; exact h7.1)
        unfold sessA at this ⊢
        rw [hop] at this
        exact this
      · exact p1
def rdN (q : List UInt8) (m : Int) : Nat := min (max m 0).toNat q.length
def readR (E : HX) (id m : Int) : ByteArray × Int := match fx id E.L with
  | none => (⟨#[]⟩, 6)
  | some j => match E.L[j]? with
    | none => (⟨#[]⟩, 6)
    | some s => if s.op = false ∧ rdN s.qo m = 0 then (⟨#[]⟩, 400) else (str (s.qo.take (rdN s.qo m)), 0)
def readS (E : HX) (id m : Int) : HX := match fx id E.L with
  | none => E
  | some j => match E.L[j]? with
    | none => E
    | some s => setE E j { s with qo := s.qo.drop (rdN s.qo m) }
theorem read_l {id m : Int} (h : ExIs w lo Bs x c E) (hn : E.L.length ≤ 100) (hc : c ≤ 100000) (hm : -9223372036854775808 ≤ m ∧ m ≤ 9223372036854775807) :
    Calls Tryd.prog 10 #[.pointer (some ⟨x, 0, none⟩), .int .i64 id, .int .i64 m] w fun en w' => en = .returned (.tuple #[.string (readR E id m).1, .int .i64 (readR E id m).2]) ∧ Step w w' lo Bs x c (readS E id m) := by
  have hh := h
  obtain ⟨A, z, K, rfl, h1, h2, h3, h4, h6, h5⟩ := h.form
  have hn2 := Lib.hid (show K.length ≤ 100 by rw [h5.len]; exact hn)
  unfold readR readS
  cases hf : fx id E.L with
  | none => exact (read_none hn2 (Lib.hid h5) (Lib.hid hf) (Lib.hid h6) (Lib.hid h3)).mono fun _ _ ⟨e, cc⟩ => ⟨e, hh.same cc (by omega)⟩
  | some j =>
    obtain ⟨s, hs, _⟩ := fx_at hf
    obtain ⟨k, hk, hsi⟩ := h5.at hs
    simp only [hs]
    have hap : Hid (k.bo ∉ xb (.slice A K.length z)) := Lib.hid fun hm => hsi.apart h4 k.bo (by simp) (xb_rl h4 _ hm)
    have h7 := h5.three hk
    have fin : ∀ w', Ch [k.bo] w w' → PipeC w' c k.bo (s.qo.drop (rdN s.qo m)) false → Step w w' lo (x :: (rl (.slice A K.length z) ++ kbs K)) x c (setE E j { s with qo := s.qo.drop (rdN s.qo m) }) := fun w' cc p1 =>
      set_step h1 h2 h3 h4 h5 hk cc (by simp) (Nat.le_refl _) ⟨cc.blk hsi.blk (by simp; exact h7.2.1), hsi.pin.ch cc (by simp; exact h7.2.2), p1⟩
    have hb := hsi.blk
    unfold sessA at hb
    cases hop : s.op with
    | false =>
      rw [hop] at hb
      refine (read_shut (s := s) (N := rdN s.qo m) hn2 (Lib.hid h5) (Lib.hid hf) (Lib.hid hk) (Lib.hid rfl) (Lib.hid hc) (Lib.hid hm) hap (Lib.hid h6) (Lib.hid h3) (Lib.hid hb) (Lib.hid hsi.pout)).mono ?_
      rintro e w' ⟨rfl, p1, cc⟩
      have hf2 := fin w' cc p1
      rw [hop] at hf2
      refine ⟨?_, hf2⟩
      by_cases hz : rdN s.qo m = 0
      · rw [if_pos hz, if_pos ⟨rfl, hz⟩]
      · rw [if_neg hz, if_neg (fun h => hz h.2)]
    | true =>
      rw [hop] at hb
      refine (read_open (s := s) (N := rdN s.qo m) hn2 (Lib.hid h5) (Lib.hid hf) (Lib.hid hk) (Lib.hid rfl) (Lib.hid hc) (Lib.hid hm) hap (Lib.hid h6) (Lib.hid h3) (Lib.hid hb) (Lib.hid hsi.pout)).mono ?_
      rintro e w' ⟨rfl, p1, cc⟩
      have hf2 := fin w' cc p1
      rw [hop] at hf2
      exact ⟨by rw [if_neg (fun h => by cases h.1)], hf2⟩
/-- How many bytes a program turns. -/
def tuN (s : HS) (m : Int) : Nat := min (max (min m (room s.qo false : Nat)) 0).toNat s.qi.length
def turnR (E : HX) (id m : Int) : Int := match fx id E.L with
  | none => 0
  | some j => match E.L[j]? with
    | none => 0
    | some s => if s.op then (tuN s m : Nat) else 0
def turnS (E : HX) (id m : Int) : HX := match fx id E.L with
  | none => E
  | some j => match E.L[j]? with
    | none => E
    | some s => if s.op then setE E j { s with qi := s.qi.drop (tuN s m), qo := s.qo ++ (s.qi.take (tuN s m)).map upB } else E
theorem turn_l {w0 : World} {id m : Int} (h : ExIs w lo Bs x c E) (hn : E.L.length ≤ 100) (hc : c ≤ 100000) (hm : -9223372036854775808 ≤ m ∧ m ≤ 9223372036854775807) (hT : Tabs w0) (hlo : lo = w0.heap.size) (hB : Below w0.heap.size w0 w) :
    Calls Tryd.prog 11 #[.pointer (some ⟨x, 0, none⟩), .int .i64 id, .int .i64 m] w fun en w' => en = .returned (.int .i64 (turnR E id m)) ∧ Step w w' lo Bs x (c + 64) (turnS E id m) := by
  have hh := h
  obtain ⟨A, z, K, rfl, h1, h2, h3, h4, h6, h5⟩ := h.form
  have hn2 := Lib.hid (show K.length ≤ 100 by rw [h5.len]; exact hn)
  unfold turnR turnS
  cases hf : fx id E.L with
  | none => exact (turn_none hn2 (Lib.hid h5) (Lib.hid hf) (Lib.hid h6) (Lib.hid h3)).mono fun _ _ ⟨e, cc⟩ => ⟨e, hh.same cc (by omega)⟩
  | some j =>
    obtain ⟨s, hs, _⟩ := fx_at hf
    obtain ⟨k, hk, hsi⟩ := h5.at hs
    simp only [hs]
    have hap : ∀ b, b ∈ [k.b, k.bi, k.bo] → Hid (b ∉ xb (.slice A K.length z)) := fun b hb => Lib.hid fun hm => hsi.apart h4 b hb (xb_rl h4 _ hm)
    have h7 := h5.three hk
    have hb := hsi.blk
    have hp := hsi.pin
    unfold sessA at hb
    cases hop : s.op with
    | false =>
      rw [hop] at hb
      exact (turn_shut (s := s) hn2 (Lib.hid h5) (Lib.hid hf) (Lib.hid hk) (Lib.hid h6) (Lib.hid h3) (Lib.hid hb)).mono fun _ _ ⟨e, cc⟩ => ⟨e, hh.same cc (by omega)⟩
    | true =>
      rw [hop] at hb hp
      have hqi : s.qi.length ≤ 64 := by obtain ⟨i, o, hp, _⟩ := hsi.pin; exact hp.len.2
      refine (turn_ok (s := s) (w0 := w0) (N := tuN s m) hn2 (Lib.hid h5) (Lib.hid hf) (Lib.hid hk) (Lib.hid rfl) (Lib.hid rfl) (Lib.hid hc) (Lib.hid hm) (Lib.hid hqi) (hap k.bi (by simp)) (hap k.bo (by simp)) (Lib.hid h7.2.2) (Lib.hid hT) (Lib.hid hB)
        (Lib.hid fun z hz => by rw [← hlo]; exact h2 z (kbs_mem hk (by simp at hz ⊢; rcases hz with h | h <;> simp [h]))) (Lib.hid h6) (Lib.hid h3) (Lib.hid hb) (Lib.hid hp) (Lib.hid hsi.pout)).mono ?_
      rintro e w' ⟨rfl, p1, p2, cc⟩
      have hsz : (str ((s.qi.take (tuN s m)).map upB)).size = tuN s m := by rw [str_size, List.length_map, List.length_take]; unfold tuN; omega
      have hle : tuN s m ≤ room s.qo false := by unfold tuN; omega
      rw [hsz, Nat.min_eq_left hle] at p2 ⊢
      have htk : (str ((s.qi.take (tuN s m)).map upB)).data.toList.take (tuN s m) = (s.qi.take (tuN s m)).map upB := by
        show ((s.qi.take (tuN s m)).map upB).take (tuN s m) = _
        rw [List.take_of_length_le (by rw [List.length_map, List.length_take]; omega)]
      rw [htk] at p2
      have hbl := cc.blk hsi.blk (by simp; exact ⟨h7.1, h7.2.1⟩)
      unfold sessA at hbl
      rw [hop] at hbl
      exact ⟨by rw [if_pos rfl], by rw [if_pos rfl]; exact set_step h1 h2 h3 h4 h5 hk cc (by simp) (by omega) ⟨hbl, p1.up (by omega), p2⟩⟩
end
end Go.Proofs.YtcfkdglaedpnjaaDoor.V
