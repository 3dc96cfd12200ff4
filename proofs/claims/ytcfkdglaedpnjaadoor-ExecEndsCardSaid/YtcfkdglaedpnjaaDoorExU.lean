/- What New, Open, Close, End, Of answer of all sessions, and what they are behind it. -/
import Derived.Test.YtcfkdglaedpnjaaDoorExS
namespace Go.Proofs.YtcfkdglaedpnjaaDoor.V
open Go Go.RowKit Go.Proofs.YtcfkdglaedpnjaaDoor.K Go.Proofs.YtcfkdglaedpnjaaDoor.R Go.Proofs.YtcfkdglaedpnjaaDoorW.PrintLast
set_option linter.unusedVariables false
set_option linter.unusedSimpArgs false
set_option maxRecDepth 100000
theorem new60 (w : World) : Calls Tryd.prog 7 #[] w fun en w' => ∃ x, en = .returned (.pointer (some ⟨x, 0, none⟩)) ∧ Blk w' x #[.slice none 0 0, .int .i64 0] 60 ∧ w.heap.size ≤ x ∧ Ch [] w w' := by
  go_enter Tryd.func7, Tryd.ntmps7
  go_wp2
  go_ret
  exact ⟨_, rfl, blk_new _ _ _, Nat.le_refl _, (Ch.refl _ _).alloc _⟩
section
variable {w w' : World} {lo x c : Nat} {Bs : List Nat} {E : HX}
theorem new_l (hlo : lo ≤ w.heap.size) : Calls Tryd.prog 7 #[] w fun en w' => ∃ x, en = .returned (.pointer (some ⟨x, 0, none⟩)) ∧ ExIs w' lo [x] x 0 ⟨[], 0⟩ ∧ w.heap.size ≤ x ∧ Ch [] w w' :=
  (new60 w).mono fun e w' ⟨x, he, hb, hx, cc⟩ => ⟨x, he, ⟨.slice none 0 0, [], by simp [rl, kbs], by omega, by simp [kbs], hb, OwnS.nil _ _ _ _ _, ⟨rfl, fun j k s hk => by simp at hk, by simp [kbs]⟩⟩, hx, cc⟩
def openR (E : HX) : Int × Int := if 8 ≤ E.L.length then (0, 8) else ((E.last + 1 : Nat), 0)
def openS (E : HX) (bx ct : Int) : HX := if 8 ≤ E.L.length then E else ⟨E.L ++ [⟨(E.last + 1 : Nat), bx, ct, true, [], []⟩], E.last + 1⟩
theorem open_l {bx ct : Int} (h : ExIs w lo Bs x c E) (hn : E.L.length ≤ 100) (hla : E.last ≤ 100000) (hlo : lo ≤ w.heap.size) :
    Calls Tryd.prog 8 #[.pointer (some ⟨x, 0, none⟩), .int .i64 bx, .int .i64 ct] w fun en w' => en = .returned (.tuple #[.int .i64 (openR E).1, .int .i64 (openR E).2]) ∧ Step w w' lo Bs x c (openS E bx ct) := by
  have hh := h
  obtain ⟨A, z, K, rfl, h1, h2, h3, h4, h6, h5⟩ := h.form
  unfold openR openS
  rw [← h5.len]
  by_cases h8 : 8 ≤ K.length
  · rw [if_pos h8, if_pos h8]
    exact (open_full (lo := lo) (c := c) (Lib.hid h8) (Lib.hid h3)).mono fun _ _ ⟨e, cc⟩ => ⟨e, hh.same cc (Nat.le_refl _)⟩
  · rw [if_neg h8, if_neg h8]
    refine (open_ok (z := 0) (c := c) (lo := lo) (K := K) (Lib.hid (by omega)) (Lib.hid hla) (Lib.hid hlo) (Lib.hid h3) (Lib.hid h4)).mono ?_
    rintro e w' ⟨v', k, rfl, b1, b2, b3, cc, n1, n2, n3, d1, d2, d3, hr⟩
    have hkn : ∀ y, y ∈ [k.b, k.bi, k.bo] → w.heap.size ≤ y := fun y hy => by
      simp only [List.mem_cons, List.not_mem_nil, or_false] at hy
      rcases hy with rfl | rfl | rfl <;> assumption
    have hkb : kbs (K ++ [k]) = kbs K ++ [k.b, k.bi, k.bo] := by unfold kbs; rw [List.flatMap_append]; simp
    refine ⟨rfl, _, ⟨v', K ++ [k], rfl, h1, fun y hy => ?_, b1, ?_, ⟨by simp [h5.len], fun j k2 s2 hk2 hs2 => ?_, ?_⟩⟩, cc.mono fun y hy => ?_, fun y hy => ?_⟩
    · rw [hkb, List.mem_append] at hy
      rcases hy with hy | hy
      · exact h2 y hy
      · exact Nat.le_trans hlo (hkn y hy)
    · show OwnS w' lo 61 1 v' (E.L ++ _).length _
      rw [List.length_append, ← h5.len]
      exact b2
    · by_cases hj : j < K.length
      · rw [List.getElem?_append_left hj] at hk2
        rw [List.getElem?_append_left (by rw [← h5.len]; exact hj)] at hs2
        have hsi := h5.each j k2 s2 hk2 hs2
        refine hsi.ch cc fun y hy hm => ?_
        rcases List.mem_cons.1 hm with rfl | hm
        · exact hsi.apartX h3 y hy rfl
        · exact hsi.apart h4 y hy hm
      · rw [List.getElem?_append_right (by omega)] at hk2
        rw [List.getElem?_append_right (by rw [← h5.len]; omega), ← h5.len] at hs2
        have hj0 : j - K.length = 0 := by
          have := (List.getElem?_eq_some_iff.1 hk2).1
          simp at this
          omega
        rw [hj0] at hk2 hs2
        simp at hk2 hs2
        subst hk2 hs2
        exact b3
    · rw [hkb, List.nodup_append]
      refine ⟨h5.nodup, by simp [d1, d2, d3], fun y hy y2 hy2 he => ?_⟩
      have h7 := h5.lt y hy
      have h8 := hkn y2 hy2
      omega
    · simp only [List.mem_cons, List.mem_append] at hy ⊢
      rcases hy with hy | hy
      · exact .inl hy
      · exact .inr (.inl hy)
    · simp only [List.mem_cons, List.mem_append, hkb] at hy ⊢
      rcases hy with rfl | hy | hy | hy
      · exact .inl (.inl rfl)
      · rcases hr y hy with h | h
        · rcases List.mem_cons.1 h with rfl | h
          · exact .inl (.inl rfl)
          · exact .inl (.inr (.inl h))
        · exact .inr h
      · exact .inl (.inr (.inr hy))
      · exact .inr (hkn y (by simpa using hy))
def closeR (E : HX) (id : Int) : Int := match fx id E.L with
  | none => 6
  | some _ => 0
def closeS (E : HX) (id : Int) : HX := match fx id E.L with
  | none => E
  | some j => ⟨E.L.eraseIdx j, E.last⟩
theorem kbs_erase (K : List SB) (j : Nat) : (kbs (K.eraseIdx j)).Sublist (kbs K) := by
  unfold kbs
  induction K generalizing j with
  | nil => simp
  | cons k K ih =>
    cases j with
    | zero => rw [List.eraseIdx_cons_zero, List.flatMap_cons]; exact List.sublist_append_right _ _
    | succ j => rw [List.eraseIdx_cons_succ, List.flatMap_cons, List.flatMap_cons]; exact List.Sublist.append_left (ih j) _
theorem close_l {id : Int} (h : ExIs w lo Bs x c E) (hn : E.L.length ≤ 100) (hlo : lo ≤ w.heap.size) :
    Calls Tryd.prog 12 #[.pointer (some ⟨x, 0, none⟩), .int .i64 id] w fun en w' => en = .returned (.int .i64 (closeR E id)) ∧ Step w w' lo Bs x c (closeS E id) := by
  have hh := h
  obtain ⟨A, z, K, rfl, h1, h2, h3, h4, h6, h5⟩ := h.form
  have hn2 := Lib.hid (show K.length ≤ 100 by rw [h5.len]; exact hn)
  unfold closeR closeS
  cases hf : fx id E.L with
  | none => exact (close_none hn2 (Lib.hid h5) (Lib.hid hf) (Lib.hid h6) (Lib.hid h3)).mono fun _ _ ⟨e, cc⟩ => ⟨e, hh.same cc (Nat.le_refl _)⟩
  | some j =>
    obtain ⟨s, hs, _⟩ := fx_at hf
    obtain ⟨k, hk, hsi⟩ := h5.at hs
    have hj : j < K.length := (List.getElem?_eq_some_iff.1 hk).1
    obtain ⟨a, rfl⟩ := src_some h6 (by omega)
    refine (close_ok hn2 (Lib.hid h5) (Lib.hid hf) (Lib.hid h6) (Lib.hid h3)).mono ?_
    rintro e w' ⟨v', rfl, b1, b2, cc⟩
    have hsub := kbs_erase K j
    have hch : AllIs w' c K E.L := h5.ch cc fun y hy hm => h5.apartX h3 y hy (List.mem_singleton.1 hm)
    refine ⟨rfl, _, ⟨v', K.eraseIdx j, rfl, h1, fun y hy => h2 y (hsub.subset hy), b1, ?_, ⟨?_, fun i k2 s2 hk2 hs2 => ?_, hsub.nodup hch.nodup⟩⟩, cc.mono fun y hy => ?_, fun y hy => ?_⟩
    · show OwnS w' lo 61 1 v' (E.L.eraseIdx j).length _
      rw [List.length_eraseIdx, ← h5.len, if_pos hj]
      exact b2.lower hlo
    · rw [List.length_eraseIdx, List.length_eraseIdx, h5.len]
    · rw [List.getElem?_eraseIdx] at hk2 hs2
      split at hk2
      · rw [if_pos (by assumption)] at hs2; exact hch.each _ _ _ hk2 hs2
      · rw [if_neg (by assumption)] at hs2; exact hch.each _ _ _ hk2 hs2
    · rw [List.mem_singleton.1 hy]; simp
    · simp only [List.mem_cons, List.mem_append] at hy ⊢
      rcases hy with rfl | hy | hy
      · exact .inl (.inl rfl)
      · exact .inr (b2.lt y hy).1
      · exact .inl (.inr (.inr (hsub.subset hy)))
def endR (E : HX) (bx ct : Int) : Int := (E.L.countP (hit bx ct) : Nat)
def endSS (E : HX) (bx ct : Int) : HX := ⟨E.L.map (endS bx ct), E.last⟩
theorem end_l {bx ct : Int} (h : ExIs w lo Bs x c E) (hn : E.L.length ≤ 100) :
    Calls Tryd.prog 13 #[.pointer (some ⟨x, 0, none⟩), .int .i64 bx, .int .i64 ct] w fun en w' => en = .returned (.int .i64 (endR E bx ct)) ∧ Step w w' lo Bs x c (endSS E bx ct) := by
  have hh := h
  obtain ⟨A, z, K, rfl, h1, h2, h3, h4, h6, h5⟩ := h.form
  have hn2 := Lib.hid (show K.length ≤ 100 by rw [h5.len]; exact hn)
  refine (end_ hn2 (Lib.hid h5) (Lib.hid fun y hy hm => h5.apart h4 y hy (xb_rl h4 _ hm)) (Lib.hid h6) (Lib.hid h3)).mono ?_
  rintro e w' ⟨rfl, b1, cc⟩
  refine ⟨rfl, _, ⟨_, K, rfl, h1, h2, cc.blk h3 fun hm => h5.apartX h3 x hm rfl, ?_, b1⟩, cc.mono fun y hy => ?_, fun k hk => .inl hk⟩
  · show OwnS w' lo 61 1 _ (E.L.map _).length _
    rw [List.length_map, ← h5.len]
    exact h4.ch cc fun y hy hm => h5.apart h4 y hm hy
  · simp only [List.mem_cons, List.mem_append]
    exact .inr (.inr hy)
def ofR (E : HX) (id : Int) : Int × Int × Bool := match fx id E.L with
  | none => (0, 0, false)
  | some j => match E.L[j]? with
    | none => (0, 0, false)
    | some s => (s.box, s.ctr, s.op)
theorem of_l {id : Int} (h : ExIs w lo Bs x c E) (hn : E.L.length ≤ 100) :
    Calls Tryd.prog 15 #[.pointer (some ⟨x, 0, none⟩), .int .i64 id] w fun en w' => en = .returned (.tuple #[.int .i64 (ofR E id).1, .int .i64 (ofR E id).2.1, .bool (ofR E id).2.2]) ∧ Step w w' lo Bs x c E := by
  have hh := h
  obtain ⟨A, z, K, rfl, h1, h2, h3, h4, h6, h5⟩ := h.form
  have hn2 := Lib.hid (show K.length ≤ 100 by rw [h5.len]; exact hn)
  unfold ofR
  cases hf : fx id E.L with
  | none => exact (ofx_none hn2 (Lib.hid h5) (Lib.hid hf) (Lib.hid h6) (Lib.hid h3)).mono fun _ _ ⟨e, cc⟩ => ⟨e, hh.same cc (Nat.le_refl _)⟩
  | some j =>
    obtain ⟨s, hs, _⟩ := fx_at hf
    obtain ⟨k, hk, hsi⟩ := h5.at hs
    simp only [hs]
    exact (ofx_some (s := s) hn2 (Lib.hid h5) (Lib.hid hf) (Lib.hid hk) (Lib.hid h6) (Lib.hid h3) (Lib.hid hsi.blk)).mono fun _ _ ⟨e, cc⟩ => ⟨e, hh.same cc (Nat.le_refl _)⟩
theorem len_l (h : ExIs w lo Bs x c E) (hn : E.L.length ≤ 100) :
    Calls Tryd.prog 19 #[.pointer (some ⟨x, 0, none⟩)] w fun en w' => en = .returned (.int .i64 E.L.length) ∧ Step w w' lo Bs x c E := by
  have hh := h
  obtain ⟨A, z, K, rfl, h1, h2, h3, h4, h6, h5⟩ := h.form
  have hn2 := Lib.hid (show K.length ≤ 100 by rw [h5.len]; exact hn)
  rw [← h5.len]
  exact (len_ hn2 (Lib.hid h5) (Lib.hid h6) (Lib.hid h3)).mono fun _ _ ⟨e, cc⟩ => ⟨e, hh.same cc (Nat.le_refl _)⟩
end
end Go.Proofs.YtcfkdglaedpnjaaDoor.V
