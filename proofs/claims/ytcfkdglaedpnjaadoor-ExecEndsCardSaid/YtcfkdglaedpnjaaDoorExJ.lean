/- What the document's sessions answer, of all sessions: the same functions of them as package exec's. -/
import Derived.Test.YtcfkdglaedpnjaaDoorExI
namespace Go.Proofs.YtcfkdglaedpnjaaDoor.V
open Go Go.RowKit Go.Proofs.YtcfkdglaedpnjaaDoor.K Go.Proofs.YtcfkdglaedpnjaaDoor.R
set_option linter.unusedVariables false
set_option linter.unusedSimpArgs false
section
variable {w w' : World} {Q Q' : Option Addr} {z z' : Nat} {E E' : HX}
/-- The document's sessions in memory. -/
def RefIs (w : World) (Q : Option Addr) (z : Nat) (E : HX) : Prop := SrcIs w (.slice Q E.L.length z) E.L.length (E.L.flatMap sesC) 6 ∧ (E.L.length ≤ z ∧ z ≤ maxLen)
def RStep (w w' : World) (Q : Option Addr) (z : Nat) (E : HX) (Q' : Option Addr) (z' : Nat) (E' : HX) : Prop := RefIs w' Q' z' E' ∧ ∀ k, k ∈ xb (.slice Q' E'.L.length z') → k ∈ xb (.slice Q E.L.length z) ∨ w.heap.size ≤ k
def Shorts (E : HX) : Prop := ∀ (j : Nat) (s : HS), E.L[j]? = some s → s.qi.length ≤ 64 ∧ s.qo.length ≤ 64
theorem RefIs.new (w : World) : RefIs w none 0 ⟨[], 0⟩ := ⟨⟨rfl, .inl ⟨rfl, rfl⟩⟩, Nat.le_refl _, by unfold maxLen; show 0 ≤ _; omega⟩
theorem RefIs.same (h : RefIs w Q z E) (cc : Ch [] w w') : RStep w w' Q z E Q z E := ⟨⟨h.1.chx cc (fun _ _ => by simp), h.2⟩, fun k hk => .inl hk⟩
theorem setQ {j : Nat} {s' : HS} (h : NewQ w w' E.L.length (E.L.set j s') Q' z') : RStep w w' Q z E Q' z' (setE E j s') := by
  have hl : (setE E j s').L.length = E.L.length := List.length_set
  unfold RStep RefIs
  rw [hl]
  exact ⟨⟨h.1, h.2.1⟩, fun k hk => .inr (h.2.2 k hk)⟩
theorem set_len (E : HX) (j : Nat) (s' : HS) : (setE E j s').L.length = E.L.length := List.length_set
theorem rwrite_l {id : Int} {t : ByteArray} (h : RefIs w Q z E) (hn : E.L.length ≤ 100) (hq : Shorts E) :
    Calls Tryd.prog 34 #[.agg #[.slice Q E.L.length z, .int .i64 E.last], .int .i64 id, .string t] w fun en w' => ∃ Q' z', en = .returned (.tuple #[.agg #[.slice Q' (writeS E id t).L.length z', .int .i64 (writeS E id t).last], .int .i64 (writeR E id t).1, .int .i64 (writeR E id t).2]) ∧ RStep w w' Q z E Q' z' (writeS E id t) ∧ Ch [] w w' := by
  have HNL := Lib.hid (rfl : E.L.length = E.L.length)
  have HN := Lib.hid hn
  have SQ := Lib.hid h.1
  unfold writeS writeR
  cases hf : fx id E.L with
  | none => exact (rwrite_none HNL HN (Lib.hid hf) SQ).mono fun e w' ⟨he, cc⟩ => ⟨Q, z, he, h.same cc, cc⟩
  | some j =>
    obtain ⟨s, hs, _⟩ := fx_at hf
    simp only [hs]
    cases ho : s.op with
    | false => exact (rwrite_closed HNL HN (Lib.hid hf) (Lib.hid hs) (Lib.hid ho) SQ).mono fun e w' ⟨he, cc⟩ => ⟨Q, z, he, h.same cc, cc⟩
    | true =>
      refine (rwrite_ok HNL HN (Lib.hid hf) (Lib.hid hs) (Lib.hid ho) (t := t) (Lib.hid (hq j s hs).1) SQ).mono fun e w' ⟨Q', z', he, hN, cc⟩ => ?_
      simp only [if_true]
      exact ⟨Q', z', by rw [set_len]; exact he, setQ hN, cc⟩
theorem rread_l {id m : Int} (h : RefIs w Q z E) (hn : E.L.length ≤ 100) :
    Calls Tryd.prog 35 #[.agg #[.slice Q E.L.length z, .int .i64 E.last], .int .i64 id, .int .i64 m] w fun en w' => ∃ Q' z', en = .returned (.tuple #[.agg #[.slice Q' (readS E id m).L.length z', .int .i64 (readS E id m).last], .string (readR E id m).1, .int .i64 (readR E id m).2]) ∧ RStep w w' Q z E Q' z' (readS E id m) ∧ Ch [] w w' := by
  have HNL := Lib.hid (rfl : E.L.length = E.L.length)
  have HN := Lib.hid hn
  have SQ := Lib.hid h.1
  unfold readS readR
  cases hf : fx id E.L with
  | none => exact (rread_none HNL HN (Lib.hid hf) SQ).mono fun e w' ⟨he, cc⟩ => ⟨Q, z, he, h.same cc, cc⟩
  | some j =>
    obtain ⟨s, hs, _⟩ := fx_at hf
    simp only [hs]
    by_cases hc : s.op = false ∧ rdN s.qo m = 0
    · rw [if_pos hc]
      refine (rread_closed HNL HN (Lib.hid hf) (Lib.hid hs) (Lib.hid hc.1) (most := m) (m := 0) (Lib.hid hc.2.symm) (Lib.hid rfl) SQ).mono fun e w' ⟨he, cc⟩ => ?_
      have e1 : setE E j { s with qo := s.qo.drop (rdN s.qo m) } = E := by
        rw [hc.2, List.drop_zero]
        obtain ⟨hj, rfl⟩ := List.getElem?_eq_some_iff.1 hs
        unfold setE
        rw [show ({ E.L[j] with qo := E.L[j].qo } : HS) = E.L[j] from rfl, List.set_getElem_self]
      rw [e1]
      exact ⟨Q, z, he, h.same cc, cc⟩
    · rw [if_neg hc]
      cases ho : s.op with
      | true =>
        refine (rread_open HNL HN (Lib.hid hf) (Lib.hid hs) (Lib.hid ho) (most := m) (Lib.hid rfl) SQ).mono fun e w' ⟨Q', z', he, hN, cc⟩ => ?_
        exact ⟨Q', z', by rw [set_len]; exact he, setQ hN, cc⟩
      | false =>
        refine (rread_left HNL HN (Lib.hid hf) (Lib.hid hs) (Lib.hid ho) (most := m) (Lib.hid rfl) (Lib.hid (fun h0 => hc ⟨ho, h0⟩)) SQ).mono fun e w' ⟨Q', z', he, hN, cc⟩ => ?_
        exact ⟨Q', z', by rw [set_len]; exact he, setQ hN, cc⟩
theorem rturn_l {id m : Int} (h : RefIs w Q z E) (hn : E.L.length ≤ 100) (hq : Shorts E) :
    Calls Tryd.prog 36 #[.agg #[.slice Q E.L.length z, .int .i64 E.last], .int .i64 id, .int .i64 m] w fun en w' => ∃ Q' z', en = .returned (.tuple #[.agg #[.slice Q' (turnS E id m).L.length z', .int .i64 (turnS E id m).last], .int .i64 (turnR E id m)]) ∧ RStep w w' Q z E Q' z' (turnS E id m) ∧ Ch [] w w' := by
  have HNL := Lib.hid (rfl : E.L.length = E.L.length)
  have HN := Lib.hid hn
  have SQ := Lib.hid h.1
  unfold turnS turnR
  cases hf : fx id E.L with
  | none => exact (rturn_none HNL HN (Lib.hid hf) SQ).mono fun e w' ⟨he, cc⟩ => ⟨Q, z, he, h.same cc, cc⟩
  | some j =>
    obtain ⟨s, hs, _⟩ := fx_at hf
    simp only [hs]
    cases ho : s.op with
    | false => exact (rturn_closed HNL HN (Lib.hid hf) (Lib.hid hs) (Lib.hid ho) SQ).mono fun e w' ⟨he, cc⟩ => ⟨Q, z, he, h.same cc, cc⟩
    | true =>
      refine (rturn_ok HNL HN (Lib.hid hf) (Lib.hid hs) (Lib.hid ho) (most := m) (Lib.hid rfl) (Lib.hid (hq j s hs)) SQ).mono fun e w' ⟨Q', z', he, hN, cc⟩ => ?_
      simp only [if_true]
      exact ⟨Q', z', by rw [set_len]; exact he, setQ hN, cc⟩
theorem ropen_l {bx ct : Int} (h : RefIs w Q z E) (hn : E.L.length ≤ 100) (hla : E.last ≤ 100000) :
    Calls Tryd.prog 33 #[.agg #[.slice Q E.L.length z, .int .i64 E.last], .int .i64 bx, .int .i64 ct] w fun en w' => ∃ Q' z', en = .returned (.tuple #[.agg #[.slice Q' (openS E bx ct).L.length z', .int .i64 (openS E bx ct).last], .int .i64 (openR E).1, .int .i64 (openR E).2]) ∧ RStep w w' Q z E Q' z' (openS E bx ct) ∧ Ch [] w w' := by
  have HNL := Lib.hid (rfl : E.L.length = E.L.length)
  have HN := Lib.hid hn
  have SQ := Lib.hid h.1
  unfold openS openR
  by_cases h8 : 8 ≤ E.L.length
  · rw [if_pos h8, if_pos h8]
    exact (ropen_full HNL HN (Lib.hid h8) SQ).mono fun e w' ⟨he, cc⟩ => ⟨Q, z, he, h.same cc, cc⟩
  · rw [if_neg h8, if_neg h8]
    refine (ropen_ok HNL HN (bx := bx) (ct := ct) (Lib.hid (by omega)) (Lib.hid hla) SQ).mono fun e w' ⟨Q', z', he, hN, cc⟩ => ?_
    have hl : (E.L ++ [(⟨(E.last + 1 : Nat), bx, ct, true, [], []⟩ : HS)]).length = E.L.length + 1 := by simp
    refine ⟨Q', z', by rw [hl]; exact he, ?_, cc⟩
    unfold RStep RefIs
    rw [hl]
    exact ⟨⟨hN.1, hN.2.1⟩, fun k hk => .inr (hN.2.2 k hk)⟩
theorem rclose_l {id : Int} (h : RefIs w Q z E) (hn : E.L.length ≤ 100) :
    Calls Tryd.prog 37 #[.agg #[.slice Q E.L.length z, .int .i64 E.last], .int .i64 id] w fun en w' => ∃ Q' z', en = .returned (.tuple #[.agg #[.slice Q' (closeS E id).L.length z', .int .i64 (closeS E id).last], .int .i64 (closeR E id)]) ∧ RStep w w' Q z E Q' z' (closeS E id) ∧ Ch [] w w' := by
  have HNL := Lib.hid (rfl : E.L.length = E.L.length)
  have HN := Lib.hid hn
  have SQ := Lib.hid h.1
  unfold closeS closeR
  cases hf : fx id E.L with
  | none => exact (rclose_none HNL HN (Lib.hid hf) SQ).mono fun e w' ⟨he, cc⟩ => ⟨Q, z, he, h.same cc, cc⟩
  | some j =>
    obtain ⟨s, hs, _⟩ := fx_at hf
    refine (rclose_ok HNL HN (Lib.hid hf) (Lib.hid hs) (Lib.hid h.2) SQ).mono fun e w' ⟨Q', z', he, hN, cc⟩ => ?_
    have hl : (E.L.eraseIdx j).length = E.L.length - 1 := List.length_eraseIdx_of_lt (List.getElem?_eq_some_iff.1 hs).1
    refine ⟨Q', z', by simp only [hl]; exact he, ?_, cc⟩
    unfold RStep RefIs
    simp only [hl]
    exact ⟨⟨hN.1, hN.2.1⟩, fun k hk => .inr (hN.2.2 k hk)⟩
theorem rend_l {bx ct : Int} (h : RefIs w Q z E) (hn : E.L.length ≤ 100) :
    Calls Tryd.prog 38 #[.agg #[.slice Q E.L.length z, .int .i64 E.last], .int .i64 bx, .int .i64 ct] w fun en w' => ∃ Q' z', en = .returned (.tuple #[.agg #[.slice Q' (endSS E bx ct).L.length z', .int .i64 (endSS E bx ct).last], .int .i64 (endR E bx ct)]) ∧ RStep w w' Q z E Q' z' (endSS E bx ct) ∧ Ch [] w w' := by
  refine (rend_ (Lib.hid rfl) (Lib.hid hn) (Lib.hid h.2) (Lib.hid h.1)).mono fun e w' ⟨Q', z', he, h1, h2, h3, cc⟩ => ?_
  have hl : (endSS E bx ct).L.length = E.L.length := List.length_map _
  refine ⟨Q', z', by rw [hl]; exact he, ?_, cc⟩
  unfold RStep RefIs
  rw [hl]
  exact ⟨⟨h1, h2⟩, h3⟩
theorem rindex_l {id : Int} (h : RefIs w Q z E) (hn : E.L.length ≤ 100) : Calls Tryd.prog 18 #[.agg #[.slice Q E.L.length z, .int .i64 E.last], .int .i64 id] w fun en w' => en = .returned (.int .i64 (fxI id E.L)) ∧ Ch [] w w' := rindex_ (Lib.hid rfl) (Lib.hid hn) (Lib.hid h.1)
def busyL (E : HX) : List Int := (E.L.filter busyS).map HS.id
theorem busyL_len (E : HX) : (busyL E).length = (E.L.filter busyS).length := List.length_map _
theorem busyL_le (E : HX) : (busyL E).length ≤ E.L.length := by rw [busyL_len]; exact List.length_filter_le _ _
theorem rbusy_l (h : RefIs w Q z E) (hn : E.L.length ≤ 100) : Calls Tryd.prog 22 #[.agg #[.slice Q E.L.length z, .int .i64 E.last]] w fun en w' => ∃ v', en = .returned v' ∧ OwnS w' w.heap.size 3 1 v' (busyL E).length ((busyL E).flatMap intC) ∧ Ch [] w w' := by
  rw [busyL_len]
  exact rbusy_ (Lib.hid rfl) (Lib.hid hn) (Lib.hid h.1)
theorem busy_l {lo x c : Nat} {Bs : List Nat} (h : ExIs w lo Bs x c E) (hn : E.L.length ≤ 100) (hc : c ≤ 100000) : Calls Tryd.prog 21 #[.pointer (some ⟨x, 0, none⟩)] w fun en w' => ∃ v', en = .returned v' ∧ OwnS w' w.heap.size 3 1 v' (busyL E).length ((busyL E).flatMap intC) ∧ Ch [] w w' := by
  rw [busyL_len]
  obtain ⟨A, z, K, rfl, h1, h2, h3, h4, h6, h5⟩ := h.form
  exact xbusy_ (Lib.hid (by rw [h5.len]; exact hn)) (Lib.hid h5) (Lib.hid hc) (Lib.hid h6) (Lib.hid h3)
/-- What an act does. -/
def actS (E : HX) (a : HA) : HX := if a.kind = 0 then openS E a.box a.ctr else if a.kind = 1 then writeS E a.id a.s else if a.kind = 2 then readS E a.id a.n else if a.kind = 3 then turnS E a.id a.n else if a.kind = 4 then closeS E a.id else endSS E a.box a.ctr
theorem few_act {k : Nat} (h : Few E k) (a : HA) : Few (actS E a) (k + 1) := by
  unfold actS
  split
  · exact few_open h _ _
  · split
    · exact few_write h _ _
    · split
      · exact few_read h _ _
      · split
        · exact few_turn h _ _
        · split
          · exact few_close h _
          · exact few_end h _ _
def Lawful (E : HX) : Prop := ∃ W R, PInv E W R
theorem Lawful.new : Lawful ⟨[], 0⟩ := ⟨_, _, pinv_new⟩
theorem Lawful.act (h : Lawful E) (a : HA) : Lawful (actS E a) := by
  obtain ⟨W, R, h⟩ := h
  unfold actS
  split
  · exact ⟨_, _, open_p h _ _⟩
  · split
    · exact ⟨_, _, write_p h _ _⟩
    · split
      · exact ⟨_, _, read_p h _ _⟩
      · split
        · exact ⟨_, _, turn_p h _ _⟩
        · split
          · exact ⟨_, _, close_p h _⟩
          · exact ⟨_, _, end_p h _ _⟩
end
end Go.Proofs.YtcfkdglaedpnjaaDoor.V
