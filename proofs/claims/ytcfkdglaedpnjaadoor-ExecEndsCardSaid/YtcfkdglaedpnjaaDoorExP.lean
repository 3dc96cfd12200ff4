/- The plain law of ExecPrefix: what was read of a session begins what was written to it, in capital letters. -/
import Derived.Test.YtcfkdglaedpnjaaDoorExW
namespace Go.Proofs.YtcfkdglaedpnjaaDoor.V
open Go Go.RowKit Go.Proofs.YtcfkdglaedpnjaaDoor.K Go.Proofs.YtcfkdglaedpnjaaDoor.R
set_option linter.unusedVariables false
set_option linter.unusedSimpArgs false
/-- What was written and read, by a session's number. -/
structure PInv (E : HX) (W R : Nat → List UInt8) : Prop where
  ids : ∀ (j : Nat) (s : HS), E.L[j]? = some s → 1 ≤ s.id ∧ s.id ≤ E.last
  uniq : ∀ (i j : Nat) (s t : HS), E.L[i]? = some s → E.L[j]? = some t → s.id = t.id → i = j
  opn : ∀ (j : Nat) (s : HS), E.L[j]? = some s → s.op = true → (W s.id.toNat).map upB = R s.id.toNat ++ s.qo ++ s.qi.map upB
  shut : ∀ (j : Nat) (s : HS), E.L[j]? = some s → ∃ z, (W s.id.toNat).map upB = R s.id.toNat ++ s.qo ++ z
  any : ∀ i, ∃ z, (W i).map upB = R i ++ z
  fresh : ∀ i, E.last < i → W i = [] ∧ R i = []
theorem pinv_new : PInv ⟨[], 0⟩ (fun _ => []) (fun _ => []) := ⟨fun j s h => by simp at h, fun i j s t h => by simp at h, fun j s h => by simp at h, fun j s h => by simp at h, fun i => ⟨[], rfl⟩, fun i _ => ⟨rfl, rfl⟩⟩
theorem get_set {L : List HS} {j i : Nat} {s s' t : HS} (hs : L[j]? = some s) (ht : (L.set j s')[i]? = some t) : (i = j ∧ t = s') ∨ (i ≠ j ∧ L[i]? = some t) := by
  by_cases h : i = j
  · subst h
    rw [List.getElem?_set_self (List.getElem?_eq_some_iff.1 hs).1] at ht
    injection ht with ht
    exact .inl ⟨rfl, ht.symm⟩
  · rw [List.getElem?_set_ne (Ne.symm h)] at ht
    exact .inr ⟨h, ht⟩
theorem PInv.set {E : HX} {W R W' R' : Nat → List UInt8} (h : PInv E W R) {j : Nat} {s s' : HS} (hs : E.L[j]? = some s) (hid : s'.id = s.id) (hW : ∀ i, i ≠ s.id.toNat → W' i = W i ∧ R' i = R i)
    (ho : s'.op = true → (W' s.id.toNat).map upB = R' s.id.toNat ++ s'.qo ++ s'.qi.map upB) (hz : ∃ z, (W' s.id.toNat).map upB = R' s.id.toNat ++ s'.qo ++ z) : PInv (setE E j s') W' R' := by
  have hj := h.ids j s hs
  have other : ∀ (i : Nat) (t : HS), i ≠ j → E.L[i]? = some t → t.id.toNat ≠ s.id.toNat := fun i t hi ht he => by
    have h2 := h.ids i t ht
    exact hi (h.uniq i j t s ht hs (by omega))
  refine ⟨fun i t ht => ?_, fun i k t u ht hu he => ?_, fun i t ht hop => ?_, fun i t ht => ?_, fun i => ?_, fun i hi => ?_⟩
  · rcases get_set hs ht with ⟨rfl, rfl⟩ | ⟨hi, ht⟩
    · rw [hid]; exact hj
    · exact h.ids i t ht
  · rcases get_set hs ht with ⟨e1, e2⟩ | ⟨hi, ht2⟩ <;> rcases get_set hs hu with ⟨e3, e4⟩ | ⟨hk, hu2⟩
    · rw [e1, e3]
    · rw [e1]; exact h.uniq _ _ _ _ hs hu2 (by rw [← hid, ← e2, he])
    · rw [e3]; exact h.uniq _ _ _ _ ht2 hs (by rw [he, e4, hid])
    · exact h.uniq _ _ _ _ ht2 hu2 he
  · rcases get_set hs ht with ⟨rfl, rfl⟩ | ⟨hi, ht⟩
    · rw [hid]; exact ho hop
    · rw [(hW _ (other i t hi ht)).1, (hW _ (other i t hi ht)).2]; exact h.opn i t ht hop
  · rcases get_set hs ht with ⟨rfl, rfl⟩ | ⟨hi, ht⟩
    · rw [hid]; exact hz
    · rw [(hW _ (other i t hi ht)).1, (hW _ (other i t hi ht)).2]; exact h.shut i t ht
  · by_cases hi : i = s.id.toNat
    · subst hi
      obtain ⟨z, hz⟩ := hz
      exact ⟨s'.qo ++ z, by rw [hz, List.append_assoc]⟩
    · rw [(hW i hi).1, (hW i hi).2]; exact h.any i
  · have hi' : E.last < i := hi
    rw [(hW i (by omega)).1, (hW i (by omega)).2]; exact h.fresh i hi'
def updF (W : Nat → List UInt8) (i : Nat) (l : List UInt8) : Nat → List UInt8 := fun k => if k = i then W k ++ l else W k
theorem updF_same (W : Nat → List UInt8) (i : Nat) (l : List UInt8) : updF W i l i = W i ++ l := if_pos rfl
theorem updF_ne {W : Nat → List UInt8} {i k : Nat} {l : List UInt8} (h : k ≠ i) : updF W i l k = W k := if_neg h
/-- What a Write, a Read adds. -/
def wrW (E : HX) (id : Int) (t : ByteArray) (W : Nat → List UInt8) : Nat → List UInt8 := if (writeR E id t).2 = 0 then updF W id.toNat (t.data.toList.take (writeR E id t).1.toNat) else W
def rdW (E : HX) (id m : Int) (R : Nat → List UInt8) : Nat → List UInt8 := if (readR E id m).2 = 0 then updF R id.toNat (readR E id m).1.data.toList else R
theorem write_p {E : HX} {W R : Nat → List UInt8} (h : PInv E W R) (id : Int) (t : ByteArray) : PInv (writeS E id t) (wrW E id t W) R := by
  unfold wrW writeR writeS
  cases hf : fx id E.L with
  | none => exact h
  | some j =>
    obtain ⟨s, hs, he⟩ := fx_at hf
    simp only [hs]
    subst he
    cases hop : s.op with
    | false => exact h
    | true =>
      simp only [if_true]
      rw [Int.toNat_natCast]
      refine h.set hs rfl (fun i hi => ⟨updF_ne hi, rfl⟩) (fun _ => ?_) ?_
      · rw [updF_same, List.map_append, h.opn j s hs hop, List.map_append, List.append_assoc]
      · exact ⟨_, by rw [updF_same, List.map_append, h.opn j s hs hop, List.append_assoc]⟩
theorem read_p {E : HX} {W R : Nat → List UInt8} (h : PInv E W R) (id m : Int) : PInv (readS E id m) W (rdW E id m R) := by
  unfold rdW readR readS
  cases hf : fx id E.L with
  | none => exact h
  | some j =>
    obtain ⟨s, hs, he⟩ := fx_at hf
    simp only [hs]
    subst he
    have hsp : ∀ l : List UInt8, R s.id.toNat ++ s.qo.take (rdN s.qo m) ++ s.qo.drop (rdN s.qo m) ++ l = R s.id.toNat ++ s.qo ++ l := fun l => by rw [List.append_assoc (R _), List.take_append_drop]
    by_cases hc : s.op = false ∧ rdN s.qo m = 0
    · rw [if_pos hc]
      simp only [show ((400 : Int) = 0) = False by simp, if_false]
      rw [hc.2, List.drop_zero]
      obtain ⟨z, hz⟩ := h.shut j s hs
      exact h.set hs rfl (fun i hi => ⟨rfl, rfl⟩) (fun ho => by have h9 : s.op = true := ho; rw [hc.1] at h9; cases h9) ⟨z, hz⟩
    · rw [if_neg hc]
      simp only [if_true]
      obtain ⟨z, hz⟩ := h.shut j s hs
      refine h.set hs rfl (fun i hi => ⟨rfl, updF_ne hi⟩) (fun ho => ?_) ⟨z, ?_⟩
      · rw [updF_same]
        show _ = R s.id.toNat ++ s.qo.take (rdN s.qo m) ++ s.qo.drop (rdN s.qo m) ++ s.qi.map upB
        rw [hsp]; exact h.opn j s hs ho
      · rw [updF_same]
        show _ = R s.id.toNat ++ s.qo.take (rdN s.qo m) ++ s.qo.drop (rdN s.qo m) ++ z
        rw [hsp]; exact hz
theorem turn_p {E : HX} {W R : Nat → List UInt8} (h : PInv E W R) (id m : Int) : PInv (turnS E id m) W R := by
  unfold turnS
  cases hf : fx id E.L with
  | none => exact h
  | some j =>
    obtain ⟨s, hs, he⟩ := fx_at hf
    simp only [hs]
    cases hop : s.op with
    | false => exact h
    | true =>
      simp only [if_true]
      have e : R s.id.toNat ++ (s.qo ++ (s.qi.take (tuN s m)).map upB) ++ (s.qi.drop (tuN s m)).map upB = R s.id.toNat ++ s.qo ++ s.qi.map upB := by
        rw [← List.append_assoc, List.append_assoc (R _ ++ s.qo), ← List.map_append, List.take_append_drop]
      exact h.set hs rfl (fun i hi => ⟨rfl, rfl⟩) (fun _ => (h.opn j s hs hop).trans e.symm) ⟨_, (h.opn j s hs hop).trans e.symm⟩
theorem close_p {E : HX} {W R : Nat → List UInt8} (h : PInv E W R) (id : Int) : PInv (closeS E id) W R := by
  unfold closeS
  cases hf : fx id E.L with
  | none => exact h
  | some j =>
    have g : ∀ (i : Nat) (t : HS), (E.L.eraseIdx j)[i]? = some t → E.L[if i < j then i else i + 1]? = some t := fun i t ht => by
      rw [List.getElem?_eraseIdx] at ht
      split at ht <;> rename_i hc
      · rw [if_pos hc]; exact ht
      · rw [if_neg hc]; exact ht
    refine ⟨fun i t ht => h.ids _ t (g i t ht), fun i k t u ht hu he => ?_, fun i t ht => h.opn _ t (g i t ht), fun i t ht => h.shut _ t (g i t ht), h.any, h.fresh⟩
    have := h.uniq _ _ _ _ (g i t ht) (g k u hu) he
    split at this <;> split at this <;> omega
theorem end_p {E : HX} {W R : Nat → List UInt8} (h : PInv E W R) (bx ct : Int) : PInv (endSS E bx ct) W R := by
  have g : ∀ (i : Nat) (t : HS), (E.L.map (endS bx ct))[i]? = some t → ∃ s, E.L[i]? = some s ∧ t.id = s.id ∧ t.qi = s.qi ∧ t.qo = s.qo ∧ (t.op = true → s.op = true) := fun i t ht => by
    rw [List.getElem?_map] at ht
    cases hs : E.L[i]? with
    | none => rw [hs] at ht; cases ht
    | some s =>
      rw [hs] at ht
      injection ht with ht
      subst ht
      refine ⟨s, rfl, ?_⟩
      unfold endS
      split <;> simp
  refine ⟨fun i t ht => ?_, fun i k t u ht hu he => ?_, fun i t ht ho => ?_, fun i t ht => ?_, h.any, h.fresh⟩
  · obtain ⟨s, hs, e1, _⟩ := g i t ht; rw [e1]; exact h.ids i s hs
  · obtain ⟨s, hs, e1, _⟩ := g i t ht
    obtain ⟨s2, hs2, e2, _⟩ := g k u hu
    exact h.uniq _ _ _ _ hs hs2 (by rw [← e1, ← e2, he])
  · obtain ⟨s, hs, e1, e2, e3, e4⟩ := g i t ht; rw [e1, e2, e3]; exact h.opn i s hs (e4 ho)
  · obtain ⟨s, hs, e1, e2, e3, e4⟩ := g i t ht; rw [e1, e3]; exact h.shut i s hs
theorem open_p {E : HX} {W R : Nat → List UInt8} (h : PInv E W R) (bx ct : Int) : PInv (openS E bx ct) W R := by
  unfold openS
  split
  · exact h
  · have g : ∀ (i : Nat) (t : HS), (E.L ++ [(⟨(E.last + 1 : Nat), bx, ct, true, [], []⟩ : HS)])[i]? = some t → E.L[i]? = some t ∨ (i = E.L.length ∧ t = ⟨(E.last + 1 : Nat), bx, ct, true, [], []⟩) := fun i t ht => by
      by_cases hi : i < E.L.length
      · rw [List.getElem?_append_left hi] at ht; exact .inl ht
      · have hl := (List.getElem?_eq_some_iff.1 ht).1
        rw [List.length_append, List.length_singleton] at hl
        have : i = E.L.length := by omega
        subst this
        rw [List.getElem?_append_right (Nat.le_refl _)] at ht
        simp at ht
        exact .inr ⟨rfl, ht.symm⟩
    have hfr := h.fresh (E.last + 1) (Nat.lt_succ_self _)
    refine ⟨fun i t ht => ?_, fun i k t u ht hu he => ?_, fun i t ht ho => ?_, fun i t ht => ?_, h.any, fun i hi => h.fresh i (by have h9 : E.last + 1 < i := hi; omega)⟩
    · show 1 ≤ t.id ∧ t.id ≤ (E.last + 1 : Nat)
      rcases g i t ht with ht | ⟨_, rfl⟩
      · have := h.ids i t ht; omega
      · simp; omega
    · rcases g i t ht with ht | ⟨e1, rfl⟩ <;> rcases g k u hu with hu | ⟨e2, rfl⟩
      · exact h.uniq _ _ _ _ ht hu he
      · have := h.ids i t ht; simp at he; omega
      · have := h.ids k u hu; simp at he; omega
      · omega
    · rcases g i t ht with ht | ⟨e1, rfl⟩
      · exact h.opn i t ht ho
      · show (W (((E.last + 1 : Nat) : Int)).toNat).map upB = R (((E.last + 1 : Nat) : Int)).toNat ++ [] ++ [].map upB
        rw [Int.toNat_natCast, hfr.1, hfr.2]; rfl
    · rcases g i t ht with ht | ⟨e1, rfl⟩
      · exact h.shut i t ht
      · refine ⟨[], ?_⟩
        show (W (((E.last + 1 : Nat) : Int)).toNat).map upB = R (((E.last + 1 : Nat) : Int)).toNat ++ [] ++ []
        rw [Int.toNat_natCast, hfr.1, hfr.2]; rfl
end Go.Proofs.YtcfkdglaedpnjaaDoor.V
