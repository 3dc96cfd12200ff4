/- Plain facts for the walk of ExecEnds: what was ended takes nothing any more. -/
import Derived.Test.YtcfkdglaedpnjaaDoorExL
namespace Go.Proofs.YtcfkdglaedpnjaaDoor.V
open Go Go.RowKit Go.Proofs.YtcfkdglaedpnjaaDoor.K Go.Proofs.YtcfkdglaedpnjaaDoor.R
set_option linter.unusedVariables false
set_option linter.unusedSimpArgs false
def boolC (b : Bool) : List Value := [.bool b]
theorem boolC_len (b : Bool) : (boolC b).length = 1 := rfl
theorem boolC_one (b : Bool) : ∀ u ∈ boolC b, u.oneCell' = true := fun u hu => by rw [List.mem_singleton.1 hu]; rfl
theorem info4 : (Tryd.prog.info? 4).map (fun i => (i.zero, i.size, i.bytes)) = some (some (.bool false), 1, 1) := by kernel_rfl
theorem was_at {L : List HS} {i : Nat} {s : HS} (h : L[i]? = some s) : ((L.map HS.op).flatMap boolC)[i]? = some (.bool s.op) := by
  have h1 := flat_get boolC_len (L.map HS.op) i s.op (by rw [List.getElem?_map, h]; rfl) 0 (.bool s.op) rfl
  rwa [show i * 1 + 0 = i by omega] at h1
theorem fx_uniq {E : HX} (h : Lawful E) {j : Nat} {s : HS} (hs : E.L[j]? = some s) : fx s.id E.L = some j := by
  obtain ⟨W, R, h⟩ := h
  exact fx_some hs rfl (fun i s' hi hs' he => by have := h.uniq i j s' s hs' hs he; omega)
theorem ofR_at {E : HX} {id : Int} {j : Nat} {s : HS} (h : fx id E.L = some j) (hs : E.L[j]? = some s) : ofR E id = (s.box, s.ctr, s.op) := by unfold ofR; rw [h]; simp only [hs]
theorem hit_end (bx ct : Int) (s : HS) : hit bx ct (endS bx ct s) = false := by
  unfold endS
  split
  · rfl
  · rename_i h
    simpa using h
theorem endS_idem (bx ct : Int) (s : HS) : endS bx ct (endS bx ct s) = endS bx ct s := by
  show (if hit bx ct (endS bx ct s) = true then { endS bx ct s with op := false } else endS bx ct s) = endS bx ct s
  exact if_neg (by rw [hit_end]; simp)
theorem end_idem (E : HX) (bx ct : Int) : endSS (endSS E bx ct) bx ct = endSS E bx ct := by
  unfold endSS
  congr 1
  rw [List.map_map]
  exact List.map_congr_left fun s _ => endS_idem bx ct s
theorem endR_twice (E : HX) (bx ct : Int) : endR (endSS E bx ct) bx ct = 0 := by
  unfold endR endSS
  rw [List.countP_map, List.countP_eq_zero.2 (fun s _ => by rw [Function.comp, hit_end]; simp)]
  rfl
/-- The sessions F are E's behind the end of a container's, and what was read of them since. -/
structure Like (E F : HX) (bx ct : Int) : Prop where
  law : Lawful F
  len : F.L.length = E.L.length
  each : ∀ (j : Nat) (s t : HS), E.L[j]? = some s → F.L[j]? = some t → t.id = s.id ∧ t.op = (endS bx ct s).op
theorem endS_id (bx ct : Int) (s : HS) : (endS bx ct s).id = s.id := by
  unfold endS
  split <;> rfl
theorem Like.start {E : HX} (h : Lawful E) (bx ct : Int) : Like E (endSS E bx ct) bx ct := by
  obtain ⟨W, R, h⟩ := h
  refine ⟨⟨W, R, end_p h bx ct⟩, List.length_map _, fun j s t hs ht => ?_⟩
  have ht2 : (E.L.map (endS bx ct))[j]? = some t := ht
  rw [List.getElem?_map, hs] at ht2
  injection ht2 with ht2
  subst ht2
  exact ⟨endS_id bx ct s, rfl⟩
theorem Like.read {E F : HX} {bx ct : Int} (h : Like E F bx ct) (id m : Int) : Like E (readS F id m) bx ct := by
  obtain ⟨W, R, hp⟩ := h.law
  refine ⟨⟨_, _, read_p hp id m⟩, by rw [readS_len]; exact h.len, fun j s t hs ht => ?_⟩
  unfold readS at ht
  split at ht
  · exact h.each j s t hs ht
  · split at ht
    · exact h.each j s t hs ht
    · rename_i u hu
      rcases get_set hu ht with ⟨rfl, rfl⟩ | ⟨_, h2⟩
      · exact h.each _ s u hs hu
      · exact h.each j s t hs h2
theorem Like.at {E F : HX} {bx ct : Int} (h : Like E F bx ct) {j : Nat} {s : HS} (hs : E.L[j]? = some s) : ∃ t, F.L[j]? = some t ∧ fx s.id F.L = some j ∧ t.id = s.id ∧ t.op = (endS bx ct s).op := by
  have hj : j < F.L.length := by rw [h.len]; exact (List.getElem?_eq_some_iff.1 hs).1
  obtain ⟨h1, h2⟩ := h.each j s F.L[j] hs (List.getElem?_eq_getElem hj)
  exact ⟨F.L[j], List.getElem?_eq_getElem hj, by rw [← h1]; exact fx_uniq h.law (List.getElem?_eq_getElem hj), h1, h2⟩
theorem shut_write {F : HX} {id : Int} {j : Nat} {t : HS} (hf : fx id F.L = some j) (ht : F.L[j]? = some t) (ho : t.op = false) (x : ByteArray) : writeR F id x = (0, 400) ∧ writeS F id x = F := by
  unfold writeR writeS
  rw [hf]
  simp only [ht, ho]
  exact ⟨rfl, rfl⟩
theorem shut_turn {F : HX} {id m : Int} {j : Nat} {t : HS} (hf : fx id F.L = some j) (ht : F.L[j]? = some t) (ho : t.op = false) : turnR F id m = 0 ∧ turnS F id m = F := by
  unfold turnR turnS
  rw [hf]
  simp only [ht, ho]
  exact ⟨rfl, rfl⟩
theorem shut_read {F : HX} {id : Int} {j : Nat} {t : HS} (hf : fx id F.L = some j) (ht : F.L[j]? = some t) (ho : t.op = false) (hq : t.qo.length ≤ 64) :
    (readR (readS F id 1000) id 1000).2 = 400 ∧ ∃ u, fx id (readS (readS F id 1000) id 1000).L = some j ∧ (readS (readS F id 1000) id 1000).L[j]? = some u ∧ u.op = false := by
  have hN : rdN t.qo 1000 = t.qo.length := by unfold rdN; omega
  have e1 : readS F id 1000 = setE F j { t with qo := [] } := by
    unfold readS
    rw [hf]
    simp only [ht]
    rw [hN, List.drop_length]
  have h1 : (setE F j { t with qo := [] }).L[j]? = some { t with qo := [] } := List.getElem?_set_self (List.getElem?_eq_some_iff.1 ht).1
  have h2 : fx id (setE F j { t with qo := [] }).L = some j := fx_set hf ht rfl
  have e2 : readS (setE F j { t with qo := [] }) id 1000 = setE (setE F j { t with qo := [] }) j { t with qo := [] } := by
    unfold readS
    rw [h2]
    simp only [h1]
    rfl
  rw [e1]
  refine ⟨?_, ?_⟩
  · unfold readR
    rw [h2]
    simp only [h1]
    rw [if_pos ⟨ho, by unfold rdN; simp⟩]
  · rw [e2]
    exact ⟨{ t with qo := [] }, fx_set h2 h1 rfl, List.getElem?_set_self (List.getElem?_eq_some_iff.1 h1).1, ho⟩
theorem end_op (bx ct : Int) (s : HS) : (endS bx ct s).op = (s.op && !(s.box == bx && s.ctr == ct)) := by
  unfold endS hit
  split
  · rename_i h
    rw [Bool.and_eq_true] at h
    rw [h.2]
    simp
  · rename_i h
    generalize (s.box == bx && s.ctr == ct) = b at h ⊢
    cases hb : b
    · simp
    · subst hb
      simp at h
      rw [h]
      rfl
end Go.Proofs.YtcfkdglaedpnjaaDoor.V
