/- The plain law of ExecPrefix, at its end: all that comes of an open session. -/
import Derived.Test.YtcfkdglaedpnjaaDoorExP
namespace Go.Proofs.YtcfkdglaedpnjaaDoor.V
open Go Go.RowKit Go.Proofs.YtcfkdglaedpnjaaDoor.K Go.Proofs.YtcfkdglaedpnjaaDoor.R
set_option linter.unusedVariables false
set_option linter.unusedSimpArgs false
theorem rdW_ne {E : HX} {id m : Int} {R : Nat → List UInt8} {i : Nat} (h : i ≠ id.toNat) : rdW E id m R i = R i := by
  unfold rdW
  split
  · exact updF_ne h
  · rfl
theorem rs_p {E : HX} {W R : Nat → List UInt8} (h : PInv E W R) (id : Int) : ∀ k, ∃ R', PInv (rsN id E k).2 W R' ∧ ∀ i, i ≠ id.toNat → R' i = R i
  | 0 => ⟨R, h, fun _ _ => rfl⟩
  | k + 1 => by
    obtain ⟨R1, h1, h2⟩ := rs_p h id k
    exact ⟨_, turn_p (read_p h1 id 1000) id 1000, fun i hi => (rdW_ne hi).trans (h2 i hi)⟩
theorem fx_set {id : Int} {L : List HS} {j : Nat} {s s' : HS} (hf : fx id L = some j) (hs : L[j]? = some s) (hid : s'.id = s.id) : fx id (L.set j s') = some j := by
  have hf2 := hf
  unfold fx at hf
  rw [List.findIdx?_eq_some_iff_getElem] at hf
  obtain ⟨hj, h1, h2⟩ := hf
  have hsj : L[j] = s := (List.getElem?_eq_some_iff.1 hs).2
  refine fx_some (s := s') (List.getElem?_set_self hj) (by rw [hid, ← hsj]; simpa using h1) fun i t hi ht => ?_
  rw [List.getElem?_set_ne (by omega)] at ht
  have := h2 i hi
  rw [(List.getElem?_eq_some_iff.1 ht).2] at this
  simpa using this
theorem str_nil (a : ByteArray) : a ++ str [] = a := by
  apply ByteArray.ext
  simp [str, ByteArray.data_append]
theorem nil_str (a : ByteArray) : (⟨#[]⟩ : ByteArray) ++ a = a := by
  apply ByteArray.ext
  simp [ByteArray.data_append]
/-- One round of rest at an open session. -/
theorem rs_one {E : HX} {id : Int} {j : Nat} {s : HS} (hf : fx id E.L = some j) (hs : E.L[j]? = some s) (ho : s.op = true) (h1 : s.qi.length ≤ 64) (h2 : s.qo.length ≤ 64) :
    (readR E id 1000).1 = str s.qo ∧ ∃ E', turnS (readS E id 1000) id 1000 = E' ∧ fx id E'.L = some j ∧ E'.L[j]? = some { s with qi := [], qo := s.qi.map upB } := by
  have hN : rdN s.qo 1000 = s.qo.length := by unfold rdN; omega
  have hr : readS E id 1000 = setE E j { s with qo := [] } := by
    unfold readS
    rw [hf]
    simp only [hs, hN, List.drop_length]
  have hj := (List.getElem?_eq_some_iff.1 hs).1
  refine ⟨?_, _, rfl, ?_⟩
  · unfold readR
    rw [hf]
    simp only [hs]
    rw [if_neg (fun h => by rw [ho] at h; cases h.1), hN, List.take_length]
  · have hf1 : fx id (setE E j { s with qo := [] }).L = some j := fx_set hf hs rfl
    have hs1 : (setE E j { s with qo := [] }).L[j]? = some { s with qo := [] } := List.getElem?_set_self hj
    have ht : tuN { s with qo := [] } 1000 = s.qi.length := by
      unfold tuN room
      simp
      omega
    have hT : turnS (setE E j { s with qo := [] }) id 1000 = setE (setE E j { s with qo := [] }) j { s with qi := [], qo := s.qi.map upB } := by
      unfold turnS
      rw [hf1]
      simp only [hs1]
      rw [if_pos ho, ht]
      simp
    rw [hr, hT]
    exact ⟨fx_set hf1 hs1 rfl, List.getElem?_set_self (by show j < (E.L.set j _).length; rw [List.length_set]; exact hj)⟩
theorem rs_open {E : HX} {id : Int} {j : Nat} {s : HS} (hf : fx id E.L = some j) (hs : E.L[j]? = some s) (ho : s.op = true) (h1 : s.qi.length ≤ 64) (h2 : s.qo.length ≤ 64) : (rsN id E 5).1 = str (s.qo ++ s.qi.map upB) := by
  have h0 : (rsN id E 0) = (⟨#[]⟩, E) := rfl
  obtain ⟨a1, E1, b1, c1, d1⟩ := rs_one hf hs ho h1 h2
  have e1 : rsN id E 1 = (str s.qo, E1) := by show (_ ++ _, _) = _; rw [h0, a1, b1, nil_str]
  obtain ⟨a2, E2, b2, c2, d2⟩ := rs_one c1 d1 ho (by simp) (by simpa using h1)
  have e2 : rsN id E 2 = (str (s.qo ++ s.qi.map upB), E2) := by show ((rsN id E 1).1 ++ (readR (rsN id E 1).2 id 1000).1, turnS (readS (rsN id E 1).2 id 1000) id 1000) = _; rw [e1]; simp only [a2, b2, str_append]
  have step : ∀ (F : HX) (a : ByteArray) (k : Nat), rsN id E k = (a, F) → fx id F.L = some j → F.L[j]? = some { s with qi := [], qo := [] } → ∃ F', rsN id E (k + 1) = (a, F') ∧ fx id F'.L = some j ∧ F'.L[j]? = some { s with qi := [], qo := [] } := fun F a k he hF hG => by
    obtain ⟨a3, E3, b3, c3, d3⟩ := rs_one hF hG ho (by simp) (by simp)
    refine ⟨E3, ?_, c3, by simpa using d3⟩
    show ((rsN id E k).1 ++ (readR (rsN id E k).2 id 1000).1, turnS (readS (rsN id E k).2 id 1000) id 1000) = _
    rw [he]
    simp only [a3, b3, str_nil]
  obtain ⟨E3, e3, c3, d3⟩ := step E2 _ 2 e2 c2 (by simpa using d2)
  obtain ⟨E4, e4, c4, d4⟩ := step E3 _ 3 e3 c3 d3
  obtain ⟨E5, e5, c5, d5⟩ := step E4 _ 4 e4 c4 d4
  rw [e5]
end Go.Proofs.YtcfkdglaedpnjaaDoor.V
