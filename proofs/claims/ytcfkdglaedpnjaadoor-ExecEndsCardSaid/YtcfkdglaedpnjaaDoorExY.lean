/- Plain facts for the walk of ExecPrefix: rows of texts, and what comes of a session that is open. -/
import Derived.Test.YtcfkdglaedpnjaaDoorExZ
namespace Go.Proofs.YtcfkdglaedpnjaaDoor.V
open Go Go.RowKit Go.Proofs.YtcfkdglaedpnjaaDoor.K Go.Proofs.YtcfkdglaedpnjaaDoor.R
set_option linter.unusedVariables false
set_option linter.unusedSimpArgs false
theorem flat_map (l : List ByteArray) : l.flatMap strC = l.map Value.string := by
  induction l with
  | nil => rfl
  | cons x l ih => rw [List.flatMap_cons, ih]; rfl
theorem flat_set (l : List ByteArray) (i : Nat) (t : ByteArray) : (l.flatMap strC).set i (.string t) = (l.set i t).flatMap strC := by
  rw [flat_map, flat_map, List.map_set]
theorem flat_at {l : List ByteArray} {i : Nat} {t : ByteArray} (h : l[i]? = some t) : (l.flatMap strC)[i]? = some (.string t) := by
  rw [flat_map, List.getElem?_map, h]; rfl
theorem ext_list (s : ByteArray) (n : Nat) : (s.extract 0 n).data.toList = s.data.toList.take n := by
  rw [ByteArray.data_extract, Array.toList_extract]
  simp [List.extract_eq_take_drop]
theorem wrote_p {E : HX} {lw lr : List ByteArray} {i n : Nat} {b t : ByteArray} {id : Int} (h : PInv E (fW lw) (fW lr)) (hid : id = (i : Int)) (hb : lw[i]? = some b) (hc : (writeR E id t).2 = 0) (hn : (writeR E id t).1 = (n : Int)) :
    PInv (writeS E id t) (fW (lw.set i (b ++ t.extract 0 n))) (fW lr) := by
  have h1 := write_p h id t
  rw [wrW_yes hc, hn] at h1
  rw [fW_set hb, ext_list]
  subst hid
  exact h1
theorem wrote_n {E : HX} {W R : Nat → List UInt8} {t : ByteArray} {id : Int} (h : PInv E W R) (hc : ¬ (writeR E id t).2 = 0) : PInv (writeS E id t) W R := by
  have h1 := write_p h id t
  rwa [wrW_no hc] at h1
theorem reads_p {E : HX} {lw lr : List ByteArray} {i : Nat} {b : ByteArray} {id m : Int} (h : PInv E (fW lw) (fW lr)) (hid : id = (i : Int)) (hb : lr[i]? = some b) (hc : (readR E id m).2 = 0) :
    PInv (readS E id m) (fW lw) (fW (lr.set i (b ++ (readR E id m).1))) := by
  have h1 := read_p h id m
  rw [rdW_yes hc] at h1
  rw [fW_set hb]
  subst hid
  exact h1
theorem reads_n {E : HX} {W R : Nat → List UInt8} {id m : Int} (h : PInv E W R) (hc : ¬ (readR E id m).2 = 0) : PInv (readS E id m) W R := by
  have h1 := read_p h id m
  rwa [rdW_no hc] at h1
theorem sz_set {l : List ByteArray} {n n' i : Nat} {t : ByteArray} (h : ∀ x ∈ l, x.size ≤ n) (hn : n ≤ n') (ht : t.size ≤ n') : ∀ x ∈ l.set i t, x.size ≤ n' := fun x hx => by
  rcases List.mem_or_eq_of_mem_set hx with h1 | h1
  · exact Nat.le_trans (h x h1) hn
  · subst h1; exact ht
theorem sz_up {l : List ByteArray} {n n' : Nat} (h : ∀ x ∈ l, x.size ≤ n) (hn : n ≤ n') : ∀ x ∈ l, x.size ≤ n' := fun x hx => Nat.le_trans (h x hx) hn
theorem txt {l : List ByteArray} {i : Nat} (hl : l.length = 200) (hi : i < 200) : ∃ t, l[i]? = some t ∧ t ∈ l := by
  have h : i < l.length := by omega
  exact ⟨l[i], List.getElem?_eq_getElem h, List.getElem_mem h⟩
theorem nat_of {z : Int} {k : Nat} (h : 1 ≤ z ∧ z ≤ k) : ∃ i : Nat, z = (i : Int) ∧ 1 ≤ i ∧ i ≤ k := ⟨z.toNat, by omega, by omega, by omega⟩
theorem ext_pre {a b c : ByteArray} (h : a = b ++ c) : b.size ≤ a.size ∧ a.extract 0 b.size = b := by
  subst h
  refine ⟨by rw [ByteArray.size_append]; omega, ?_⟩
  apply ByteArray.ext
  apply Array.ext'
  rw [ext_list, ByteArray.data_append, Array.toList_append, List.take_left' (by rw [Array.length_toList]; rfl)]
theorem str_bytes (t : ByteArray) : str t.data.toList = t := by
  apply ByteArray.ext
  simp [str]
theorem pre_of {W R : Nat → List UInt8} {E : HX} (h : PInv E W R) {tw tr : ByteArray} {j : Nat} (hw : W j = tw.data.toList) (hr : R j = tr.data.toList) : ∃ c, str (tw.data.toList.map upB) = tr ++ c := by
  obtain ⟨z, hz⟩ := h.any j
  rw [hw, hr] at hz
  refine ⟨str z, ?_⟩
  rw [hz, ← str_append, str_bytes]
theorem all_of {W R : Nat → List UInt8} {E : HX} (h : PInv E W R) {tw tr : ByteArray} {j : Nat} (hw : W j = tw.data.toList) (hr : R j = tr.data.toList) (ho : (ofR E (j : Int)).2.2 = true) (hq : ∀ (j : Nat) (s : HS), E.L[j]? = some s → s.qi.length ≤ 64 ∧ s.qo.length ≤ 64) : tr ++ (rsN (j : Int) E 5).1 = str (tw.data.toList.map upB) := by
  unfold ofR at ho
  cases hf : fx (j : Int) E.L with
  | none => rw [hf] at ho; simp at ho
  | some i =>
    obtain ⟨s, hs, hid⟩ := fx_at hf
    rw [hf] at ho
    simp only [hs] at ho
    obtain ⟨h1, h2⟩ := hq i s hs
    rw [rs_open hf hs ho h1 h2]
    have h3 := h.opn i s hs ho
    rw [hid, show ((j : Int)).toNat = j from Int.toNat_natCast j, hw, hr] at h3
    rw [h3, List.append_assoc, ← str_append tr.data.toList, str_bytes]
theorem rs_few {F : HX} {id : Int} {k : Nat} (h : F.L.length ≤ 8) : (rsN id F k).2.L.length ≤ 8 := by rw [rsN_len]; exact h
end Go.Proofs.YtcfkdglaedpnjaaDoor.V
