/- slices.Delete on the row of sessions: by the shelf's contract at pointers. -/
import Derived.Test.YtcfkdglaedpnjaaDoorExE
import Derived.Shelf.SlicesE.Delete
import Derived.Lib.RowBridge
import Derived.Shelf.Lay
namespace Go.Proofs
open Go.Shelf
shelf_lay_g SlLaysE.n45 Slgn 45 at Tryd 30 as Tryd.dl
end Go.Proofs
namespace Go.Proofs.YtcfkdglaedpnjaaDoor.V
open Go Go.RowKit Go.Shelf Go.Lib Go.Sort Go.Proofs.YtcfkdglaedpnjaaDoor.K Go.Proofs.YtcfkdglaedpnjaaDoor.R
set_option linter.unusedVariables false
set_option linter.unusedSimpArgs false
set_option maxRecDepth 100000
noncomputable def ptrI : TypeInfo := (Tryd.prog.info? 61).get (by kernel_rfl)
abbrev pa (k : SB) : Option Addr := some ⟨k.b, 0, none⟩
theorem flat_ptr (K : List SB) : K.flatMap ptrC = K.map fun k => Value.pointer (pa k) := by
  induction K with
  | nil => rfl
  | cons k K ih => rw [List.flatMap_cons, ih]; rfl
theorem erase_eq {α : Type} (K : List α) (i : Nat) : K.take i ++ K.drop (i + 1) = K.eraseIdx i := (List.eraseIdx_eq_take_drop_succ K i).symm
theorem del_ {w : World} {lo g cap i : Nat} {K : List SB} (h : OwnS w lo 61 1 (.slice (some ⟨g, 0, none⟩) K.length cap) K.length (K.flatMap ptrC)) (hi : i < K.length) :
    Calls Tryd.prog 30 #[.slice (some ⟨g, 0, none⟩) K.length cap, .int .i64 i, .int .i64 (i + 1 : Nat)] w fun en w' => en = .returned (.slice (some ⟨g, 0, none⟩) (K.length - 1) cap) ∧
      OwnS w' lo 61 1 (.slice (some ⟨g, 0, none⟩) (K.length - 1) cap) (K.length - 1) ((K.eraseIdx i).flatMap ptrC) ∧ Ch [g] w w' := by
  obtain ⟨hl, hh⟩ := h
  rcases hh with ⟨A, he, h0⟩ | ⟨g', cap', cur, he, hc0, hb, hg, hn, hm, hs, hx⟩
  · omega
  · have he2 : g = g' ∧ cap = cap' := by simpa using he
    obtain ⟨rfl, rfl⟩ := he2
    rw [Nat.mul_one] at hs hx
    have hB : Blk w g cur 61 := hg
    obtain ⟨d, hd⟩ : ∃ d : List (Option Addr), d = K.map pa := ⟨_, rfl⟩
    have hdl : d.length = K.length := by rw [hd, List.length_map]
    have hat : ∀ j, j < K.length → cur[j]? = some (Value.pointer (d.toArray[j]!)) := fun j hj => by
      have h1 : (cur.toList.take K.length)[j]? = some (Value.pointer (pa K[j])) := by
        rw [hx, flat_ptr, List.getElem?_map, List.getElem?_eq_getElem hj]; rfl
      rw [List.getElem?_take, if_pos hj] at h1
      rw [← Array.getElem?_toList, h1, hd]
      simp [hj]
    have hH : Holds (Value.pointer : Option Addr → Value) w g 0 d.toArray := fun j hj => by
      have hj2 : j < K.length := by simpa [hdl] using hj
      rw [Nat.zero_add]
      exact ⟨(hB.cell j).trans (hat j hj2), hB.frozen j⟩
    have c := AnyE.slices_Delete Tryd.dl (Value.pointer : Option Addr → Value) (fun _ => rfl) none (fun _ => by kernel_rfl) ptrI (by kernel_rfl) (by kernel_rfl) g 0 cap i (i + 1) d.toArray w hH (by simpa [hdl] using hn) (by unfold maxLen at hm; exact hm) (by omega) (by simp [hdl]; omega)
    rw [show (d.toArray.size) = K.length by simp [hdl]] at c
    refine Calls.mono c ?_
    rintro e w' ⟨rfl, q, rfl⟩
    refine ⟨by rw [Nat.add_sub_cancel_left], ?_, ?_⟩
    · rw [show i + 1 - i = 1 by omega, putRow_eq_setCells (Value.pointer : Option Addr → Value) w g 0 d.toArray _ q hH (by simp [hdl]; omega)]
      have hb2 := blk_setCells ((d.take i ++ d.drop (i + 1) ++ List.replicate 1 none).map Value.pointer) (w.drewN q) g cur 61 0 (hB.drewN q)
      refine ⟨by rw [flat_len ptrC_len, List.length_eraseIdx, if_pos hi], .inr ⟨g, cap, _, rfl, hc0, hb, hb2, by omega, hm, by rw [put_size, hs, Nat.mul_one], ?_⟩⟩
      rw [Nat.mul_one]
      apply List.ext_getElem?
      intro j
      rw [List.getElem?_take]
      by_cases hj : j < K.length - 1
      · rw [if_pos hj, Array.getElem?_toList]
        have hp := put_in ((d.take i ++ d.drop (i + 1) ++ List.replicate 1 none).map Value.pointer) cur 0 j (by simp [hdl]; omega) (by simp [hdl]; omega)
        rw [Nat.zero_add] at hp
        rw [hp, flat_ptr, List.getElem?_map, List.getElem?_map, List.getElem?_append_left (by simp [hdl]; omega), hd, ← List.map_take, ← List.map_drop, ← List.map_append, erase_eq, List.getElem?_map]
        cases (K.eraseIdx i)[j]? <;> rfl
      · rw [if_neg hj, flat_ptr, List.getElem?_map, List.getElem?_eq_none (by rw [List.length_eraseIdx, if_pos hi]; omega)]
        rfl
    · rw [show i + 1 - i = 1 by omega, putRow_eq_setCells (Value.pointer : Option Addr → Value) w g 0 d.toArray _ q hH (by simp [hdl]; omega)]
      exact ch_setCells _ w _ [g] g 0 ((Ch.refl [g] w).drewN q) (.inl (by simp))
end Go.Proofs.YtcfkdglaedpnjaaDoor.V
