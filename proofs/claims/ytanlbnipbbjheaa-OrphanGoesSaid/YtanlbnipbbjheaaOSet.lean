/- The contracts of a set of pods: of, lacks. -/
import Derived.Test.YtanlbnipbbjheaaRows
import Derived.Test.YtanlbnipbbjheaaMaps2
import Derived.Test.YtanlbnipbbjheaaWWords
import Derived.Deep.LoopGhost
namespace Go.Proofs.Ytanlbnipbbjheaa.R
open Go Go.RowKit Go.Proofs.Ytanlbnipbbjheaa.K Go.Proofs.YtanlbnipbbjheaaW.PrintWords
set_option linter.unusedVariables false
set_option linter.unusedSimpArgs false
def evU (_ : Unit) : Value := .agg #[]
theorem k3 : MK Try.prog 3 (Value.int .i64) (fun _ => True) := MK.int Try.underlying3
theorem mapGrown {w w' : World} {b : Nat} {m : List (Int × Unit)} {row : Option Nat} (h : MapIs w b (Value.int .i64) evU (fun _ => True) m) (hg : w.grownBy w' row) (hn : row ≠ some b) : MapIs w' b (Value.int .i64) evU (fun _ => True) m := by
  have hl := h.lt
  obtain ⟨es, clock, hb, h2⟩ := h
  exact ⟨es, clock, (hg.block b hl (Ne.symm hn)).trans hb, h2⟩
theorem mlook_is {α β : Type} [DecidableEq α] (m : List (α × β)) (z : α) : (mlook m z).isSome = decide (z ∈ m.map (·.1)) := by
  rcases h : mlook m z with _ | v
  · have := mlook_none_iff.1 h
    simp only [Option.isSome_none]
    symm
    rw [decide_eq_false_iff_not]
    intro hm
    obtain ⟨p, hp, e⟩ := List.mem_map.1 hm
    exact this p hp e
  · simp only [Option.isSome_some]
    symm
    exact decide_eq_true (List.mem_map.2 ⟨_, mlook_mem h, rfl⟩)
theorem mlook_mput {α β : Type} [DecidableEq α] (l : List (α × β)) (x z : α) (y : β) : (mlook (mput l x y) z).isSome = ((mlook l z).isSome || decide (z = x)) := by
  rw [mlook_is, mlook_is, mput_keys]
  split
  · rename_i h
    rw [mlook_is] at h
    have hx := of_decide_eq_true h
    by_cases e : z = x
    · subst e; rw [decide_eq_true hx]; rfl
    · rw [decide_eq_false e, Bool.or_false]
  · by_cases e1 : z ∈ l.map (·.1) <;> by_cases e2 : z = x
    all_goals
      rw [Bool.eq_iff_iff]
      simp only [decide_eq_true_eq, Bool.or_eq_true, List.mem_append, List.mem_singleton]
theorem spot0 {w : World} {a : Addr} {v : Value} (h : w.cell? a = some v) : ∃ b o, a = ⟨b, o, none⟩ := by
  obtain ⟨b, o, s⟩ := a
  rcases s with _ | s
  · exact ⟨b, o, rfl⟩
  · simp [World.cell?] at h
    split at h <;> simp at h
theorem addk (b o k : Nat) : (⟨b, o, none⟩ : Addr).add k = ⟨b, o + k, none⟩ := by
  unfold Addr.add
  split
  · rename_i h; subst h; rfl
  · rfl
/-- A row of whole numbers that is read: cells. -/
theorem ints_cells {w : World} {A : Option Addr} {l : List Int} (h : Kd.C (Kd.int .i64) w A l.length l) : l.length ≤ 9223372036854775807 ∧ (l.length = 0 ∨ ∃ b off, A = some ⟨b, off, none⟩ ∧ ∀ i, (hi : i < l.length) → w.cell? ⟨b, off + i, none⟩ = some (.int .i64 l[i])) := by
  obtain ⟨_, h2, h3⟩ := h
  refine ⟨h2, ?_⟩
  by_cases h0 : l.length = 0
  · exact .inl h0
  · right
    obtain ⟨ad, rfl, hc⟩ := h3 (by omega)
    have cell : ∀ i, (hi : i < l.length) → w.cell? (ad.add i) = some (.int .i64 l[i]) := by
      intro i hi
      obtain ⟨c, h1, h2, h3⟩ := hc i l[i] (List.getElem?_eq_getElem hi)
      have h2' : c = [.int .i64 l[i]] := h2
      subst h2'
      have := h3 0 _ rfl
      simpa [show (Kd.int .i64).sz = 1 from rfl] using this
    have c0 := cell 0 (by omega)
    have e0 : ad.add 0 = ad := by unfold Addr.add; simp
    rw [e0] at c0
    obtain ⟨b, o, rfl⟩ := spot0 c0
    exact ⟨b, o, rfl, fun i hi => by rw [← addk]; exact cell i hi⟩
theorem of_any (A : Option Addr) (c : Nat) (l : List Int) (w : World) (h : Kd.C (Kd.int .i64) w A l.length l) :
    Calls Try.prog 34 #[.slice A l.length c] w fun e w' => ∃ (b : Nat) (m : List (Int × Unit)), e = .returned (.map (some b)) ∧ MapIs w' b (Value.int .i64) evU (fun _ => True) m ∧ (∀ x, (mlook m x).isSome = decide (x ∈ l)) ∧ w.heap.size ≤ b ∧ Ch [] w w' := by
  obtain ⟨hl, hcell⟩ := ints_cells h
  have HC := Lib.hid hcell
  clear h hcell
  have hmm := @run_makeMap Try.prog
  go_enter Try.func34, Try.ntmps34
  go_wp2_with fail
  have M0 : Hid (MapIs (w.alloc (.map #[] 0)) w.heap.size (Value.int .i64) evU (fun _ => True) []) := Lib.hid (MapIs.new w)
  obtain ⟨b, hb⟩ : ∃ b, b = w.heap.size := ⟨_, rfl⟩
  rw [← hb] at M0 ⊢
  have hbw : w.heap.size ≤ b := by omega
  clear hb
  go_loopg [5, 9] l.length (fun kq v5 v9 wr => ∃ (k : Nat) (m : List (Int × Unit)), kq + k = l.length ∧ v9 = .int .i64 k ∧ Hid (MapIs wr b (Value.int .i64) evU (fun _ => True) m) ∧ Hid (∀ x, (mlook m x).isSome = decide (x ∈ l.take k)) ∧ Hid (Ch [] w wr))
  case atStart => exact ⟨0, [], by omega, by simp, M0, Lib.hid (fun x => by simp [mlook]), Lib.hid ((Ch.refl [] w).alloc _)⟩
  case round =>
    obtain ⟨k, m, hk, rfl, M1, E1, C1⟩ := hrel
    by_cases hlt : k < l.length
    · obtain ⟨rb, off, rfl, hcell⟩ := HC.out.resolve_left (by omega)
      have x0 := C1.out.get (hcell k hlt)
      obtain ⟨z, hz⟩ : ∃ z, z = l[k] := ⟨_, rfl⟩
      rw [← hz] at x0
      have E2 := Lib.hid (show ∀ x, (mlook (mput m z ()) x).isSome = decide (x ∈ l.take (k + 1)) from fun x => by
        rw [mlook_mput, E1.out, List.take_succ_eq_append_getElem hlt, ← hz]
        by_cases h1 : x ∈ l.take k <;> by_cases h2 : x = z <;> simp [h1, h2])
      clear hcell hz
      go_wp2_with (at_mapUpdate; refine wpList_mset _ rfl _ _ _ 74 rfl 78 Try.underlying74 k3 M1.out (by rfl) z trivial (by rfl) () (by rfl) ?_; intro w2 h1 h2)
      have M2 := Lib.hid h1
      have C2 := Lib.hid (C1.out.trans' h2 (in1 hbw))
      clear h1 h2
      go_wp2_with fail
      go_roundg (gk - 1)
      case measure => omega
      case rel => exact ⟨k + 1, _, by omega, by simp, M2, E2, C2⟩
    · have hk' : k = l.length := by omega
      go_wp2_with fail
      go_ret
      exact ⟨b, m, rfl, M1.out, fun x => by rw [E1.out, hk', List.take_length], hbw, C1.out⟩
theorem zero78 (w : World) : (zeroValue 78).run Try.prog w = .ok (.agg #[]) w := by kernel_rfl
theorem lacks_any (b : Nat) (m : List (Int × Unit)) (id u st : Int) (v : Value) (hv : v.oneCell' = true) (w : World) (hm : MapIs w b (Value.int .i64) evU (fun _ => True) m) (t : Bool) (ht : (mlook m u).isSome = t) :
    Calls Try.prog 35 #[.map (some b), .agg #[.int .i64 id, .int .i64 u, .int .i64 st, v]] w fun e w' => e = .returned (.bool (!t)) ∧ Ch [] w w' := by
  have HM := Lib.hid hm
  have hr := Lib.hid (show (if true = true then Value.tuple #[((mlook m u).map evU).getD (.agg #[]), .bool (mlook m u).isSome] else ((mlook m u).map evU).getD (.agg #[])) = .tuple #[.agg #[], .bool t] by
    rw [if_pos rfl, ht]
    have : ((mlook m u).map evU).getD (.agg #[]) = .agg #[] := by cases mlook m u <;> rfl
    rw [this])
  clear ht hm
  go_enter Try.func35, Try.ntmps35
  go_wp2_with (at_lookup; refine wpList_mlook _ rfl _ _ 74 true rfl 78 Try.underlying74 _ (zero78 _) k3 (HM.out.alloc _) (by rfl) u trivial (by rfl) _ hr.out ?_)
  go_ret
  exact ⟨rfl, ((Ch.refl _ _).alloc _).alloc _⟩
end Go.Proofs.Ytanlbnipbbjheaa.R
