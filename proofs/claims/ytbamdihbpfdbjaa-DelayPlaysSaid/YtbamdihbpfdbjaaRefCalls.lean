/- The contracts of the document's functions, over a book's list. -/
import Derived.Test.YtbamdihbpfdbjaaRefs
namespace Go.Proofs.Ytbamdihbpfdbjaa.R
open Go Go.RowKit Go.Proofs.Ytbamdihbpfdbjaa.K Go.Proofs.Ytbamdihbpfdbjaa.PDelayPlays Go.Proofs.YtbamdihbpfdbjaaW.PrintWords
set_option linter.unusedVariables false
set_option linter.unusedSimpArgs false
/-- The document's list lies at A. -/
def QIs (w : World) (A : Option Addr) (c : Nat) (l : List E) : Prop := Kd.R k42 42 w 0 (fun _ => True) (.slice A l.length c) (l.map toS)
theorem QIs.nil (w : World) : QIs w none 0 [] := Kd.R_nil _ _ _ _ _
theorem QIs.keep {w w' : World} {A : Option Addr} {c : Nat} {l : List E} (h : QIs w A c l) {bs : List Nat} (hc : Ch bs w w') (hb : ∀ b ∈ bs, ∀ cs t, w.heap[b]? ≠ some (.cells cs t (0, 0))) : QIs w' A c l :=
  Kd.R_mono (Kd.R_move (Kd.R_bound h) (fun k hk => hc.block k hk.2.2.1 (fun hm => by
    obtain ⟨_, _, _, q, _, cells, hcell⟩ := hk
    exact hb k hm _ _ hcell))) (fun _ _ => trivial)
theorem QIs.ch0 {w w' : World} {A : Option Addr} {c : Nat} {l : List E} (h : QIs w A c l) (hc : Ch [] w w') : QIs w' A c l := h.keep hc (by simp)
theorem QIs.map {w w' : World} {A : Option Addr} {c : Nat} {l : List E} (h : QIs w A c l) {mb : Nat} {m : List E} (hm : MapIs w mb kv kv okK m) (hc : Ch [mb] w w') : QIs w' A c l := h.keep hc (by
  intro b hb cs t e
  have : b = mb := by simpa using hb
  subst this
  exact hm.no_cells (c := b) (cs := cs) (t := t) e rfl)
theorem QIs.reads {w : World} {A : Option Addr} {c : Nat} {l : List E} (h : QIs w A c l) : l.length ≤ c ∧ Kd.C k42 w A (l.map toS).length (l.map toS) := by
  have := Kd.R_reads' h
  exact ⟨this.2.1, this.2.2⟩
theorem QIs.cell {w : World} {A : Option Addr} {c : Nat} {l : List E} (h : QIs w A c l) {j : Nat} (hj : j < l.length) : ∃ g, A = some ⟨g, 0, none⟩ ∧ w.cell? ⟨g, j * 4 + 2, none⟩ = some (.int .i64 l[j].2.1) := by
  obtain ⟨g, cap, e, _, _, cells, hc⟩ := Kd.R_form h (by simp; omega)
  injection e with e1
  subst e1
  obtain ⟨ad, e, _, _, h2, _⟩ := at_T42 h.reads.2 (j : Int) (by omega) (by simp; omega)
  injection e with e
  subst e
  refine ⟨g, rfl, ?_⟩
  have ea : (⟨g, 0, none⟩ : Addr).add (j * 4) = ⟨g, j * 4, none⟩ := by
    unfold Addr.add
    split
    · rename_i h0; rw [h0]
    · simp
  rw [rd_at hj, Int.toNat_natCast, ea] at h2
  exact h2
theorem QIs.mk {w w' : World} {v : Value} {l : List E} (h : Kd.R k42 42 w' w.heap.size (fun _ => True) v (l.map toS)) : ∃ A c, v = .slice A l.length c ∧ QIs w' A c l := by
  obtain ⟨A, c, e⟩ := Kd.R_slice h
  subst e
  have := Kd.R_lower h (Nat.zero_le _)
  rw [List.length_map] at this
  exact ⟨A, c, by rw [List.length_map], this⟩
theorem chB {w w' : World} (h : Below w.heap.size w w') : Ch [] w w' := ⟨h.os, h.tape, h.output, h.size, fun k hk _ => h.block k hk⟩
theorem chD {w w' : World} (h : Drawn0 w w') : Ch [] w w' := by
  obtain ⟨n, rfl⟩ := h.out
  exact (Ch.refl _ _).drewN n
section
variable {A : Option Addr} {c : Nat} {l : List E} {w : World} (u s now : Int)
theorem RFail (h : QIs w A c l) (hl : l.length ≤ 900) (hn : (l.map (·.1)).Nodup) (h0 : 0 ≤ now) (h1 : now ≤ 1000000000) (f : Int) (hf : (att l (u, s)).1 = f) (hf0 : 0 ≤ f) (hf1 : f ≤ 100) :
    Calls Try.prog 14 #[.slice A l.length c, .int .i64 u, .int .i64 s, .int .i64 now] w fun e w' => ∃ A' c', e = .returned (.tuple #[.slice A' (mput l (u, s) (min (f + 1) 100, now + aft (min (f + 1) 100))).length c', .int .i64 (now + aft (min (f + 1) 100))]) ∧ QIs w' A' c' (mput l (u, s) (min (f + 1) 100, now + aft (min (f + 1) 100))) ∧ Ch [] w w' := by
  subst hf
  have := provostref25_Fail.calls 2000 A c (l.map toS) u s now _ _ w h.reads.2 (by rw [List.length_map]; exact h.reads.1) (fail_f l u s now hl hn h0 h1 ⟨hf0, hf1⟩)
  rw [List.length_map] at this
  refine this.mono ?_
  rintro e w' ⟨v, rfl, hr, hb⟩
  obtain ⟨A', c', rfl, hq⟩ := QIs.mk hr
  exact ⟨A', c', rfl, hq, chB hb⟩
theorem RGood (h : QIs w A c l) (hl : l.length ≤ 900) :
    Calls Try.prog 15 #[.slice A l.length c, .int .i64 u, .int .i64 s, .bool false] w fun e w' => ∃ A' c', e = .returned (.slice A' (mdel l (u, s)).length c') ∧ QIs w' A' c' (mdel l (u, s)) ∧ Ch [] w w' := by
  have := provostref25_Good.calls 2000 A c (l.map toS) u s false _ w h.reads.2 (by rw [List.length_map]; exact h.reads.1) (good_one l u s (by omega))
  rw [List.length_map] at this
  refine this.mono ?_
  rintro e w' ⟨v, rfl, hr, hb⟩
  obtain ⟨A', c', rfl, hq⟩ := QIs.mk hr
  exact ⟨A', c', rfl, hq, chB hb⟩
theorem RGoodAll (h : QIs w A c l) (hl : l.length ≤ 900) :
    Calls Try.prog 15 #[.slice A l.length c, .int .i64 u, .int .i64 s, .bool true] w fun e w' => ∃ A' c', e = .returned (.slice A' (l.filter (fun p => decide (p.1.1 ≠ u))).length c') ∧ QIs w' A' c' (l.filter (fun p => decide (p.1.1 ≠ u))) ∧ Ch [] w w' := by
  have := provostref25_Good.calls 2000 A c (l.map toS) u s true _ w h.reads.2 (by rw [List.length_map]; exact h.reads.1) (good_all l u s (by omega))
  rw [List.length_map] at this
  refine this.mono ?_
  rintro e w' ⟨v, rfl, hr, hb⟩
  obtain ⟨A', c', rfl, hq⟩ := QIs.mk hr
  exact ⟨A', c', rfl, hq, chB hb⟩
theorem RLeft (h : QIs w A c l) (hl : l.length ≤ 900) (hn : (l.map (·.1)).Nodup) (h0 : 0 ≤ now) (h1 : now ≤ 1000000000) (hb : ∀ p ∈ l, 0 ≤ p.2.2 ∧ p.2.2 ≤ 10000000000) :
    Calls Try.prog 18 #[.slice A l.length c, .int .i64 u, .int .i64 s, .int .i64 now] w fun e w' => e = .returned (.int .i64 (leftF l (u, s) now)) ∧ Ch [] w w' := by
  have := provostref25_Left.calls 2000 A c (l.map toS) u s now _ w h.reads.2 (by rw [List.length_map]; exact h.reads.1) (left_f l u s now (by omega) hn h0 h1 hb)
  rw [List.length_map] at this
  exact this.mono fun e w' ⟨he, hd⟩ => ⟨he, chD hd⟩
theorem RIndex (h : QIs w A c l) (hl : l.length ≤ 900) (r : Int) (hr : provostref25_Index.f 2000 (l.map toS) u s = some r) :
    Calls Try.prog 19 #[.slice A l.length c, .int .i64 u, .int .i64 s] w fun e w' => e = .returned (.int .i64 r) ∧ Ch [] w w' := by
  have := provostref25_Index.calls 2000 A c (l.map toS) u s _ w h.reads.2 (by rw [List.length_map]; exact h.reads.1) hr
  rw [List.length_map] at this
  exact this.mono fun e w' ⟨he, hd⟩ => ⟨he, chD hd⟩
theorem RNext (h : QIs w A c l) (hl : l.length ≤ 900) (h0 : 0 ≤ now) {x : Int} (hx : NextP now (· ∈ l) x) :
    Calls Try.prog 23 #[.slice A l.length c, .int .i64 now] w fun e w' => e = .returned (.int .i64 x) ∧ Ch [] w w' := by
  have := provostref25_Next.calls 2000 A c (l.map toS) now _ w h.reads.2 (by rw [List.length_map]; exact h.reads.1) (next_f l now h0 (by omega) hx)
  rw [List.length_map] at this
  exact this.mono fun e w' ⟨he, hd⟩ => ⟨he, chD hd⟩
end
end Go.Proofs.Ytbamdihbpfdbjaa.R
