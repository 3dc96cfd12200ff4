/- The document's book as a whole: its answers are the package's. -/
import Derived.Test.YtggcpbnlblbpjaaDoc
namespace Go.Proofs.Ytggcpbnlblbpjaa.L
open Go Go.RowKit Go.Proofs.Ytggcpbnlblbpjaa.K Go.Proofs.Ytggcpbnlblbpjaa.H Go.Proofs.YtggcpbnlblbpjaaW.PrintLast
set_option linter.unusedVariables false
set_option linter.unusedSimpArgs false
/-- A document's book: its rows are the call's own, apart from the blocks Bs. -/
def DocIs (w : World) (lo : Nat) (Bs : List Nat) (S : HB) (v u : Value) : Prop := OwnS w lo 59 28 v S.L.length (S.L.flatMap opC) ∧ OwnS w lo 3 1 u S.I.length (S.I.map vi) ∧ (∀ k, k ∈ rl v → k ∉ Bs) ∧ (∀ k, k ∈ rl u → k ∉ Bs) ∧ (∀ k, k ∈ Bs → k < w.heap.size) ∧ lo ≤ w.heap.size
theorem src_form {w : World} {v : Value} {n sz : Nat} {xs : List Value} (h : SrcIs w v n xs sz) : ∃ A z, v = .slice A n z := by
  rcases h.2 with ⟨rfl, rfl⟩ | ⟨a, c, rfl, _⟩
  · exact ⟨_, _, rfl⟩
  · exact ⟨_, _, rfl⟩
theorem src_u {w : World} {v : Value} {n sz : Nat} {xs : List Value} (h : SrcIs w v n xs sz) : v.oneCell' = true := by
  obtain ⟨A, z, rfl⟩ := src_form h
  rfl
theorem DocIs.ch {w w' : World} {lo : Nat} {Bs bs : List Nat} {S : HB} {v u : Value} (h : DocIs w lo Bs S v u) (c : Ch bs w w') (h1 : ∀ k, k ∈ rl v → k ∉ bs) (h2 : ∀ k, k ∈ rl u → k ∉ bs) : DocIs w' lo Bs S v u := ⟨h.1.ch c h1, h.2.1.ch c h2, h.2.2.1, h.2.2.2.1, fun k hk => Nat.lt_of_lt_of_le (h.2.2.2.2.1 k hk) c.size, Nat.le_trans h.2.2.2.2.2 c.size⟩
theorem DocIs.ch0 {w w' : World} {lo : Nat} {Bs : List Nat} {S : HB} {v u : Value} (h : DocIs w lo Bs S v u) (c : Ch [] w w') : DocIs w' lo Bs S v u := h.ch c rnin_nil rnin_nil
/-- The book has moved on. -/
theorem DocIs.step {w w' : World} {lo : Nat} {Bs Bs' : List Nat} {S : HB} {v u : Value} (h : DocIs w lo Bs S v u) (c : Ch Bs w w') (hb : ∀ k, k ∈ Bs' → k ∈ Bs ∨ w.heap.size ≤ k) (hl : ∀ k, k ∈ Bs' → k < w'.heap.size) : DocIs w' lo Bs' S v u := by
  refine ⟨h.1.ch c h.2.2.1, h.2.1.ch c h.2.2.2.1, fun k hk hm => ?_, fun k hk hm => ?_, hl, Nat.le_trans h.2.2.2.2.2 c.size⟩
  · rcases hb k hm with h1 | h1
    · exact h.2.2.1 k hk h1
    · have := (h.1.lt k hk).2; omega
  · rcases hb k hm with h1 | h1
    · exact h.2.2.2.1 k hk h1
    · have := (h.2.1.lt k hk).2; omega
theorem DocIs.newv {w w' : World} {lo : Nat} {Bs : List Nat} {S S' : HB} {v v' u : Value} (h : DocIs w lo Bs S v u) (c : Ch [] w w') (hi : S'.I = S.I) (hv : OwnS w' w.heap.size 59 28 v' S'.L.length (S'.L.flatMap opC)) : DocIs w' lo Bs S' v' u :=
  ⟨hv.lower h.2.2.2.2.2, by rw [hi]; exact h.2.1.ch c rnin_nil, fun k hk hm => by have := (hv.lt k hk).1; have := h.2.2.2.2.1 k hm; omega, h.2.2.2.1, fun k hk => Nat.lt_of_lt_of_le (h.2.2.2.2.1 k hk) c.size, Nat.le_trans h.2.2.2.2.2 c.size⟩
theorem DocIs.newu {w w' : World} {lo : Nat} {Bs : List Nat} {S S' : HB} {v u u' : Value} (h : DocIs w lo Bs S v u) (c : Ch [] w w') (hi : S'.L = S.L) (hv : OwnS w' w.heap.size 3 1 u' S'.I.length (S'.I.map vi)) : DocIs w' lo Bs S' v u' :=
  ⟨by rw [hi]; exact h.1.ch c rnin_nil, hv.lower h.2.2.2.2.2, h.2.2.1, fun k hk hm => by have := (hv.lt k hk).1; have := h.2.2.2.2.1 k hm; omega, fun k hk => Nat.lt_of_lt_of_le (h.2.2.2.2.1 k hk) c.size, Nat.le_trans h.2.2.2.2.2 c.size⟩
variable {lo : Nat} {Bs : List Nat}
variable {w : World} {S : HB} {v u : Value} {c n : Int}
abbrev docV (S : HB) (v u : Value) : Value := .agg #[.int .i64 S.now, v, u]
theorem rask_all (h : DocIs w lo Bs S v u) (hs : S.now ≤ 1000 ∧ S.L.length ≤ 1000) :
    Calls Try.prog 18 #[docV S v u, .int .i64 c, .int .i64 n] w fun en w' => ∃ v' u', en = .returned (.tuple #[docV (askS S c n) v' u', .int .i64 (askR S c n).2]) ∧ DocIs w' lo Bs (askS S c n) v' u' ∧ Ch [] w w' := by
  obtain ⟨A, z, rfl⟩ := src_form h.1.src
  unfold askR askS
  cases hi : idx c n 0 S.L with
  | none =>
    refine (rask_none (Lib.hid hs.2) (src_u h.2.1.src) (Lib.hid hi) (Lib.hid hs.1) (Lib.hid h.1.src)).mono ?_
    rintro _ w' ⟨v', rfl, hv, cc⟩
    exact ⟨v', u, rfl, h.newv cc rfl (by simpa using hv), cc⟩
  | some j =>
    refine (rask_some (Lib.hid hs.2) (src_u h.2.1.src) (Lib.hid hi) (Lib.hid h.1.src)).mono ?_
    rintro _ w' ⟨rfl, cc⟩
    exact ⟨_, u, rfl, h.ch0 cc, cc⟩
theorem rinner_all (h : DocIs w lo Bs S v u) (hs : S.now ≤ 1000 ∧ S.I.length ≤ 1000) :
    Calls Try.prog 21 #[docV S v u] w fun en w' => ∃ v' u', en = .returned (docV ⟨S.now + 1, S.L, S.I ++ [((S.now + 1 : Nat) : Int)]⟩ v' u') ∧ DocIs w' lo Bs ⟨S.now + 1, S.L, S.I ++ [((S.now + 1 : Nat) : Int)]⟩ v' u' ∧ Ch [] w w' := by
  obtain ⟨A, z, rfl⟩ := src_form h.2.1.src
  refine (rinner_ (Lib.hid hs.2) (src_u h.1.src) (Lib.hid hs.1) (Lib.hid h.2.1.src)).mono ?_
  rintro _ w' ⟨u', rfl, hu, cc⟩
  exact ⟨v, u', rfl, h.newu cc rfl (by simpa using hu), cc⟩
theorem idx_at {L : List HOp} {j : Nat} (hi : idx c n 0 L = some j) : ∃ o, L[j]? = some o := by
  obtain ⟨o, _, h, _⟩ := idx_some hi
  exact ⟨o, h⟩
theorem rtell_all (h : DocIs w lo Bs S v u) (hs : S.now ≤ 1000 ∧ S.L.length ≤ 1000) :
    Calls Try.prog 20 #[docV S v u, .int .i64 c, .int .i64 n] w fun en w' => ∃ v' u', en = .returned (.tuple #[docV (tellS S c n) v' u', .int .i64 (tellR S c n).2]) ∧ DocIs w' lo Bs (tellS S c n) v' u' ∧ Ch [] w w' := by
  obtain ⟨A, z, rfl⟩ := src_form h.1.src
  unfold tellR tellS
  cases hi : idx c n 0 S.L with
  | none =>
    refine (rtell_none (Lib.hid hs.2) (src_u h.2.1.src) (Lib.hid hi) (Lib.hid h.1.src)).mono ?_
    rintro _ w' ⟨rfl, cc⟩
    exact ⟨_, u, rfl, h.ch0 cc, cc⟩
  | some j =>
    obtain ⟨o, ho⟩ := idx_at hi
    obtain ⟨a, rfl⟩ := src_some h.1.src (Nat.lt_of_le_of_lt (Nat.zero_le j) (List.getElem?_eq_some_iff.1 ho).1)
    simp only [ho]
    cases hd : o.d == 0 with
    | true =>
      refine (rtell_done (Lib.hid hs.2) (src_u h.2.1.src) (Lib.hid hi) (Lib.hid ho) (Lib.hid hd) (Lib.hid h.1.src)).mono ?_
      rintro _ w' ⟨rfl, cc⟩
      exact ⟨_, u, rfl, h.ch0 cc, cc⟩
    | false =>
      cases ht : decide (o.t > 0) with
      | true =>
        refine (rtell_told (Lib.hid hs.2) (src_u h.2.1.src) (Lib.hid hi) (Lib.hid ho) (Lib.hid hd) (Lib.hid ht) (Lib.hid h.1.src)).mono ?_
        rintro _ w' ⟨rfl, cc⟩
        exact ⟨_, u, rfl, h.ch0 cc, cc⟩
      | false =>
        refine (rtell_ok (Lib.hid hs.2) (src_u h.2.1.src) (Lib.hid hi) (Lib.hid ho) (Lib.hid hd) (Lib.hid ht) (Lib.hid hs.1) (Lib.hid h.1.src)).mono ?_
        rintro _ w' ⟨v', rfl, hv, cc⟩
        exact ⟨v', u, rfl, h.newv cc rfl (by simpa using hv), cc⟩
theorem rdo_all {CA : Cs 16} {RA : Cs 7} (h : DocIs w lo Bs S v u) (hs : S.now ≤ 1000 ∧ S.L.length ≤ 1000) :
    Calls Try.prog 19 #[docV S v u, .int .i64 c, .int .i64 n, .agg CA.1.toArray, .agg RA.1.toArray] w fun en w' => ∃ v' u', en = .returned (.tuple #[docV (doS S c n CA RA) v' u', .int .i64 (doR S c n).2]) ∧ DocIs w' lo Bs (doS S c n CA RA) v' u' ∧ Ch [] w w' := by
  obtain ⟨A, z, rfl⟩ := src_form h.1.src
  unfold doR doS
  cases hi : idx c n 0 S.L with
  | none =>
    refine (rdo_none (Lib.hid hs.2) (src_u h.2.1.src) (Lib.hid hi) (Lib.hid h.1.src)).mono ?_
    rintro _ w' ⟨rfl, cc⟩
    exact ⟨_, u, rfl, h.ch0 cc, cc⟩
  | some j =>
    obtain ⟨o, ho⟩ := idx_at hi
    obtain ⟨a, rfl⟩ := src_some h.1.src (Nat.lt_of_le_of_lt (Nat.zero_le j) (List.getElem?_eq_some_iff.1 ho).1)
    simp only [ho]
    cases hd : decide (o.d > 0) with
    | true =>
      refine (rdo_done (Lib.hid hs.2) (src_u h.2.1.src) (Lib.hid hi) (Lib.hid ho) (Lib.hid hd) (Lib.hid h.1.src)).mono ?_
      rintro _ w' ⟨rfl, cc⟩
      exact ⟨_, u, rfl, h.ch0 cc, cc⟩
    | false =>
      refine (rdo_ok (Lib.hid hs.2) (src_u h.2.1.src) (Lib.hid hi) (Lib.hid ho) (Lib.hid hd) (Lib.hid hs.1) (Lib.hid h.1.src)).mono ?_
      rintro _ w' ⟨v', rfl, hv, cc⟩
      exact ⟨v', u, rfl, h.newv cc rfl (by simpa using hv), cc⟩
end Go.Proofs.Ytggcpbnlblbpjaa.L
