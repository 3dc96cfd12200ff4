/- What the document's functions answer over a book's list. -/
import Derived.Test.YtbamdihbpfdbjaaWorks
namespace Go.Proofs.Ytbamdihbpfdbjaa.R
open Go Go.RowKit Go.Proofs.Ytbamdihbpfdbjaa.K Go.Proofs.Ytbamdihbpfdbjaa.PDelayPlays
set_option linter.unusedVariables false
set_option linter.unusedSimpArgs false
abbrev E := (Int × Int) × (Int × Int)
def toS (p : E) : S42 := ⟨p.1.1, p.1.2, p.2.1, p.2.2⟩
theorem rd_at {l : List E} {i : Nat} (h : i < l.length) : rd_T42 (l.map toS) (i : Int) = toS l[i] := by
  unfold rd_T42
  simp [List.getD_eq_getElem?_getD, h]
theorem W64 (x : Int) (h1 : -9223372036854775808 ≤ x) (h2 : x ≤ 9223372036854775807) : wrap64 x = x := by unfold wrap64; omega
theorem index_l0 (l : List E) (u s : Int) (hl : l.length ≤ 1000) : ∀ (d k i : Nat), i + d = l.length → d < k →
    ∃ r, provostref25_Index.l0 k (l.map toS) u s i = some r ∧ ((r = -1 ∧ ∀ p ∈ l.drop i, p.1 ≠ (u, s)) ∨ ∃ (j : Nat) (p : E), r = j ∧ l[j]? = some p ∧ p.1 = (u, s)) := by
  intro d
  induction d with
  | zero =>
    intro k i hi hk
    obtain ⟨k, rfl⟩ : ∃ m, k = m + 1 := ⟨k - 1, by omega⟩
    refine ⟨-1, ?_, .inl ⟨rfl, ?_⟩⟩
    · simp only [provostref25_Index.l0]
      rw [if_neg (by simp; omega)]
    · rw [List.drop_of_length_le (by omega)]; simp
  | succ d ih =>
    intro k i hi hk
    obtain ⟨k, rfl⟩ : ∃ m, k = m + 1 := ⟨k - 1, by omega⟩
    have hlt : i < l.length := by omega
    simp only [provostref25_Index.l0]
    rw [if_pos (by simp; omega), if_pos (by omega), rd_at hlt, W64 _ (by omega) (by omega)]
    obtain ⟨r, h1, h2⟩ := ih k (i + 1) (by omega) (by omega)
    rw [show ((i + 1 : Nat) : Int) = (i : Int) + 1 by omega] at h1
    have hd : l.drop i = l[i] :: l.drop (i + 1) := List.drop_eq_getElem_cons hlt
    by_cases c1 : (toS l[i]).f0 = u
    · rw [if_pos c1]
      by_cases c2 : (toS l[i]).f1 = s
      · rw [if_pos c2]
        exact ⟨_, rfl, .inr ⟨i, l[i], rfl, List.getElem?_eq_getElem hlt, Prod.ext c1 c2⟩⟩
      · rw [if_neg c2]
        refine ⟨r, h1, h2.imp (fun h => ⟨h.1, ?_⟩) id⟩
        rw [hd]
        intro p hp
        rcases List.mem_cons.1 hp with rfl | hp
        · intro e; exact c2 (by simp [toS, e])
        · exact h.2 p hp
    · rw [if_neg c1]
      refine ⟨r, h1, h2.imp (fun h => ⟨h.1, ?_⟩) id⟩
      rw [hd]
      intro p hp
      rcases List.mem_cons.1 hp with rfl | hp
      · intro e; exact c1 (by simp [toS, e])
      · exact h.2 p hp
theorem index_f (l : List E) (u s : Int) (hl : l.length ≤ 1000) (hn : (l.map (·.1)).Nodup) :
    (provostref25_Index.f 2000 (l.map toS) u s = some (-1) ∧ mlook l (u, s) = none) ∨ ∃ (j : Nat) (y : Int × Int), provostref25_Index.f 2000 (l.map toS) u s = some (j : Int) ∧ j < l.length ∧ l[j]? = some ((u, s), y) ∧ mlook l (u, s) = some y := by
  obtain ⟨r, h1, h2⟩ := index_l0 l u s hl l.length 2000 0 (by omega) (by omega)
  rcases h2 with ⟨rfl, h2⟩ | ⟨j, p, rfl, hj, hp⟩
  · exact .inl ⟨h1, mlook_none (by simpa using h2)⟩
  · refine .inr ⟨j, p.2, h1, (List.getElem?_eq_some_iff.1 hj).1, by rw [hj, ← hp], ?_⟩
    have := mlook_some hn hj
    rwa [hp] at this
theorem left_f (l : List E) (u s now : Int) (hl : l.length ≤ 1000) (hn : (l.map (·.1)).Nodup) (h0 : 0 ≤ now) (h1 : now ≤ 1000000000) (hb : ∀ p ∈ l, 0 ≤ p.2.2 ∧ p.2.2 ≤ 10000000000) :
    provostref25_Left.f 2000 (l.map toS) u s now = some (leftF l (u, s) now) := by
  unfold provostref25_Left.f leftF att
  rcases index_f l u s hl hn with ⟨e, hm⟩ | ⟨j, y, e, hj, hjl, hm⟩
  · rw [e, hm]; rfl
  · rw [e, hm]
    have hp := hb _ (List.mem_of_getElem? hjl)
    have hy : l[j] = ((u, s), y) := (List.getElem?_eq_some_iff.1 hjl).2
    simp only at hp
    simp only [Option.bind_some, Option.isSome_some, if_true, Option.getD_some]
    rw [if_neg (by omega), if_pos (by omega), if_pos (by simp; omega), rd_at hj, hy]
    by_cases c : (toS ((u, s), y)).f3 ≤ now
    · rw [if_pos c]
      simp [toS] at c
      congr 1; omega
    · rw [if_neg c]
      simp [toS] at c ⊢
      rw [W64 _ (by omega) (by omega)]
      omega
def keep (u s : Int) (all : Bool) (p : E) : Bool := decide (p.1.1 ≠ u) || (!all && decide (p.1.2 ≠ s))
theorem good_l0 (l : List E) (u s : Int) (all : Bool) (hl : l.length ≤ 1000) : ∀ (d k i : Nat) (acc : List S42), i + d = l.length → d < k → acc.length ≤ i →
    provostref25_Good.l0 k (l.map toS) u s all acc i = some (acc ++ ((l.drop i).filter (keep u s all)).map toS) := by
  intro d
  induction d with
  | zero =>
    intro k i acc hi hk ha
    obtain ⟨k, rfl⟩ : ∃ m, k = m + 1 := ⟨k - 1, by omega⟩
    simp only [provostref25_Good.l0]
    rw [if_neg (by simp; omega), List.drop_of_length_le (by omega)]
    simp
  | succ d ih =>
    intro k i acc hi hk ha
    obtain ⟨k, rfl⟩ : ∃ m, k = m + 1 := ⟨k - 1, by omega⟩
    have hlt : i < l.length := by omega
    have hd : l.drop i = l[i] :: l.drop (i + 1) := List.drop_eq_getElem_cons hlt
    simp only [provostref25_Good.l0]
    rw [if_pos (by simp; omega), if_pos (by omega), rd_at hlt, W64 _ (by omega) (by omega), hd]
    have i1 := ih k (i + 1) acc (by omega) (by omega) (by omega)
    have i2 := ih k (i + 1) (acc ++ [toS l[i]]) (by omega) (by omega) (by simp; omega)
    rw [show ((i + 1 : Nat) : Int) = (i : Int) + 1 by omega] at i1 i2
    by_cases c1 : (toS l[i]).f0 = u
    · rw [if_pos c1]
      have c1' : l[i].1.1 = u := c1
      rcases all with _ | _
      · rw [if_neg (by simp)]
        by_cases c2 : (toS l[i]).f1 = s
        · have c2' : l[i].1.2 = s := c2
          rw [if_pos c2, i1, List.filter_cons_of_neg (by simp [keep, c1', c2'])]
        · have c2' : ¬ l[i].1.2 = s := c2
          rw [if_neg c2, if_pos (by omega), List.filter_cons_of_pos (by simp [keep, c2'])]
          refine i2.trans ?_
          simp
      · rw [if_pos rfl, i1, List.filter_cons_of_neg (by simp [keep, c1'])]
    · have c1' : ¬ l[i].1.1 = u := c1
      rw [if_neg c1, if_pos (by omega), List.filter_cons_of_pos (by simp [keep, c1'])]
      refine i2.trans ?_
      simp
theorem good_one (l : List E) (u s : Int) (hl : l.length ≤ 1000) : provostref25_Good.f 2000 (l.map toS) u s false = some ((mdel l (u, s)).map toS) := by
  have := good_l0 l u s false hl l.length 2000 0 [] (by omega) (by omega) (by simp)
  refine this.trans ?_
  simp only [List.drop_zero, List.nil_append]
  congr 2
  unfold mdel
  apply List.filter_congr
  intro p _
  obtain ⟨⟨a, b⟩, c⟩ := p
  by_cases h1 : a = u <;> by_cases h2 : b = s <;> simp [keep, h1, h2]
theorem good_all (l : List E) (u s : Int) (hl : l.length ≤ 1000) : provostref25_Good.f 2000 (l.map toS) u s true = some ((l.filter (fun p => decide (p.1.1 ≠ u))).map toS) := by
  have := good_l0 l u s true hl l.length 2000 0 [] (by omega) (by omega) (by simp)
  refine this.trans ?_
  simp only [List.drop_zero, List.nil_append]
  congr 2
  apply List.filter_congr
  intro p _
  simp [keep]
theorem next_l0 (l : List E) (now : Int) (h0 : 0 ≤ now) (hl : l.length ≤ 1000) : ∀ (d k i : Nat) (x : Int), i + d = l.length → d < k → NextP now (· ∈ l.take i) x →
    ∃ y, provostref25_Next.l0 k (l.map toS) now x i = some y ∧ NextP now (· ∈ l) y := by
  intro d
  induction d with
  | zero =>
    intro k i x hi hk hx
    obtain ⟨k, rfl⟩ : ∃ m, k = m + 1 := ⟨k - 1, by omega⟩
    refine ⟨x, ?_, by rwa [List.take_of_length_le (by omega)] at hx⟩
    simp only [provostref25_Next.l0]
    rw [if_neg (by simp; omega)]
  | succ d ih =>
    intro k i x hi hk hx
    obtain ⟨k, rfl⟩ : ∃ m, k = m + 1 := ⟨k - 1, by omega⟩
    have hlt : i < l.length := by omega
    simp only [provostref25_Next.l0]
    rw [if_pos (by simp; omega), if_pos (by omega), rd_at hlt, W64 _ (by omega) (by omega)]
    have hs := hx.step h0 (T := (· ∈ l.take (i + 1))) (p := l[i]) (fun q => by
      show q ∈ l.take (i + 1) ↔ q ∈ l.take i ∨ q = l[i]
      rw [List.take_succ_eq_append_getElem hlt, List.mem_append, List.mem_singleton])
    obtain ⟨y, h1, h2⟩ := ih k (i + 1) _ (by omega) (by omega) hs
    rw [show ((i + 1 : Nat) : Int) = (i : Int) + 1 by omega] at h1
    refine ⟨y, ?_, h2⟩
    rw [← h1]
    show (if l[i].2.2 > now then (if x = 0 then provostref25_Next.l0 k (l.map toS) now l[i].2.2 ((i : Int) + 1) else (if l[i].2.2 < x then provostref25_Next.l0 k (l.map toS) now l[i].2.2 ((i : Int) + 1) else provostref25_Next.l0 k (l.map toS) now x ((i : Int) + 1))) else provostref25_Next.l0 k (l.map toS) now x ((i : Int) + 1)) = _
    by_cases c1 : l[i].2.2 > now
    · rw [if_pos c1]
      by_cases c2 : x = 0
      · rw [if_pos c2, if_pos ⟨c1, .inl c2⟩]
      · rw [if_neg c2]
        by_cases c3 : l[i].2.2 < x
        · rw [if_pos c3, if_pos ⟨c1, .inr c3⟩]
        · rw [if_neg c3, if_neg (fun h => h.2.elim c2 c3)]
    · rw [if_neg c1, if_neg (fun h => c1 h.1)]
theorem next_f (l : List E) (now : Int) (h0 : 0 ≤ now) (hl : l.length ≤ 1000) {x : Int} (hx : NextP now (· ∈ l) x) : provostref25_Next.f 2000 (l.map toS) now = some x := by
  obtain ⟨y, h1, h2⟩ := next_l0 l now h0 hl l.length 2000 0 0 (by omega) (by omega) (.inl ⟨rfl, by simp⟩)
  rw [hx.uniq h2]
  exact h1
theorem mput_at {l : List E} {x y z : Int × Int} {j : Nat} (hn : (l.map (·.1)).Nodup) (hj : l[j]? = some (x, z)) : mput l x y = l.set j (x, y) := by
  have hs := mlook_some hn hj
  simp only at hs
  unfold mput
  rw [hs]
  simp only [Option.isSome_some, if_true]
  obtain ⟨hlt, hjj⟩ := List.getElem?_eq_some_iff.1 hj
  apply List.ext_getElem?
  intro i
  rw [List.getElem?_map, List.getElem?_set]
  by_cases e : j = i
  · subst e
    rw [if_pos rfl, if_pos hlt, hj]
    simp
  · rw [if_neg e]
    rcases hi : l[i]? with _ | p
    · rfl
    · have : p.1 ≠ x := by
        intro hp
        have hlt' : j < (l.map (·.1)).length := by simpa using hlt
        exact e ((List.getElem?_inj hlt' hn).1 (by rw [List.getElem?_map, List.getElem?_map, hi, hj]; simp [hp]))
      simp [this]
theorem fail_f (l : List E) (u s now : Int) (hl : l.length ≤ 900) (hn : (l.map (·.1)).Nodup) (h0 : 0 ≤ now) (h1 : now ≤ 1000000000) (hf : 0 ≤ (att l (u, s)).1 ∧ (att l (u, s)).1 ≤ 100) :
    provostref25_Fail.f 2000 (l.map toS) u s now = some ((mput l (u, s) (min ((att l (u, s)).1 + 1) 100, now + aft (min ((att l (u, s)).1 + 1) 100))).map toS, now + aft (min ((att l (u, s)).1 + 1) 100)) := by
  unfold provostref25_Fail.f
  rcases index_f l u s (by omega) hn with ⟨e, hm⟩ | ⟨j, y, e, hj, hjl, hm⟩
  · rw [e]
    have ha : att l (u, s) = (0, 0) := by unfold att; rw [hm]; rfl
    rw [ha]
    have hp : mput l (u, s) (1, now + 1) = l ++ [((u, s), (1, now + 1))] := by unfold mput; rw [hm]; rfl
    have hr : ∀ z : S42, rd_T42 (l.map toS ++ [z]) ((l.map toS).length : Int) = z := fun z => by
      unfold rd_T42; simp [List.getD_eq_getElem?_getD]
    have hst : ∀ z z' : S42, (l.map toS ++ [z]).set (((l.map toS).length : Int)).toNat z' = l.map toS ++ [z'] := fun z z' => by
      rw [Int.toNat_natCast, List.set_append_right _ _ (Nat.le_refl _)]; simp
    simp only [Option.bind_some, List.nil_append]
    rw [if_pos (by simp; omega), if_pos (by omega), if_pos (by simp; omega), if_pos (by omega), if_pos (by simp; omega)]
    simp only [hr, hst, Int.zero_add, refAfter_f, Option.bind_some, show wrap64 1 = 1 from W64 _ (by omega) (by omega), show aft 1 = 1 from rfl, show (min (0 + 1) 100 : Int) = 1 from rfl]
    rw [if_pos (by omega), W64 _ (by omega) (by omega), show (min 1 100 : Int) = 1 from rfl, show aft 1 = 1 from rfl, hp]
    simp [toS]
  · rw [e]
    have ha : att l (u, s) = y := by unfold att; rw [hm]; rfl
    rw [ha] at hf ⊢
    have hy : l[j] = ((u, s), y) := (List.getElem?_eq_some_iff.1 hjl).2
    have hr : rd_T42 (l.map toS) (j : Int) = toS ((u, s), y) := by rw [rd_at hj, hy]
    have hr2 : ∀ z : S42, rd_T42 ((l.map toS).set j z) (j : Int) = z := fun z => by
      unfold rd_T42; simp [List.getD_eq_getElem?_getD, hj]
    have hr3 : ∀ z z' : S42, rd_T42 (((l.map toS).set j z).set j z') (j : Int) = z' := fun z z' => by
      rw [List.set_set]; exact hr2 z'
    simp only [Option.bind_some, List.nil_append]
    rw [if_pos (by simp; omega), if_neg (by omega), if_pos (by omega), if_pos (by simp; omega), mput_at hn hjl]
    have hms : ∀ z : E, (l.set j z).map toS = (l.map toS).set j (toS z) := fun z => List.map_set
    have ab := aft_bd (min (y.1 + 1) 100)
    by_cases c : (rd_T42 (l.map toS) (j : Int)).f2 < 100
    · rw [if_pos c]
      rw [hr] at c
      simp only [toS] at c
      have hmin : min (y.1 + 1) 100 = y.1 + 1 := by omega
      rw [hmin] at ab ⊢
      simp only [hr, hr2, hr3, toS, refAfter_f, Option.bind_some, W64 (y.1 + 1) (by omega) (by omega), W64 (now + aft (y.1 + 1)) (by omega) (by omega), List.set_set, hms, Int.toNat_natCast]
    · rw [if_neg c]
      rw [hr] at c
      simp only [toS] at c
      have hy1 : y.1 = 100 := by omega
      have hmin : min (y.1 + 1) 100 = y.1 := by omega
      rw [hmin] at ab ⊢
      simp only [hr, hr2, toS, refAfter_f, Option.bind_some, W64 (now + aft y.1) (by omega) (by omega), hms, Int.toNat_natCast]
end Go.Proofs.Ytbamdihbpfdbjaa.R
