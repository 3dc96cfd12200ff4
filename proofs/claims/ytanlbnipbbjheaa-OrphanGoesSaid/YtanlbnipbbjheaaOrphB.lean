/- Sandboxes as rows of cells: what the functions of package orphan answer of them; which step comes next, and what is left behind it. -/
import Derived.Test.YtanlbnipbbjheaaOrphanCalls
import Derived.Test.YtanlbnipbbjheaaWeave
namespace Go.Proofs.Ytanlbnipbbjheaa.O
open Go Go.RowKit Go.Proofs.Ytanlbnipbbjheaa.K Go.Proofs.YtanlbnipbbjheaaW.PrintWords Go.Proofs.Ytanlbnipbbjheaa.POrphanFinds Go.Proofs.Ytanlbnipbbjheaa.R
set_option linter.unusedVariables false
set_option linter.unusedSimpArgs false
/-- A sandbox, and the slice of its containers as it stands in memory. -/
structure Bx where
  x : S28
  sl : Value
def bxC (b : Bx) : List Value := [.int .i64 b.x.f0, .int .i64 b.x.f1, .int .i64 b.x.f2, b.sl]
theorem bxC_len (b : Bx) : (bxC b).length = 4 := rfl
def okB (w : World) (b : Bx) : Prop := k28.K w b.x (bxC b)
def setId (b : Bx) (z : Int) : Bx := ⟨⟨z, b.x.f1, b.x.f2, b.x.f3⟩, b.sl⟩
def setSt (b : Bx) (z : Int) : Bx := ⟨⟨b.x.f0, b.x.f1, z, b.x.f3⟩, b.sl⟩
theorem okB_open {w : World} {b : Bx} (h : okB w b) : ∃ A3 c3, b.sl = .slice A3 b.x.f3.length c3 ∧ b.x.f3.length ≤ c3 ∧ k108.C w A3 b.x.f3.length b.x.f3 := by
  obtain ⟨A3, c3, he, h1, h2⟩ := k28_open h
  unfold bxC at he
  injection he with _ he
  injection he with _ he
  injection he with _ he
  injection he with he _
  exact ⟨A3, c3, he, h1, h2⟩
theorem okB_id {w : World} {b : Bx} (h : okB w b) (z : Int) : okB w (setId b z) := by
  obtain ⟨A3, c3, he, h1, h2⟩ := okB_open h
  unfold okB bxC setId
  rw [he]
  exact k28_mk w ⟨z, b.x.f1, b.x.f2, b.x.f3⟩ h1 h2
theorem okB_st {w : World} {b : Bx} (h : okB w b) (z : Int) : okB w (setSt b z) := by
  obtain ⟨A3, c3, he, h1, h2⟩ := okB_open h
  unfold okB bxC setSt
  rw [he]
  exact k28_mk w ⟨b.x.f0, b.x.f1, z, b.x.f3⟩ h1 h2
theorem okB_one {w : World} {b : Bx} (h : okB w b) : ∀ u ∈ bxC b, u.oneCell' = true := fun u hu => k28.K_one h u hu
theorem okB_ones {w : World} {B : List Bx} (h : ∀ b ∈ B, okB w b) : ∀ u ∈ B.flatMap bxC, u.oneCell' = true := fun u hu => by
  obtain ⟨b, hb, hu⟩ := List.mem_flatMap.1 hu
  exact okB_one (h b hb) u hu
/-- What comes in. -/
theorem boxes_of {w : World} {A : Option Addr} {l : List S28} (h : Kd.C k28 w A l.length l) : ∃ B : List Bx, B.map (·.x) = l ∧ (∀ b ∈ B, okB w b) ∧ (0 < l.length → ∃ ad, A = some ad ∧ CellsAt w ad (B.flatMap bxC)) := by
  obtain ⟨_, _, h⟩ := h
  by_cases h0 : 0 < l.length
  · obtain ⟨ad, rfl, hc⟩ := h h0
    have key : ∀ (m : Nat) (l' : List S28) (o : Nat), l' = l.drop o → l'.length = m → ∃ B : List Bx, B.map (·.x) = l' ∧ (∀ b ∈ B, okB w b) ∧ ∀ j u, (B.flatMap bxC)[j]? = some u → w.cell? (ad.add (o * 4 + j)) = some u := by
      intro m
      induction m with
      | zero =>
        intro l' o _ hl
        have : l' = [] := List.eq_nil_of_length_eq_zero hl
        subst this
        exact ⟨[], rfl, by simp, fun j u hu => by simp at hu⟩
      | succ m ih =>
        intro l' o he hl
        cases l' with
        | nil => simp at hl
        | cons x l' =>
          have hx : l[o]? = some x := by
            have := congrArg (fun t => t[0]?) he
            simpa using this.symm
          obtain ⟨B, h1, h2, h3⟩ := ih l' (o + 1) (by
            have := congrArg List.tail he
            simpa [List.tail_drop] using this) (by simpa using hl)
          obtain ⟨c, c1, c2, c3⟩ := hc o x hx
          obtain ⟨A3, c', rfl, _, _⟩ := k28_open c2
          refine ⟨⟨x, .slice A3 x.f3.length c'⟩ :: B, by rw [List.map_cons, h1], fun b hb => ?_, fun j u hu => ?_⟩
          · rcases List.mem_cons.1 hb with rfl | hb
            · exact c2
            · exact h2 b hb
          · rw [List.flatMap_cons] at hu
            by_cases hj : j < 4
            · rw [List.getElem?_append_left (by simpa [bxC] using hj)] at hu
              exact c3 j u hu
            · rw [List.getElem?_append_right (by simp [bxC]; omega)] at hu
              have := h3 (j - 4) u (by simpa [bxC] using hu)
              rwa [show (o + 1) * 4 + (j - 4) = o * 4 + j by omega] at this
    obtain ⟨B, h1, h2, h3⟩ := key l.length l 0 (by simp) rfl
    exact ⟨B, h1, h2, fun _ => ⟨ad, rfl, fun j u hu => by simpa using h3 j u hu⟩⟩
  · have : l = [] := List.eq_nil_of_length_eq_zero (by omega)
    subst this
    exact ⟨[], rfl, by simp, fun h => absurd h (by simp)⟩
theorem reads_of {w0 w : World} {v : Value} {n : Nat} {B : List Bx} (hn : n = B.length) (hl : n ≤ 1000) (h : SrcIs w v n (B.flatMap bxC) 4) (hk : ∀ b ∈ B, okB w0 b) (hc : Ch [] w0 w) : ∃ A c, v = .slice A n c ∧ Kd.C k28 w A (B.map (·.x)).length (B.map (·.x)) := by
  have hb : ∀ b ∈ B, okB w b := fun b hb => k28.K_below hc.below0 (hk b hb)
  rcases h.2 with ⟨h0, rfl⟩ | ⟨a, c, rfl, hcell⟩
  · have : B = [] := List.eq_nil_of_length_eq_zero (by omega)
    subst this
    exact ⟨none, 0, by rw [h0], rfl, by simp, fun h => absurd h (by simp)⟩
  · refine ⟨some a, c, rfl, rfl, by simp; omega, fun _ => ⟨a, rfl, fun j p hj => ?_⟩⟩
    rw [List.getElem?_map] at hj
    rcases hB : B[j]? with _ | b
    · rw [hB] at hj; cases hj
    · rw [hB] at hj
      have hp : b.x = p := by simpa using hj
      subst hp
      obtain ⟨hlt, rfl⟩ := List.getElem?_eq_some_iff.1 hB
      refine ⟨bxC B[j], rfl, hb _ (List.getElem_mem hlt), fun i u hu => hcell (j * 4 + i) u ?_⟩
      have := flat_at bxC_len B j hlt
      have h4 : i < 4 := by
        have := (List.getElem?_eq_some_iff.1 hu).1
        simpa [bxC] using this
      rw [← this, List.getElem?_take, if_pos h4, List.getElem?_drop] at hu
      exact hu
section
variable {w0 w : World} {v : Value} {n : Nat} {B : List Bx} {A1 : Option Addr} {n1 c1 : Nat} {l1 : List Int}
/-- The pods' numbers that come in. -/
def Nums (w : World) (A1 : Option Addr) (n1 c1 : Nat) (l1 : List Int) : Prop := n1 = l1.length ∧ n1 ≤ 100 ∧ Kd.C (Kd.int .i64) w A1 l1.length l1 ∧ l1.length ≤ c1
theorem works7 (w : World) : Calls Try.prog 7 #[] w fun e w' => e = .returned (.bool true) ∧ Ch [] w w' := (provostlaw32_works.calls 3000 true w works_f).mono fun _ _ ⟨h, c⟩ => ⟨h, chB c⟩
theorem left12 (h : OwnS w w0.heap.size 28 4 v n (B.flatMap bxC)) (hn : n = B.length) (hl : n ≤ 100) (hk : ∀ b ∈ B, okB w0 b) (hc : Ch [] w0 w) (hu : Nums w0 A1 n1 c1 l1) :
    Calls Try.prog 12 #[v, .slice A1 n1 c1] w fun e w' => e = .returned (.int .i64 (twos (Fo (B.map (·.x)) l1))) ∧ Ch [] w w' := by
  obtain ⟨A, c, rfl, hC⟩ := reads_of hn (by omega) h.src hk hc
  obtain ⟨A', c', he, hcc, _⟩ := h.slice
  injection he with _ _ he
  subst he
  obtain ⟨rfl, hl1, hu1, hu2⟩ := hu
  have hlen : (B.map (·.x)).length = n := by rw [List.length_map, hn]
  have := orphan_Left.calls 3000 A c (B.map (·.x)) A1 c1 l1 _ w hC (by omega) (Kd.C_below hu1 hc.below0) hu2 (left_f _ _ (by omega) (by omega))
  rw [hlen] at this
  exact this.mono fun _ _ ⟨h, c⟩ => ⟨h, chB c⟩
theorem next9 (h : OwnS w w0.heap.size 28 4 v n (B.flatMap bxC)) (hn : n = B.length) (hl : n ≤ 100) (hk : ∀ b ∈ B, okB w0 b) (hc : Ch [] w0 w) (hu : Nums w0 A1 n1 c1 l1) {k z : Int} {ok : Bool} (hs : stepOf (Fo (B.map (·.x)) l1) = (k, z, ok)) :
    Calls Try.prog 9 #[v, .slice A1 n1 c1] w fun e w' => e = .returned (.tuple #[.agg #[.int .i64 k, .int .i64 z, .int .i64 0, .int .i64 0, .int .i64 0, .int .i64 0, .string ⟨#[]⟩, .string ⟨#[]⟩], .bool ok]) ∧ Ch [] w w' := by
  obtain ⟨A, c, rfl, hC⟩ := reads_of hn (by omega) h.src hk hc
  obtain ⟨A', c', he, hcc, _⟩ := h.slice
  injection he with _ _ he
  subst he
  obtain ⟨rfl, hl1, hu1, hu2⟩ := hu
  have hlen : (B.map (·.x)).length = n := by rw [List.length_map, hn]
  have := orphan_Next.calls 3000 A c (B.map (·.x)) A1 c1 l1 k z 0 0 0 0 ⟨#[]⟩ ⟨#[]⟩ ok w hC (by omega) (Kd.C_below hu1 hc.below0) hu2 (by rw [next_f _ _ (by omega) (by omega), hs])
  rw [hlen] at this
  exact this.mono fun _ _ ⟨h, c⟩ => ⟨h, chB c⟩
theorem find11 (h : OwnS w w0.heap.size 28 4 v n (B.flatMap bxC)) (hn : n = B.length) (hl : n ≤ 100) (hk : ∀ b ∈ B, okB w0 b) (hc : Ch [] w0 w) (hu : Nums w0 A1 n1 c1 l1) (hF : Fo (B.map (·.x)) l1 = []) :
    Calls Try.prog 11 #[v, .slice A1 n1 c1] w fun e w' => ∃ A c, e = .returned (.slice A 0 c) ∧ Ch [] w w' := by
  obtain ⟨A, c, rfl, hC⟩ := reads_of hn (by omega) h.src hk hc
  obtain ⟨A', c', he, hcc, _⟩ := h.slice
  injection he with _ _ he
  subst he
  obtain ⟨rfl, hl1, hu1, hu2⟩ := hu
  have hlen : (B.map (·.x)).length = n := by rw [List.length_map, hn]
  have := orphan_Find.calls 3000 A c (B.map (·.x)) A1 c1 l1 [] w hC (by omega) (Kd.C_below hu1 hc.below0) hu2 (by rw [ids_f _ _ (by omega) (by omega), hF]; rfl)
  rw [hlen] at this
  refine this.mono ?_
  rintro _ _ ⟨v, rfl, h, c⟩
  obtain ⟨A, c', rfl⟩ := Kd.R_slice h
  exact ⟨A, c', rfl, chB c⟩
theorem has14 (u : Int) (hc : Ch [] w0 w) (hu : Nums w0 A1 n1 c1 l1) : Calls Try.prog 14 #[.slice A1 n1 c1, .int .i64 u] w fun e w' => e = .returned (.bool (decide (u ∈ l1))) ∧ Ch [] w w' := by
  obtain ⟨rfl, hl1, hu1, hu2⟩ := hu
  refine (provostref32_Has.calls 3000 A1 c1 l1 u _ w (Kd.C_below hu1 hc.below0) hu2 (has_f l1 u (by omega) 3000 (by omega))).mono ?_
  rintro _ _ ⟨h, c⟩
  obtain ⟨n, rfl⟩ := c.out
  exact ⟨h, (Ch.refl _ _).drewN n⟩
end
/-! Which goes next. -/
def nodupId (B : List Bx) : Prop := (B.map (·.x.f0)).Nodup
def Lf (B : List Bx) (l1 : List Int) : Int := twos (Fo (B.map (·.x)) l1)
theorem lf_nonneg (B : List Bx) (l1 : List Int) : 0 ≤ Lf B l1 := by unfold Lf twos; omega
theorem lf_le (B : List Bx) (l1 : List Int) : Lf B l1 ≤ 2 * B.length := by
  unfold Lf twos
  have h1 := fo_len (B.map (·.x)) l1
  have h2 := List.length_filter_le (fun b : S28 => decide (b.f2 = 1)) (Fo (B.map (·.x)) l1)
  rw [List.length_map] at h1
  omega
theorem lf_zero {B : List Bx} {l1 : List Int} (h : Lf B l1 = 0) : Fo (B.map (·.x)) l1 = [] := by
  unfold Lf twos at h
  exact List.eq_nil_of_length_eq_zero (by omega)
theorem next_of {B : List Bx} {l1 : List Int} (h : 0 < Lf B l1) : ∃ pre b post, B = pre ++ b :: post ∧ (∀ c ∈ pre, isO l1 c.x = false) ∧ isO l1 b.x = true ∧ Fo (B.map (·.x)) l1 = b.x :: Fo (post.map (·.x)) l1 := by
  induction B with
  | nil => simp [Lf, twos, Fo] at h
  | cons c B ih =>
    by_cases hc : isO l1 c.x = true
    · exact ⟨[], c, B, rfl, by simp, hc, by unfold Fo; rw [List.map_cons, List.filter_cons_of_pos hc]⟩
    · have hc' : isO l1 c.x = false := by simpa using hc
      have e : Fo ((c :: B).map (·.x)) l1 = Fo (B.map (·.x)) l1 := by unfold Fo; rw [List.map_cons, List.filter_cons_of_neg (by simp [hc'])]
      obtain ⟨pre, b, post, rfl, h1, h2, h3⟩ := ih (by unfold Lf at h ⊢; rwa [e] at h)
      exact ⟨c :: pre, b, post, rfl, fun d hd => by
        rcases List.mem_cons.1 hd with rfl | hd
        · exact hc'
        · exact h1 d hd, h2, by rw [e, h3]⟩
theorem fo_pre {pre : List Bx} {l1 : List Int} (h : ∀ c ∈ pre, isO l1 c.x = false) (l : List S28) : Fo (pre.map (·.x) ++ l) l1 = Fo l l1 := by
  unfold Fo
  rw [List.filter_append, List.filter_eq_nil_iff.2 (fun c hc => by
    obtain ⟨b, hb, rfl⟩ := List.mem_map.1 hc
    rw [h b hb]; simp)]
  rfl
theorem lf_halt {pre post : List Bx} {b : Bx} {l1 : List Int} (h1 : ∀ c ∈ pre, isO l1 c.x = false) (h2 : isO l1 b.x = true) (hs : b.x.f2 = 1) : Lf (pre ++ setSt b 2 :: post) l1 = Lf (pre ++ b :: post) l1 - 1 := by
  unfold Lf
  rw [List.map_append, List.map_append, fo_pre h1, fo_pre h1]
  unfold Fo twos
  rw [List.map_cons, List.map_cons, List.filter_cons_of_pos h2, List.filter_cons_of_pos (show isO l1 (setSt b 2).x = true from h2)]
  have e1 : ∀ X, List.filter (fun b : S28 => decide (b.f2 = 1)) ((setSt b 2).x :: X) = List.filter (fun b : S28 => decide (b.f2 = 1)) X := fun X => List.filter_cons_of_neg (by simp [setSt])
  have e2 : ∀ X, List.filter (fun b : S28 => decide (b.f2 = 1)) (b.x :: X) = b.x :: List.filter (fun b : S28 => decide (b.f2 = 1)) X := fun X => List.filter_cons_of_pos (by simpa using hs)
  rw [e1, e2]
  simp only [List.length_cons]
  omega
theorem lf_clear {pre post : List Bx} {b : Bx} {l1 : List Int} (h1 : ∀ c ∈ pre, isO l1 c.x = false) (h2 : isO l1 b.x = true) (hs : b.x.f2 ≠ 1) : Lf (pre ++ post) l1 = Lf (pre ++ b :: post) l1 - 1 := by
  unfold Lf
  rw [List.map_append, List.map_append, fo_pre h1, fo_pre h1]
  unfold Fo twos
  have e1 : ∀ X, List.filter (fun b : S28 => decide (b.f2 = 1)) (b.x :: X) = List.filter (fun b : S28 => decide (b.f2 = 1)) X := fun X => List.filter_cons_of_neg (by simpa using hs)
  rw [List.map_cons, List.filter_cons_of_pos h2, e1]
  simp only [List.length_cons]
  omega
theorem nodup_at {pre post : List Bx} {b : Bx} (h : nodupId (pre ++ b :: post)) {j : Nat} {c : Bx} (hj : (pre ++ b :: post)[j]? = some c) (he : c.x.f0 = b.x.f0) : j = pre.length := by
  unfold nodupId at h
  have hlt := (List.getElem?_eq_some_iff.1 hj).1
  have hp : pre.length < (pre ++ b :: post).length := by simp
  have e1 : ((pre ++ b :: post).map (·.x.f0))[j]'(by simpa using hlt) = c.x.f0 := by
    rw [List.getElem_map]
    rw [List.getElem?_eq_getElem hlt] at hj
    injection hj with hj
    rw [hj]
  have e2 : ((pre ++ b :: post).map (·.x.f0))[pre.length]'(by simp) = b.x.f0 := by simp
  have hp' := List.pairwise_iff_getElem.1 h
  rcases Nat.lt_trichotomy j pre.length with hl | hl | hl
  · exact absurd (by rw [e1, e2, he]) (hp' j pre.length (by simpa using hlt) (by simp) hl)
  · exact hl
  · exact absurd (by rw [e1, e2, he]) (hp' pre.length j (by simp) (by simpa using hlt) hl)
theorem nodup_halt {pre post : List Bx} {b : Bx} (h : nodupId (pre ++ b :: post)) : nodupId (pre ++ setSt b 2 :: post) := by
  unfold nodupId at h ⊢
  simpa [setSt] using h
theorem nodup_clear {pre post : List Bx} {b : Bx} (h : nodupId (pre ++ b :: post)) : nodupId (pre ++ post) := by
  unfold nodupId at h ⊢
  rw [List.map_append, List.map_cons] at h
  rw [List.map_append]
  exact h.sublist (List.Sublist.append (List.Sublist.refl _) (List.sublist_cons_self _ _))
/-- The first k have got their numbers. -/
def numB (B : List Bx) (k : Nat) : Prop := ∀ i, i < k → ∃ b, B[i]? = some b ∧ b.x.f0 = i + 1
theorem num_nodup {B : List Bx} (h : numB B B.length) : nodupId B := by
  unfold nodupId
  refine List.pairwise_iff_getElem.2 fun i j hi hj hij => ?_
  simp only [List.length_map] at hi hj
  obtain ⟨b, hb, e1⟩ := h i hi
  obtain ⟨c, hc, e2⟩ := h j hj
  rw [List.getElem?_eq_getElem hi] at hb
  rw [List.getElem?_eq_getElem hj] at hc
  injection hb with hb
  injection hc with hc
  rw [List.getElem_map, List.getElem_map, hb, hc, e1, e2]
  omega
theorem num_succ {B : List Bx} {k : Nat} {b : Bx} (h : numB B k) (hb : B[k]? = some b) : numB (B.set k (setId b ((k + 1 : Nat) : Int))) (k + 1) := by
  intro i hi
  have hlt := (List.getElem?_eq_some_iff.1 hb).1
  by_cases e : i = k
  · subst e
    exact ⟨setId b ((i + 1 : Nat) : Int), by simp [hlt], by simp [setId]⟩
  · obtain ⟨c, hc, e1⟩ := h i (by omega)
    exact ⟨c, by rw [List.getElem?_set_ne (Ne.symm e)]; exact hc, e1⟩
theorem okB_set {w : World} {B : List Bx} (h : ∀ b ∈ B, okB w b) (k : Nat) {c : Bx} (hc : okB w c) : ∀ b ∈ B.set k c, okB w b := fun b hb => by
  rcases List.mem_or_eq_of_mem_set hb with hb | rfl
  · exact h b hb
  · exact hc
theorem bx_set0 {B : List Bx} {k : Nat} {b : Bx} (hb : B[k]? = some b) (z : Int) : (B.flatMap bxC).set (k * 4) (.int .i64 z) = (B.set k (setId b z)).flatMap bxC := by
  obtain ⟨hlt, rfl⟩ := List.getElem?_eq_some_iff.1 hb
  have hs : B = B.take k ++ B[k] :: B.drop (k + 1) := by rw [← List.drop_eq_getElem_cons hlt, List.take_append_drop]
  have hl : (B.take k).length = k := by rw [List.length_take]; omega
  rw [show B.set k (setId B[k] z) = B.take k ++ setId B[k] z :: B.drop (k + 1) by rw [List.set_eq_take_append_cons_drop, if_pos hlt]]
  conv => lhs; rw [hs]
  rw [List.flatMap_append, List.set_append, if_neg (by rw [flat_len bxC_len, hl]; omega), flat_len bxC_len, hl, Nat.sub_self, List.flatMap_append, List.flatMap_cons, List.flatMap_cons]
  rfl
theorem bx_set2 {pre post : List Bx} {b : Bx} : ((pre ++ b :: post).flatMap bxC).set (pre.length * 4 + 2) (.int .i64 2) = (pre ++ setSt b 2 :: post).flatMap bxC := by
  rw [List.flatMap_append, List.set_append, if_neg (by rw [flat_len bxC_len]; omega), flat_len bxC_len, show pre.length * 4 + 2 - pre.length * 4 = 2 by omega, List.flatMap_append, List.flatMap_cons, List.flatMap_cons]
  rfl
theorem bx_at {B : List Bx} {k : Nat} {b : Bx} (hb : B[k]? = some b) {w : World} {base g n c : Nat} (h : OwnS w base 28 4 (.slice (some ⟨g, 0, none⟩) n c) n (B.flatMap bxC)) (j : Nat) {u : Value} (hu : (bxC b)[j]? = some u) : w.cell? ⟨g, k * 4 + j, none⟩ = some u := by
  obtain ⟨hlt, rfl⟩ := List.getElem?_eq_some_iff.1 hb
  have hn : 0 < n := by
    have := h.1
    rw [flat_len bxC_len] at this
    omega
  obtain ⟨g', c', he, _, _, _, hc, _⟩ := h.some_ hn
  injection he with e1 _ _
  injection e1 with e1
  injection e1 with e1 _ _
  subst e1
  have := hc.elem bxC_len k hlt j u hu
  rwa [Go.Proofs.Ytanlbnipbbjheaa.K.add_plain, Nat.zero_add] at this
theorem y_slice {P : Program} {ops : Array Oper} {oi : Oper} {a : Act} {t : TypeId} {x : Operand} {lo hi mx : Option Operand} {v xv : Value} {lv hv mv : Option Value} (hw : Region.wanted oi (yielded ops a.tmps) = true) (ho : oi.op = .slice t x lo hi mx) (hx : a.eval x = xv) (hl : lo.map a.eval = lv) (hh : hi.map a.eval = hv) (hm : mx.map a.eval = mv)
    (hr : ∀ W, (Instr.sliceAt t xv lv hv mv).run P W = .ok v W) : Yields P ops oi v a :=
  .inl ⟨hw, fun W => by
    unfold execOp
    simp only [ho, hx, hl, hh, hm, Sem.run_bind, Sem.run_pure, hr, Result.andThen_ok]⟩
theorem info28 : (Try.prog.info? 28).map (fun i => (i.zero, i.size, i.bytes)) = some (some (.agg #[.int .i64 0, .int .i64 0, .int .i64 0, .slice none 0 0]), 4, 48) := by kernel_rfl
theorem part1 {w : World} {base g n c : Nat} {pre : List Bx} {b : Bx} {post : List Bx} (h : OwnS w base 28 4 (.slice (some ⟨g, 0, none⟩) n c) n ((pre ++ b :: post).flatMap bxC)) (c' : Nat) : SrcIs w (.slice (some ⟨g, 0, none⟩) pre.length c') pre.length (pre.flatMap bxC) 4 := by
  refine ⟨flat_len bxC_len pre, .inr ⟨_, _, rfl, ?_⟩⟩
  have hn : 0 < n := by
    have := h.1
    rw [flat_len bxC_len] at this
    simp at this
    omega
  obtain ⟨g', c', he, _, _, _, hc, _⟩ := h.some_ hn
  injection he with e1 _ _
  injection e1 with e1
  injection e1 with e1 _ _
  subst e1
  refine hc.to fun j u hu => ?_
  rw [List.flatMap_append, List.getElem?_append_left (List.getElem?_eq_some_iff.1 hu).1]
  exact hu
theorem part2 {w : World} {base g n c : Nat} {pre : List Bx} {b : Bx} {post : List Bx} (h : OwnS w base 28 4 (.slice (some ⟨g, 0, none⟩) n c) n ((pre ++ b :: post).flatMap bxC)) (hn : n = (pre ++ b :: post).length) :
    ∃ A1 c1, (∀ W, (Instr.sliceAt 22 (.slice (some ⟨g, 0, none⟩) n c) (some (.int .i64 ((pre.length + 1 : Nat) : Int))) none none).run Try.prog W = .ok (.slice (some A1) post.length c1) W) ∧
      ∀ W, OwnS W base 28 4 (.slice (some ⟨g, 0, none⟩) n c) n ((pre ++ b :: post).flatMap bxC) → SrcIs W (.slice (some A1) post.length c1) post.length (post.flatMap bxC) 4 := by
  have hl : n = pre.length + 1 + post.length := by rw [hn]; simp; omega
  obtain ⟨A, c', he, hc, hm⟩ := h.slice
  injection he with _ _ e3
  subst e3
  have hr := fun W => run_slice_from (P := Try.prog) (W := W) Try.underlying22 (by kernel_rfl) (sz := 4) ⟨g, 0, none⟩ (pre.length + 1) n c ((pre.length + 1 : Nat) : Int) rfl (by omega) hc hm
  rw [show n - (pre.length + 1) = post.length by omega] at hr
  refine ⟨_, _, hr, fun W hW => ⟨flat_len bxC_len post, .inr ⟨_, _, rfl, ?_⟩⟩⟩
  by_cases h0 : c = pre.length + 1
  · have : post = [] := List.eq_nil_of_length_eq_zero (by omega)
    subst this
    exact CellsAt.nil _ _
  · rw [if_neg h0, Go.Proofs.Ytanlbnipbbjheaa.K.add_plain]
    obtain ⟨g', c', he, _, _, _, hcell, _⟩ := hW.some_ (by omega)
    injection he with e1 _ _
    injection e1 with e1
    injection e1 with e1 _ _
    subst e1
    have := hcell.part ((pre.length + 1) * 4) (post.length * 4)
    refine this.to fun j u hu => ?_
    have hf := flat_drop bxC_len (pre ++ b :: post) (pre.length + 1)
    rw [hf, show (pre ++ b :: post).drop (pre.length + 1) = post by simp, List.take_of_length_le (by rw [flat_len bxC_len]; exact Nat.le_refl _)]
    exact hu
end Go.Proofs.Ytanlbnipbbjheaa.O
