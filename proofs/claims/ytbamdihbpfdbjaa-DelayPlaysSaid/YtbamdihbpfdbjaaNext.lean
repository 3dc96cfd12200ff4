/- Next and Drop: ranging over the book's map. -/
import Derived.Test.YtbamdihbpfdbjaaFail
import Derived.Deep.LoopGhost
namespace Go.Proofs.Ytbamdihbpfdbjaa.R
open Go Go.RowKit Go.Proofs.Ytbamdihbpfdbjaa.K
set_option linter.unusedVariables false
set_option linter.unusedSimpArgs false
/-- x is the next tick until which anything of S waits. -/
def NextP (now : Int) (S : (Int × Int) × (Int × Int) → Prop) (x : Int) : Prop :=
  (x = 0 ∧ ∀ q, S q → q.2.2 ≤ now) ∨ (∃ p, S p ∧ p.2.2 = x ∧ now < x ∧ ∀ q, S q → now < q.2.2 → x ≤ q.2.2)
theorem NextP.congr {now x : Int} {S T : (Int × Int) × (Int × Int) → Prop} (h : NextP now S x) (e : ∀ q, S q ↔ T q) : NextP now T x := by
  have : S = T := funext fun q => propext (e q)
  rw [← this]; exact h
theorem NextP.uniq {now x y : Int} {S : (Int × Int) × (Int × Int) → Prop} (h : NextP now S x) (k : NextP now S y) : x = y := by
  rcases h with ⟨rfl, h⟩ | ⟨p, h1, h2, h3, h4⟩ <;> rcases k with ⟨rfl, k⟩ | ⟨q, k1, k2, k3, k4⟩
  · rfl
  · have := h q k1; omega
  · have := k p h1; omega
  · have a := h4 q k1 (by omega)
    have b := k4 p h1 (by omega)
    omega
theorem NextP.step {now x : Int} (hn : 0 ≤ now) {S T : (Int × Int) × (Int × Int) → Prop} {p : (Int × Int) × (Int × Int)} (h : NextP now S x) (e : ∀ q, T q ↔ S q ∨ q = p) : NextP now T (if p.2.2 > now ∧ (x = 0 ∨ p.2.2 < x) then p.2.2 else x) := by
  rcases h with ⟨rfl, h⟩ | ⟨p', h1, h2, h3, h4⟩
  · by_cases c : p.2.2 > now
    · rw [if_pos ⟨c, .inl rfl⟩]
      refine .inr ⟨p, (e p).2 (.inr rfl), rfl, c, fun q hq hq2 => ?_⟩
      rcases (e q).1 hq with hq | rfl
      · have := h q hq; omega
      · exact Int.le_refl _
    · rw [if_neg (fun hh => c hh.1)]
      refine .inl ⟨rfl, fun q hq => ?_⟩
      rcases (e q).1 hq with hq | rfl
      · exact h q hq
      · omega
  · by_cases c : p.2.2 > now ∧ p.2.2 < x
    · rw [if_pos ⟨c.1, .inr c.2⟩]
      refine .inr ⟨p, (e p).2 (.inr rfl), rfl, c.1, fun q hq hq2 => ?_⟩
      rcases (e q).1 hq with hq | rfl
      · have := h4 q hq hq2; omega
      · exact Int.le_refl _
    · rw [if_neg (by omega)]
      refine .inr ⟨p', (e p').2 (.inl h1), h2, h3, fun q hq hq2 => ?_⟩
      rcases (e q).1 hq with hq | rfl
      · exact h4 q hq hq2
      · omega
/-- What was met already, behind one step more. -/
theorem met_step {α β : Type} [DecidableEq α] {l left : List (α × β)} {p : α × β} (hs : left.Sublist l) (hn : (l.map (·.1)).Nodup) (hp : p ∈ left) (q : α × β) :
    (q ∈ l ∧ q ∉ left.filter (fun z => decide (z.1 ≠ p.1))) ↔ (q ∈ l ∧ q ∉ left) ∨ q = p := by
  have key : ∀ a ∈ l, ∀ b ∈ l, a.1 = b.1 → a = b := by
    intro a ha b hb e
    obtain ⟨i, hi, rfl⟩ := List.getElem_of_mem ha
    obtain ⟨j, hj, rfl⟩ := List.getElem_of_mem hb
    have hi' : i < (l.map Prod.fst).length := by simpa using hi
    have : i = j := (List.getElem?_inj hi' hn).1 (by rw [List.getElem?_map, List.getElem?_map, List.getElem?_eq_getElem hi, List.getElem?_eq_getElem hj]; exact congrArg some e)
    subst this; rfl
  constructor
  · rintro ⟨h1, h2⟩
    by_cases hq : q ∈ left
    · right
      by_cases e : q.1 = p.1
      · exact key q h1 p (hs.subset hp) e
      · exact absurd (List.mem_filter.2 ⟨hq, by simpa using e⟩) h2
    · exact .inl ⟨h1, hq⟩
  · rintro (⟨h1, h2⟩ | rfl)
    · exact ⟨h1, fun h => h2 (List.mem_filter.1 h).1⟩
    · exact ⟨hs.subset hp, fun h => by simpa using (List.mem_filter.1 h).2⟩
theorem chIt1 {w : World} {r b : Nat} {l left : List ((Int × Int) × (Int × Int))} (h : IterIs w r b kv kv okK l left) (o : Obj) : Hid (IterIs (w.alloc o) r b kv kv okK l left) := Lib.hid (h.keep ((Ch.refl [] w).alloc o) (by simp) (by simp))
theorem Next_any (b mb : Nat) (l : List ((Int × Int) × (Int × Int))) (now : Int) (w : World) (h : BookIs w b mb l) (hn : 0 ≤ now) :
    Calls Try.prog 12 #[.pointer (some ⟨b, 0, none⟩), .int .i64 now] w fun e w' => ∃ x, e = .returned (.int .i64 x) ∧ NextP now (· ∈ l) x ∧ Ch [] w w' := by
  have c0 := h.cell
  have HM := Lib.hid h.2
  have hnd := Lib.hid h.2.nodup
  have hbl := h.1.lt
  clear h
  go_enter Try.func12, Try.ntmps12
  go_wp2_with (at_range; refine wpList_mrange _ rfl _ 48 rfl 54 Try.underlying48 HM.out (by rfl) ?_; intro w1 r hr hI hC)
  have I0 := Lib.hid hI
  have C0 := Lib.hid hC
  clear hI hC
  go_frame
  go_loopg [5] l.length (fun kq v5 wr => ∃ (x : Int) (left : List ((Int × Int) × (Int × Int))), v5 = .int .i64 x ∧ left.length ≤ kq ∧ Hid (IterIs wr r mb kv kv okK l left) ∧ Hid (Ch [] w wr) ∧ Hid (NextP now (fun q => q ∈ l ∧ q ∉ left) x))
  case atStart => exact ⟨0, l, rfl, Nat.le_refl _, I0, C0, Lib.hid (.inl ⟨rfl, fun q hq => absurd hq.1 hq.2⟩)⟩
  case round =>
    obtain ⟨x, left, rfl, hk, I1, C1, N1⟩ := hrel
    go_wp2_with (at_next; refine wpList_mnext _ rfl _ rfl I1.out (by rfl) ?_ ?_)
    · intro h0
      have N2 := N1.out.congr (T := (· ∈ l)) (by rw [h0.out]; simp)
      go_wp2_with fail
      go_ret
      exact ⟨x, rfl, N2, C1.out⟩
    · intro a b' c d left' w2 hs hen
      have N2 := Lib.hid (N1.out.step hn (fun q => met_step I1.out.sub hnd.out hs.mem q))
      rw [← hs.eq] at N2
      have I2 := Lib.hid hs.it
      have hlt := hs.lt
      have C2 := Lib.hid (C1.out.trans' hs.ch (fun z hz => .inr (by have hz' : z = r := by simpa using hz
                                                                    omega)))
      clear hs N1 I1 C1
      simp only [kv] at hen
      have L2 : left'.length ≤ gk - 1 := by omega
      have L3 : gk - 1 < gk := by omega
      by_cases h1 : now < d
      · have e1 : decide (now < d) = true := decide_eq_true h1
        by_cases h2 : x = 0
        · subst h2
          rw [if_pos ⟨h1, .inl rfl⟩] at N2
          go_wp2_with fail
          go_roundg (gk - 1)
          case measure => omega
          case rel => exact ⟨d, left', rfl, L2, chIt1 I2.out _, Lib.hid (C2.out.alloc _), N2⟩
        · have e2 : (x == 0) = false := beq_eq_false_iff_ne.2 h2
          by_cases h3 : d < x
          · have e3 : decide (d < x) = true := decide_eq_true h3
            rw [if_pos ⟨h1, .inr h3⟩] at N2
            go_wp2_with fail
            go_roundg (gk - 1)
            case measure => omega
            case rel => exact ⟨d, left', rfl, L2, chIt1 I2.out _, Lib.hid (C2.out.alloc _), N2⟩
          · have e3 : decide (d < x) = false := decide_eq_false h3
            rw [if_neg (fun h => h.2.elim h2 h3)] at N2
            go_wp2_with fail
            go_roundg (gk - 1)
            case measure => omega
            case rel => exact ⟨x, left', rfl, L2, chIt1 I2.out _, Lib.hid (C2.out.alloc _), N2⟩
      · have e1 : decide (now < d) = false := decide_eq_false h1
        rw [if_neg (fun h => h1 h.1)] at N2
        go_wp2_with fail
        go_roundg (gk - 1)
        case measure => omega
        case rel => exact ⟨x, left', rfl, L2, chIt1 I2.out _, Lib.hid (C2.out.alloc _), N2⟩
/-- The pods that Drop lets go: the closure. -/
theorem clos_any (g : Nat) (u a c d n : Int) (w : World) (hg : w.cell? ⟨g, 0, none⟩ = some (.int .i64 u)) :
    Calls Try.prog 25 #[.agg #[.int .i64 a, .int .i64 n], .agg #[.int .i64 c, .int .i64 d], .pointer (some ⟨g, 0, none⟩)] w fun e w' => e = .returned (.bool (a == u)) ∧ Ch [] w w' := by
  have hlt := World.block_lt_of_cell? w _ hg
  simp only at hlt
  go_enter Try.func25, Try.ntmps25
  go_wp2_with fail
  go_ret
  exact ⟨rfl, ((Ch.refl _ _).alloc _).alloc _⟩
theorem delU_step {l left : List ((Int × Int) × (Int × Int))} {cur : List ((Int × Int) × (Int × Int))} {u a n c d : Int} (hs : left.Sublist l) (hn : (l.map (·.1)).Nodup) (hp : ((a, n), (c, d)) ∈ left)
    (hc : cur = l.filter (fun q => decide (q ∈ left) || decide (q.1.1 ≠ u))) :
    (if a = u then mdel cur (a, n) else cur) = l.filter (fun q => decide (q ∈ left.filter (fun z => decide (z.1 ≠ (a, n)))) || decide (q.1.1 ≠ u)) := by
  have hm := fun q => met_step hs hn hp q
  by_cases h : a = u
  · rw [if_pos h, hc]
    unfold mdel
    rw [List.filter_filter]
    apply List.filter_congr
    intro q hq
    have := hm q
    by_cases h1 : q.1.1 = u <;> by_cases h2 : q.1 = (a, n) <;> by_cases h3 : q ∈ left <;> simp_all
  · rw [if_neg h, hc]
    apply List.filter_congr
    intro q hq
    have := hm q
    by_cases h1 : q.1.1 = u <;> by_cases h2 : q.1 = (a, n) <;> by_cases h3 : q ∈ left <;> simp_all
theorem DeleteFunc_any (mb g : Nat) (u : Int) (l : List ((Int × Int) × (Int × Int))) (w : World) (h : MapIs w mb kv kv okK l) (hg : w.cell? ⟨g, 0, none⟩ = some (.int .i64 u)) :
    Calls Try.prog 24 #[.map (some mb), .func (.func 25) #[] #[.pointer (some ⟨g, 0, none⟩)]] w fun e w' => e = .returned (.tuple #[]) ∧ MapIs w' mb kv kv okK (l.filter (fun p => decide (p.1.1 ≠ u))) ∧ Ch [mb] w w' := by
  have hnd := Lib.hid h.nodup
  have hgood := Lib.hid h.good
  have HM := Lib.hid h
  have hml := h.lt
  have hgl := World.block_lt_of_cell? w _ hg
  have hne : g ≠ mb := by
    obtain ⟨es, clock, hb, _⟩ := h
    rintro rfl
    simp [World.cell?, hb] at hg
  simp only at hgl
  have hne' := Lib.hid hne
  clear h hne
  go_enter Try.func24, Try.ntmps24
  go_wp2_with (at_range; refine wpList_mrange _ rfl _ 48 rfl 54 Try.underlying48 HM.out (by rfl) ?_; intro w1 r hr hI hC)
  have I0 := Lib.hid hI
  have C0 := Lib.hid (hC.of0 (cs := [mb]))
  clear hI hC
  go_frame
  go_loopg [8] l.length (fun kq v8 wr => ∃ (cur left : List ((Int × Int) × (Int × Int))), left.length ≤ kq ∧ Hid (IterIs wr r mb kv kv okK cur left) ∧ Hid (Ch [mb] w wr) ∧ Hid (left.Sublist l) ∧ Hid (cur = l.filter (fun q => decide (q ∈ left) || decide (q.1.1 ≠ u))))
  case atStart => exact ⟨l, l, Nat.le_refl _, I0, C0, Lib.hid (List.Sublist.refl _), Lib.hid (by rw [List.filter_eq_self.2]; intro q hq; simp [hq])⟩
  case round =>
    obtain ⟨cur, left, hk, I1, C1, S1, E1⟩ := hrel
    go_wp2_with (at_next; refine wpList_mnext _ rfl _ rfl I1.out (by rfl) ?_ ?_)
    · intro h0
      have M := I1.out.map
      rw [E1.out, h0.out] at M
      go_wp2_with fail
      go_end0
      exact ⟨rfl, by simpa using M, C1.out⟩
    · intro a b' c d left' w2 hs hen
      have E2 := Lib.hid (delU_step (u := u) S1.out hnd.out hs.mem E1.out)
      rw [← hs.eq] at E2
      have S2 := Lib.hid (show left'.Sublist l by rw [hs.eq]; exact List.filter_sublist.trans S1.out)
      have hn1 := Lib.hid (show ∀ p ∈ left', p.1 ≠ (a, b') by rw [hs.eq]; intro p hp; simpa using (List.mem_filter.1 hp).2)
      have ok1 := Lib.hid (hgood.out _ (S1.out.subset hs.mem))
      have I2 := Lib.hid hs.it
      have hlt := hs.lt
      have C2 := Lib.hid (C1.out.trans' hs.ch (fun z hz => .inr (by have hz' : z = r := by simpa using hz
                                                                    omega)))
      have hg2 : w2.cell? ⟨g, 0, none⟩ = some (.int .i64 u) := (C2.out.cell (p := ⟨g, 0, none⟩) hgl (by simpa using hne'.out)).trans hg
      have hgl2 : g < w2.heap.size := Nat.lt_of_lt_of_le hgl C2.out.size
      clear hs I1 C1 S1 E1
      simp only [kv] at hen
      have L2 : left'.length ≤ gk - 1 := by omega
      go_wp2_with fail
      refine (clos_any g u a c d b' _ ((((Ch.refl [] w2).alloc _).alloc _).get hg2)).mono ?_
      rintro e w3 ⟨rfl, hc3⟩
      have C3 := Lib.hid ((((Ch.refl [] w2).alloc _).alloc _).trans hc3)
      have X := hc3.blk ((blk_new w2 #[.int .i64 a, .int .i64 b'] 52).alloc _) (by simp)
      have x0 := X.cell 0
      have x1 := X.cell 1
      simp at x0 x1
      have I3 := Lib.hid (I2.out.keep C3.out (by simp) (by simp))
      have C4 := Lib.hid (C2.out.trans0 C3.out)
      clear hc3 X I2 C2 C3
      by_cases hau : a = u
      · have e1 : (a == u) = true := by simpa using hau
        rw [if_pos hau] at E2
        clear hau
        go_wp2_with (at_delete; refine wpList_mdel_it _ rfl _ _ 48 rfl 54 Try.underlying48 k52 I3.out (by rfl) (a, b') ok1.out hn1.out (by rfl) ?_; intro w5 h1 h2)
        have I5 := Lib.hid h1
        have C5 := Lib.hid (C4.out.trans h2)
        clear h1 h2
        go_frame
        go_roundg (gk - 1)
        case measure => omega
        case rel => exact ⟨_, left', L2, I5, C5, S2, E2⟩
      · have e1 : (a == u) = false := beq_eq_false_iff_ne.2 hau
        rw [if_neg hau] at E2
        go_wp2_with fail
        go_roundg (gk - 1)
        case measure => omega
        case rel => exact ⟨cur, left', L2, I3, C4, S2, E2⟩
theorem Drop_any (b mb : Nat) (l : List ((Int × Int) × (Int × Int))) (u : Int) (w : World) (h : BookIs w b mb l) (hl : l.length ≤ 1000000) :
    Calls Try.prog 17 #[.pointer (some ⟨b, 0, none⟩), .int .i64 u] w fun e w' => e = .returned (.int .i64 (l.length - (l.filter (fun p => decide (p.1.1 ≠ u))).length)) ∧ BookIs w' b mb (l.filter (fun p => decide (p.1.1 ≠ u))) ∧ Ch [mb] w w' := by
  have c0 := h.cell
  have HM := Lib.hid h.2
  have HB := Lib.hid h.1
  have hne := Lib.hid h.ne
  have hbl := h.1.lt
  have hfl : (l.filter (fun p => decide (p.1.1 ≠ u))).length ≤ l.length := List.length_filter_le _ _
  generalize hF : l.filter (fun p => decide (p.1.1 ≠ u)) = F at *
  have HF := Lib.hid hF
  clear h hF
  go_enter Try.func17, Try.ntmps17
  go_wp2_with (at_len; refine wpList_mlen _ rfl _ 48 rfl 54 Try.underlying48 (HM.out.alloc _) (by rfl) ?_)
  refine (DeleteFunc_any mb w.heap.size u l _ (HM.out.alloc _) ((blk_new w #[.int .i64 u] 3).cell 0)).mono ?_
  rintro e w1 ⟨rfl, hm, hc⟩
  rw [HF.out] at hm
  have M1 := Lib.hid hm
  have C1 := Lib.hid (((Ch.refl [mb] w).alloc _).trans hc)
  have x0 : w1.cell? ⟨b, 0, none⟩ = some (.map (some mb)) := (C1.out.blk HB.out (by simpa using hne.out)).cell 0
  clear hm hc
  go_wp2_with (at_len; refine wpList_mlen _ rfl _ 48 rfl 54 Try.underlying48 M1.out (by rfl) ?_)
  go_ret
  exact ⟨rfl, ⟨C1.out.blk HB.out (by simpa using hne.out), M1.out⟩, C1.out⟩
end Go.Proofs.Ytbamdihbpfdbjaa.R
