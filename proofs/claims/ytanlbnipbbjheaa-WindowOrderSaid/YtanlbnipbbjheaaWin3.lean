/- The contracts of package window and of the document's window, each in one: what is told of a state. -/
import Derived.Test.YtanlbnipbbjheaaWin2
namespace Go.Proofs.Ytanlbnipbbjheaa.V
open Go Go.RowKit Go.Proofs.Ytanlbnipbbjheaa.K Go.Proofs.YtanlbnipbbjheaaW.PrintLast
set_option linter.unusedVariables false
set_option linter.unusedSimpArgs false
structure Win where
  L : List Ev
  last : Int
  over : Bool
  done : Bool
def WinIs (w : World) (base b : Nat) (s : Win) (v : Value) : Prop := Blk w b #[v, .int .u64 s.last, .bool s.over, .bool s.done] 70 ∧ OwnS w base 56 15 v s.L.length (s.L.flatMap evC)
def putW (s : Win) (e : Ev) : Win × Bool := if s.over = true ∨ 16 ≤ s.L.length then (⟨s.L, s.last, true, s.done⟩, false) else (⟨s.L ++ [e], e.r, s.over, s.done⟩, true)
def turn (L : List Ev) (rev : Int) : List Ev := match L.getLast? with
  | some e => L.dropLast ++ [⟨e.k, rev, e.u, e.p⟩]
  | none => []
def isMark (L : List Ev) : Bool := match L.getLast? with
  | some e => decide (e.k = 4)
  | none => false
def markW (s : Win) (rev : Int) : Win × Bool :=
  if s.over = true then (s, false) else if isMark s.L = true then (⟨turn s.L rev, rev, s.over, s.done⟩, true) else if 16 ≤ s.L.length then (s, false) else (⟨s.L ++ [⟨4, rev, 0, 0⟩], rev, s.over, s.done⟩, true)
def takeW (s : Win) : Win × Ev × Bool := match s.L with
  | e :: T => (⟨T, s.last, s.over, s.done⟩, e, true)
  | [] => if s.over && !s.done then (⟨[], s.last, s.over, true⟩, ⟨5, s.last, 0, 0⟩, true) else (s, ⟨0, 0, 0, 0⟩, false)
def roomB (s : Win) : Bool := !s.over && decide (s.L.length < 16)
def lenI (s : Win) : Int := if s.over && !s.done then (s.L.length : Int) + 1 else s.L.length
theorem isMark_last (I : List Ev) (e : Ev) : isMark (I ++ [e]) = decide (e.k = 4) := by simp [isMark]
theorem turn_last (I : List Ev) (e : Ev) (rev : Int) : turn (I ++ [e]) rev = I ++ [⟨e.k, rev, e.u, e.p⟩] := by simp [turn]
theorem last_cases (L : List Ev) : L = [] ∨ ∃ I e, L = I ++ [e] := by
  rcases List.eq_nil_or_concat L with h | ⟨I, e, h⟩
  · exact .inl h
  · exact .inr ⟨I, e, by simpa using h⟩
section
variable {w : World} {base b : Nat} {s : Win} {v : Value}
theorem WinIs.ch {w' : World} (h : WinIs w base b s v) {bs : List Nat} (c : Ch bs w w') (hb : b ∉ bs) (hv : ∀ k, k ∈ rl v → k ∉ bs) : WinIs w' base b s v := ⟨c.blk h.1 hb, h.2.ch c hv⟩
theorem new_all (w : World) : Calls Try.prog 15 #[] w fun en w' => ∃ b, en = .returned (.pointer (some ⟨b, 0, none⟩)) ∧ WinIs w' w.heap.size b ⟨[], 0, false, false⟩ (.slice none 0 0) ∧ b = w.heap.size ∧ Ch [] w w' := by
  go_enter Try.func15, Try.ntmps15
  go_wp2_with fail
  go_ret
  exact ⟨_, rfl, ⟨blk_new w _ _, OwnS.nil _ _ _ _ _⟩, rfl, (Ch.refl [] w).alloc _⟩
theorem over_all (h : WinIs w base b s v) : Calls Try.prog 26 #[.pointer (some ⟨b, 0, none⟩)] w fun en w' => en = .returned (.bool s.over) ∧ w = w' := by
  obtain ⟨L, last, over, done⟩ := s
  obtain ⟨h1, h2⟩ := h
  obtain ⟨A, c, rfl, _⟩ := h2.slice
  cases over
  · exact over_false w base b A c L last done (Lib.hid h1) (Lib.hid h2)
  · exact over_true w base b A c L last done (Lib.hid h1) (Lib.hid h2)
theorem done_all (h : WinIs w base b s v) : Calls Try.prog 27 #[.pointer (some ⟨b, 0, none⟩)] w fun en w' => en = .returned (.bool s.done) ∧ w = w' := by
  obtain ⟨L, last, over, done⟩ := s
  obtain ⟨h1, h2⟩ := h
  obtain ⟨A, c, rfl, _⟩ := h2.slice
  cases done
  · exact done_false w base b A c L last over (Lib.hid h1) (Lib.hid h2)
  · exact done_true w base b A c L last over (Lib.hid h1) (Lib.hid h2)
theorem room_all (h : WinIs w base b s v) : Calls Try.prog 28 #[.pointer (some ⟨b, 0, none⟩)] w fun en w' => en = .returned (.bool (roomB s)) ∧ w = w' := by
  obtain ⟨L, last, over, done⟩ := s
  obtain ⟨h1, h2⟩ := h
  obtain ⟨A, c, rfl, _⟩ := h2.slice
  cases over
  · rcases Nat.lt_or_ge L.length 16 with h16 | h16
    · have e : roomB ⟨L, last, false, done⟩ = true := by simp [roomB, h16]
      rw [e]
      exact room_true w base b A c L last done (Lib.hid h1) (Lib.hid h2) h16
    · have e : roomB ⟨L, last, false, done⟩ = false := by simp [roomB]; omega
      rw [e]
      exact room_false w base b A c L last done (Lib.hid h1) (Lib.hid h2) h16
  · have e : roomB ⟨L, last, true, done⟩ = false := by simp [roomB]
    rw [e]
    exact room_over w base b A c L last done (Lib.hid h1) (Lib.hid h2)
theorem len_all (h : WinIs w base b s v) (hL : s.L.length ≤ 1000) : Calls Try.prog 25 #[.pointer (some ⟨b, 0, none⟩)] w fun en w' => en = .returned (.int .i64 (lenI s)) ∧ w = w' := by
  obtain ⟨L, last, over, done⟩ := s
  obtain ⟨h1, h2⟩ := h
  obtain ⟨A, c, rfl, _⟩ := h2.slice
  cases over <;> cases done
  · exact len_false_false w base b A c L last (Lib.hid h1) (Lib.hid h2) hL
  · exact len_false_true w base b A c L last (Lib.hid h1) (Lib.hid h2) hL
  · exact len_true_false w base b A c L last (Lib.hid h1) (Lib.hid h2) hL
  · exact len_true_true w base b A c L last (Lib.hid h1) (Lib.hid h2) hL
theorem end_all (h : WinIs w base b s v) : Calls Try.prog 24 #[.pointer (some ⟨b, 0, none⟩)] w fun en w' => ∃ v', en = .returned (.tuple #[]) ∧ WinIs w' base b ⟨s.L, s.last, true, s.done⟩ v' ∧ Ch (b :: rl v) w w' ∧ ∀ k, k ∈ rl v' → k ∈ b :: rl v ∨ w.heap.size ≤ k := by
  obtain ⟨L, last, over, done⟩ := s
  obtain ⟨h1, h2⟩ := h
  obtain ⟨A, c, rfl, _⟩ := h2.slice
  exact (end_any w base b A c L last over done (Lib.hid h1) (Lib.hid h2)).mono fun e w' ⟨v', he, a, b, c, d⟩ => ⟨v', he, ⟨a, b⟩, c, d⟩
theorem put_all (e : Ev) (h : WinIs w base b s v) (hbase : base ≤ w.heap.size) (hL : s.L.length ≤ 1000) : Calls Try.prog 18 #[.pointer (some ⟨b, 0, none⟩), .agg (evA e)] w fun en w' => ∃ v', en = .returned (.bool (putW s e).2) ∧ WinIs w' base b (putW s e).1 v' ∧ Ch (b :: rl v) w w' ∧ ∀ k, k ∈ rl v' → k ∈ b :: rl v ∨ w.heap.size ≤ k := by
  obtain ⟨L, last, over, done⟩ := s
  obtain ⟨h1, h2⟩ := h
  obtain ⟨A, c, rfl, _⟩ := h2.slice
  cases over
  · rcases Nat.lt_or_ge L.length 16 with h16 | h16
    · have e : putW ⟨L, last, false, done⟩ e = (⟨L ++ [e], e.r, false, done⟩, true) := by unfold putW; rw [if_neg (by simp; omega)]
      rw [e]
      exact (put_ok w base b A c L last done _ (Lib.hid h1) (Lib.hid h2) hbase hL h16).mono fun e w' ⟨v', he, a, b, c, d⟩ => ⟨v', he, ⟨a, b⟩, c, d⟩
    · have e : putW ⟨L, last, false, done⟩ e = (⟨L, last, true, done⟩, false) := by unfold putW; rw [if_pos (.inr h16)]
      rw [e]
      exact (put_full w base b A c L last done _ (Lib.hid h1) (Lib.hid h2) hbase hL h16).mono fun e w' ⟨v', he, a, b, c, d⟩ => ⟨v', he, ⟨a, b⟩, c, d⟩
  · have e : putW ⟨L, last, true, done⟩ e = (⟨L, last, true, done⟩, false) := by unfold putW; rw [if_pos (.inl rfl)]
    rw [e]
    exact (put_over w base b A c L last done _ (Lib.hid h1) (Lib.hid h2) hbase hL).mono fun e w' ⟨v', he, a, b, c, d⟩ => ⟨v', he, ⟨a, b⟩, c, d⟩
theorem own_open {n : Nat} {A : Option Addr} {c : Nat} {xs : List Value} (h : OwnS w base 56 15 (.slice A n c) n xs) (hn : 0 < n) : ∃ g, A = some ⟨g, 0, none⟩ ∧ n ≤ c := by
  obtain ⟨g, c', he, hc, _⟩ := h.some_ hn
  injection he with e1 _ e2
  exact ⟨g, e1, by omega⟩
theorem mark_all (rev : Int) (h : WinIs w base b s v) (hbase : base ≤ w.heap.size) (hL : s.L.length ≤ 1000) : Calls Try.prog 20 #[.pointer (some ⟨b, 0, none⟩), .int .u64 rev] w fun en w' => ∃ v', en = .returned (.bool (markW s rev).2) ∧ WinIs w' base b (markW s rev).1 v' ∧ Ch (b :: rl v) w w' ∧ ∀ k, k ∈ rl v' → k ∈ b :: rl v ∨ w.heap.size ≤ k := by
  obtain ⟨L, last, over, done⟩ := s
  obtain ⟨h1, h2⟩ := h
  obtain ⟨A, c, rfl, _⟩ := h2.slice
  have same : ∀ {r : Bool}, markW ⟨L, last, over, done⟩ rev = (⟨L, last, over, done⟩, r) → (∀ en w', en = Ending.returned (.bool r) ∧ w = w' → ∃ v', en = .returned (.bool (markW ⟨L, last, over, done⟩ rev).2) ∧ WinIs w' base b (markW ⟨L, last, over, done⟩ rev).1 v' ∧ Ch (b :: rl (.slice A L.length c)) w w' ∧ ∀ k, k ∈ rl v' → k ∈ b :: rl (.slice A L.length c) ∨ w.heap.size ≤ k) := by
    rintro r hr en w' ⟨rfl, rfl⟩
    rw [hr]
    exact ⟨_, rfl, ⟨h1, h2⟩, Ch.refl _ _, fun k hk => .inl (List.mem_cons_of_mem _ hk)⟩
  cases over
  · rcases last_cases L with rfl | ⟨I, e, rfl⟩
    · have e : markW ⟨[], last, false, done⟩ rev = (⟨[⟨4, rev, 0, 0⟩], rev, false, done⟩, true) := by simp [markW, isMark]
      rw [e]
      exact (mark_first w base b A c last rev done (Lib.hid h1) (Lib.hid h2) hbase).mono fun e w' ⟨v', he, a, b, c, d⟩ => ⟨v', he, ⟨a, b⟩, c, d⟩
    · obtain ⟨g, rfl, hc⟩ := own_open h2 (by simp)
      have hl : (I ++ [e]).length = I.length + 1 := by simp
      by_cases hk : e.k = 4
      · have em : markW ⟨I ++ [e], last, false, done⟩ rev = (⟨I ++ [⟨e.k, rev, e.u, e.p⟩], rev, false, done⟩, true) := by
          unfold markW
          simp only [isMark_last, hk, turn_last]
          simp
        rw [em]
        refine (mark_last w base b g _ c e I last rev done (Lib.hid h1) (Lib.hid h2) hl hc hk hL).mono fun en w' ⟨he, a, b, c⟩ => ⟨_, he, ⟨a, ?_⟩, c, fun k hk => .inl (List.mem_cons_of_mem _ hk)⟩
        rw [hl] at b ⊢
        simpa using b
      · rcases Nat.lt_or_ge (I ++ [e]).length 16 with h16 | h16
        · have em : markW ⟨I ++ [e], last, false, done⟩ rev = (⟨I ++ [e] ++ [⟨4, rev, 0, 0⟩], rev, false, done⟩, true) := by
            unfold markW
            simp only [isMark_last, hk]
            rw [if_neg (by simp), if_neg (by simp), if_neg (by omega)]
          rw [em]
          exact (mark_push w base b g _ c e I last rev done (Lib.hid h1) (Lib.hid h2) hl hk h16 hbase hL).mono fun e w' ⟨v', he, a, b, c, d⟩ => ⟨v', he, ⟨a, b⟩, c, d⟩
        · have em : markW ⟨I ++ [e], last, false, done⟩ rev = (⟨I ++ [e], last, false, done⟩, false) := by
            unfold markW
            simp only [isMark_last, hk]
            rw [if_neg (by simp), if_neg (by simp), if_pos h16]
          exact (mark_full w base b g _ c e I last rev done (Lib.hid h1) (Lib.hid h2) hl hk h16 hbase hL).mono (same em)
  · exact (mark_over w base b A c L last rev done (Lib.hid h1) (Lib.hid h2)).mono (same (by simp [markW]))
theorem take_all (h : WinIs w base b s v) (hbase : base ≤ w.heap.size) (hL : s.L.length ≤ 1000) : Calls Try.prog 22 #[.pointer (some ⟨b, 0, none⟩)] w fun en w' => ∃ v', en = .returned (.tuple #[.agg (evA (takeW s).2.1), .bool (takeW s).2.2]) ∧ WinIs w' base b (takeW s).1 v' ∧ Ch (b :: rl v) w w' ∧ ∀ k, k ∈ rl v' → k ∈ b :: rl v ∨ w.heap.size ≤ k := by
  obtain ⟨L, last, over, done⟩ := s
  obtain ⟨h1, h2⟩ := h
  obtain ⟨A, c, rfl, _⟩ := h2.slice
  cases L with
  | cons e T =>
    obtain ⟨g, rfl, hc⟩ := own_open h2 (by simp)
    exact (take_some w base b g _ c e T last over done (Lib.hid h1) (Lib.hid h2) (by simp) hbase hL).mono fun e w' ⟨v', he, a, b, c, d⟩ => ⟨v', he, ⟨a, b⟩, c, d⟩
  | nil =>
    have out : ∀ {over done done' : Bool} {e : Ev} {r : Bool} {w' : World} {en : Ending}, (h2 : OwnS w base 56 15 (.slice A 0 c) 0 []) → en = Ending.returned (.tuple #[.agg (evA e), .bool r]) ∧ Blk w' b #[.slice A 0 c, .int .u64 last, .bool over, .bool done'] 70 ∧ Ch [b] w w' → takeW ⟨[], last, over, done⟩ = (⟨[], last, over, done'⟩, e, r) → b ∉ rl (.slice A 0 c) → ∃ v', en = .returned (.tuple #[.agg (evA (takeW ⟨[], last, over, done⟩).2.1), .bool (takeW ⟨[], last, over, done⟩).2.2]) ∧ WinIs w' base b (takeW ⟨[], last, over, done⟩).1 v' ∧ Ch (b :: rl (.slice A 0 c)) w w' ∧ ∀ k, k ∈ rl v' → k ∈ b :: rl (.slice A 0 c) ∨ w.heap.size ≤ k := by
      rintro over done done' e r w' en h2 ⟨he, hb, hc⟩ ht hn
      rw [ht]
      exact ⟨_, he, ⟨hb, h2.ch hc (fun k hk hb => by have : k = b := by simpa using hb
                                                     subst this; exact hn hk)⟩, hc.mono (by simp), fun k hk => .inl (List.mem_cons_of_mem _ hk)⟩
    have hn : b ∉ rl (.slice A 0 c) := h2.ne h1 (by decide)
    cases over <;> cases done
    · exact (take_none_false_false w base b A c last (Lib.hid h1)).mono fun en w' h => out h2 h rfl hn
    · exact (take_none_false_true w base b A c last (Lib.hid h1)).mono fun en w' h => out h2 h rfl hn
    · exact (take_none_true_false w base b A c last (Lib.hid h1)).mono fun en w' h => out h2 h rfl hn
    · exact (take_none_true_true w base b A c last (Lib.hid h1)).mono fun en w' h => out h2 h rfl hn
end
/-! The document's. -/
def RefIs (w : World) (s : Win) (x : Value) : Prop := SrcIs w x s.L.length (s.L.flatMap evC) 15 ∧ ∃ A c, x = .slice A s.L.length c ∧ s.L.length ≤ c ∧ c ≤ maxLen
abbrev refA (x : Value) (s : Win) : Array Value := #[x, .int .u64 s.last, .bool s.over, .bool s.done]
section
variable {w : World} {s : Win} {x : Value}
theorem RefIs.ch {w' : World} (h : RefIs w s x) {bs : List Nat} (c : Ch bs w w') (hn : ∀ k, k ∈ xb x → k ∉ bs) : RefIs w' s x := ⟨h.1.chx c hn, h.2⟩
theorem ref_open {n : Nat} {A : Option Addr} {c : Nat} {xs : List Value} (h : SrcIs w (.slice A n c) n xs 15) (hn : 0 < n) {k : IntKind} {z : Int} (h0 : xs[0]? = some (.int k z)) : ∃ p o, A = some ⟨p, o, none⟩ := by
  rcases h.2 with ⟨h1, _⟩ | ⟨a, c', he, hc⟩
  · omega
  · injection he with e1 _ _
    have h1 := hc 0 _ h0
    rw [show a.add 0 = a by simp [Addr.add]] at h1
    obtain ⟨p, o, rfl⟩ := spot0_none h1
    exact ⟨p, o, e1⟩
theorem rput_all (e : Ev) (h : RefIs w s x) (hL : s.L.length ≤ 1000) : Calls Try.prog 16 #[.agg (refA x s), .agg (evA e)] w fun en w' => ∃ x', en = .returned (.tuple #[.agg (refA x' (putW s e).1), .bool (putW s e).2]) ∧ RefIs w' (putW s e).1 x' ∧ Ch [] w w' ∧ ∀ k, k ∈ xb x' → k ∈ xb x ∨ w.heap.size ≤ k := by
  obtain ⟨L, last, over, done⟩ := s
  obtain ⟨h1, A, c, rfl, hc1, hc2⟩ := h
  cases over
  · rcases Nat.lt_or_ge L.length 16 with h16 | h16
    · have e1 : putW ⟨L, last, false, done⟩ e = (⟨L ++ [e], e.r, false, done⟩, true) := by unfold putW; rw [if_neg (by simp; omega)]
      rw [e1]
      refine (rput_ok w A L.length c _ last done e (Lib.hid h1) h16 (flat_one evC_one L)).mono ?_
      rintro en w' ⟨A', c', rfl, a1, a2, a3, a4, a5⟩
      have hl : (L ++ [e]).length = L.length + 1 := by simp
      refine ⟨_, rfl, ⟨?_, A', c', by rw [hl], by rw [hl]; exact a2, a3⟩, a4, fun k hk => .inr (a5 k hk)⟩
      rw [hl, List.flatMap_append]
      simpa using a1
    · have e1 : putW ⟨L, last, false, done⟩ e = (⟨L, last, true, done⟩, false) := by unfold putW; rw [if_pos (.inr h16)]
      rw [e1]
      exact (rput_full w A L.length c _ last done e (Lib.hid h1) h16).mono fun en w' ⟨he, hc⟩ => ⟨_, he, ⟨h1.chx hc xnin_nil, A, c, rfl, hc1, hc2⟩, hc, fun k hk => .inl hk⟩
  · have e1 : putW ⟨L, last, true, done⟩ e = (⟨L, last, true, done⟩, false) := by unfold putW; rw [if_pos (.inl rfl)]
    rw [e1]
    exact (rput_over w A L.length c _ last done e (Lib.hid h1)).mono fun en w' ⟨he, hc⟩ => ⟨_, he, ⟨h1.chx hc xnin_nil, A, c, rfl, hc1, hc2⟩, hc, fun k hk => .inl hk⟩
theorem rmark_all (rev : Int) (h : RefIs w s x) (hL : s.L.length ≤ 1000) : Calls Try.prog 19 #[.agg (refA x s), .int .u64 rev] w fun en w' => ∃ x', en = .returned (.tuple #[.agg (refA x' (markW s rev).1), .bool (markW s rev).2]) ∧ RefIs w' (markW s rev).1 x' ∧ Ch [] w w' ∧ ∀ k, k ∈ xb x' → k ∈ xb x ∨ w.heap.size ≤ k := by
  obtain ⟨L, last, over, done⟩ := s
  obtain ⟨h1, A, c, rfl, hc1, hc2⟩ := h
  have same : markW ⟨L, last, over, done⟩ rev = (⟨L, last, over, done⟩, false) → ∀ en w', en = Ending.returned (.tuple #[.agg #[.slice A L.length c, .int .u64 last, .bool over, .bool done], .bool false]) ∧ Ch [] w w' → ∃ x', en = .returned (.tuple #[.agg (refA x' (markW ⟨L, last, over, done⟩ rev).1), .bool (markW ⟨L, last, over, done⟩ rev).2]) ∧ RefIs w' (markW ⟨L, last, over, done⟩ rev).1 x' ∧ Ch [] w w' ∧ ∀ k, k ∈ xb x' → k ∈ xb (.slice A L.length c) ∨ w.heap.size ≤ k := by
    rintro hr en w' ⟨rfl, hc⟩
    rw [hr]
    exact ⟨_, rfl, ⟨h1.chx hc xnin_nil, A, c, rfl, hc1, hc2⟩, hc, fun k hk => .inl hk⟩
  cases over
  · rcases last_cases L with rfl | ⟨I, e, rfl⟩
    · have e : markW ⟨[], last, false, done⟩ rev = (⟨[⟨4, rev, 0, 0⟩], rev, false, done⟩, true) := by simp [markW, isMark]
      rw [e]
      refine (rmark_first w A c last rev done (Lib.hid h1)).mono ?_
      rintro en w' ⟨A', c', rfl, a1, a2, a3, a4, a5⟩
      exact ⟨_, rfl, ⟨a1, A', c', rfl, a2, a3⟩, a4, fun k hk => .inr (a5 k hk)⟩
    · have hl : (I ++ [e]).length = I.length + 1 := by simp
      have h0 : ∃ z, ((I ++ [e]).flatMap evC)[0]? = some (.int .i64 z) := by cases I <;> exact ⟨_, rfl⟩
      obtain ⟨z, h0⟩ := h0
      obtain ⟨p, o, rfl⟩ := ref_open h1 (by simp) h0
      by_cases hk : e.k = 4
      · have em : markW ⟨I ++ [e], last, false, done⟩ rev = (⟨I ++ [⟨e.k, rev, e.u, e.p⟩], rev, false, done⟩, true) := by
          unfold markW
          simp only [isMark_last, hk, turn_last]
          simp
        rw [em]
        refine (rmark_last w p o _ c e I last rev done (Lib.hid h1) hl hk hL).mono ?_
        rintro en w' ⟨A', c', rfl, a1, a2, a3, a4, a5⟩
        have hl2 : (I ++ [(⟨e.k, rev, e.u, e.p⟩ : Ev)]).length = (I ++ [e]).length := by simp
        exact ⟨_, rfl, ⟨by show SrcIs w' _ (I ++ [(⟨e.k, rev, e.u, e.p⟩ : Ev)]).length _ 15; rw [hl2]; exact a1, A', c', by show _ = Value.slice A' (I ++ [(⟨e.k, rev, e.u, e.p⟩ : Ev)]).length c'; rw [hl2], by show (I ++ [(⟨e.k, rev, e.u, e.p⟩ : Ev)]).length ≤ c'; rw [hl2]; exact a2, a3⟩, a4, fun k hk => .inr (a5 k hk)⟩
      · rcases Nat.lt_or_ge (I ++ [e]).length 16 with h16 | h16
        · have em : markW ⟨I ++ [e], last, false, done⟩ rev = (⟨I ++ [e] ++ [⟨4, rev, 0, 0⟩], rev, false, done⟩, true) := by
            unfold markW
            simp only [isMark_last, hk]
            rw [if_neg (by simp), if_neg (by simp), if_neg (by omega)]
          rw [em]
          refine (rmark_push w p o _ c e I last rev done (Lib.hid h1) hl hk h16 hL).mono ?_
          rintro en w' ⟨A', c', rfl, a1, a2, a3, a4, a5⟩
          have hl2 : (I ++ [e] ++ [(⟨4, rev, 0, 0⟩ : Ev)]).length = (I ++ [e]).length + 1 := by simp
          have hf : (I ++ [e] ++ [(⟨4, rev, 0, 0⟩ : Ev)]).flatMap evC = (I ++ [e]).flatMap evC ++ evC ⟨4, rev, 0, 0⟩ := by simp
          exact ⟨_, rfl, ⟨by show SrcIs w' _ (I ++ [e] ++ [(⟨4, rev, 0, 0⟩ : Ev)]).length ((I ++ [e] ++ [(⟨4, rev, 0, 0⟩ : Ev)]).flatMap evC) 15; rw [hl2, hf]; exact a1, A', c', by show _ = Value.slice A' (I ++ [e] ++ [(⟨4, rev, 0, 0⟩ : Ev)]).length c'; rw [hl2], by show (I ++ [e] ++ [(⟨4, rev, 0, 0⟩ : Ev)]).length ≤ c'; rw [hl2]; exact a2, a3⟩, a4, fun k hk => .inr (a5 k hk)⟩
        · have em : markW ⟨I ++ [e], last, false, done⟩ rev = (⟨I ++ [e], last, false, done⟩, false) := by
            unfold markW
            simp only [isMark_last, hk]
            rw [if_neg (by simp), if_neg (by simp), if_pos h16]
          exact (rmark_full w p o _ c e I last rev done (Lib.hid h1) hl hk h16 hL).mono (same em)
  · exact (rmark_over w A L.length c last rev done).mono (same (by simp [markW]))
theorem rtake_all (h : RefIs w s x) (hL : s.L.length ≤ 1000) : Calls Try.prog 21 #[.agg (refA x s)] w fun en w' => ∃ x', en = .returned (.tuple #[.agg (refA x' (takeW s).1), .agg (evA (takeW s).2.1), .bool (takeW s).2.2]) ∧ RefIs w' (takeW s).1 x' ∧ Ch [] w w' ∧ ∀ k, k ∈ xb x' → k ∈ xb x ∨ w.heap.size ≤ k := by
  obtain ⟨L, last, over, done⟩ := s
  obtain ⟨h1, A, c, rfl, hc1, hc2⟩ := h
  cases L with
  | cons e T =>
    obtain ⟨p, o, rfl⟩ := ref_open h1 (by simp) (show ((e :: T).flatMap evC)[0]? = some (.int .i64 e.k) from rfl)
    refine (rtake_some w p o _ c e T last over done (Lib.hid h1) (by simp) hc1 hc2).mono ?_
    rintro en w' ⟨A1, c1, rfl, a1, a2, a3, a4, a5⟩
    refine ⟨_, rfl, ⟨a1, _, c1, rfl, a2, a3⟩, a4, fun k hk => .inl ?_⟩
    cases T with
    | nil => simp [xb] at hk
    | cons t T =>
      have := a5 (by simp)
      subst this
      exact hk
  | nil =>
    have out : ∀ {over done done' : Bool} {e : Ev} {r : Bool} {w' : World} {en : Ending}, en = Ending.returned (.tuple #[.agg #[.slice A 0 c, .int .u64 last, .bool over, .bool done'], .agg (evA e), .bool r]) ∧ Ch [] w w' → takeW ⟨[], last, over, done⟩ = (⟨[], last, over, done'⟩, e, r) → ∃ x', en = .returned (.tuple #[.agg (refA x' (takeW ⟨[], last, over, done⟩).1), .agg (evA (takeW ⟨[], last, over, done⟩).2.1), .bool (takeW ⟨[], last, over, done⟩).2.2]) ∧ RefIs w' (takeW ⟨[], last, over, done⟩).1 x' ∧ Ch [] w w' ∧ ∀ k, k ∈ xb x' → k ∈ xb (.slice A 0 c) ∨ w.heap.size ≤ k := by
      rintro over done done' e r w' en ⟨he, hc⟩ ht
      rw [ht]
      exact ⟨_, he, ⟨h1.chx hc xnin_nil, A, c, rfl, hc1, hc2⟩, hc, fun k hk => .inl hk⟩
    cases over <;> cases done
    · exact (rtake_none_false_false w A c last).mono fun en w' h => out h rfl
    · exact (rtake_none_false_true w A c last).mono fun en w' h => out h rfl
    · exact (rtake_none_true_false w A c last).mono fun en w' h => out h rfl
    · exact (rtake_none_true_true w A c last).mono fun en w' h => out h rfl
end
end Go.Proofs.Ytanlbnipbbjheaa.V
