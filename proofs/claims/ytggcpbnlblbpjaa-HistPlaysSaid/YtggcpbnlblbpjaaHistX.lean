/- A book of operations with the list of its blocks: what each call answers, and what the book is behind it. -/
import Derived.Test.YtggcpbnlblbpjaaHistA
namespace Go.Proofs.Ytggcpbnlblbpjaa.H
open Go Go.RowKit Go.Proofs.Ytggcpbnlblbpjaa.K Go.Proofs.YtggcpbnlblbpjaaW.PrintLast
set_option linter.unusedVariables false
set_option linter.unusedSimpArgs false
/-- A book: Bs are its blocks. -/
def BookL (w : World) (lo : Nat) (Bs : List Nat) (b : Nat) (S : HB) : Prop :=
  ∃ m v u, Bs = b :: m :: (rl v ++ rl u) ∧ lo ≤ b ∧ lo ≤ m ∧ Blk w b #[.int .i64 S.now, v, .map (some m), u] 84 ∧ MapIs w m kv (Value.int .i64) okK (keysOf 0 S.L) ∧
    OwnS w lo 49 28 v S.L.length (S.L.flatMap opC) ∧ OwnS w lo 3 1 u S.I.length (S.I.map (Value.int .i64))
/-- Behind a call: the book's blocks are those it had, or new ones; nothing else has turned. -/
def Step (w w' : World) (lo : Nat) (Bs : List Nat) (b : Nat) (S' : HB) : Prop := ∃ Bs', BookL w' lo Bs' b S' ∧ Ch Bs w w' ∧ ∀ k, k ∈ Bs' → k ∈ Bs ∨ w.heap.size ≤ k
section
variable {w w' : World} {lo b : Nat} {Bs : List Nat} {S : HB} {c n : Int}
theorem BookL.lt (h : BookL w lo Bs b S) : ∀ k, k ∈ Bs → lo ≤ k ∧ k < w.heap.size := by
  obtain ⟨m, v, u, rfl, h1, h2, h3, h4, h5, h6⟩ := h
  intro k hk
  simp only [List.mem_cons, List.mem_append] at hk
  rcases hk with rfl | rfl | hk | hk
  · exact ⟨h1, h3.lt⟩
  · exact ⟨h2, h4.lt⟩
  · exact h5.lt k hk
  · exact h6.lt k hk
theorem BookL.ch (h : BookL w lo Bs b S) {bs : List Nat} (c : Ch bs w w') (hn : ∀ k, k ∈ Bs → k ∉ bs) : BookL w' lo Bs b S := by
  obtain ⟨m, v, u, rfl, h1, h2, h3, h4, h5, h6⟩ := h
  exact ⟨m, v, u, rfl, h1, h2, c.blk h3 (hn _ (by simp)), h4.keep c (hn _ (by simp)), h5.ch c (fun k hk => hn k (by simp [hk])), h6.ch c (fun k hk => hn k (by simp [hk]))⟩
theorem BookL.ne_new (h : BookL w lo Bs b S) {g : Nat} (hg : Hid (g = w.heap.size)) : g ∉ Bs := fun hk => by
  have := (h.lt g hk).2
  have := hg.out
  omega
theorem BookL.same (h : BookL w lo Bs b S) (c : Ch [] w w') : Step w w' lo Bs b S := ⟨Bs, h.ch c (by simp), c.of0, fun k hk => .inl hk⟩
theorem ask_l (h : BookL w lo Bs b S) (hk : okK (c, n)) (hs : S.now ≤ 1000 ∧ S.L.length ≤ 1000) (hlo : lo ≤ w.heap.size) :
    Calls Try.prog 10 #[.pointer (some ⟨b, 0, none⟩), .int .i64 c, .int .i64 n] w fun en w' => en = .returned (.tuple #[.int .i64 (askR S c n).1, .int .i64 (askR S c n).2]) ∧ Step w w' lo Bs b (askS S c n) := by
  have HH := h
  obtain ⟨m, v, u, rfl, h1, h2, h7, h8, h9, h10⟩ := h
  unfold askR askS
  cases hi0 : idx c n 0 S.L with
  | none =>
    refine (ask_none (base := lo) (Lib.hid hk) (Lib.hid hi0) (Lib.hid hs) (Lib.hid hlo) (Lib.hid h7) (Lib.hid h8) (Lib.hid h9)).mono ?_
    rintro en w' ⟨v', rfl, b1, b2, b3, cc, b4⟩
    refine ⟨rfl, b :: m :: (rl v' ++ rl u), ⟨m, v', u, rfl, h1, h2, b1, b2, by simpa using b3, h10.ch cc (fun k hk hb => ?_)⟩, cc.mono (fun x hx => ?_), fun k hk => ?_⟩
    · rcases List.mem_cons.1 hb with rfl | hb
      · exact OwnS.ne h10 h7 (by decide) hk
      · rcases List.mem_cons.1 hb with rfl | hb
        · exact h8.no_row h10 hk
        · exact OwnS.rne h10 h9 (by decide) k hk hb
    · simp only [List.mem_cons, List.mem_append] at hx ⊢
      rcases hx with h | h | h <;> simp [h]
    · simp only [List.mem_cons, List.mem_append] at hk ⊢
      rcases hk with h | h | h | h
      · simp [h]
      · simp [h]
      · rcases b4 k h with h | h
        · simp [h]
        · exact .inr h
      · simp [h]
  | some j =>
    obtain ⟨o, -, ho, -, -⟩ := idx_some hi0
    have hj : j < S.L.length := by have := (List.getElem?_eq_some_iff.1 ho).1; omega
    obtain ⟨g, cap, rfl, -, -, -, -, -⟩ := h9.some_ (by omega)
    refine (ask_some (Lib.hid hk) (Lib.hid hi0) (Lib.hid ⟨hj, hs.2⟩) (Lib.hid h7) (Lib.hid h8)).mono ?_
    rintro en w' ⟨rfl, cc⟩
    exact ⟨rfl, HH.same cc⟩
theorem sub2 {b m x : Nat} {l u : List Nat} (hx : x ∈ b :: l) : x ∈ b :: m :: (l ++ u) := by
  simp only [List.mem_cons, List.mem_append] at hx ⊢
  rcases hx with h | h <;> simp [h]
theorem tell_l (h : BookL w lo Bs b S) (hk : okK (c, n)) (hs : S.now ≤ 1000 ∧ S.L.length ≤ 1000) :
    Calls Try.prog 12 #[.pointer (some ⟨b, 0, none⟩), .int .i64 c, .int .i64 n] w fun en w' => en = .returned (.tuple #[.int .i64 (tellR S c n).1, .int .i64 (tellR S c n).2]) ∧ Step w w' lo Bs b (tellS S c n) := by
  have HH := h
  obtain ⟨m, v, u, rfl, h1, h2, h7, h8, h9, h10⟩ := h
  unfold tellR tellS
  cases hi0 : idx c n 0 S.L with
  | none =>
    refine (tell_none (Lib.hid hk) (Lib.hid hi0) (Lib.hid h7) (Lib.hid h8)).mono ?_
    rintro en w' ⟨rfl, cc⟩
    exact ⟨rfl, HH.same cc⟩
  | some j =>
    obtain ⟨o, -, ho, hc, hn⟩ := idx_some hi0
    rw [Nat.sub_zero] at ho
    have hj : j < S.L.length := (List.getElem?_eq_some_iff.1 ho).1
    obtain ⟨g, cap, rfl, hcap, -, -, -, -⟩ := h9.some_ (by omega)
    simp only [ho]
    cases hd : (o.d == 0) with
    | true =>
      refine (tell_done (Lib.hid hk) (Lib.hid hi0) (Lib.hid ⟨hj, hs.2⟩) (Lib.hid ho) (Lib.hid hd) (Lib.hid h7) (Lib.hid h8) (Lib.hid h9)).mono ?_
      rintro en w' ⟨rfl, cc⟩
      exact ⟨rfl, HH.same cc⟩
    | false =>
      cases ht : decide (o.t > 0) with
      | true =>
        refine (tell_told (Lib.hid hk) (Lib.hid hi0) (Lib.hid ⟨hj, hs.2⟩) (Lib.hid ho) (Lib.hid hd) (Lib.hid ht) (Lib.hid h7) (Lib.hid h8) (Lib.hid h9)).mono ?_
        rintro en w' ⟨rfl, cc⟩
        exact ⟨rfl, HH.same cc⟩
      | false =>
        refine (tell_ok (Lib.hid hk) (Lib.hid hi0) (Lib.hid ⟨hj, hs.2⟩) (Lib.hid ho) (Lib.hid hd) (Lib.hid ht) (Lib.hid (by omega)) (Lib.hid (by omega)) (Lib.hid h7) (Lib.hid h8) (Lib.hid h9)).mono ?_
        rintro en w' ⟨rfl, b1, b2, b3, cc⟩
        refine ⟨rfl, _, ⟨m, _, u, rfl, h1, h2, b1, by show MapIs w' m kv _ okK (keysOf 0 (S.L.set j { o with t := ((S.now + 1 : Nat) : Int) })); rw [show keysOf 0 (S.L.set j { o with t := ((S.now + 1 : Nat) : Int) }) = keysOf 0 S.L from keys_set2 ho _ rfl rfl]; exact b2, by show OwnS w' lo 49 28 _ (S.L.set j { o with t := ((S.now + 1 : Nat) : Int) }).length ((S.L.set j { o with t := ((S.now + 1 : Nat) : Int) }).flatMap opC); rw [List.length_set]; exact b3, h10.ch cc (fun k hk hb => ?_)⟩, cc.mono (fun x hx => sub2 hx), fun k hk => .inl hk⟩
        · rcases List.mem_cons.1 hb with rfl | hb
          · exact OwnS.ne h10 h7 (by decide) hk
          · exact OwnS.rne h10 h9 (by decide) k hk hb
theorem do_l {CA : Cs 16} {RA : Cs 7} (h : BookL w lo Bs b S) (hk : okK (c, n)) (hs : S.now ≤ 1000 ∧ S.L.length ≤ 1000) :
    Calls Try.prog 11 #[.pointer (some ⟨b, 0, none⟩), .int .i64 c, .int .i64 n, .agg CA.1.toArray, .agg RA.1.toArray] w fun en w' => en = .returned (.tuple #[.int .i64 (doR S c n).1, .int .i64 (doR S c n).2]) ∧ Step w w' lo Bs b (doS S c n CA RA) := by
  have HH := h
  obtain ⟨m, v, u, rfl, h1, h2, h7, h8, h9, h10⟩ := h
  unfold doR doS
  cases hi0 : idx c n 0 S.L with
  | none =>
    refine (do_none (Lib.hid hk) (Lib.hid hi0) (Lib.hid h7) (Lib.hid h8)).mono ?_
    rintro en w' ⟨rfl, cc⟩
    exact ⟨rfl, HH.same cc⟩
  | some j =>
    obtain ⟨o, -, ho, hc, hn⟩ := idx_some hi0
    rw [Nat.sub_zero] at ho
    have hj : j < S.L.length := (List.getElem?_eq_some_iff.1 ho).1
    obtain ⟨g, cap, rfl, hcap, -, -, -, -⟩ := h9.some_ (by omega)
    simp only [ho]
    cases hd : decide (o.d > 0) with
    | true =>
      refine (do_done (Lib.hid hk) (Lib.hid hi0) (Lib.hid ⟨hj, hs.2⟩) (Lib.hid ho) (Lib.hid hd) (Lib.hid h7) (Lib.hid h8) (Lib.hid h9)).mono ?_
      rintro en w' ⟨rfl, cc⟩
      exact ⟨rfl, HH.same cc⟩
    | false =>
      refine (do_ok (Lib.hid hk) (Lib.hid hi0) (Lib.hid ⟨hj, hs.2⟩) (Lib.hid ho) (Lib.hid hd) (Lib.hid (by omega)) (Lib.hid (by omega)) (Lib.hid h7) (Lib.hid h8) (Lib.hid h9)).mono ?_
      rintro en w' ⟨rfl, b1, b2, b3, cc⟩
      refine ⟨rfl, _, ⟨m, _, u, rfl, h1, h2, b1, by show MapIs w' m kv _ okK (keysOf 0 (S.L.set j { o with d := ((S.now + 1 : Nat) : Int), cl := CA, rp := RA })); rw [show keysOf 0 (S.L.set j { o with d := ((S.now + 1 : Nat) : Int), cl := CA, rp := RA }) = keysOf 0 S.L from keys_set2 ho _ rfl rfl]; exact b2, by show OwnS w' lo 49 28 _ (S.L.set j { o with d := ((S.now + 1 : Nat) : Int), cl := CA, rp := RA }).length ((S.L.set j { o with d := ((S.now + 1 : Nat) : Int), cl := CA, rp := RA }).flatMap opC); rw [List.length_set]; exact b3, h10.ch cc (fun k hk hb => ?_)⟩, cc.mono (fun x hx => sub2 hx), fun k hk => .inl hk⟩
      · rcases List.mem_cons.1 hb with rfl | hb
        · exact OwnS.ne h10 h7 (by decide) hk
        · exact OwnS.rne h10 h9 (by decide) k hk hb
theorem inner_l (h : BookL w lo Bs b S) (hs : S.now ≤ 1000 ∧ S.I.length ≤ 1000) (hlo : lo ≤ w.heap.size) :
    Calls Try.prog 13 #[.pointer (some ⟨b, 0, none⟩)] w fun en w' => en = .returned (.int .i64 (S.now + 1 : Nat)) ∧ Step w w' lo Bs b ⟨S.now + 1, S.L, S.I ++ [((S.now + 1 : Nat) : Int)]⟩ := by
  obtain ⟨m, v, u, rfl, h1, h2, h7, h8, h9, h10⟩ := h
  refine (inner_ (base := lo) (Lib.hid hs) (Lib.hid hlo) (Lib.hid h7) (Lib.hid h10)).mono ?_
  rintro en w' ⟨u', rfl, b1, b2, cc, b4⟩
  refine ⟨rfl, _, ⟨m, v, u', rfl, h1, h2, b1, h8.keep cc (fun hb => ?_), h9.ch cc (fun k hk hb => ?_), by simpa using b2⟩, cc.mono (fun x hx => ?_), fun k hk => ?_⟩
  · rcases List.mem_cons.1 hb with rfl | hb
    · exact h8.no_cells h7 rfl
    · exact h8.no_row h10 hb
  · rcases List.mem_cons.1 hb with rfl | hb
    · exact OwnS.ne h9 h7 (by decide) hk
    · exact OwnS.rne h9 h10 (by decide) k hk hb
  · simp only [List.mem_cons, List.mem_append] at hx ⊢
    rcases hx with h | h <;> simp [h]
  · simp only [List.mem_cons, List.mem_append] at hk ⊢
    rcases hk with h | h | h | h
    · simp [h]
    · simp [h]
    · simp [h]
    · rcases b4 k h with h | h
      · simp [h]
      · exact .inr h
theorem now_l (h : BookL w lo Bs b S) : Calls Try.prog 14 #[.pointer (some ⟨b, 0, none⟩)] w fun en w' => en = .returned (.int .i64 S.now) ∧ Ch [] w w' := by
  obtain ⟨m, v, u, rfl, _, _, h7, _⟩ := h
  exact now_ (Lib.hid h7)
theorem ops_l (h : BookL w lo Bs b S) (hs : S.L.length ≤ 1000) : Calls Try.prog 15 #[.pointer (some ⟨b, 0, none⟩)] w fun en w' => ∃ v', en = .returned v' ∧ OwnS w' w.heap.size 49 28 v' S.L.length (S.L.flatMap opC) ∧ Ch [] w w' := by
  obtain ⟨m, v, u, rfl, _, _, h7, _, h9, _⟩ := h
  exact ops_ (Lib.hid hs) (Lib.hid h7) (Lib.hid h9)
theorem inners_l (h : BookL w lo Bs b S) (hs : S.I.length ≤ 1000) : Calls Try.prog 16 #[.pointer (some ⟨b, 0, none⟩)] w fun en w' => ∃ v', en = .returned v' ∧ OwnS w' w.heap.size 3 1 v' S.I.length (S.I.map (Value.int .i64)) ∧ Ch [] w w' := by
  obtain ⟨m, v, u, rfl, _, _, h7, _, _, h10⟩ := h
  exact inners_ (Lib.hid hs) (Lib.hid h7) (Lib.hid h10)
theorem open_l (h : BookL w lo Bs b S) (hs : S.L.length ≤ 1000) : Calls Try.prog 22 #[.pointer (some ⟨b, 0, none⟩)] w fun en w' => en = .returned (.int .i64 (openN S.L)) ∧ Ch [] w w' := by
  obtain ⟨m, v, u, rfl, _, _, h7, _, h9, _⟩ := h
  exact open_ (Lib.hid hs) (Lib.hid h7) (Lib.hid h9)
theorem new_l (hlo : lo ≤ w.heap.size) : Calls Try.prog 9 #[] w fun en w' => ∃ b Bs, en = .returned (.pointer (some ⟨b, 0, none⟩)) ∧ BookL w' lo Bs b ⟨0, [], []⟩ ∧ Ch [] w w' := by
  refine new_.mono ?_
  rintro en w' ⟨b, m, rfl, b1, b2, cc, h1, h2⟩
  exact ⟨b, _, rfl, ⟨m, _, _, rfl, by omega, by omega, b1, b2, OwnS.nil _ _ _ _ none, OwnS.nil _ _ _ _ none⟩, cc⟩
end
end Go.Proofs.Ytggcpbnlblbpjaa.H
