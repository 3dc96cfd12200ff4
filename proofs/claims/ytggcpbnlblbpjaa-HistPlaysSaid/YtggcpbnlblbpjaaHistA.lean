/- A book of operations as a whole: what each call answers, and what the book is behind it. -/
import Derived.Test.YtggcpbnlblbpjaaHist
namespace Go.Proofs.Ytggcpbnlblbpjaa.H
open Go Go.RowKit Go.Proofs.Ytggcpbnlblbpjaa.K Go.Proofs.YtggcpbnlblbpjaaW.PrintLast
set_option linter.unusedVariables false
set_option linter.unusedSimpArgs false
structure HB where
  now : Nat
  L : List HOp
  I : List Int
/-- A book: its blocks lie in [lo, hi). -/
def BookIs (w : World) (lo hi b : Nat) (S : HB) : Prop :=
  ∃ m v u, lo ≤ b ∧ b < hi ∧ lo ≤ m ∧ m < hi ∧ (∀ k, k ∈ rl v → lo ≤ k ∧ k < hi) ∧ (∀ k, k ∈ rl u → lo ≤ k ∧ k < hi) ∧ Blk w b #[.int .i64 S.now, v, .map (some m), u] 84 ∧ MapIs w m kv (Value.int .i64) okK (keysOf 0 S.L) ∧
    OwnS w lo 49 28 v S.L.length (S.L.flatMap opC) ∧ OwnS w lo 3 1 u S.I.length (S.I.map (Value.int .i64))
section
variable {w w' : World} {lo hi b : Nat} {S : HB}
theorem BookIs.ch (h : BookIs w lo hi b S) {bs : List Nat} (c : Ch bs w w') (hn : ∀ x, x ∈ bs → x < lo ∨ hi ≤ x) : BookIs w' lo hi b S := by
  obtain ⟨m, v, u, h1, h2, h3, h4, h5, h6, h7, h8, h9, h10⟩ := h
  refine ⟨m, v, u, h1, h2, h3, h4, h5, h6, c.blk h7 (fun hb => ?_), h8.keep c (fun hb => ?_), h9.ch c (fun k hk hb => ?_), h10.ch c (fun k hk hb => ?_)⟩
  · have := hn _ hb; omega
  · have := hn _ hb; omega
  · have := hn _ hb; have := h5 k hk; omega
  · have := hn _ hb; have := h6 k hk; omega
theorem BookIs.wide (h : BookIs w lo hi b S) {hi' : Nat} (hh : hi ≤ hi') : BookIs w lo hi' b S := by
  obtain ⟨m, v, u, h1, h2, h3, h4, h5, h6, h7⟩ := h
  exact ⟨m, v, u, h1, by omega, h3, by omega, fun k hk => by have := h5 k hk; omega, fun k hk => by have := h6 k hk; omega, h7⟩
theorem BookIs.ne_new (h : BookIs w lo hi b S) : b < hi := by
  obtain ⟨m, v, u, h1, h2, _⟩ := h
  exact h2
end
/-- What Ask answers, and leaves. -/
def askR (S : HB) (c n : Int) : Nat × Int := match idx c n 0 S.L with | none => (S.now + 1, 0) | some _ => (0, 7)
def askS (S : HB) (c n : Int) : HB := match idx c n 0 S.L with | none => ⟨S.now + 1, S.L ++ [⟨c, n, ((S.now + 1 : Nat) : Int), 0, 0, ZC, ZR⟩], S.I⟩ | some _ => S
theorem ask_all {w : World} {lo hi b : Nat} {S : HB} {c n : Int} (h : BookIs w lo hi b S) (hk : okK (c, n)) (hs : S.now ≤ 1000 ∧ S.L.length ≤ 1000) (hlo : lo ≤ w.heap.size) (hhi : hi ≤ w.heap.size) :
    Calls Try.prog 10 #[.pointer (some ⟨b, 0, none⟩), .int .i64 c, .int .i64 n] w fun en w' => en = .returned (.tuple #[.int .i64 (askR S c n).1, .int .i64 (askR S c n).2]) ∧ BookIs w' lo w'.heap.size b (askS S c n) ∧ Below lo w w' := by
  obtain ⟨m, v, u, h1, h2, h3, h4, h5, h6, h7, h8, h9, h10⟩ := h
  unfold askR askS
  cases hi0 : idx c n 0 S.L with
  | none =>
    refine (ask_none (base := lo) (Lib.hid hk) (Lib.hid hi0) (Lib.hid hs) (Lib.hid hlo) (Lib.hid h7) (Lib.hid h8) (Lib.hid h9)).mono ?_
    rintro en w' ⟨v', rfl, b1, b2, b3, cc, b4⟩
    have hsz := cc.size
    refine ⟨rfl, ⟨m, v', u, h1, by omega, h3, by omega, fun k hk => ⟨?_, (b3.lt k hk).2⟩, fun k hk => ?_, b1, b2, by simpa using b3, h10.ch cc (fun k hk hb => ?_)⟩, cc.below hlo (fun x hx => ?_)⟩
    · rcases b4 k hk with h | h
      · exact (h5 k h).1
      · omega
    · have := h6 k hk; omega
    · rcases List.mem_cons.1 hb with rfl | hb
      · exact (h10.lt _ hk).1 |> fun _ => OwnS.ne h10 h7 (by decide) hk
      · rcases List.mem_cons.1 hb with rfl | hb
        · exact h8.no_row h10 hk
        · exact OwnS.rne h10 h9 (by decide) k hk hb
    · rcases List.mem_cons.1 hx with rfl | hx
      · exact h1
      · rcases List.mem_cons.1 hx with rfl | hx
        · exact h3
        · exact (h5 x hx).1
  | some j =>
    obtain ⟨o, -, ho, -, -⟩ := idx_some hi0
    have hj : j < S.L.length := by have := (List.getElem?_eq_some_iff.1 ho).1; omega
    obtain ⟨g, cap, rfl, -, -, -, -, -⟩ := h9.some_ (by omega)
    refine (ask_some (Lib.hid hk) (Lib.hid hi0) (Lib.hid ⟨hj, hs.2⟩) (Lib.hid h7) (Lib.hid h8)).mono ?_
    rintro en w' ⟨rfl, cc⟩
    have hb : BookIs w' lo hi b S := BookIs.ch ⟨m, _, u, h1, h2, h3, h4, h5, h6, h7, h8, h9, h10⟩ cc (fun x hx => by simp at hx)
    exact ⟨rfl, hb.wide (Nat.le_trans hhi cc.size), cc.below hlo (fun x hx => by simp at hx)⟩
theorem keys_set2 {i0 : Nat} {L : List HOp} {j : Nat} {o : HOp} (h : L[j]? = some o) (o' : HOp) (h1 : o'.c = o.c) (h2 : o'.n = o.n) : keysOf i0 (L.set j o') = keysOf i0 L := by
  induction L generalizing i0 j with
  | nil => rfl
  | cons x L ih =>
    cases j with
    | zero =>
      have : x = o := by simpa using h
      subst this
      simp [keysOf, h1, h2]
    | succ j =>
      have := ih (i0 := i0 + 1) (j := j) (by simpa using h)
      simp [keysOf, this]
/-- What Tell answers, and leaves. -/
def tellR (S : HB) (c n : Int) : Nat × Int := match idx c n 0 S.L with
  | none => (0, 6)
  | some j => match S.L[j]? with | none => (0, 6) | some o => if o.d == 0 || decide (o.t > 0) then (0, 5) else (S.now + 1, 0)
def tellS (S : HB) (c n : Int) : HB := match idx c n 0 S.L with
  | none => S
  | some j => match S.L[j]? with | none => S | some o => if o.d == 0 || decide (o.t > 0) then S else ⟨S.now + 1, S.L.set j { o with t := ((S.now + 1 : Nat) : Int) }, S.I⟩
theorem tell_all {w : World} {lo hi b : Nat} {S : HB} {c n : Int} (h : BookIs w lo hi b S) (hk : okK (c, n)) (hs : S.now ≤ 1000 ∧ S.L.length ≤ 1000) (hlo : lo ≤ w.heap.size) (hhi : hi ≤ w.heap.size) :
    Calls Try.prog 12 #[.pointer (some ⟨b, 0, none⟩), .int .i64 c, .int .i64 n] w fun en w' => en = .returned (.tuple #[.int .i64 (tellR S c n).1, .int .i64 (tellR S c n).2]) ∧ BookIs w' lo w'.heap.size b (tellS S c n) ∧ Below lo w w' := by
  obtain ⟨m, v, u, h1, h2, h3, h4, h5, h6, h7, h8, h9, h10⟩ := h
  unfold tellR tellS
  cases hi0 : idx c n 0 S.L with
  | none =>
    have HB0 : BookIs w lo hi b S := ⟨m, v, u, h1, h2, h3, h4, h5, h6, h7, h8, h9, h10⟩
    refine (tell_none (Lib.hid hk) (Lib.hid hi0) (Lib.hid h7) (Lib.hid h8)).mono ?_
    rintro en w' ⟨rfl, cc⟩
    exact ⟨rfl, (HB0.ch cc (fun x hx => by simp at hx)).wide (Nat.le_trans hhi cc.size), cc.below hlo (fun x hx => by simp at hx)⟩
  | some j =>
    obtain ⟨o, -, ho, hc, hn⟩ := idx_some hi0
    rw [Nat.sub_zero] at ho
    have hj : j < S.L.length := (List.getElem?_eq_some_iff.1 ho).1
    obtain ⟨g, cap, rfl, hcap, -, -, -, -⟩ := h9.some_ (by omega)
    have HB0 : BookIs w lo hi b S := ⟨m, _, u, h1, h2, h3, h4, h5, h6, h7, h8, h9, h10⟩
    simp only [ho]
    cases hd : (o.d == 0) with
    | true =>
      refine (tell_done (Lib.hid hk) (Lib.hid hi0) (Lib.hid ⟨hj, hs.2⟩) (Lib.hid ho) (Lib.hid hd) (Lib.hid h7) (Lib.hid h8) (Lib.hid h9)).mono ?_
      rintro en w' ⟨rfl, cc⟩
      exact ⟨rfl, (HB0.ch cc (fun x hx => by simp at hx)).wide (Nat.le_trans hhi cc.size), cc.below hlo (fun x hx => by simp at hx)⟩
    | false =>
      cases ht : decide (o.t > 0) with
      | true =>
        refine (tell_told (Lib.hid hk) (Lib.hid hi0) (Lib.hid ⟨hj, hs.2⟩) (Lib.hid ho) (Lib.hid hd) (Lib.hid ht) (Lib.hid h7) (Lib.hid h8) (Lib.hid h9)).mono ?_
        rintro en w' ⟨rfl, cc⟩
        exact ⟨rfl, (HB0.ch cc (fun x hx => by simp at hx)).wide (Nat.le_trans hhi cc.size), cc.below hlo (fun x hx => by simp at hx)⟩
      | false =>
        refine (tell_ok (Lib.hid hk) (Lib.hid hi0) (Lib.hid ⟨hj, hs.2⟩) (Lib.hid ho) (Lib.hid hd) (Lib.hid ht) (Lib.hid (by omega)) (Lib.hid (by omega)) (Lib.hid h7) (Lib.hid h8) (Lib.hid h9)).mono ?_
        rintro en w' ⟨rfl, b1, b2, b3, cc⟩
        have hsz := cc.size
        refine ⟨rfl, ⟨m, _, u, h1, by omega, h3, by omega, fun k hk => by have := h5 k hk; omega, fun k hk => by have := h6 k hk; omega, b1, by show MapIs w' m kv _ okK (keysOf 0 (S.L.set j { o with t := ((S.now + 1 : Nat) : Int) })); rw [show keysOf 0 (S.L.set j { o with t := ((S.now + 1 : Nat) : Int) }) = keysOf 0 S.L from keys_set2 ho _ rfl rfl]; exact b2, by show OwnS w' lo 49 28 _ (S.L.set j { o with t := ((S.now + 1 : Nat) : Int) }).length ((S.L.set j { o with t := ((S.now + 1 : Nat) : Int) }).flatMap opC); rw [List.length_set]; exact b3, h10.ch cc (fun k hk hb => ?_)⟩, cc.below hlo (fun x hx => ?_)⟩
        · rcases List.mem_cons.1 hb with rfl | hb
          · exact OwnS.ne h10 h7 (by decide) hk
          · exact OwnS.rne h10 h9 (by decide) k hk hb
        · rcases List.mem_cons.1 hx with rfl | hx
          · exact h1
          · exact (h5 x hx).1
/-- What Do answers, and leaves. -/
def doR (S : HB) (c n : Int) : Nat × Int := match idx c n 0 S.L with
  | none => (0, 6)
  | some j => match S.L[j]? with | none => (0, 6) | some o => if decide (o.d > 0) then (0, 5) else (S.now + 1, 0)
def doS (S : HB) (c n : Int) (CA : Cs 16) (RA : Cs 7) : HB := match idx c n 0 S.L with
  | none => S
  | some j => match S.L[j]? with | none => S | some o => if decide (o.d > 0) then S else ⟨S.now + 1, S.L.set j { o with d := ((S.now + 1 : Nat) : Int), cl := CA, rp := RA }, S.I⟩
theorem do_all {w : World} {lo hi b : Nat} {S : HB} {c n : Int} {CA : Cs 16} {RA : Cs 7} (h : BookIs w lo hi b S) (hk : okK (c, n)) (hs : S.now ≤ 1000 ∧ S.L.length ≤ 1000) (hlo : lo ≤ w.heap.size) (hhi : hi ≤ w.heap.size) :
    Calls Try.prog 11 #[.pointer (some ⟨b, 0, none⟩), .int .i64 c, .int .i64 n, .agg CA.1.toArray, .agg RA.1.toArray] w fun en w' => en = .returned (.tuple #[.int .i64 (doR S c n).1, .int .i64 (doR S c n).2]) ∧ BookIs w' lo w'.heap.size b (doS S c n CA RA) ∧ Below lo w w' := by
  obtain ⟨m, v, u, h1, h2, h3, h4, h5, h6, h7, h8, h9, h10⟩ := h
  unfold doR doS
  cases hi0 : idx c n 0 S.L with
  | none =>
    have HB0 : BookIs w lo hi b S := ⟨m, v, u, h1, h2, h3, h4, h5, h6, h7, h8, h9, h10⟩
    refine (do_none (Lib.hid hk) (Lib.hid hi0) (Lib.hid h7) (Lib.hid h8)).mono ?_
    rintro en w' ⟨rfl, cc⟩
    exact ⟨rfl, (HB0.ch cc (fun x hx => by simp at hx)).wide (Nat.le_trans hhi cc.size), cc.below hlo (fun x hx => by simp at hx)⟩
  | some j =>
    obtain ⟨o, -, ho, hc, hn⟩ := idx_some hi0
    rw [Nat.sub_zero] at ho
    have hj : j < S.L.length := (List.getElem?_eq_some_iff.1 ho).1
    obtain ⟨g, cap, rfl, hcap, -, -, -, -⟩ := h9.some_ (by omega)
    have HB0 : BookIs w lo hi b S := ⟨m, _, u, h1, h2, h3, h4, h5, h6, h7, h8, h9, h10⟩
    simp only [ho]
    cases hd : decide (o.d > 0) with
    | true =>
      refine (do_done (Lib.hid hk) (Lib.hid hi0) (Lib.hid ⟨hj, hs.2⟩) (Lib.hid ho) (Lib.hid hd) (Lib.hid h7) (Lib.hid h8) (Lib.hid h9)).mono ?_
      rintro en w' ⟨rfl, cc⟩
      exact ⟨rfl, (HB0.ch cc (fun x hx => by simp at hx)).wide (Nat.le_trans hhi cc.size), cc.below hlo (fun x hx => by simp at hx)⟩
    | false =>
      refine (do_ok (Lib.hid hk) (Lib.hid hi0) (Lib.hid ⟨hj, hs.2⟩) (Lib.hid ho) (Lib.hid hd) (Lib.hid (by omega)) (Lib.hid (by omega)) (Lib.hid h7) (Lib.hid h8) (Lib.hid h9)).mono ?_
      rintro en w' ⟨rfl, b1, b2, b3, cc⟩
      have hsz := cc.size
      refine ⟨rfl, ⟨m, _, u, h1, by omega, h3, by omega, fun k hk => by have := h5 k hk; omega, fun k hk => by have := h6 k hk; omega, b1, by show MapIs w' m kv _ okK (keysOf 0 (S.L.set j { o with d := ((S.now + 1 : Nat) : Int), cl := CA, rp := RA })); rw [show keysOf 0 (S.L.set j { o with d := ((S.now + 1 : Nat) : Int), cl := CA, rp := RA }) = keysOf 0 S.L from keys_set2 ho _ rfl rfl]; exact b2, by show OwnS w' lo 49 28 _ (S.L.set j { o with d := ((S.now + 1 : Nat) : Int), cl := CA, rp := RA }).length ((S.L.set j { o with d := ((S.now + 1 : Nat) : Int), cl := CA, rp := RA }).flatMap opC); rw [List.length_set]; exact b3, h10.ch cc (fun k hk hb => ?_)⟩, cc.below hlo (fun x hx => ?_)⟩
      · rcases List.mem_cons.1 hb with rfl | hb
        · exact OwnS.ne h10 h7 (by decide) hk
        · exact OwnS.rne h10 h9 (by decide) k hk hb
      · rcases List.mem_cons.1 hx with rfl | hx
        · exact h1
        · exact (h5 x hx).1
/-- Inner. -/
theorem inner_all {w : World} {lo hi b : Nat} {S : HB} (h : BookIs w lo hi b S) (hs : S.now ≤ 1000 ∧ S.I.length ≤ 1000) (hlo : lo ≤ w.heap.size) (hhi : hi ≤ w.heap.size) :
    Calls Try.prog 13 #[.pointer (some ⟨b, 0, none⟩)] w fun en w' => en = .returned (.int .i64 (S.now + 1 : Nat)) ∧ BookIs w' lo w'.heap.size b ⟨S.now + 1, S.L, S.I ++ [((S.now + 1 : Nat) : Int)]⟩ ∧ Below lo w w' := by
  obtain ⟨m, v, u, h1, h2, h3, h4, h5, h6, h7, h8, h9, h10⟩ := h
  refine (inner_ (base := lo) (Lib.hid hs) (Lib.hid hlo) (Lib.hid h7) (Lib.hid h10)).mono ?_
  rintro en w' ⟨u', rfl, b1, b2, cc, b4⟩
  have hsz := cc.size
  refine ⟨rfl, ⟨m, v, u', h1, by omega, h3, by omega, fun k hk => by have := h5 k hk; omega, fun k hk => ⟨?_, (b2.lt k hk).2⟩, b1, h8.keep cc (fun hb => ?_), h9.ch cc (fun k hk hb => ?_), by simpa using b2⟩, cc.below hlo (fun x hx => ?_)⟩
  · rcases b4 k hk with h | h
    · exact (h6 k h).1
    · omega
  · rcases List.mem_cons.1 hb with rfl | hb
    · exact h8.no_cells h7 rfl
    · exact h8.no_row h10 hb
  · rcases List.mem_cons.1 hb with rfl | hb
    · exact OwnS.ne h9 h7 (by decide) hk
    · exact OwnS.rne h9 h10 (by decide) k hk hb
  · rcases List.mem_cons.1 hx with rfl | hx
    · exact h1
    · exact (h6 x hx).1
theorem now_all {w : World} {lo hi b : Nat} {S : HB} (h : BookIs w lo hi b S) : Calls Try.prog 14 #[.pointer (some ⟨b, 0, none⟩)] w fun en w' => en = .returned (.int .i64 S.now) ∧ Ch [] w w' := by
  obtain ⟨m, v, u, _, _, _, _, _, _, h7, _⟩ := h
  exact now_ (Lib.hid h7)
theorem ops_all {w : World} {lo hi b : Nat} {S : HB} (h : BookIs w lo hi b S) (hs : S.L.length ≤ 1000) : Calls Try.prog 15 #[.pointer (some ⟨b, 0, none⟩)] w fun en w' => ∃ v', en = .returned v' ∧ OwnS w' w.heap.size 49 28 v' S.L.length (S.L.flatMap opC) ∧ Ch [] w w' := by
  obtain ⟨m, v, u, _, _, _, _, _, _, h7, _, h9, _⟩ := h
  exact ops_ (Lib.hid hs) (Lib.hid h7) (Lib.hid h9)
theorem inners_all {w : World} {lo hi b : Nat} {S : HB} (h : BookIs w lo hi b S) (hs : S.I.length ≤ 1000) : Calls Try.prog 16 #[.pointer (some ⟨b, 0, none⟩)] w fun en w' => ∃ v', en = .returned v' ∧ OwnS w' w.heap.size 3 1 v' S.I.length (S.I.map (Value.int .i64)) ∧ Ch [] w w' := by
  obtain ⟨m, v, u, _, _, _, _, _, _, h7, _, _, h10⟩ := h
  exact inners_ (Lib.hid hs) (Lib.hid h7) (Lib.hid h10)
theorem open_all {w : World} {lo hi b : Nat} {S : HB} (h : BookIs w lo hi b S) (hs : S.L.length ≤ 1000) : Calls Try.prog 22 #[.pointer (some ⟨b, 0, none⟩)] w fun en w' => en = .returned (.int .i64 (openN S.L)) ∧ Ch [] w w' := by
  obtain ⟨m, v, u, _, _, _, _, _, _, h7, _, h9, _⟩ := h
  exact open_ (Lib.hid hs) (Lib.hid h7) (Lib.hid h9)
theorem new_all {w : World} {lo : Nat} (hlo : lo ≤ w.heap.size) : Calls Try.prog 9 #[] w fun en w' => ∃ b, en = .returned (.pointer (some ⟨b, 0, none⟩)) ∧ BookIs w' lo w'.heap.size b ⟨0, [], []⟩ ∧ Ch [] w w' ∧ w.heap.size ≤ b := by
  refine new_.mono ?_
  rintro en w' ⟨b, m, rfl, b1, b2, cc, h1, h2⟩
  have hb := b1.lt
  have hm := b2.lt
  refine ⟨b, rfl, ⟨m, _, _, by omega, hb, by omega, hm, fun k hk => by rw [rl_zero] at hk; simp at hk, fun k hk => by rw [rl_zero] at hk; simp at hk, b1, b2, OwnS.nil _ _ _ _ none, OwnS.nil _ _ _ _ none⟩, cc, h1⟩
end Go.Proofs.Ytggcpbnlblbpjaa.H
