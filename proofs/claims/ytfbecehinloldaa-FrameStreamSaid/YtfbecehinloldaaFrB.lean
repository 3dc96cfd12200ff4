/- Splitters and texts: what calls do, as the walks need it. -/
import Derived.Test.YtfbecehinloldaaFrA
import Derived.Test.YtfbecehinloldaaWeaveF
import Derived.Scope
import Derived.Deep.Slices
import Derived.Deep.Fields
namespace Go.Proofs.Ytfbecehinloldaa.V
open Go Go.RowKit Go.Proofs.Ytfbecehinloldaa.K Go.Proofs.Ytfbecehinloldaa.PFrameOnce Go.Proofs.YtfbecehinloldaaW.PrintWords
set_option linter.unusedVariables false
set_option linter.unusedSimpArgs false
set_option maxRecDepth 100000
section
variable {P : Program} {Q : Exit → Act → World → Prop} {a : Act} {w : World}
theorem ng_norm (h : Q .normal a w) : Exit.noGoto Q .normal a w := h
theorem ng_ret (h : Q .ret a w) : Exit.noGoto Q .ret a w := h
theorem ng_exit {i : Nat} (h : Q (.exit i) a w) : Exit.noGoto Q (.exit i) a w := h
end
section
variable {w : World}
theorem at_ways' {α : Type} {L : List α} {k : Nat} (h : k ≤ L.length) : (∃ o, L[k]? = some o ∧ k < L.length) ∨ k = L.length := by
 rcases Nat.lt_or_ge k L.length with h1 | h1
 ·exact .inl ⟨_, List.getElem?_eq_getElem h1, h1⟩
 ·exact .inr (by omega)
theorem take_snoc {α : Type} {L : List α} {k : Nat} {x : α} (h : L[k]? = some x) : L.take (k + 1) = L.take k ++ [x] := by
 obtain ⟨hlt, rfl⟩ := List.getElem?_eq_some_iff.1 h
 exact List.take_succ_eq_append_getElem hlt
theorem src_some {A : Option Addr} {n c sz : Nat} {xs : List Value} (h : SrcIs w (.slice A n c) n xs sz) (hn : 0 < n) : ∃ a, A = some a := by
 rcases h.2 with ⟨h0, _⟩ | ⟨a, c', he, _⟩
 ·omega
 ·injection he with e1 _ _
  exact ⟨a, e1⟩
theorem flat_len {α : Type} {f : α → List Value} {m : Nat} (hf : ∀ x, (f x).length = m) (L : List α) : (L.flatMap f).length = L.length * m := by
 induction L with
 | nil => simp
 | cons x L ih => simp [ih, hf, Nat.add_mul, Nat.add_comm]
theorem flat_get {α : Type} {f : α → List Value} {m : Nat} (hf : ∀ x, (f x).length = m) : ∀ (L : List α) (k : Nat) (x : α), L[k]? = some x → ∀ (j : Nat) (u : Value), (f x)[j]? = some u → (L.flatMap f)[k * m + j]? = some u := by
 intro L
 induction L with
 | nil => intro k x h; simp at h
 | cons y L ih =>
  intro k x h j u hu
  have hj : j < m := by rw [← hf x]; exact (List.getElem?_eq_some_iff.1 hu).1
  cases k with
  | zero =>
   have : y = x := by simpa using h
   subst this
   rw [List.flatMap_cons, Nat.zero_mul, Nat.zero_add, List.getElem?_append_left (by rw [hf]; exact hj)]
   exact hu
  | succ k =>
   rw [List.flatMap_cons, List.getElem?_append_right (by rw [hf, Nat.succ_mul]; omega), hf, show (k + 1) * m + j - m = k * m + j by rw [Nat.succ_mul]; omega]
   exact ih k x (by simpa using h) j u hu
theorem src_at {α : Type} {f : α → List Value} {m : Nat} (hf : ∀ x, (f x).length = m) {a : Addr} {n c : Nat} {L : List α} (h : SrcIs w (.slice (some a) n c) n (L.flatMap f) m) {k : Nat} {x : α} (hx : L[k]? = some x) : CellsAt w (a.add (k * m)) (f x) := fun j u hu => by
 rw [Go.Deep.add_add]
 have h1 := flat_get hf L k x hx j u hu
 rcases h.2 with ⟨_, h0⟩ | ⟨a', c', he, hc⟩
 ·cases h0
 ·injection he with e1 _ _
  injection e1 with e1
  subst e1
  exact hc _ _ h1
theorem own_at {α : Type} {f : α → List Value} {m : Nat} (hf : ∀ x, (f x).length = m) {base e g n c : Nat} {L : List α} (h : OwnS w base e m (.slice (some ⟨g, 0, none⟩) n c) n (L.flatMap f)) {k : Nat} {x : α} (hx : L[k]? = some x) : CellsAt w ⟨g, k * m, none⟩ (f x) := by
 have := src_at hf h.src hx
 rwa [K.add_plain, Nat.zero_add] at this
theorem flat_one {α : Type} {f : α → List Value} (hf : ∀ x, ∀ u ∈ f x, u.oneCell' = true) (L : List α) : ∀ u ∈ L.flatMap f, u.oneCell' = true := fun u hu => by
 obtain ⟨x, _, h⟩ := List.mem_flatMap.1 hu
 exact hf x u h
theorem info9 : (Try.prog.info? 9).map (fun i => (i.zero, i.size, i.bytes)) = some (some (.string ⟨#[]⟩), 1, 16) := by kernel_rfl
end
def strC (b : ByteArray) : List Value := [.string b]
theorem strC_len (b : ByteArray) : (strC b).length = 1 := rfl
theorem strC_one (b : ByteArray) : ∀ u ∈ strC b, u.oneCell' = true := fun u hu => by
  rw [List.mem_singleton.1 hu]; rfl
def intC (c : Int) : List Value := [.int .i64 c]
theorem intC_len (c : Int) : (intC c).length = 1 := rfl
theorem add_zero_ (p : Addr) : p.add 0 = p := by unfold Addr.add; exact if_pos rfl
theorem one_at {w : World} {p : Addr} {v : Value} (h : CellsAt w p [v]) : w.cell? p = some v := by
  have := h 0 v rfl
  rwa [add_zero_] at this
abbrev SplB (w : World) (x : Nat) (s : ByteArray) : Prop := Blk w x #[.string s, .bool false] 43
/-- A world with nothing in it. -/
def w00 (w : World) : World := { w with heap := #[] }
theorem bel00 (w : World) : Below (w00 w).heap.size (w00 w) w := ⟨rfl, rfl, rfl, Nat.zero_le _, fun k hk => absurd hk (Nat.not_lt_zero _)⟩
theorem ch_of {w w' : World} {x : Nat} (h2 : Below (w00 w).heap.size (w00 w) w') (h3 : KeepBut w w' x none) : Ch [x] w w' := ⟨h2.os, h2.tape, h2.output, h3.1, fun k hk hn => h3.2 k hk (by simpa using hn) (by simp)⟩
theorem ch_below {w w' : World} (h : Below w.heap.size w w') : Ch [] w w' := ⟨h.os, h.tape, h.output, h.size, fun k hk _ => h.block k hk⟩
theorem next_c {w : World} {x : Nat} {s t s' : ByteArray} {n : Int} (hb : SplB w x s) (hf : frame_Split_Next.f s false = some (t, n, s', false)) : Calls Try.prog 12 #[.pointer (some ⟨x, 0, none⟩)] w fun e w' => e = .returned (.tuple #[.string t, .int .i64 n]) ∧ SplB w' x s' ∧ Ch [x] w w' :=
  (frame_Split_Next.calls x s false t n s' false (w00 w) w ⟨hb, Nat.zero_le _⟩ (bel00 w) hf).mono fun e w' ⟨he, h1, h2, h3⟩ => ⟨he, h1.1, ch_of h2 h3⟩
theorem feed_c {w : World} {x : Nat} {s a : ByteArray} (hb : SplB w x s) (hs : s.size + a.size ≤ 8192) : Calls Try.prog 11 #[.pointer (some ⟨x, 0, none⟩), .string a] w fun e w' => e = .returned (.int .i64 0) ∧ SplB w' x (s ++ a) ∧ Ch [x] w w' :=
  (frame_Split_Feed.calls x s false a 0 (s ++ a) false (w00 w) w ⟨hb, Nat.zero_le _⟩ (bel00 w) (feed_ok s a hs)).mono fun e w' ⟨he, h1, h2, h3⟩ => ⟨he, h1.1, ch_of h2 h3⟩
theorem left_c {w : World} {x : Nat} {s : ByteArray} (hb : SplB w x s) : Calls Try.prog 13 #[.pointer (some ⟨x, 0, none⟩)] w fun e w' => e = .returned (.int .i64 s.size) ∧ SplB w' x s ∧ Ch [x] w w' :=
  (frame_Split_Left.calls x s false s.size s false (w00 w) w ⟨hb, Nat.zero_le _⟩ (bel00 w) rfl).mono fun e w' ⟨he, h1, h2, h3⟩ => ⟨he, h1.1, ch_of h2 h3⟩
theorem closed_c {w : World} {x : Nat} {s : ByteArray} (hb : SplB w x s) : Calls Try.prog 10 #[.pointer (some ⟨x, 0, none⟩)] w fun e w' => e = .returned (.bool false) ∧ SplB w' x s ∧ Ch [x] w w' :=
  (frame_Split_Closed.calls x s false false s false (w00 w) w ⟨hb, Nat.zero_le _⟩ (bel00 w) rfl).mono fun e w' ⟨he, h1, h2, h3⟩ => ⟨he, h1.1, ch_of h2 h3⟩
theorem new_c {w : World} : Calls Try.prog 9 #[] w fun e w' => ∃ x : Nat, e = .returned (.pointer (some ⟨x, 0, none⟩)) ∧ SplB w' x E0 ∧ w.heap.size ≤ x ∧ Ch [] w w' :=
  (frame_New.calls E0 false w w (Below.refl _ _) rfl).mono fun e w' ⟨x, he, h1, _, h3⟩ => ⟨x, he, h1.1, h1.2, ch_below h3⟩
theorem put_c {w : World} {t : ByteArray} (ht : t.size ≤ 400) : Calls Try.prog 7 #[.string t] w fun e w' => e = .returned (.tuple #[.string (frm t), .int .i64 0]) ∧ Ch [] w w' :=
  (frame_Put.calls t (frm t) 0 w (put_ok t ht)).mono fun e w' ⟨he, h⟩ => ⟨he, ch_below h⟩
theorem works_c {w : World} : Calls Try.prog 6 #[] w fun e w' => e = .returned (.bool true) ∧ Ch [] w w' :=
  (provostlaw05_works.calls true w works_ok).mono fun e w' ⟨he, h⟩ => ⟨he, ch_below h⟩
end Go.Proofs.Ytfbecehinloldaa.V
