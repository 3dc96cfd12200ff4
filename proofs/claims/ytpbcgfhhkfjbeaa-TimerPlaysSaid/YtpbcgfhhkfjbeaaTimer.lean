/- The contracts of package timer and of its reference: each call answers what the plain functions of this text say. -/
import Derived.Test.YtpbcgfhhkfjbeaaRows
import Derived.Test.YtpbcgfhhkfjbeaaKit
namespace Go.Proofs.Ytpbcgfhhkfjbeaa.T
open Go.RowKit Go.Proofs.Ytpbcgfhhkfjbeaa.K
set_option linter.unusedVariables false
set_option linter.unusedSimpArgs false

def dueB (every last now : Int) : Bool := decide (0 < every) && decide (every ≤ now - last)
def nextI (every last now : Int) : Int := if every = 0 ∨ dueB every last now = true then 0 else last + every
theorem due_any (e l n : Int) (w : World) (h1 : 0 ≤ n - l) (h2 : n - l ≤ 4611686018427387904) :
    Calls Try.prog 32 #[.agg #[.int .i64 e, .int .i64 l], .int .i64 n] w fun en w' => en = .returned (.bool (dueB e l n)) ∧ Ch [] w w' := by
  by_cases c1 : 0 < e
  · have d1 : decide (0 < e) = true := decide_eq_true c1
    by_cases c2 : e ≤ n - l
    · have d2 : decide (e ≤ n - l) = true := decide_eq_true c2
      go_enter Try.func32, Try.ntmps32
      go_wp2
      go_ret
      exact ⟨by simp [dueB, c1, c2], by repeat (first | exact Ch.refl _ _ | apply Ch.drew | apply Ch.alloc)⟩
    · have d2 : decide (e ≤ n - l) = false := decide_eq_false c2
      go_enter Try.func32, Try.ntmps32
      go_wp2
      go_ret
      exact ⟨by simp [dueB, c1, c2], by repeat (first | exact Ch.refl _ _ | apply Ch.drew | apply Ch.alloc)⟩
  · have d1 : decide (0 < e) = false := decide_eq_false c1
    go_enter Try.func32, Try.ntmps32
    go_wp2
    go_ret
    exact ⟨by simp [dueB]; omega, by repeat (first | exact Ch.refl _ _ | apply Ch.drew | apply Ch.alloc)⟩

theorem next_any (e l n : Int) (w : World) (h0 : 0 ≤ l) (h3 : 0 ≤ e) (h4 : e ≤ 4611686018427387904) (h5 : l ≤ 4611686018427387) (h1 : 0 ≤ n - l) (h2 : n - l ≤ 4611686018427387904) :
    Calls Try.prog 33 #[.agg #[.int .i64 e, .int .i64 l], .int .i64 n] w fun en w' => en = .returned (.int .i64 (nextI e l n)) ∧ Ch [] w w' := by
  by_cases c1 : e = 0
  · subst c1
    go_enter Try.func33, Try.ntmps33
    go_wp2_with fail
    go_ret
    exact ⟨by simp [nextI], by repeat (first | exact Ch.refl _ _ | apply Ch.drew | apply Ch.alloc)⟩
  · have d1 : (e == 0) = false := beq_eq_false_iff_ne.2 c1
    cases hd : dueB e l n
    all_goals
      have HD := Lib.hid hd
      clear hd
      go_enter Try.func33, Try.ntmps33
      go_wp2_with (go_at_call 32; refine (due_any _ _ _ _ (by omega) (by omega)).mono ?_; rintro en w1 ⟨rfl, hc⟩; rw [HD.out]; obtain ⟨r1, r2, r3⟩ := hc.rules)
      go_ret
      exact ⟨by simp [nextI, HD.out, c1], ((Ch.refl _ _).alloc _).trans hc⟩

theorem right_any (n : Int) (w : World) :
    Calls Try.prog 31 #[.int .i64 n] w fun en w' => en = .returned (.bool (decide (0 ≤ n) && decide (n ≤ 1000))) ∧ w = w' := by
  by_cases c1 : 0 ≤ n
  · have d1 : decide (0 ≤ n) = true := decide_eq_true c1
    go_enter Try.func31, Try.ntmps31
    go_wp2
    go_ret
    exact ⟨by simp [c1], rfl⟩
  · have d1 : decide (0 ≤ n) = false := decide_eq_false c1
    go_enter Try.func31, Try.ntmps31
    go_wp2
    go_ret
    exact ⟨by simp [c1], rfl⟩
def Tm (w : World) (b : Nat) (me ml ce cl : Int) : Prop := Blk w b #[.int .i64 me, .int .i64 ml, .int .i64 ce, .int .i64 cl] 57
theorem Tm.cells {w : World} {b : Nat} {me ml ce cl : Int} (h : Tm w b me ml ce cl) : w.cell? ⟨b, 0, none⟩ = some (.int .i64 me) ∧ w.cell? ⟨b, 1, none⟩ = some (.int .i64 ml) ∧ w.cell? ⟨b, 2, none⟩ = some (.int .i64 ce) ∧ w.cell? ⟨b, 3, none⟩ = some (.int .i64 cl) ∧ b < w.heap.size :=
  ⟨h.cell 0, h.cell 1, h.cell 2, h.cell 3, h.lt⟩
theorem new_bad (m c : Int) (w : World) (h : (decide (0 ≤ m) && decide (m ≤ 1000) && (decide (0 ≤ c) && decide (c ≤ 1000))) = false) :
    Calls Try.prog 23 #[.int .i64 m, .int .i64 c] w fun en w' => en = .returned (.tuple #[.pointer none, .int .i64 1]) ∧ Ch [] w w' := by
  cases h1 : (decide (0 ≤ m) && decide (m ≤ 1000))
  · have H1 := Lib.hid h1
    clear h1 h
    go_enter Try.func23, Try.ntmps23
    go_wp2_with (go_at_call 31; refine (right_any _ _).mono ?_; rintro en w1 ⟨rfl, rfl⟩; rw [H1.out])
    go_ret2
    exact ⟨rfl, by repeat (first | exact Ch.refl _ _ | apply Ch.drew | apply Ch.alloc)⟩
  · have h2 : (decide (0 ≤ c) && decide (c ≤ 1000)) = false := by rw [h1] at h; simpa using h
    have H1 := Lib.hid h1
    have H2 := Lib.hid h2
    clear h1 h h2
    go_enter Try.func23, Try.ntmps23
    go_wp2_with (go_at_call 31; refine (right_any _ _).mono ?_; rintro en w1 ⟨rfl, rfl⟩; first | rw [H1.out] | rw [H2.out])
    go_ret2
    exact ⟨rfl, by repeat (first | exact Ch.refl _ _ | apply Ch.drew | apply Ch.alloc)⟩
theorem new_any (m c : Int) (w : World) (h : (decide (0 ≤ m) && decide (m ≤ 1000)) = true) (h' : (decide (0 ≤ c) && decide (c ≤ 1000)) = true) :
    Calls Try.prog 23 #[.int .i64 m, .int .i64 c] w fun en w' => ∃ b, en = .returned (.tuple #[.pointer (some ⟨b, 0, none⟩), .int .i64 0]) ∧ Tm w' b m 0 c 0 ∧ w.heap.size ≤ b ∧ Ch [] w w' := by
  have H1 := Lib.hid h
  have H2 := Lib.hid h'
  clear h h'
  go_enter Try.func23, Try.ntmps23
  go_wp2_with (go_at_call 31; refine (right_any _ _).mono ?_; rintro en w1 ⟨rfl, rfl⟩; first | rw [H1.out] | rw [H2.out])
  go_ret2
  exact ⟨_, rfl, blk_new _ _ _, by omega, by repeat (first | exact Ch.refl _ _ | apply Ch.drew | apply Ch.alloc)⟩
theorem mark_any (b : Nat) (me ml n : Int) (w : World) (c0 : w.cell? ⟨b, 0, none⟩ = some (.int .i64 me)) (c1 : w.cell? ⟨b, 1, none⟩ = some (.int .i64 ml)) (h1 : 0 ≤ n - ml) (h2 : n - ml ≤ 4611686018427387904) :
    Calls Try.prog 24 #[.pointer (some ⟨b, 0, none⟩), .int .i64 n] w fun en w' => en = .returned (.bool (dueB me ml n)) ∧ Ch [] w w' := by
  go_enter Try.func24, Try.ntmps24
  go_wp2_with (go_at_call 32; refine (due_any _ _ _ _ (by omega) (by omega)).mono ?_; rintro en w1 ⟨rfl, hc⟩)
  go_ret
  exact ⟨rfl, hc⟩
theorem comp_any (b : Nat) (ce cl n : Int) (w : World) (c0 : w.cell? ⟨b, 2, none⟩ = some (.int .i64 ce)) (c1 : w.cell? ⟨b, 3, none⟩ = some (.int .i64 cl)) (h1 : 0 ≤ n - cl) (h2 : n - cl ≤ 4611686018427387904) :
    Calls Try.prog 28 #[.pointer (some ⟨b, 0, none⟩), .int .i64 n] w fun en w' => en = .returned (.bool (dueB ce cl n)) ∧ Ch [] w w' := by
  go_enter Try.func28, Try.ntmps28
  go_wp2_with (go_at_call 32; refine (due_any _ _ _ _ (by omega) (by omega)).mono ?_; rintro en w1 ⟨rfl, hc⟩)
  go_ret
  exact ⟨rfl, hc⟩

def nextT (a b : Int) : Int := if a = 0 then b else if b = 0 then a else min a b
theorem nextI_bd (e l n : Int) (h0 : 0 ≤ l) (h3 : 0 ≤ e) : 0 ≤ nextI e l n ∧ nextI e l n ≤ l + e := by unfold nextI; split <;> omega
theorem keepTm {w W w1 : World} {b : Nat} {x0 x1 x2 x3 : Value} (h : W.cell? ⟨b, 0, none⟩ = some x0 ∧ W.cell? ⟨b, 1, none⟩ = some x1 ∧ W.cell? ⟨b, 2, none⟩ = some x2 ∧ W.cell? ⟨b, 3, none⟩ = some x3 ∧ Ch [] w W ∧ b < W.heap.size) (hc : Ch [] W w1) :
    w1.cell? ⟨b, 0, none⟩ = some x0 ∧ w1.cell? ⟨b, 1, none⟩ = some x1 ∧ w1.cell? ⟨b, 2, none⟩ = some x2 ∧ w1.cell? ⟨b, 3, none⟩ = some x3 ∧ Ch [] w w1 ∧ b < w1.heap.size := by
  obtain ⟨h0, h1, h2, h3, h4, h5⟩ := h
  have := hc.rules.1
  have hz := hc.size
  exact ⟨(this _ _ h5).trans h0, (this _ _ h5).trans h1, (this _ _ h5).trans h2, (this _ _ h5).trans h3, h4.trans hc, by omega⟩
theorem Next_any (b : Nat) (me ml ce cl n : Int) (w : World) (c0 : w.cell? ⟨b, 0, none⟩ = some (.int .i64 me)) (c1 : w.cell? ⟨b, 1, none⟩ = some (.int .i64 ml)) (c2 : w.cell? ⟨b, 2, none⟩ = some (.int .i64 ce)) (c3 : w.cell? ⟨b, 3, none⟩ = some (.int .i64 cl)) (h0 : 0 ≤ ml) (h3 : 0 ≤ me) (h4 : me ≤ 4611686018427387) (h5 : ml ≤ 4611686018427387) (h1 : 0 ≤ n - ml) (h2 : n - ml ≤ 4611686018427387904)
     (k0 : 0 ≤ cl) (k3 : 0 ≤ ce) (k4 : ce ≤ 4611686018427387) (k5 : cl ≤ 4611686018427387) (k1 : 0 ≤ n - cl) (k2 : n - cl ≤ 4611686018427387904) :
    Calls Try.prog 25 #[.pointer (some ⟨b, 0, none⟩), .int .i64 n] w fun en w' => en = .returned (.int .i64 (nextT (nextI me ml n) (nextI ce cl n))) ∧ Ch [] w w' := by
  have hlt := World.block_lt_of_cell? w _ c0
  simp only at hlt
  have bd1 := nextI_bd me ml n h0 h3
  have bd2 := nextI_bd ce cl n k0 k3
  go_enter Try.func25, Try.ntmps25
  go_wp2_with fail
  go_region_held3 (fun w' => w'.cell? ⟨b, 0, none⟩ = some (.int .i64 me) ∧ w'.cell? ⟨b, 1, none⟩ = some (.int .i64 ml) ∧ w'.cell? ⟨b, 2, none⟩ = some (.int .i64 ce) ∧ w'.cell? ⟨b, 3, none⟩ = some (.int .i64 cl) ∧ Ch [] w w' ∧ b < w'.heap.size)
    (first | exact ⟨c0, c1, c2, c3, (Ch.refl _ _).drew, hlt⟩ | exact keepTm (by assumption) (by assumption))
    (first | (go_at_call 33; refine (next_any _ _ _ _ (by omega) (by omega) (by omega) (by omega) (by omega) (by omega)).mono ?_; rintro en w1 ⟨rfl, hc⟩))
  go_split_ands
  generalize hA : nextI me ml n = A at *
  generalize hB : nextI ce cl n = B at *
  have HA := Lib.hid hA
  have HB := Lib.hid hB
  clear hA hB
  by_cases e1 : A = 0
  · subst e1
    go_wp2
    go_ret
    exact ⟨by simp [HA.out, HB.out, nextT], by assumption⟩
  · by_cases e2 : B = 0
    · subst e2
      have d1 : (A == 0) = false := beq_eq_false_iff_ne.2 e1
      go_wp2
      go_ret
      exact ⟨by simp [HA.out, HB.out, nextT, e1], by assumption⟩
    · have d1 : (A == 0) = false := beq_eq_false_iff_ne.2 e1
      have d2 : (B == 0) = false := beq_eq_false_iff_ne.2 e2
      go_wp2
      all_goals
        go_ret
        exact ⟨by simp [HA.out, HB.out, nextT, e1, e2]; omega, by assumption⟩
theorem Next_tm (b : Nat) (me ml ce cl n : Int) (w : World) (hb : Tm w b me ml ce cl) (h0 : 0 ≤ ml) (h3 : 0 ≤ me) (h4 : me ≤ 4611686018427387) (h5 : ml ≤ 4611686018427387) (h1 : 0 ≤ n - ml) (h2 : n - ml ≤ 4611686018427387904)
     (k0 : 0 ≤ cl) (k3 : 0 ≤ ce) (k4 : ce ≤ 4611686018427387) (k5 : cl ≤ 4611686018427387) (k1 : 0 ≤ n - cl) (k2 : n - cl ≤ 4611686018427387904) :
    Calls Try.prog 25 #[.pointer (some ⟨b, 0, none⟩), .int .i64 n] w fun en w' => en = .returned (.int .i64 (nextT (nextI me ml n) (nextI ce cl n))) ∧ Ch [] w w' :=
  Next_any b me ml ce cl n w hb.cells.1 hb.cells.2.1 hb.cells.2.2.1 hb.cells.2.2.2.1 h0 h3 h4 h5 h1 h2 k0 k3 k4 k5 k1 k2
def keepF (a f n : Int) : Int × Bool := if max n 0 > a then (0, false) else if a - max n 0 ≤ f then (0, false) else (a - max n 0, true)
theorem Keep_any (a f n : Int) (w : World) (h1 : 0 ≤ a) (h2 : a ≤ 18446744073709551615) (h3 : 0 ≤ f) (h4 : f ≤ 18446744073709551615) (h5 : -9223372036854775808 ≤ n) (h6 : n ≤ 9223372036854775807) : 
    Calls Try.prog 20 #[.int .u64 a, .int .u64 f, .int .i64 n] w fun en w' => en = .returned (.tuple #[.int .u64 (keepF a f n).1, .bool (keepF a f n).2]) ∧ w = w' := by
  by_cases c : 0 ≤ n
  · by_cases c1 : a < n
    · have hk : keepF a f n = (0, false) := by unfold keepF; rw [if_pos (by omega)]
      rw [hk]
      clear hk
      go_enter Try.func20, Try.ntmps20
      go_wp2
      go_ret2
      exact ⟨rfl, rfl⟩
    · by_cases c2 : a - n ≤ f
      · have hk : keepF a f n = (0, false) := by unfold keepF; rw [if_neg (by omega), if_pos (by omega)]
        have c1' : n ≤ a := by omega
        rw [hk]
        clear hk
        go_enter Try.func20, Try.ntmps20
        go_wp2
        go_ret2
        exact ⟨rfl, rfl⟩
      · have hk : keepF a f n = (a - n, true) := by unfold keepF; rw [if_neg (by omega), if_neg (by omega)]; congr 1; omega
        have c1' : n ≤ a := by omega
        have c2' : f < a - n := by omega
        rw [hk]
        clear hk
        go_enter Try.func20, Try.ntmps20
        go_wp2
        go_ret2
        exact ⟨rfl, rfl⟩
  · have c' : n < 0 := by omega
    by_cases c1 : a < 0
    · have hk : keepF a f n = (0, false) := by unfold keepF; rw [if_pos (by omega)]
      rw [hk]
      clear hk
      go_enter Try.func20, Try.ntmps20
      go_wp2
      go_ret2
      exact ⟨rfl, rfl⟩
    · by_cases c2 : a ≤ f
      · have hk : keepF a f n = (0, false) := by unfold keepF; rw [if_neg (by omega), if_pos (by omega)]
        have c1' : 0 ≤ a := by omega
        rw [hk]
        clear hk
        go_enter Try.func20, Try.ntmps20
        go_wp2
        go_ret2
        exact ⟨rfl, rfl⟩
      · have hk : keepF a f n = (a, true) := by unfold keepF; rw [if_neg (by omega), if_neg (by omega)]; congr 1; omega
        have c1' : 0 ≤ a := by omega
        have c2' : f < a := by omega
        rw [hk]
        clear hk
        go_enter Try.func20, Try.ntmps20
        go_wp2
        go_ret2
        exact ⟨rfl, rfl⟩
theorem RefKeep_any (a f n : Int) (w : World) (h1 : 0 ≤ a) (h2 : a ≤ 18446744073709551615) (h3 : 0 ≤ f) (h4 : f ≤ 18446744073709551615) (h5 : -9223372036854775808 ≤ n) (h6 : n ≤ 9223372036854775807) : 
    Calls Try.prog 21 #[.int .u64 a, .int .u64 f, .int .i64 n] w fun en w' => en = .returned (.tuple #[.int .u64 (keepF a f n).1, .bool (keepF a f n).2]) ∧ w = w' := by
  by_cases c : 0 ≤ n
  · by_cases c1 : a < n
    · have hk : keepF a f n = (0, false) := by unfold keepF; rw [if_pos (by omega)]
      rw [hk]
      clear hk
      go_enter Try.func21, Try.ntmps21
      go_wp2
      go_ret2
      exact ⟨rfl, rfl⟩
    · by_cases c2 : a - n ≤ f
      · have hk : keepF a f n = (0, false) := by unfold keepF; rw [if_neg (by omega), if_pos (by omega)]
        have c1' : n ≤ a := by omega
        rw [hk]
        clear hk
        go_enter Try.func21, Try.ntmps21
        go_wp2
        go_ret2
        exact ⟨rfl, rfl⟩
      · have hk : keepF a f n = (a - n, true) := by unfold keepF; rw [if_neg (by omega), if_neg (by omega)]; congr 1; omega
        have c1' : n ≤ a := by omega
        have c2' : f < a - n := by omega
        rw [hk]
        clear hk
        go_enter Try.func21, Try.ntmps21
        go_wp2
        go_ret2
        exact ⟨rfl, rfl⟩
  · have c' : n < 0 := by omega
    by_cases c1 : a < 0
    · have hk : keepF a f n = (0, false) := by unfold keepF; rw [if_pos (by omega)]
      rw [hk]
      clear hk
      go_enter Try.func21, Try.ntmps21
      go_wp2
      go_ret2
      exact ⟨rfl, rfl⟩
    · by_cases c2 : a ≤ f
      · have hk : keepF a f n = (0, false) := by unfold keepF; rw [if_neg (by omega), if_pos (by omega)]
        have c1' : 0 ≤ a := by omega
        rw [hk]
        clear hk
        go_enter Try.func21, Try.ntmps21
        go_wp2
        go_ret2
        exact ⟨rfl, rfl⟩
      · have hk : keepF a f n = (a, true) := by unfold keepF; rw [if_neg (by omega), if_neg (by omega)]; congr 1; omega
        have c1' : 0 ≤ a := by omega
        have c2' : f < a := by omega
        rw [hk]
        clear hk
        go_enter Try.func21, Try.ntmps21
        go_wp2
        go_ret2
        exact ⟨rfl, rfl⟩
theorem works_any (w : World) : Calls Try.prog 22 #[] w fun e w' => e = .returned (.bool true) ∧ Ch [] w w' := by
  go_enter Try.func22, Try.ntmps22
  go_wp2_with (first | (go_at_call 25; refine (Next_tm _ 3 0 0 0 1 _ (by repeat (first | exact blk_new _ _ _ | apply Blk.alloc)) (by omega) (by omega) (by omega) (by omega) (by omega) (by omega) (by omega) (by omega) (by omega) (by omega) (by omega) (by omega)).mono ?_; rintro en w1 ⟨rfl, hc⟩) | go_in)
  go_ret
  exact ⟨by simp [nextT, nextI, dueB], Ch.trans (by repeat (first | exact Ch.refl _ _ | apply Ch.alloc)) hc⟩
end Go.Proofs.Ytpbcgfhhkfjbeaa.T
