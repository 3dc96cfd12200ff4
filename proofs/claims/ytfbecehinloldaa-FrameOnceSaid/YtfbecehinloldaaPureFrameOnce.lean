/- What the printed functions of FrameOnce answer: once an error has closed a splitter nothing comes any more. -/
import Derived.Test.YtfbecehinloldaaPFrameOncex
import Derived.Laws.BitsLemmas
namespace Go.Proofs.Ytfbecehinloldaa.PureO
open Go.RowKit Go.Proofs.Ytfbecehinloldaa.PFrameOnce Go.Proofs.YtfbecehinloldaaW.PrintWords Go.Proofs.YtfbecehinloldaaW.PrintLast
set_option linter.unusedSimpArgs false
set_option linter.unusedVariables false
theorem works_true : provostlaw05_works.f = some true := by kernel_rfl
theorem W64 (x : Int) (h1 : -9223372036854775808 ≤ x) (h2 : x ≤ 9223372036854775807) : wrap64 x = x := by unfold wrap64; omega
theorem or_bd (a b : Int) (ha : 0 ≤ a) (ha2 : a < 65536) (hb : 0 ≤ b) (hb2 : b < 65536) : 0 ≤ Go.bits .or .i64 a b := by
  obtain ⟨x, rfl⟩ := Int.eq_ofNat_of_zero_le ha
  obtain ⟨y, rfl⟩ := Int.eq_ofNat_of_zero_le hb
  have := (Go.bits_nat .i64 16 (by decide) (fun n h0 h1 => by rw [Go.IntKind.wrap_i64]; omega) x y (by omega) (by omega)).2
  rw [this]
  omega
theorem feed_ok (s a : ByteArray) (hs : s.size ≤ 8192) (ha : a.size ≤ 9000) : ∃ e s1 c1, frame_Split_Feed.f s false a = some (e, s1, c1) ∧ ((e = 2 ∧ c1 = true ∧ s1.size = 0) ∨ (e = 0 ∧ c1 = false ∧ s1.size ≤ 8192)) := by
  unfold frame_Split_Feed.f
  rw [if_neg (by simp), W64 _ (by omega) (by omega)]
  by_cases h : (a.size : Int) > 8192 - (s.size : Int)
  · rw [if_pos h]
    exact ⟨2, _, true, rfl, .inl ⟨rfl, rfl, rfl⟩⟩
  · rw [if_neg h, if_pos (by omega)]
    exact ⟨0, _, false, rfl, .inr ⟨rfl, rfl, by rw [ByteArray.size_append]; omega⟩⟩
theorem next_ok (s : ByteArray) (hs : s.size ≤ 8192) : ∃ t f s1 c1, frame_Split_Next.f s false = some (t, f, s1, c1) ∧ ((f = 2 ∧ c1 = true ∧ s1.size = 0 ∧ t.size = 0) ∨ ((f = 6 ∨ f = 0) ∧ c1 = false ∧ s1.size ≤ 8192 ∧ t.size ≤ 2048)) := by
  unfold frame_Split_Next.f
  obtain ⟨b1, b2⟩ := bt_range s 0
  obtain ⟨b3, b4⟩ := bt_range s 1
  rw [if_neg (by simp), W64 (bt s 0) (by omega) (by omega), W64 (bt s 1) (by omega) (by omega), W64 (bt s 1 * 256) (by omega) (by omega)]
  have hN := or_bd (bt s 0) (bt s 1 * 256) (by omega) (by omega) (by omega) (by omega)
  generalize Go.bits .or .i64 (bt s 0) (bt s 1 * 256) = n at *
  by_cases h1 : (s.size : Int) < 2
  · rw [if_pos h1]
    exact ⟨_, 6, s, false, rfl, .inr ⟨.inl rfl, rfl, hs, by simp [ByteArray.size]⟩⟩
  · rw [if_neg h1, if_pos (by omega), if_pos (by omega)]
    by_cases h2 : n > 2048
    · rw [if_pos h2]
      exact ⟨_, 2, _, true, rfl, .inl ⟨rfl, rfl, rfl, rfl⟩⟩
    · rw [if_neg h2, W64 ((s.size : Int) - 2) (by omega) (by omega)]
      by_cases h3 : n > (s.size : Int) - 2
      · rw [if_pos h3]
        exact ⟨_, 6, s, false, rfl, .inr ⟨.inl rfl, rfl, hs, by simp [ByteArray.size]⟩⟩
      · rw [if_neg h3, W64 (2 + n) (by omega) (by omega), if_pos (by omega), if_pos (by omega), if_pos (by omega)]
        exact ⟨_, 0, _, false, rfl, .inr ⟨.inr rfl, rfl, by rw [ByteArray.size_extract]; omega, by rw [ByteArray.size_extract]; omega⟩⟩
theorem l0_ok (xs : List ByteArray) : ∀ (d k : Nat) (i er : Int) (s : ByteArray) (c : Bool), 0 ≤ i → i + d = 60 → 4 * d + 8 < k → 0 ≤ er → ((c = false ∧ er = 0 ∧ s.size ≤ 8192) ∨ (c = true ∧ er ≤ 1 ∧ s.size = 0)) →
    provostlaw05_FrameOnce.l0 k xs er i s c = some true := by
  intro d
  induction d with
  | zero =>
    intro k i er s c hi hd hk he h
    obtain ⟨k, rfl⟩ : ∃ m, k = m + 2 := ⟨k - 2, by omega⟩
    have hle : er ≤ 1 := by omega
    have hj : provostlaw05_FrameOnce.j1 (k + 1) xs er i false s c = some true := by
      simp only [provostlaw05_FrameOnce.j1]
      rw [if_neg (by simp), decide_eq_true hle]
    simp only [provostlaw05_FrameOnce.l0]
    rw [decide_eq_false (by omega), hj]
    split <;> rfl
  | succ d ih =>
    intro k i er s c hi hd hk he h
    obtain ⟨k, rfl⟩ : ∃ m, k = m + 4 := ⟨k - 4, by omega⟩
    have hle : er ≤ 1 := by omega
    simp only [provostlaw05_FrameOnce.l0]
    by_cases hx : i < (xs.length : Int)
    · rw [if_pos hx, decide_eq_true (by omega)]
      simp only [provostlaw05_FrameOnce.j1]
      rw [if_pos trivial, if_pos hi, if_pos hx]
      generalize rdOf ByteArray.empty xs i = a
      by_cases h9 : (a.size : Int) > 9000
      · rw [if_pos h9]
      · rw [if_neg h9]
        simp only [frame_Split_Closed.f, Option.bind_some]
        have wi : wrap64 (i + 1) = i + 1 := W64 (i + 1) (by omega) (by omega)
        have w0 : wrap64 1 = 1 := W64 1 (by omega) (by omega)
        have es : (⟨#[]⟩ : ByteArray).size = 0 := rfl
        have big : ∀ t : ByteArray, t.size ≤ 2048 → ¬ (2048 : Int) < (t.size : Int) := fun t h => by omega
        rcases h with ⟨rfl, rfl, hs⟩ | ⟨rfl, hr, hs⟩
        · obtain ⟨e, s1, c1, e1, h1⟩ := feed_ok s a hs (by omega)
          rw [e1]
          simp only [Option.bind_some]
          rcases h1 with ⟨rfl, rfl, hs1⟩ | ⟨rfl, rfl, hs1⟩
          · rw [show frame_Split_Next.f s1 true = some ((⟨#[]⟩ : ByteArray), 400, s1, true) from rfl]
            have r := ih k (i + 1) 1 s1 true (by omega) (by omega) (by omega) (by omega) (.inr ⟨rfl, by omega, hs1⟩)
            simp [provostlaw05_FrameOnce.j2, provostlaw05_FrameOnce.j3, frame_Split_Closed.f, wi, w0, r, es]
          · obtain ⟨t, f, s2, c2, e2, h2⟩ := next_ok s1 hs1
            rw [e2]
            rcases h2 with ⟨rfl, rfl, hs2, ht⟩ | ⟨hf, rfl, hs2, ht⟩
            · have r := ih k (i + 1) 1 s2 true (by omega) (by omega) (by omega) (by omega) (.inr ⟨rfl, by omega, hs2⟩)
              simp [provostlaw05_FrameOnce.j2, provostlaw05_FrameOnce.j3, frame_Split_Closed.f, wi, w0, r, ht]
            · have r := ih k (i + 1) 0 s2 false (by omega) (by omega) (by omega) (by omega) (.inl ⟨rfl, rfl, hs2⟩)
              rcases hf with rfl | rfl <;> simp [provostlaw05_FrameOnce.j2, provostlaw05_FrameOnce.j3, frame_Split_Closed.f, wi, w0, r, big t ht]
        · rw [show frame_Split_Feed.f s true a = some (400, s, true) from rfl]
          simp only [Option.bind_some]
          rw [show frame_Split_Next.f s true = some ((⟨#[]⟩ : ByteArray), 400, s, true) from rfl]
          have r := ih k (i + 1) er s true (by omega) (by omega) (by omega) (by omega) (.inr ⟨rfl, hr, hs⟩)
          have et : (⟨#[]⟩ : ByteArray).toList = [] := by kernel_rfl
          simp [provostlaw05_FrameOnce.j2, provostlaw05_FrameOnce.j3, frame_Split_Closed.f, frame_Split_Left.f, wi, w0, r, hs, et, es]
          exact ByteArray.size_eq_zero_iff.1 hs
    · rw [if_neg hx]
      simp only [provostlaw05_FrameOnce.j1]
      rw [if_neg (by simp), decide_eq_true hle]
theorem FrameOnce (xs : List ByteArray) : provostlaw05_FrameOnce.f 1000 xs = some true := by
  rw [provostlaw05_FrameOnce.f, works_true]
  simp only [Option.bind_some, frame_New.f]
  rw [if_pos trivial]
  exact l0_ok xs 60 1000 0 0 _ false (by omega) (by omega) (by omega) (by omega) (.inl ⟨rfl, rfl, by simp [ByteArray.size]⟩)
end Go.Proofs.Ytfbecehinloldaa.PureO
