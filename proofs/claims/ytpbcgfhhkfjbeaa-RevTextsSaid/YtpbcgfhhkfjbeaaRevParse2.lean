/- The contracts of both Parses: each tells the number of a text that is a number's text, and nothing of any other. -/
import Derived.Test.YtpbcgfhhkfjbeaaRevParse
namespace Go.Proofs.Ytpbcgfhhkfjbeaa.R
open Go.RowKit Go.Proofs.Ytpbcgfhhkfjbeaa.K
set_option linter.unusedVariables false
set_option linter.unusedSimpArgs false
open Classical in
noncomputable def pv (l : List UInt8) : Int × Bool := if good l then ((val l : Int), true) else (0, false)
theorem pv_good {l : List UInt8} (h : good l) : pv l = ((val l : Int), true) := by unfold pv; rw [if_pos h]
theorem pv_bad {l : List UInt8} (h : ¬ good l) : pv l = (0, false) := by unfold pv; rw [if_neg h]
theorem take_snoc (s : ByteArray) (k : Nat) (h : k < s.size) : s.data.toList.take (k + 1) = s.data.toList.take k ++ [s[k]] := by
  rw [List.take_succ_eq_append_getElem (by simpa using h)]; rfl
theorem at_mem (s : ByteArray) (k : Nat) (h : k < s.size) : s[k] ∈ s.data.toList := by
  have := List.getElem_mem (l := s.data.toList) (n := k) (by simpa using h)
  exact this
theorem val_append_le (b : List UInt8) : ∀ a : List UInt8, val a ≤ val (a ++ b) := by
  induction b with
  | nil => intro a; simp
  | cons c b ih =>
    intro a
    have h1 := ih (a ++ [c])
    rw [val_snoc, List.append_assoc] at h1
    simp only [List.singleton_append] at h1
    omega
theorem val_take (l : List UInt8) (k : Nat) : val (l.take k) ≤ val l := by
  have := val_append_le (l.drop k) (l.take k)
  rwa [List.take_append_drop] at this
theorem bad_char {s : ByteArray} {k : Nat} (h : k < s.size) (hc : ¬ ok s[k]) : ¬ good s.data.toList := fun g => hc (g.2.1 _ (at_mem s k h))
theorem bad_big {s : ByteArray} {k : Nat} (h : k < s.size) (hv : 18446744073709551616 ≤ 10 * val (s.data.toList.take k) + (s[k].toNat - 48)) : ¬ good s.data.toList := fun g => by
  have h1 := val_take s.data.toList (k + 1)
  rw [take_snoc s k h, val_snoc] at h1
  have := g.2.2.2
  omega
def oks (l : List UInt8) : Prop := ∀ c ∈ l, ok c
theorem oks_snoc {s : ByteArray} {k : Nat} (h : k < s.size) (ho : oks (s.data.toList.take k)) (hc : ok s[k]) : oks (s.data.toList.take (k + 1)) := by
  rw [take_snoc s k h]
  intro c hm
  rcases List.mem_append.1 hm with hm | hm
  · exact ho c hm
  · rw [List.mem_singleton] at hm
    exact hm ▸ hc
theorem take_all (s : ByteArray) : s.data.toList.take s.size = s.data.toList := List.take_of_length_le (by simp)
set_option maxHeartbeats 1000000 in
/-- The loop of Parse, of a text that is not empty and has no nought ahead. -/
theorem Parse_run (s : ByteArray) (w : World) (hs : s.size ≤ 9223372036854775807) (e1 : s.toList.isEmpty = false) (e2 : ¬ s.toList = []) (hp : 0 < s.size) (hca : canon s.data.toList)
    (hd : s.size ≤ 1 ∨ (1 < s.size ∧ (((s[0]'hp).toNat : Int) == 48) = false)) :
    Calls Try.prog 16 #[.string s] w fun e w' => e = .returned (.tuple #[.int .u64 (pv s.data.toList).1, .bool (pv s.data.toList).2]) ∧ w = w' := by
  have HCA := Lib.hid hca
  clear hca
  rcases hd with hd | ⟨hd, hd0⟩
  case' inl => have e4 : decide (1 < (s.size : Int)) = false := by simp; omega
  case' inl => have e5 : decide (1 < s.size) = false := by simp; omega
  case' inr => have e4 : decide (1 < (s.size : Int)) = true := by simp; omega
  case' inr => have e5 : decide (1 < s.size) = true := by simp; omega
  all_goals
    go_enter Try.func16, Try.ntmps16
    go_wp2
    go_loop [4, 21] (fun n i => ∃ k : Nat, k ≤ s.size ∧ i = .int .i64 k ∧ n = .int .u64 (val (s.data.toList.take k)) ∧ val (s.data.toList.take k) ≤ 18446744073709551615 ∧ Hid (oks (s.data.toList.take k))) (fun _ i => s.size - (intOf i).toNat)
    case atStart => exact ⟨0, by omega, rfl, rfl, by simp [val], fun c hc => by simp at hc⟩
    case round =>
      obtain ⟨k, hk, rfl, rfl, hv, HO⟩ := hrel
      by_cases hlt : k < s.size
      · have HT := Lib.hid (take_snoc s k hlt)
        obtain ⟨V, hV⟩ : ∃ V, V = val (s.data.toList.take k) := ⟨_, rfl⟩
        rw [← hV] at hv ⊢
        have HV := Lib.hid hV
        clear hV
        by_cases c1 : (s[k].toNat : Int) < 48
        · have d1 : decide ((s[k].toNat : Int) < 48) = true := decide_eq_true c1
          have hb := pv_bad (bad_char hlt (by unfold ok; omega))
          have HB := Lib.hid hb
          clear hb
          go_wp2
          go_ret2
          exact ⟨by rw [HB.out]; rfl, rfl⟩
        · have d1 : decide ((s[k].toNat : Int) < 48) = false := decide_eq_false c1
          have c1' : 48 ≤ (s[k].toNat : Int) := by omega
          by_cases c2 : 57 < (s[k].toNat : Int)
          · have d2 : decide (57 < (s[k].toNat : Int)) = true := decide_eq_true c2
            have hb := pv_bad (bad_char hlt (by unfold ok; omega))
            have HB := Lib.hid hb
            clear hb
            go_wp2
            go_ret2
            exact ⟨by rw [HB.out]; rfl, rfl⟩
          · have d2 : decide (57 < (s[k].toNat : Int)) = false := decide_eq_false c2
            have c2' : (s[k].toNat : Int) ≤ 57 := by omega
            have HO2 := Lib.hid (oks_snoc hlt HO.out (by unfold ok; omega))
            by_cases c3 : (18446744073709551615 - ((s[k].toNat : Int) - 48)) / 10 < (V : Int)
            · have d3 : decide ((18446744073709551615 - ((s[k].toNat : Int) - 48)) / 10 < (V : Int)) = true := decide_eq_true c3
              have hb := pv_bad (bad_big hlt (by rw [← HV.out]; omega))
              have HB := Lib.hid hb
              clear hb
              go_wp2
              go_ret2
              exact ⟨by rw [HB.out]; rfl, rfl⟩
            · have d3 : decide ((18446744073709551615 - ((s[k].toNat : Int) - 48)) / 10 < (V : Int)) = false := decide_eq_false c3
              have c3' : (V : Int) * 10 + ((s[k].toNat : Int) - 48) ≤ 18446744073709551615 := by omega
              go_wp2
              go_round
              case rel => exact ⟨k + 1, by omega, by go_num, by
                rw [HT.out, val_snoc, ← HV.out]
                congr 1
                omega, by rw [HT.out, val_snoc, ← HV.out]; omega, HO2⟩
              case measure => simp [intOf]; omega
      · obtain rfl : k = s.size := by omega
        rw [take_all] at HO hv
        have HTA := Lib.hid (take_all s)
        have hg : good s.data.toList := ⟨by rw [← ByteArray.toList_eq]; exact e2, HO.out, HCA.out, by omega⟩
        have HB := Lib.hid (pv_good hg)
        clear hg
        go_wp2
        go_ret2
        exact ⟨by rw [HB.out, HTA.out]; rfl, rfl⟩
theorem size_pos {s : ByteArray} (h : ¬ s.toList = []) : 0 < s.size := by
  rcases Nat.eq_zero_or_pos s.size with h0 | h0
  · exact absurd (by rw [ByteArray.toList_eq]; exact List.length_eq_zero_iff.1 (by simpa using h0)) h
  · exact h0
theorem Parse_any (s : ByteArray) (w : World) (hs : s.size ≤ 9223372036854775807) :
    Calls Try.prog 16 #[.string s] w fun e w' => e = .returned (.tuple #[.int .u64 (pv s.data.toList).1, .bool (pv s.data.toList).2]) ∧ w = w' := by
  by_cases e2 : s.toList = []
  · have e1 : s.toList.isEmpty = true := by rw [e2]; rfl
    have HB := Lib.hid (pv_bad (l := s.data.toList) (fun g => g.1 (by rw [← ByteArray.toList_eq]; exact e2)))
    go_enter Try.func16, Try.ntmps16
    go_wp2
    go_ret2
    exact ⟨by rw [HB.out]; rfl, rfl⟩
  · have e1 : s.toList.isEmpty = false := by cases h : s.toList with
      | nil => exact absurd h e2
      | cons a l => rfl
    have hp := size_pos e2
    have h0 : s.data.toList[0]? = some (s[0]'hp) := by
      rw [List.getElem?_eq_getElem (by simpa using hp)]
      rfl
    by_cases c1 : s.size ≤ 1
    · exact Parse_run s w hs e1 e2 hp (.inl (by simp; omega)) (.inl c1)
    · by_cases c2 : (s[0]'hp).toNat = 48
      · have d0 : (((s[0]'hp).toNat : Int) == 48) = true := beq_iff_eq.2 (by omega)
        have d1 : decide (1 < (s.size : Int)) = true := by simp; omega
        have d2 : decide (1 < s.size) = true := by simp; omega
        have HB := Lib.hid (pv_bad (l := s.data.toList) (fun g => by
          rcases g.2.2.1 with h | h
          · simp at h; omega
          · exact h _ h0 c2))
        clear h0 c2 c1
        go_enter Try.func16, Try.ntmps16
        go_wp2
        go_ret2
        exact ⟨by rw [HB.out]; rfl, rfl⟩
      · exact Parse_run s w hs e1 e2 hp (.inr (fun c hc => by rw [h0] at hc; injection hc with hc; exact hc ▸ c2)) (.inr ⟨by omega, beq_eq_false_iff_ne.2 (by omega)⟩)
def M64 : Nat := 18446744073709551616
theorem mod_step (V c : Nat) (h : 48 ≤ c) (h2 : c ≤ 255) : IntKind.u64.wrap (IntKind.u64.wrap (IntKind.u64.wrap (10 * ((V % M64 : Nat) : Int)) + (c : Int)) - 48) = (((10 * V + (c - 48)) % M64 : Nat) : Int) := by
  simp only [IntKind.wrap, IntKind.bits, IntKind.signed, M64]
  simp
  omega
/-- What the reference's loop holds. -/
def nv (s : ByteArray) (k : Nat) : Int := ((val (s.data.toList.take k) % M64 : Nat) : Int)
theorem nv_bd (s : ByteArray) (k : Nat) : 0 ≤ nv s k ∧ nv s k ≤ 18446744073709551615 := by
  unfold nv
  have : val (s.data.toList.take k) % M64 < M64 := Nat.mod_lt _ (by decide)
  unfold M64 at *
  omega
theorem nv_step {s : ByteArray} {k : Nat} (h : k < s.size) (hc : ok s[k]) : IntKind.u64.wrap (IntKind.u64.wrap (IntKind.u64.wrap (10 * nv s k) + (s[k].toNat : Int)) - 48) = nv s (k + 1) := by
  unfold nv
  rw [take_snoc s k h, val_snoc]
  exact mod_step _ _ hc.1 (by have := hc.2; omega)
set_option maxHeartbeats 1000000 in
theorem RefParse_any (s : ByteArray) (w : World) (hs : s.size ≤ 9223372036854775807) :
    Calls Try.prog 17 #[.string s] w fun e w' => e = .returned (.tuple #[.int .u64 (pv s.data.toList).1, .bool (pv s.data.toList).2]) ∧ Ch [] w w' := by
  by_cases c1 : s.size < 1
  · have d1 : decide (s.size < 1) = true := decide_eq_true c1
    have d2 : decide ((s.size : Int) < 1) = true := by simp; omega
    have HB := Lib.hid (pv_bad (l := s.data.toList) (fun g => by have := ((good_iff _).1 g).1; simp at this; omega))
    go_enter Try.func17, Try.ntmps17
    go_wp2
    go_ret2
    exact ⟨by rw [HB.out]; rfl, Ch.refl _ _⟩
  · have d1 : decide (s.size < 1) = false := decide_eq_false c1
    have d2 : decide ((s.size : Int) < 1) = false := by simp; omega
    by_cases c2 : 20 < s.size
    · have d3 : decide (20 < s.size) = true := decide_eq_true c2
      have d4 : decide (20 < (s.size : Int)) = true := by simp; omega
      have HB := Lib.hid (pv_bad (l := s.data.toList) (fun g => by have := ((good_iff _).1 g).2.1; simp at this; omega))
      go_enter Try.func17, Try.ntmps17
      go_wp2
      go_ret2
      exact ⟨by rw [HB.out]; rfl, Ch.refl _ _⟩
    · have d3 : decide (20 < s.size) = false := decide_eq_false c2
      have d4 : decide (20 < (s.size : Int)) = false := by simp; omega
      go_enter Try.func17, Try.ntmps17
      go_wp2_with fail
      go_loop [4, 5] (fun n i => ∃ k : Nat, k ≤ s.size ∧ i = .int .i64 k ∧ n = .int .u64 (nv s k) ∧ Hid (oks (s.data.toList.take k))) (fun _ i => s.size - (intOf i).toNat)
      case atStart => exact ⟨0, by omega, rfl, rfl, fun c hc => by simp at hc⟩
      case round =>
        obtain ⟨k, hk, rfl, rfl, HO⟩ := hrel
        by_cases hlt : k < s.size
        · by_cases t1 : (s[k].toNat : Int) < 48
          · have d1 : decide ((s[k].toNat : Int) < 48) = true := decide_eq_true t1
            have HB := Lib.hid (pv_bad (bad_char hlt (by unfold ok; omega)))
            go_wp2
            go_ret2
            exact ⟨by rw [HB.out]; rfl, Ch.refl _ _⟩
          · have d1 : decide ((s[k].toNat : Int) < 48) = false := decide_eq_false t1
            by_cases t2 : 57 < (s[k].toNat : Int)
            · have d2 : decide (57 < (s[k].toNat : Int)) = true := decide_eq_true t2
              have HB := Lib.hid (pv_bad (bad_char hlt (by unfold ok; omega)))
              go_wp2
              go_ret2
              exact ⟨by rw [HB.out]; rfl, Ch.refl _ _⟩
            · have d2 : decide (57 < (s[k].toNat : Int)) = false := decide_eq_false t2
              have hok : ok s[k] := by unfold ok; omega
              have HO2 := Lib.hid (oks_snoc hlt HO.out hok)
              have HN := Lib.hid (nv_step hlt hok)
              clear hok
              go_wp2
              go_round
              case rel => exact ⟨k + 1, by omega, by go_num, by rw [HN.out], HO2⟩
              case measure => simp [intOf]; omega
        · obtain rfl : k = s.size := by omega
          have HTA := Lib.hid (take_all s)
          obtain ⟨b1, b2⟩ := nv_bd s s.size
          have HNV := Lib.hid (show (nv s s.size).toNat = val s.data.toList % 18446744073709551616 by unfold nv; rw [HTA.out]; rfl)
          have HI := Lib.hid (show nv s s.size = ((val s.data.toList % 18446744073709551616 : Nat) : Int) by unfold nv; rw [HTA.out]; rfl)
          have HL := Lib.hid (show (txt (nv s s.size).toNat).toList = digU (val s.data.toList % 18446744073709551616) by rw [HNV.out, ByteArray.toList_eq]; rfl)
          by_cases g : good s.data.toList
          · have HB := Lib.hid (pv_good g)
            have HG := Lib.hid g
            have hq := (good_iff _).1 g
            have h1 : (txt (nv s s.size).toNat).toList == s.toList := by rw [HL.out, ByteArray.toList_eq s, hq.2.2.2]; simp
            have H1 := Lib.hid h1
            clear g hq h1
            go_wp2_with fail
            refine (RefText_any ((nv s s.size).toNat + 1) _ _ b1 (by omega) b2).mono ?_
            rintro e w1 ⟨rfl, hc⟩
            have h1 := H1.out
            have h2 : ((txt (nv s s.size).toNat).toList != s.toList) = false := by simpa using h1
            have h3 : (!((txt (nv s s.size).toNat).toList == s.toList)) = false := by simpa using h1
            go_wp2_with fail
            go_ret2
            exact ⟨by rw [HB.out, HI.out, good_val HG.out]; rfl, hc⟩
          · have HB := Lib.hid (pv_bad g)
            have h1 : ((txt (nv s s.size).toNat).toList == s.toList) = false := by
              rw [HL.out, ByteArray.toList_eq s]
              refine beq_eq_false_iff_ne.2 fun he => g ((good_iff _).2 ⟨by simp; omega, by simp; omega, ?_, he⟩)
              have := HO.out
              rwa [HTA.out] at this
            have H1 := Lib.hid h1
            clear g h1
            go_wp2_with fail
            refine (RefText_any ((nv s s.size).toNat + 1) _ _ b1 (by omega) b2).mono ?_
            rintro e w1 ⟨rfl, hc⟩
            have h1 := H1.out
            have h3 : (!((txt (nv s s.size).toNat).toList == s.toList)) = true := by rw [h1]; rfl
            go_wp2_with fail
            go_ret2
            exact ⟨by rw [HB.out]; rfl, hc⟩
end Go.Proofs.Ytpbcgfhhkfjbeaa.R
