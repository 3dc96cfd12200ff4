/- Plain facts on decimal digits: a text of digits without a nought ahead is the text of its number, and of no other. -/
namespace Go.Proofs.Ytpbcgfhhkfjbeaa.R
/-- The digits of a number, as bytes. -/
def digU (m : Nat) : List UInt8 := if h : m < 10 then [UInt8.ofNat (48 + m)] else digU (m / 10) ++ [UInt8.ofNat (48 + m % 10)]
theorem digU_lt {m : Nat} (h : m < 10) : digU m = [UInt8.ofNat (48 + m)] := by rw [digU, dif_pos h]
theorem digU_ge {m : Nat} (h : ¬ m < 10) : digU m = digU (m / 10) ++ [UInt8.ofNat (48 + m % 10)] := by rw [digU, dif_neg h]
def val (l : List UInt8) : Nat := l.foldl (fun a c => 10 * a + (c.toNat - 48)) 0
theorem val_snoc (l : List UInt8) (c : UInt8) : val (l ++ [c]) = 10 * val l + (c.toNat - 48) := by simp [val, List.foldl_append]
def ok (c : UInt8) : Prop := 48 ≤ c.toNat ∧ c.toNat ≤ 57
instance (c : UInt8) : Decidable (ok c) := by unfold ok; exact inferInstance
theorem dig_toNat {d : Nat} (h : d < 10) : (UInt8.ofNat (48 + d)).toNat = 48 + d := by
  rw [UInt8.toNat_ofNat']
  omega
theorem digU_ne (m : Nat) : digU m ≠ [] := by
  by_cases h : m < 10
  · rw [digU_lt h]; simp
  · rw [digU_ge h]; simp
theorem val_digU (m : Nat) : val (digU m) = m := by
  induction m using Nat.strongRecOn with
  | _ m ih =>
    by_cases h : m < 10
    · rw [digU_lt h]
      show 10 * 0 + ((UInt8.ofNat (48 + m)).toNat - 48) = m
      rw [dig_toNat h]; omega
    · rw [digU_ge h, val_snoc, ih (m / 10) (by omega), dig_toNat (by omega)]
      omega
theorem digU_ok (m : Nat) : ∀ c ∈ digU m, ok c := by
  induction m using Nat.strongRecOn with
  | _ m ih =>
    intro c hc
    by_cases h : m < 10
    · rw [digU_lt h] at hc
      rw [List.mem_singleton] at hc
      subst hc
      unfold ok
      rw [dig_toNat h]
      omega
    · rw [digU_ge h] at hc
      rcases List.mem_append.1 hc with hc | hc
      · exact ih _ (by omega) c hc
      · rw [List.mem_singleton] at hc
        subst hc
        unfold ok
        rw [dig_toNat (by omega)]
        omega
theorem digU_head (m : Nat) (h1 : 1 ≤ m) : ∃ c, (digU m)[0]? = some c ∧ c.toNat ≠ 48 := by
  induction m using Nat.strongRecOn with
  | _ m ih =>
    by_cases h : m < 10
    · exact ⟨_, by rw [digU_lt h]; rfl, by rw [dig_toNat h]; omega⟩
    · obtain ⟨c, hc, hn⟩ := ih (m / 10) (by omega) (by omega)
      refine ⟨c, ?_, hn⟩
      rw [digU_ge h, List.getElem?_append_left (List.length_pos_iff.2 (digU_ne _))]
      exact hc
theorem digU_len (k : Nat) : ∀ m, m < 10 ^ (k + 1) → (digU m).length ≤ k + 1 := by
  induction k with
  | zero => intro m h; rw [digU_lt (by simpa using h)]; simp
  | succ k ih =>
    intro m h
    by_cases h1 : m < 10
    · rw [digU_lt h1]; simp
    · rw [digU_ge h1]
      have := ih (m / 10) (by rw [Nat.div_lt_iff_lt_mul (by omega)]; rwa [Nat.pow_succ] at h)
      simp
      omega
/-- No nought ahead, unless it is the only one. -/
def canon (l : List UInt8) : Prop := l.length = 1 ∨ ∀ c, l[0]? = some c → c.toNat ≠ 48
theorem val_pos (n : Nat) : ∀ l : List UInt8, l.length = n → l ≠ [] → (∀ c ∈ l, ok c) → (∀ c, l[0]? = some c → c.toNat ≠ 48) → 0 < val l := by
  induction n with
  | zero => intro l h hn; exact absurd (List.length_eq_zero_iff.1 h) hn
  | succ n ih =>
    intro l h hn ho hc
    rcases List.eq_nil_or_concat l with rfl | ⟨L, b, rfl⟩
    · exact absurd rfl hn
    · rw [List.concat_eq_append] at h hn ho hc ⊢
      rw [val_snoc]
      have hb := ho b (by simp)
      unfold ok at hb
      by_cases hL : L = []
      · subst hL
        have := hc b (by simp)
        omega
      · have := ih L (by simpa using h) hL (fun c hc => ho c (by simp [hc])) (fun c h0 => hc c (by rw [List.getElem?_append_left (List.length_pos_iff.2 hL)]; exact h0))
        omega
theorem digU_val (n : Nat) : ∀ l : List UInt8, l.length = n → l ≠ [] → (∀ c ∈ l, ok c) → canon l → digU (val l) = l := by
  induction n with
  | zero => intro l h hn; exact absurd (List.length_eq_zero_iff.1 h) hn
  | succ n ih =>
    intro l h hn ho hc
    rcases List.eq_nil_or_concat l with rfl | ⟨L, b, rfl⟩
    · exact absurd rfl hn
    · rw [List.concat_eq_append] at h hn ho hc ⊢
      rw [val_snoc]
      have hb := ho b (by simp)
      unfold ok at hb
      by_cases hL : L = []
      · subst hL
        rw [digU_lt (by simp [val]; omega)]
        have : 48 + (10 * val [] + (b.toNat - 48)) = b.toNat := by simp [val]; omega
        rw [this, UInt8.ofNat_toNat]
        rfl
      · have hh : ∀ c, (L ++ [b])[0]? = some c → c.toNat ≠ 48 := by
          rcases hc with hc | hc
          · have : 0 < L.length := List.length_pos_iff.2 hL
            simp at hc
            exact absurd hc hL
          · exact hc
        have hh' : ∀ c, L[0]? = some c → c.toNat ≠ 48 := fun c h0 => hh c (by rw [List.getElem?_append_left (List.length_pos_iff.2 hL)]; exact h0)
        have hp := val_pos n L (by simpa using h) hL (fun c hc => ho c (by simp [hc])) hh'
        have := ih L (by simpa using h) hL (fun c hc => ho c (by simp [hc])) (.inr hh')
        rw [digU_ge (by omega), show (10 * val L + (b.toNat - 48)) / 10 = val L by omega, this, show 48 + (10 * val L + (b.toNat - 48)) % 10 = b.toNat by omega, UInt8.ofNat_toNat]
/-- What Parse tells of a text. -/
def good (l : List UInt8) : Prop := l ≠ [] ∧ (∀ c ∈ l, ok c) ∧ canon l ∧ val l < 18446744073709551616
theorem good_digU (m : Nat) (h : m < 18446744073709551616) : good (digU m) := by
  refine ⟨digU_ne m, digU_ok m, ?_, by rw [val_digU]; exact h⟩
  by_cases h1 : m < 10
  · left; rw [digU_lt h1]; rfl
  · right
    obtain ⟨c, hc, hn⟩ := digU_head m (by omega)
    intro c' hc'
    rw [hc] at hc'
    injection hc' with e
    exact e ▸ hn
theorem good_iff (l : List UInt8) : good l ↔ (1 ≤ l.length ∧ l.length ≤ 20 ∧ (∀ c ∈ l, ok c) ∧ digU (val l % 18446744073709551616) = l) := by
  constructor
  · rintro ⟨h1, h2, h3, h4⟩
    have e := digU_val l.length l rfl h1 h2 h3
    refine ⟨List.length_pos_iff.2 h1, ?_, h2, by rw [Nat.mod_eq_of_lt h4]; exact e⟩
    have := digU_len 19 (val l) (Nat.lt_of_lt_of_le h4 (by decide))
    rw [e] at this
    exact this
  · rintro ⟨h1, h2, h3, h4⟩
    have := good_digU (val l % 18446744073709551616) (Nat.mod_lt _ (by omega))
    rwa [h4] at this
theorem good_val {l : List UInt8} (h : good l) : val l % 18446744073709551616 = val l := Nat.mod_eq_of_lt h.2.2.2
end Go.Proofs.Ytpbcgfhhkfjbeaa.R
