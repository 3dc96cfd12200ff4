/- The contracts of the reference's Text, and of both Parses. -/
import Derived.Test.YtpbcgfhhkfjbeaaRev
import Derived.Test.YtpbcgfhhkfjbeaaRevPlain
namespace Go.Proofs.Ytpbcgfhhkfjbeaa.R
open Go.RowKit Go.Proofs.Ytpbcgfhhkfjbeaa.K
set_option linter.unusedVariables false
set_option linter.unusedSimpArgs false
def txt (m : Nat) : ByteArray := ⟨(digU m).toArray⟩
theorem txt_size {m : Nat} (h : m ≤ 18446744073709551615) : (txt m).size ≤ 20 := by
  have := digU_len 19 m (Nat.lt_of_le_of_lt h (by decide))
  simpa [txt, ByteArray.size] using this
theorem txt_digs (m : Nat) : strOfNums (digs m) = txt m := by
  unfold strOfNums txt
  congr 2
  induction m using Nat.strongRecOn with
  | _ m ih =>
    by_cases h : m < 10
    · rw [digs_lt h, digU_lt h]
      rfl
    · rw [digs_ge h, digU_ge h, List.map_append, ih _ (by omega)]
      rfl
theorem txt_step {x : Int} (h0 : 0 ≤ x) (h : ¬ x < 10) : txt (x / 10).toNat ++ ⟨#[UInt8.ofNat (48 + x % 10).toNat]⟩ = txt x.toNat := by
  unfold txt
  rw [digU_ge (m := x.toNat) (by omega), show (x / 10).toNat = x.toNat / 10 by omega, show (48 + x % 10).toNat = 48 + x.toNat % 10 by omega]
  apply ByteArray.ext
  simp [ByteArray.data_append]
theorem conv_one {W : World} (b : Nat) (d : Int) (h : W.cell? ⟨b, 0, none⟩ = some (.int .u8 d)) :
    (convert 53 9 (.slice (some ⟨b, 0, none⟩) 1 1)).run Try.prog W = .ok (.string ⟨#[UInt8.ofNat d.toNat]⟩) W := by
  refine run_convert_bytes_arg W 53 5 Try.underlying53 Try.underlying5 b 0 1 1 [d] rfl (fun i hi => ?_) 9 Try.underlying9
  obtain rfl : i = 0 := by omega
  exact h
theorem wrap_u64 {n : Int} (h0 : 0 ≤ n) (h1 : n ≤ 18446744073709551615) : IntKind.u64.wrap n = n := by simp [IntKind.wrap, IntKind.bits, IntKind.signed]; omega
theorem wrap_u8 {n : Int} (h0 : 0 ≤ n) (h1 : n ≤ 255) : IntKind.u8.wrap n = n := by simp [IntKind.wrap, IntKind.bits, IntKind.signed]; omega
set_option maxHeartbeats 1000000 in
theorem RefText_any (n : Nat) : ∀ (x : Int) (w : World), 0 ≤ x → x < n → x ≤ 18446744073709551615 →
    Calls Try.prog 19 #[.int .u64 x] w fun e w' => e = .returned (.string (txt x.toNat)) ∧ Ch [] w w' := by
  induction n with
  | zero => intro x w h0 h1 _; omega
  | succ n ih =>
    intro x w h0 h1 h2
    by_cases c : x < 10
    · clear ih
      have hcv := conv_one (W := w.alloc (.cells #[.int .u8 (48 + x)] 5)) w.heap.size (48 + x) (by simp)
      go_enter Try.func19, Try.ntmps19
      go_wp2_with fail
      go_ret
      refine ⟨?_, (Ch.refl _ _).alloc _⟩
      show Ending.returned (Value.string ⟨#[UInt8.ofNat (48 + x).toNat]⟩) = _
      unfold txt
      rw [digU_lt (by omega), show (48 + x).toNat = 48 + x.toNat by omega]
    · have ih' := Lib.hid (ih (x / 10))
      clear ih
      have t1 : x.tdiv 10 = x / 10 := Int.tdiv_eq_ediv_of_nonneg h0
      have t2 : x.tmod 10 = x % 10 := Int.tmod_eq_emod_of_nonneg h0
      have t3 : IntKind.u64.wrap (x / 10) = x / 10 := wrap_u64 (by omega) (by omega)
      have t4 : IntKind.u64.wrap (x % 10) = x % 10 := wrap_u64 (by omega) (by omega)
      have t5 : IntKind.u64.wrap (48 + x % 10) = 48 + x % 10 := wrap_u64 (by omega) (by omega)
      have t6 : IntKind.u8.wrap (48 + x % 10) = 48 + x % 10 := wrap_u8 (by omega) (by omega)
      have hcv := fun (W : World) => @conv_one W
      have hsz : (txt (x / 10).toNat).size ≤ 20 := txt_size (by omega)
      go_enter Try.func19, Try.ntmps19
      go_wp2_with fail
      go_region_with (go_at_call 19; with_reducible refine (ih'.out _ (by omega) (by omega) (by omega)).mono ?_; rintro e w1 ⟨rfl, hc⟩; obtain ⟨r1, r2, r3⟩ := hc.rules)
      all_goals
        go_wp2_with fail
        go_ret
      all_goals
        refine ⟨congrArg (fun s => Ending.returned (Value.string s)) (txt_step h0 (by omega)), ?_⟩
        repeat (first | exact Ch.refl _ _ | apply Ch.alloc | apply Ch.drew | exact Ch.trans (Ch.drew (Ch.refl _ _)) (by assumption) | exact Ch.trans (Ch.alloc (Ch.drew (Ch.refl _ _)) _) (by assumption))
end Go.Proofs.Ytpbcgfhhkfjbeaa.R
