/- The contract of rev.Text: it answers the decimal digits of any number that fits. -/
import Derived.Test.YtpbcgfhhkfjbeaaRows
import Derived.Test.YtpbcgfhhkfjbeaaKit
import Derived.Laws.BytesArg
namespace Go.Proofs.Ytpbcgfhhkfjbeaa.R
open Go.RowKit Go.Proofs.Ytpbcgfhhkfjbeaa.K
set_option linter.unusedVariables false
set_option linter.unusedSimpArgs false

/-- The digits of a number, as bytes. -/
def digs (m : Nat) : List Int := if h : m < 10 then [48 + (m : Int)] else digs (m / 10) ++ [48 + ((m % 10 : Nat) : Int)]
theorem digs_lt {m : Nat} (h : m < 10) : digs m = [48 + (m : Int)] := by rw [digs, dif_pos h]
theorem digs_ge {m : Nat} (h : ¬ m < 10) : digs m = digs (m / 10) ++ [48 + ((m % 10 : Nat) : Int)] := by rw [digs, dif_neg h]
theorem pow_div {r k : Nat} (hk : r < 10 ^ (k + 1 + 1)) : r / 10 < 10 ^ (k + 1) := by
  rw [Nat.div_lt_iff_lt_mul (by omega)]; rwa [Nat.pow_succ] at hk
theorem pow_pos {r k : Nat} (h : ¬ r < 10) (hk : r < 10 ^ (k + 1)) : 0 < k := by
  rcases k with _ | k
  · simp at hk; omega
  · omega
/-- What stands behind place k of the array. -/
def Tail (cs : Array Value) (k : Nat) (ys : List Int) : Prop := ys.length = 19 - k ∧ cs.size = 20 ∧ ∀ i, i < ys.length → cs[k + 1 + i]? = some (.int .u8 (ys.getD i 0))
theorem Tail.step {cs : Array Value} {k : Nat} {ys : List Int} (h : Tail cs k ys) (hk : 0 < k) (hk2 : k ≤ 19) (d : Int) : Tail (cs.setIfInBounds k (.int .u8 d)) (k - 1) (d :: ys) := by
  obtain ⟨h1, h2, h3⟩ := h
  refine ⟨by simp; omega, by simp [h2], fun i hi => ?_⟩
  rcases i with _ | i
  · simp [show k - 1 + 1 = k by omega, Array.getElem?_setIfInBounds, h2]; omega
  · simp at hi
    have := h3 i (by omega)
    rw [Array.getElem?_setIfInBounds, if_neg (by omega), show k - 1 + 1 + (i + 1) = k + 1 + i by omega, this]
    simp
theorem Tail.upto {cs : Array Value} {k : Nat} {ys : List Int} (h : Tail cs k ys) (hk2 : k ≤ 19) (d : Int) :
    (d :: ys).length = 20 - k ∧ ∀ i, i < 20 - k → (cs.setIfInBounds k (.int .u8 d))[k + i]? = some (.int .u8 ((d :: ys).getD i 0)) := by
  obtain ⟨h1, h2, h3⟩ := h
  refine ⟨by simp; omega, fun i hi => ?_⟩
  rcases i with _ | i
  · simp [Array.getElem?_setIfInBounds, h2]; omega
  · have := h3 i (by omega)
    rw [Array.getElem?_setIfInBounds, if_neg (by omega), show k + (i + 1) = k + 1 + i by omega, this]
    simp
theorem slice_from (w : World) (B k : Nat) (hk : k ≤ 19) : (Instr.sliceAt 52 (.pointer (some ⟨B, 0, none⟩)) (some (.int .i64 k)) none none).run Try.prog w = .ok (.slice (some ⟨B, k, none⟩) (20 - k) (20 - k)) w := by
  have hl : Try.prog.arrayLen 52 = 20 := by kernel_rfl
  rw [run_sliceAt_array_l w 52 ⟨B, 0, none⟩ (by kernel_rfl) .i64 k (by omega) (by rw [hl]; omega), hl]
  have hs : (sizeOf (Try.prog.elem 52)).run Try.prog w = .ok 1 w := by kernel_rfl
  rw [hs]
  have hn : ¬ 20 = k := by omega
  by_cases h0 : k = 0
  · subst h0; rfl
  · simp [Result.andThen, slicedAt, Addr.add, h0, hn]
set_option maxRecDepth 100000 in
set_option maxHeartbeats 1000000 in
theorem Text_any (m : Nat) (w : World) (hm : m ≤ 18446744073709551615) :
    Calls Try.prog 18 #[.int .u64 m] w fun e w' => e = .returned (.string (strOfNums (digs m))) ∧ Ch [] w w' := by
  go_enter Try.func18, Try.ntmps18
  go_wp2
  go_loopw [0, 4] (fun n kk wr => ∃ (r k : Nat) (ys : List Int) (cs : Array Value), k ≤ 19 ∧ r ≤ 18446744073709551615 ∧ kk = .int .i64 k ∧ n = .int .u64 r ∧ Hid (r < 10 ^ (k + 1)) ∧ Hid (digs m = digs r ++ ys) ∧ Hid (Tail cs k ys) ∧ Hid (Blk wr w.heap.size cs 52) ∧ Hid (Ch [] w wr)) (fun _ kk _ => (intOf kk).toNat)
  case atStart => exact ⟨m, 19, [], _, by omega, hm, rfl, rfl, Nat.lt_of_le_of_lt hm (by decide), (List.append_nil _).symm, ⟨rfl, rfl, fun i hi => by simp at hi⟩, blk_new _ _ _, (Ch.refl _ _).alloc _⟩
  case round =>
    obtain ⟨r, k, ys, cs, hk, hr, rfl, rfl, HP, HD, HT, HC, HW⟩ := hrel
    have hcs := HT.out.2.1
    obtain ⟨v0, hv0⟩ : ∃ v, wr.cell? ⟨w.heap.size, k, none⟩ = some v := ⟨cs[k]'(by omega), by rw [HC.out.cell]; exact Array.getElem?_eq_getElem (by omega)⟩
    have hf0 := HC.out.frozen k
    clear hcs
    by_cases h10 : r < 10
    · have d1 : decide (10 ≤ r) = false := by simp; omega
      have hcv : (convert 53 9 (.slice (some ⟨w.heap.size, k, none⟩) (20 - k) (20 - k))).run Try.prog (wr.setCell ⟨w.heap.size, k, none⟩ (.int .u8 (48 + r))) = .ok (.string (strOfNums (digs m))) (wr.setCell ⟨w.heap.size, k, none⟩ (.int .u8 (48 + r))) := by
        have hu := HT.out.upto hk (48 + (r : Int))
        rw [HD.out, digs_lt h10]
        refine run_convert_bytes_arg _ 53 5 Try.underlying53 Try.underlying5 w.heap.size k (20 - k) (20 - k) _ hu.1 (fun i hi => ?_) 9 Try.underlying9
        rw [(HC.out.set k _).cell]
        exact hu.2 i hi
      have hsl := slice_from (wr.setCell ⟨w.heap.size, k, none⟩ (.int .u8 (48 + r))) w.heap.size k hk
      have d2 : decide ((10 : Int) ≤ (r : Int)) = false := by simp; omega
      go_wp2
      go_ret
      exact ⟨rfl, HW.out.setCell (.inr (Nat.le_refl _)) _⟩
    · have hkp := pow_pos h10 HP.out
      have d1 : decide (10 ≤ r) = true := by simp; omega
      have d2 : decide ((10 : Int) ≤ (r : Int)) = true := by simp; omega
      go_wp2
      go_roundw
      case rel => exact ⟨r / 10, k - 1, (48 + ((r % 10 : Nat) : Int)) :: ys, _, by omega, by omega, by go_num, by go_num, by
        have := HP.out
        rw [show k - 1 + 1 = k by omega]
        rw [show k = k - 1 + 1 by omega] at this ⊢
        exact pow_div this, by rw [HD.out, digs_ge h10, List.append_assoc]; rfl, Lib.hid (by simpa using HT.out.step hkp hk (48 + ((r % 10 : Nat) : Int))), Lib.hid (by simpa using HC.out.set k (.int .u8 (48 + ((r % 10 : Nat) : Int)))), HW.out.setCell (.inr (Nat.le_refl _)) _⟩
      case measure => simp [intOf]; omega
end Go.Proofs.Ytpbcgfhhkfjbeaa.R
