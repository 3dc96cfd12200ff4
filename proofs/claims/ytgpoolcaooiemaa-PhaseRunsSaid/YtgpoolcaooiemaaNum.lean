/- num.digits and num.Text of numbers from 0 on. -/
import Derived.Test.YtgpoolcaooiemaaKit
import Derived.Test.YtgpoolcaooiemaaChecked
import Derived.Laws.BytesArg
import Derived.Laws.IdiomCopy
namespace Go.Proofs.Ytgpoolcaooiemaa.D
open Go Go.RowKit Go.Proofs.Ytgpoolcaooiemaa.K
set_option linter.unusedVariables false
set_option linter.unusedSimpArgs false
/-- The digits of a number, ahead of acc, with at most so many rounds. -/
def dec : Nat → Nat → List UInt8 → List UInt8
  | 0, _, acc => acc
  | f + 1, n, acc => if n / 10 = 0 then UInt8.ofNat (48 + n % 10) :: acc else dec f (n / 10) (UInt8.ofNat (48 + n % 10) :: acc)
def str (l : List UInt8) : ByteArray := ⟨l.toArray⟩
def nums (l : List UInt8) : List Int := l.map fun c => (c.toNat : Int)
theorem strOfNums_nums (l : List UInt8) : strOfNums (nums l) = ⟨l.toArray⟩ := by
  unfold strOfNums nums
  rw [List.map_map]
  congr 2
  conv => rhs; rw [← List.map_id l]
  apply List.map_congr_left
  intro c _
  simp
theorem nums_at (l : List UInt8) (j : Nat) (c : UInt8) (h : l[j]? = some c) : (nums l).getD j 0 = (c.toNat : Int) := by
  simp [nums, h]
structure Holds (cs : Array Value) (k : Nat) (ds : List UInt8) : Prop where
  size : cs.size = 20
  len : ds.length = 20 - k
  row : ∀ j c, ds[j]? = some c → cs[k + j]? = some (.int .u8 c.toNat)
theorem Holds.more {cs : Array Value} {j : Nat} {ds : List UInt8} (h : Holds cs (j + 1) ds) (hj : j < 20) (m : Nat) : Holds (cs.setIfInBounds j (.int .u8 (48 + (m : Int) % 10))) j (UInt8.ofNat (48 + m % 10) :: ds) := by
  refine ⟨by simpa using h.size, by have := h.len; simp; omega, fun i c hc => ?_⟩
  cases i with
  | zero =>
    have hc' : UInt8.ofNat (48 + m % 10) = c := by simpa using hc
    subst hc'
    have hs := h.size
    rw [Array.getElem?_setIfInBounds, if_pos (by omega), if_pos (by omega)]
    have : (UInt8.ofNat (48 + m % 10)).toNat = 48 + m % 10 := by
      rw [UInt8.toNat_ofNat']
      omega
    rw [this]
    simp
  | succ i =>
    have hc' : ds[i]? = some c := by simpa using hc
    rw [Array.getElem?_setIfInBounds, if_neg (by omega), show j + (i + 1) = j + 1 + i by omega]
    exact h.row i c hc'
theorem len83 : Try.prog.arrayLen 83 = 20 := by kernel_rfl
theorem und83 : Try.prog.underlying 83 = some (.array (Try.prog.arrayLen 83) (Try.prog.elem 83)) := by kernel_rfl
theorem size83 (w : World) : (sizeOf (Try.prog.elem 83)).run Try.prog w = .ok 1 w := by kernel_rfl
theorem slice_l (W : World) (b l : Nat) (h3 : l < 20) :
    (Instr.sliceAt 83 (.pointer (some ⟨b, 0, none⟩)) (some (.int .i64 l)) none none).run Try.prog W = .ok (.slice (some ⟨b, l, none⟩) (20 - l) (20 - l)) W := by
  rw [run_sliceAt_array_l W 83 ⟨b, 0, none⟩ und83 .i64 l (by omega) (by rw [len83]; omega), len83, size83]
  have hn : ¬ 20 = l := by omega
  by_cases h0 : l = 0
  · subst h0; rfl
  · simp [Result.andThen, slicedAt, Addr.add, h0, hn]
theorem conv_row (w : World) (b off len cap : Nat) (cs : Array Value) (l : List UInt8) (hb : Blk w b cs 83) (hl : l.length = len) (hc : ∀ j, j < len → cs[off + j]? = some (.int .u8 ((nums l).getD j 0))) :
    (convert 84 9 (.slice (some ⟨b, off, none⟩) len cap)).run Try.prog w = .ok (.string (str l)) w := by
  have := run_convert_bytes_arg w 84 5 Try.underlying84 Try.underlying5 b off len cap (nums l) (by simp [nums, hl]) (fun i hi => ((hb).cell (off + i)).trans (hc i hi)) 9 Try.underlying9
  rwa [strOfNums_nums] at this
set_option maxRecDepth 100000 in
theorem digits_any (n : Nat) (w : World) (hn : n < 18446744073709551616) :
    Calls Try.prog 41 #[.int .u64 n] w fun e w' => e = .returned (.string (str (dec 20 n []))) ∧ Ch [] w w' := by
  go_enter Try.func41, Try.ntmps41
  go_wp2_with fail
  go_loopw [0, 4] (fun nn kk wr => ∃ (m k : Nat) (ds : List UInt8) (cs : Array Value), nn = .int .u64 m ∧ kk = .int .i64 k ∧ k ≤ 20 ∧ 1 ≤ k ∧ m < 18446744073709551616 ∧ Hid (m < 10 ^ k) ∧ Hid (dec k m ds = dec 20 n []) ∧ Hid (Blk wr w.heap.size cs 83) ∧ Hid (Holds cs k ds) ∧ Hid (Ch [] w wr)) (fun _ kk _ => (intOf kk).toNat)
  case atStart => exact ⟨n, 20, [], _, rfl, rfl, by omega, by omega, hn, Lib.hid (by omega), Lib.hid rfl, blk_new _ _ _, ⟨rfl, rfl, by simp⟩, (Ch.refl [] w).alloc _⟩
  case round =>
    obtain ⟨m, k, ds, cs, rfl, rfl, hk, hk1, hm64, hm, hd, hb, hh, hw⟩ := hrel
    have c0 : ∃ v, wr.cell? ⟨w.heap.size, k - 1, none⟩ = some v := by
      rw [hb.out.cell]
      exact ⟨_, Array.getElem?_eq_getElem (by have := hh.out.size; omega)⟩
    obtain ⟨v, c0⟩ := c0
    have f0 := hb.out.frozen (k - 1)
    obtain ⟨j, rfl⟩ : ∃ j, k = j + 1 := ⟨k - 1, by omega⟩
    simp at c0 f0
    have HB := Lib.hid (hb.out.set j (.int .u8 (48 + (m : Int) % 10)))
    have HH := Lib.hid (hh.out.more (by omega) m)
    have HW := Lib.hid (hw.out.setCell (p := ⟨w.heap.size, j, none⟩) (.inr (Nat.le_refl _)) (.int .u8 (48 + (m : Int) % 10)))
    by_cases h0 : m / 10 = 0
    · have e0 : ((m : Int) / 10 == 0) = true := by simp; omega
      have sl := slice_l (wr.setCell ⟨w.heap.size, j, none⟩ (.int .u8 (48 + (m : Int) % 10))) w.heap.size j (by omega)
      have cv := conv_row (wr.setCell ⟨w.heap.size, j, none⟩ (.int .u8 (48 + (m : Int) % 10))) w.heap.size j (20 - j) (20 - j) _ _ HB.out HH.out.len (fun i hi => by
        have hl := HH.out.len
        rw [nums_at _ i _ (List.getElem?_eq_getElem (by omega))]
        exact HH.out.row i _ (List.getElem?_eq_getElem (by omega)))
      have hd2 := Lib.hid (show dec 20 n [] = UInt8.ofNat (48 + m % 10) :: ds by rw [← hd.out, dec, if_pos h0])
      go_wp2_with fail
      go_ret
      refine ⟨?_, HW.out⟩
      rw [hd2.out, UInt8.ofNat_add]
      rfl
    · have e0 : ((m : Int) / 10 == 0) = false := by simp; omega
      have hp : 10 ^ (j + 1) = 10 ^ j * 10 := Nat.pow_succ ..
      have hm2 : m / 10 < 10 ^ j := by have := hm.out; rw [hp] at this; omega
      have hj : j ≠ 0 := fun e => by subst e; simp at hm2; omega
      have HM := Lib.hid hm2
      have hd2 := Lib.hid (show dec j (m / 10) (UInt8.ofNat (48 + m % 10) :: ds) = dec 20 n [] by rw [← hd.out, dec, if_neg h0])
      clear hp hm2
      go_wp2_with fail
      go_roundw
      case rel => exact ⟨m / 10, j, _, _, by go_num, rfl, by omega, by omega, by omega, HM, hd2, HB, HH, HW⟩
      case measure => simp [intOf]
theorem Text_any (n : Nat) (w : World) (hn : n < 9223372036854775808) :
    Calls Try.prog 39 #[.int .i64 n] w fun e w' => e = .returned (.string (str (dec 20 n []))) ∧ Ch [] w w' := by
  go_enter Try.func39, Try.ntmps39
  have d1 : decide ((n : Int) < 0) = false := by simp
  go_wp2_with fail
  refine (digits_any n _ (by omega)).mono ?_
  rintro e w1 ⟨rfl, hc⟩
  have HC := Lib.hid hc
  clear hc
  go_wp2_with fail
  go_ret
  exact ⟨rfl, HC.out⟩
end Go.Proofs.Ytgpoolcaooiemaa.D
