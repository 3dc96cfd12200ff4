/- Limits by bits, as numbers. -/
import Derived.Test.YtmoelehhofmhcaaPrX
namespace Go.Proofs.Ytmoelehhofmhcaa.V
open Go Go.RowKit Go.Proofs.Ytmoelehhofmhcaa.K
set_option linter.unusedVariables false
set_option linter.unusedSimpArgs false
/-- What is asked of a bit. -/
def fitsB (a b p : Int) : Bool := decide (100 * a ≤ p * b)
theorem split30 (a : Int) (h : 0 ≤ a) : ∃ q r : Int, a / 1073741824 = q ∧ a % 1073741824 = r ∧ a = 1073741824 * q + r ∧ 0 ≤ r ∧ r < 1073741824 ∧ 0 ≤ q := ⟨a / 1073741824, a % 1073741824, rfl, rfl, by omega, by omega, by omega, by omega⟩
/-- The greatest that fits. -/
def topZ (m p : Int) : Int := m * p / 100
theorem lim_top (m p : Int) : limZ m p = topZ m (min (max p 0) 100) := by
  unfold limZ topZ
  obtain ⟨q, hq⟩ : ∃ q, q = min (max p 0) 100 := ⟨_, rfl⟩
  rw [← hq]
  have h : m * q = 100 * (m / 100 * q) + m % 100 * q := by
    have h1 : m = 100 * (m / 100) + m % 100 := by omega
    calc m * q = (100 * (m / 100) + m % 100) * q := by rw [← h1]
      _ = 100 * (m / 100 * q) + m % 100 * q := by rw [Int.add_mul, Int.mul_assoc]
  rw [h]
  omega
theorem fits_top {a m p : Int} : 100 * a ≤ p * m ↔ a ≤ topZ m p := by
  unfold topZ
  rw [Int.mul_comm m p]
  omega
theorem top_le {m p : Int} (hm : 0 ≤ m) (hp : 0 ≤ p ∧ p ≤ 100) : 0 ≤ topZ m p ∧ topZ m p ≤ m := by
  unfold topZ
  have h1 : 0 ≤ m * p := Int.mul_nonneg hm hp.1
  have h2 : m * p ≤ m * 100 := Int.mul_le_mul_of_nonneg_left hp.2 hm
  omega
theorem fits_parts {q r s t p u v : Int} {x y : Int} (hx : x = q * 100) (hy : y = r * 100) (hu : u = s * p) (hv : v = t * p) (hr : 0 ≤ y) (ht : 0 ≤ v) :
    (x + y / 1073741824 < u + v / 1073741824 ∨ (x + y / 1073741824 = u + v / 1073741824 ∧ y % 1073741824 ≤ v % 1073741824)) ↔ 100 * (1073741824 * q + r) ≤ p * (1073741824 * s + t) := by
  have h1 : 100 * (1073741824 * q + r) = 1073741824 * x + y := by rw [hx, hy]; omega
  have h2 : p * (1073741824 * s + t) = 1073741824 * u + v := by rw [hu, hv, Int.mul_add, Int.mul_comm s p, Int.mul_comm t p, Int.mul_left_comm]
  rw [h1, h2]
  omega
end Go.Proofs.Ytmoelehhofmhcaa.V
