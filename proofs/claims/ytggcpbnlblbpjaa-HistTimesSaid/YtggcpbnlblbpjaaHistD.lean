/- What comes in: the acts of the laws of history. -/
import Derived.Test.YtggcpbnlblbpjaaHistC
import Derived.Test.YtggcpbnlblbpjaaHistK
namespace Go.Proofs.Ytggcpbnlblbpjaa.H
open Go Go.RowKit Go.Proofs.Ytggcpbnlblbpjaa.K Go.Proofs.Ytggcpbnlblbpjaa.F Go.Proofs.Ytggcpbnlblbpjaa.PHistPlays Go.Proofs.YtggcpbnlblbpjaaW.PrintWords
set_option linter.unusedVariables false
set_option maxRecDepth 100000
abbrev A34 := Int × Int × Int × Int × S32
def K34 : Kd A34 := Kd.pair (Kd.int .i64) (Kd.pair (Kd.int .i64) (Kd.pair (Kd.int .i64) (Kd.pair (Kd.int .i64) k32)))
def good34 (v : A34) : Prop := (Lit.int .i64 v.1).wf = true ∧ (Lit.int .i64 v.2.1).wf = true ∧ (Lit.int .i64 v.2.2.1).wf = true ∧ (Lit.int .i64 v.2.2.2.1).wf = true ∧ True
theorem f34 : Fits Try.prog 34 K34 good34 := (fits_struct (N := 20) Try.underlying34 (by kernel_rfl) (fitsF_cons (n1 := 1) rfl rfl (by kernel_rfl) (fits_int Try.underlying3) (fitsF_cons (n1 := 1) rfl rfl (by kernel_rfl) (fits_int Try.underlying3) (fitsF_cons (n1 := 1) rfl rfl (by kernel_rfl) (fits_int Try.underlying3) (fitsF_cons (n1 := 1) rfl rfl (by kernel_rfl) (fits_int Try.underlying3) (fitsF_last rfl rfl (by kernel_rfl) HK.f32)))))).mono fun _ h => h
theorem f22 : Fits Try.prog 22 (Kd.slice 34 K34) (fun l => l.length ≤ maxLen ∧ ∀ v ∈ l, good34 v) := fits_slice (0, 0, 0, 0, z32) Try.underlying22 (by kernel_rfl) f34
/-- The acts that came in. -/
def In (W : World) (a : Option Addr) (len cap : Nat) : Prop := ∃ l : List A34, l.length = len ∧ l.length ≤ cap ∧ Kd.C K34 W a l.length l ∧ (l.length ≤ maxLen ∧ ∀ v ∈ l, good34 v)
/-- An act's cells. -/
def actA (kz cz nz mz : Int) (cl : Cs 16) : Array Value := ((.int .i64 kz) :: (.int .i64 cz) :: (.int .i64 nz) :: (.int .i64 mz) :: cl.1).toArray
def Acts (w : World) (a : Option Addr) (len : Nat) : Prop := ∀ i, i < len → ∃ A kz cz nz mz, ∃ cl : Cs 16, a = some A ∧ CellsAt w (A.add (i * 20)) ((.int .i64 kz) :: (.int .i64 cz) :: (.int .i64 nz) :: (.int .i64 mz) :: cl.1) ∧ okK (cz, nz)
theorem acts_at {w : World} {a : Option Addr} {len : Nat} (h : Acts w a len) {i : Nat} (hi : i < len) : ∃ A kz cz nz mz, ∃ cl : Cs 16, a = some A ∧ CellsAt w (A.add (i * 20)) ((.int .i64 kz) :: (.int .i64 cz) :: (.int .i64 nz) :: (.int .i64 mz) :: cl.1) ∧ okK (cz, nz) := h i hi
theorem acts_of {W : World} {a : Option Addr} {len cap : Nat} (h : In W a len cap) : Acts W a len := by
  obtain ⟨l, rfl, _, hC, _, hg⟩ := h
  intro i hi
  obtain ⟨A, rfl, hc⟩ := hC.2.2 (by omega)
  obtain ⟨c, hl, hk, hcells⟩ := hc i l[i] (List.getElem?_eq_getElem hi)
  have hgi := hg l[i] (List.getElem_mem _)
  obtain ⟨⟨kz, cz, nz, mz, cl⟩, hv⟩ : ∃ v, l[i] = v := ⟨_, rfl⟩
  rw [hv] at hk hgi
  obtain ⟨c1, r1, rfl, rfl, c2, r2, rfl, rfl, c3, r3, rfl, rfl, c4, r4, rfl, rfl, hcl⟩ := hk
  refine ⟨A, kz, cz, nz, mz, ⟨r4, k32.K_len hcl, k32.K_one hcl⟩, rfl, fun j u hu => ?_, hgi.2.1, hgi.2.2.1⟩
  rw [Go.Deep.add_add]
  exact hcells j u hu
end Go.Proofs.Ytggcpbnlblbpjaa.H
