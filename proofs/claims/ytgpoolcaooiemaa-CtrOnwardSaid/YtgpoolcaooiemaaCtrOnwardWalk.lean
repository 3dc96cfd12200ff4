/- The walk of the law CtrOnward: the printed contract, and what was proved of its answers. -/
import Derived.Test.YtgpoolcaooiemaaPureCtrOnward
import Derived.Test.YtgpoolcaooiemaaFits
namespace Go.Proofs.Ytgpoolcaooiemaa.ctrOnwardWalk
set_option linter.unusedVariables false
open Go Go.RowKit Go.Proofs.Ytgpoolcaooiemaa.PCtrOnward Go.Proofs.YtgpoolcaooiemaaW.PrintWords Go.Proofs.Ytgpoolcaooiemaa.F
theorem fit33 : Fits Try.prog 33 k33 (fun x => (Lit.int .i64 x.f0).wf = true ∧ (Lit.int .i64 x.f1).wf = true) :=
  fits_iso (fun x : S33 => (x.f0, x.f1)) (fun p => ⟨p.1, p.2⟩) (fun _ => rfl) (fits_struct (N := 2) Try.underlying33 (by kernel_rfl) (fitsF_cons (n1 := 1) rfl rfl (by kernel_rfl) (fits_int Try.underlying3) (fitsF_last rfl rfl (by kernel_rfl) (fits_int Try.underlying3))))
theorem fit (T : TypeId) (hT : Try.prog.underlying T = some (.slice 33)) : Fits Try.prog T (Kd.slice 33 k33) (fun l => l.length ≤ maxLen ∧ ∀ v ∈ l, (Lit.int .i64 v.f0).wf = true ∧ (Lit.int .i64 v.f1).wf = true) := fits_slice ⟨0, 0⟩ hT (by kernel_rfl) fit33
/-- What is told of the acts that come in. -/
def In (w : World) (a : Option Addr) (len cap : Nat) : Prop := ∃ l : List S33, l.length = len ∧ l.length ≤ cap ∧ Kd.C k33 w a l.length l ∧ (l.length ≤ maxLen ∧ ∀ v ∈ l, (Lit.int .i64 v.f0).wf = true ∧ (Lit.int .i64 v.f1).wf = true)
theorem walk (a0 : Option Addr) (len0 cap0 : Nat) (w : World) (w0 : In w a0 len0 cap0) :
    Calls Try.prog 5 #[.slice a0 len0 cap0] w fun e w' => e = .returned (.bool true) ∧ Below w.heap.size w w' := by
  obtain ⟨l, rfl, hc, hC, _⟩ := w0
  exact provostlaw19_CtrOnward.calls 1000 a0 cap0 l true w hC hc (PureOnward.CtrOnward l)
end Go.Proofs.Ytgpoolcaooiemaa.ctrOnwardWalk
