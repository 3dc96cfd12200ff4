/- From the row's reading to the printed contracts': the kinds of what comes in. -/
import Derived.Test.YtanlbnipbbjheaaPOrphanFindsx0
import Derived.Test.YtanlbnipbbjheaaFits
namespace Go.Proofs.Ytanlbnipbbjheaa.orphanKinds
set_option linter.unusedVariables false
open Go Go.RowKit Go.Proofs.Ytanlbnipbbjheaa.POrphanFinds Go.Proofs.YtanlbnipbbjheaaW.PrintWords Go.Proofs.Ytanlbnipbbjheaa.F
theorem fInt : Fits Try.prog 3 (Kd.int .i64) (fun _ => True) := (fits_int Try.underlying3).mono fun _ _ => trivial
theorem fStr : Fits Try.prog 9 Kd.string (fun _ => True) := (fits_str Try.underlying9).mono fun _ _ => trivial
theorem fBool : Fits Try.prog 4 Kd.bool (fun _ => True) := (fits_bool Try.underlying4).mono fun _ _ => trivial
theorem f106 : Fits Try.prog 106 k106 (fun _ => True) :=
  (fits_iso (fun x : S106 => (x.f0, x.f1, x.f2)) (fun p => ⟨p.1, p.2.1, p.2.2⟩) (fun _ => rfl) (fits_struct (N := 3) Try.underlying106 (by kernel_rfl) (fitsF_cons (n1 := 1) rfl rfl (by kernel_rfl) fInt (fitsF_cons (n1 := 1) rfl rfl (by kernel_rfl) fInt (fitsF_last rfl rfl (by kernel_rfl) fInt))))).mono fun _ _ => trivial
theorem f108 : Fits Try.prog 108 k108 (fun _ => True) :=
  (fits_iso (fun x : S108 => (x.f0, x.f1, x.f2, x.f3, x.f4)) (fun p => ⟨p.1, p.2.1, p.2.2.1, p.2.2.2.1, p.2.2.2.2⟩) (fun _ => rfl) (fits_struct (N := 7) Try.underlying108 (by kernel_rfl) (fitsF_cons (n1 := 1) rfl rfl (by kernel_rfl) fInt (fitsF_cons (n1 := 1) rfl rfl (by kernel_rfl) fStr (fitsF_cons (n1 := 1) rfl rfl (by kernel_rfl) fStr (fitsF_cons (n1 := 3) rfl rfl (by kernel_rfl) f106 (fitsF_last rfl rfl (by kernel_rfl) fBool))))))).mono fun _ _ => trivial
theorem f26 : Fits Try.prog 26 (Kd.slice 108 k108) (fun _ => True) := (fits_slice z108 Try.underlying26 (by kernel_rfl) f108).mono fun _ _ => trivial
theorem f26l : Fits Try.prog 26 (Kd.slice 108 k108) (fun l => l.length ≤ maxLen) := (fits_slice z108 Try.underlying26 (by kernel_rfl) f108).mono fun _ h => h.1
theorem f28 : Fits Try.prog 28 k28 (fun _ => True) :=
  (fits_iso (fun x : S28 => (x.f0, x.f1, x.f2, x.f3)) (fun p => ⟨p.1, p.2.1, p.2.2.1, p.2.2.2⟩) (fun _ => rfl) (fits_struct (N := 4) Try.underlying28 (by kernel_rfl) (fitsF_cons (n1 := 1) rfl rfl (by kernel_rfl) fInt (fitsF_cons (n1 := 1) rfl rfl (by kernel_rfl) fInt (fitsF_cons (n1 := 1) rfl rfl (by kernel_rfl) fInt (fitsF_last rfl rfl (by kernel_rfl) f26)))))).mono fun _ _ => trivial
theorem f22 : Fits Try.prog 22 (Kd.slice 28 k28) (fun _ => True) := (fits_slice z28 Try.underlying22 (by kernel_rfl) f28).mono fun _ _ => trivial
theorem f22l : Fits Try.prog 22 (Kd.slice 28 k28) (fun l => l.length ≤ maxLen) := (fits_slice z28 Try.underlying22 (by kernel_rfl) f28).mono fun _ h => h.1
theorem f23 : Fits Try.prog 23 (Kd.slice 3 (Kd.int .i64)) (fun _ => True) := (fits_slice 0 Try.underlying23 (by kernel_rfl) fInt).mono fun _ _ => trivial
theorem f23l : Fits Try.prog 23 (Kd.slice 3 (Kd.int .i64)) (fun l => l.length ≤ maxLen) := (fits_slice 0 Try.underlying23 (by kernel_rfl) fInt).mono fun _ h => h.1
end Go.Proofs.Ytanlbnipbbjheaa.orphanKinds
