/- From the row's reading to the printed contracts': the kinds of what comes in. -/
import Derived.Test.YtggcpbnlblbpjaaPHistPlaysx0
import Derived.Test.YtggcpbnlblbpjaaFits
namespace Go.Proofs.Ytggcpbnlblbpjaa.HK
set_option linter.unusedVariables false
open Go Go.RowKit Go.Proofs.Ytggcpbnlblbpjaa.PHistPlays Go.Proofs.YtggcpbnlblbpjaaW.PrintWords Go.Proofs.Ytggcpbnlblbpjaa.F
theorem fInt : Fits Try.prog 3 (Kd.int .i64) (fun _ => True) := (fits_int Try.underlying3).mono fun _ _ => trivial
theorem fStr : Fits Try.prog 9 Kd.string (fun _ => True) := (fits_str Try.underlying9).mono fun _ _ => trivial
theorem fBool : Fits Try.prog 4 Kd.bool (fun _ => True) := (fits_bool Try.underlying4).mono fun _ _ => trivial
theorem f26 : Fits Try.prog 26 (Kd.int .u64) (fun _ => True) := (fits_int Try.underlying26).mono fun _ _ => trivial
theorem f35 : Fits Try.prog 35 (Kd.int .i64) (fun _ => True) := (fits_int Try.underlying35).mono fun _ _ => trivial
theorem f44 : Fits Try.prog 44 (Kd.slice 3 (Kd.int .i64)) (fun _ => True) := (fits_slice 0 Try.underlying44 (by kernel_rfl) fInt).mono fun _ _ => trivial
theorem f44l : Fits Try.prog 44 (Kd.slice 3 (Kd.int .i64)) (fun l => l.length ≤ maxLen) := (fits_slice 0 Try.underlying44 (by kernel_rfl) fInt).mono fun _ h => h.1
theorem f102 : Fits Try.prog 102 k102 (fun _ => True) :=
  (fits_iso (fun x : S102 => (x.f0, x.f1, x.f2)) (fun p => ⟨p.1, p.2.1, p.2.2⟩) (fun _ => rfl) (fits_struct (N := 3) Try.underlying102 (by kernel_rfl) (fitsF_cons (n1 := 1) rfl rfl (by kernel_rfl) fInt (fitsF_cons (n1 := 1) rfl rfl (by kernel_rfl) fInt (fitsF_last rfl rfl (by kernel_rfl) fInt))))).mono fun _ _ => trivial
theorem f104 : Fits Try.prog 104 k104 (fun _ => True) :=
  (fits_iso (fun x : S104 => (x.f0, x.f1)) (fun p => ⟨p.1, p.2⟩) (fun _ => rfl) (fits_struct (N := 2) Try.underlying104 (by kernel_rfl) (fitsF_cons (n1 := 1) rfl rfl (by kernel_rfl) fInt (fitsF_last rfl rfl (by kernel_rfl) fInt)))).mono fun _ _ => trivial
theorem f91 : Fits Try.prog 91 k91 (fun _ => True) :=
  (fits_iso (fun x : S91 => (x.f0, x.f1)) (fun p => ⟨p.1, p.2⟩) (fun _ => rfl) (fits_struct (N := 2) Try.underlying91 (by kernel_rfl) (fitsF_cons (n1 := 1) rfl rfl (by kernel_rfl) fStr (fitsF_last rfl rfl (by kernel_rfl) fStr)))).mono fun _ _ => trivial
theorem f27 : Fits Try.prog 27 (Kd.slice 91 k91) (fun _ => True) := (fits_slice z91 Try.underlying27 (by kernel_rfl) f91).mono fun _ _ => trivial
theorem f27l : Fits Try.prog 27 (Kd.slice 91 k91) (fun l => l.length ≤ maxLen) := (fits_slice z91 Try.underlying27 (by kernel_rfl) f91).mono fun _ h => h.1
theorem f106 : Fits Try.prog 106 k106 (fun _ => True) :=
  (fits_iso (fun x : S106 => (x.f0, x.f1, x.f2, x.f3, x.f4, x.f5)) (fun p => ⟨p.1, p.2.1, p.2.2.1, p.2.2.2.1, p.2.2.2.2.1, p.2.2.2.2.2⟩) (fun _ => rfl) (fits_struct (N := 11) Try.underlying106 (by kernel_rfl) (fitsF_cons (n1 := 1) rfl rfl (by kernel_rfl) fStr (fitsF_cons (n1 := 1) rfl rfl (by kernel_rfl) fStr (fitsF_cons (n1 := 3) rfl rfl (by kernel_rfl) f102 (fitsF_cons (n1 := 3) rfl rfl (by kernel_rfl) f102 (fitsF_cons (n1 := 1) rfl rfl (by kernel_rfl) f44 (fitsF_last rfl rfl (by kernel_rfl) f104)))))))).mono fun _ _ => trivial
theorem f28 : Fits Try.prog 28 (Kd.slice 106 k106) (fun _ => True) := (fits_slice z106 Try.underlying28 (by kernel_rfl) f106).mono fun _ _ => trivial
theorem f28l : Fits Try.prog 28 (Kd.slice 106 k106) (fun l => l.length ≤ maxLen) := (fits_slice z106 Try.underlying28 (by kernel_rfl) f106).mono fun _ h => h.1
theorem f30 : Fits Try.prog 30 k30 (fun _ => True) :=
  (fits_iso (fun x : S30 => (x.f0, x.f1, x.f2, x.f3, x.f4, x.f5, x.f6)) (fun p => ⟨p.1, p.2.1, p.2.2.1, p.2.2.2.1, p.2.2.2.2.1, p.2.2.2.2.2.1, p.2.2.2.2.2.2⟩) (fun _ => rfl) (fits_struct (N := 7) Try.underlying30 (by kernel_rfl) (fitsF_cons (n1 := 1) rfl rfl (by kernel_rfl) fStr (fitsF_cons (n1 := 1) rfl rfl (by kernel_rfl) f27 (fitsF_cons (n1 := 1) rfl rfl (by kernel_rfl) f28 (fitsF_cons (n1 := 1) rfl rfl (by kernel_rfl) f28 (fitsF_cons (n1 := 1) rfl rfl (by kernel_rfl) fInt (fitsF_cons (n1 := 1) rfl rfl (by kernel_rfl) fInt (fitsF_last rfl rfl (by kernel_rfl) fInt))))))))).mono fun _ _ => trivial
theorem f32 : Fits Try.prog 32 k32 (fun _ => True) :=
  (fits_iso (fun x : S32 => (x.f0, x.f1, x.f2, x.f3, x.f4, x.f5, x.f6, x.f7, x.f8, x.f9)) (fun p => ⟨p.1, p.2.1, p.2.2.1, p.2.2.2.1, p.2.2.2.2.1, p.2.2.2.2.2.1, p.2.2.2.2.2.2.1, p.2.2.2.2.2.2.2.1, p.2.2.2.2.2.2.2.2.1, p.2.2.2.2.2.2.2.2.2⟩) (fun _ => rfl) (fits_struct (N := 16) Try.underlying32 (by kernel_rfl) (fitsF_cons (n1 := 1) rfl rfl (by kernel_rfl) fInt (fitsF_cons (n1 := 1) rfl rfl (by kernel_rfl) fInt (fitsF_cons (n1 := 1) rfl rfl (by kernel_rfl) f26 (fitsF_cons (n1 := 7) rfl rfl (by kernel_rfl) f30 (fitsF_cons (n1 := 1) rfl rfl (by kernel_rfl) fInt (fitsF_cons (n1 := 1) rfl rfl (by kernel_rfl) fInt (fitsF_cons (n1 := 1) rfl rfl (by kernel_rfl) fInt (fitsF_cons (n1 := 1) rfl rfl (by kernel_rfl) fInt (fitsF_cons (n1 := 1) rfl rfl (by kernel_rfl) fStr (fitsF_last rfl rfl (by kernel_rfl) f27)))))))))))).mono fun _ _ => trivial
theorem f118 : Fits Try.prog 118 k118 (fun _ => True) :=
  (fits_iso (fun x : S118 => (x.f0, x.f1, x.f2, x.f3, x.f4, x.f5, x.f6)) (fun p => ⟨p.1, p.2.1, p.2.2.1, p.2.2.2.1, p.2.2.2.2.1, p.2.2.2.2.2.1, p.2.2.2.2.2.2⟩) (fun _ => rfl) (fits_struct (N := 13) Try.underlying118 (by kernel_rfl) (fitsF_cons (n1 := 1) rfl rfl (by kernel_rfl) fInt (fitsF_cons (n1 := 1) rfl rfl (by kernel_rfl) f26 (fitsF_cons (n1 := 7) rfl rfl (by kernel_rfl) f30 (fitsF_cons (n1 := 1) rfl rfl (by kernel_rfl) fInt (fitsF_cons (n1 := 1) rfl rfl (by kernel_rfl) f44 (fitsF_cons (n1 := 1) rfl rfl (by kernel_rfl) fInt (fitsF_last rfl rfl (by kernel_rfl) fInt))))))))).mono fun _ _ => trivial
theorem f39 : Fits Try.prog 39 (Kd.slice 118 k118) (fun _ => True) := (fits_slice z118 Try.underlying39 (by kernel_rfl) f118).mono fun _ _ => trivial
theorem f39l : Fits Try.prog 39 (Kd.slice 118 k118) (fun l => l.length ≤ maxLen) := (fits_slice z118 Try.underlying39 (by kernel_rfl) f118).mono fun _ h => h.1
theorem f40 : Fits Try.prog 40 (Kd.slice 102 k102) (fun _ => True) := (fits_slice z102 Try.underlying40 (by kernel_rfl) f102).mono fun _ _ => trivial
theorem f40l : Fits Try.prog 40 (Kd.slice 102 k102) (fun l => l.length ≤ maxLen) := (fits_slice z102 Try.underlying40 (by kernel_rfl) f102).mono fun _ h => h.1
theorem f42 : Fits Try.prog 42 k42 (fun _ => True) :=
  (fits_iso (fun x : S42 => (x.f0, x.f1, x.f2, x.f3, x.f4, x.f5, x.f6)) (fun p => ⟨p.1, p.2.1, p.2.2.1, p.2.2.2.1, p.2.2.2.2.1, p.2.2.2.2.2.1, p.2.2.2.2.2.2⟩) (fun _ => rfl) (fits_struct (N := 7) Try.underlying42 (by kernel_rfl) (fitsF_cons (n1 := 1) rfl rfl (by kernel_rfl) f35 (fitsF_cons (n1 := 1) rfl rfl (by kernel_rfl) fInt (fitsF_cons (n1 := 1) rfl rfl (by kernel_rfl) fInt (fitsF_cons (n1 := 1) rfl rfl (by kernel_rfl) f26 (fitsF_cons (n1 := 1) rfl rfl (by kernel_rfl) fStr (fitsF_cons (n1 := 1) rfl rfl (by kernel_rfl) f39 (fitsF_last rfl rfl (by kernel_rfl) f40))))))))).mono fun _ _ => trivial
theorem f59 : Fits Try.prog 59 k59 (fun _ => True) :=
  (fits_iso (fun x : S59 => (x.f0, x.f1, x.f2, x.f3, x.f4, x.f5, x.f6)) (fun p => ⟨p.1, p.2.1, p.2.2.1, p.2.2.2.1, p.2.2.2.2.1, p.2.2.2.2.2.1, p.2.2.2.2.2.2⟩) (fun _ => rfl) (fits_struct (N := 28) Try.underlying59 (by kernel_rfl) (fitsF_cons (n1 := 1) rfl rfl (by kernel_rfl) fInt (fitsF_cons (n1 := 1) rfl rfl (by kernel_rfl) fInt (fitsF_cons (n1 := 1) rfl rfl (by kernel_rfl) fInt (fitsF_cons (n1 := 1) rfl rfl (by kernel_rfl) fInt (fitsF_cons (n1 := 1) rfl rfl (by kernel_rfl) fInt (fitsF_cons (n1 := 16) rfl rfl (by kernel_rfl) f32 (fitsF_last rfl rfl (by kernel_rfl) f42))))))))).mono fun _ _ => trivial
theorem f51 : Fits Try.prog 51 (Kd.slice 59 k59) (fun _ => True) := (fits_slice z59 Try.underlying51 (by kernel_rfl) f59).mono fun _ _ => trivial
theorem f51l : Fits Try.prog 51 (Kd.slice 59 k59) (fun l => l.length ≤ maxLen) := (fits_slice z59 Try.underlying51 (by kernel_rfl) f59).mono fun _ h => h.1
end Go.Proofs.Ytggcpbnlblbpjaa.HK
