/- The walk of the law RevTexts: the text of any revision, and the revision of any text, are as the document has them. -/
import Derived.Test.YtpbcgfhhkfjbeaaRevParse2
namespace Go.Proofs.Ytpbcgfhhkfjbeaa.revTextsWalk
open Go.RowKit Go.Proofs.Ytpbcgfhhkfjbeaa.K Go.Proofs.Ytpbcgfhhkfjbeaa.R
set_option linter.unusedVariables false
theorem walk (a0 : Int) (a1 : ByteArray) (w : World) (w0 : (Lit.int .u64 a0).wf = true) (w1 : a1.size ≤ maxLen) :
    Calls Try.prog 5 #[.int .u64 a0, .string a1] w fun e w' => e = .returned (.bool true) ∧ Below w.heap.size w w' := by
  obtain ⟨b0, b1⟩ := bounds_u64 w0
  unfold maxLen at w1
  obtain ⟨m, rfl⟩ := Int.eq_ofNat_of_zero_le b0
  obtain ⟨v, hv⟩ : ∃ v, v = pv a1.data.toList := ⟨_, rfl⟩
  have HV := Lib.hid hv
  have hg : pv (txt m).data.toList = ((m : Int), true) := by
    have h : good (digU m) := good_digU m (by omega)
    show pv (digU m) = _
    rw [pv_good h, val_digU]
  have HG := Lib.hid hg
  clear w0 hv hg
  have hst : ((txt m).toList == (txt m).toList) = true := by simp
  go_enter Try.func5, Try.ntmps5
  go_wp2_with fail
  refine (Parse_any a1 _ w1).mono ?_
  rintro e w1 ⟨rfl, rfl⟩
  rw [← HV.out]
  go_wp2_with fail
  refine (RefParse_any a1 _ w1).mono ?_
  rintro e w1 ⟨rfl, hc⟩
  rw [← HV.out]
  have C1 := Lib.hid hc
  clear hc
  go_wp2_with fail
  refine (Text_any m _ (by omega)).mono ?_
  rintro e w2 ⟨rfl, hc⟩
  rw [txt_digs]
  have C2 := Lib.hid (C1.out.trans hc)
  clear hc
  go_wp2_with fail
  refine (Parse_any (txt m) _ (by have := txt_size (m := m) (by omega); omega)).mono ?_
  rintro e w3 ⟨rfl, rfl⟩
  rw [HG.out]
  go_wp2_with fail
  refine (Text_any m _ (by omega)).mono ?_
  rintro e w3 ⟨rfl, hc⟩
  rw [txt_digs]
  have C3 := Lib.hid (C2.out.trans hc)
  clear hc
  go_wp2_with fail
  refine (RefText_any (m + 1) _ _ b0 (by omega) (by omega)).mono ?_
  rintro e w4 ⟨rfl, hc⟩
  have C4 := Lib.hid (C3.out.trans hc)
  clear hc
  rw [Int.toNat_natCast]
  go_wp2_with fail
  refine (works_any _).mono ?_
  rintro e w5 ⟨rfl, hc⟩
  have C5 := Lib.hid (C4.out.trans hc)
  clear hc
  go_wp2_with fail
  go_ret
  exact ⟨rfl, C5.out.below0⟩
end Go.Proofs.Ytpbcgfhhkfjbeaa.revTextsWalk
