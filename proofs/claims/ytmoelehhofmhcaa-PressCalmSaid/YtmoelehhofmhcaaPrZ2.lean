/- The walk of the law PressCalm. -/
import Derived.Test.YtmoelehhofmhcaaPrZ
namespace Go.Proofs.Ytmoelehhofmhcaa.V
open Go Go.RowKit Go.Proofs.Ytmoelehhofmhcaa.K Go.Proofs.YtmoelehhofmhcaaW.PrintLast
set_option linter.unusedVariables false
set_option linter.unusedSimpArgs false
set_option maxRecDepth 100000
set_option maxHeartbeats 1600000
section
variable {w : World}
noncomputable def codecalmB : Code := (sndC (sndC (sndC (sndC (sndC (sndC (sndC (bodyOf Try.f5.body))))))))
theorem calmB {w : World} {A : Option Addr} {z : Nat} {L : List HL} {lr : HL → Bool} {m pc : Int} {Q : Exit → Act → World → Prop} (hQ : ∀ e a w', bodyPost Try.prog Try.f5 (fun en w' => en = .returned (.bool true) ∧ Ch [] w w') e a w' → Q e a w') (hP : ∀ c a d v w, Q (.panic c) (a.put d v) w → Q (.panic c) a w) (a' : Act) (w' : World) (h : (fun (a' : Act) (w' : World) => ∃ (Ax : Option Addr), ∃ (cx : Nat), ∃ (F : HC → List R3 × List R3 × Int), ∃ (vu : Int), ∃ (vb : Bool), ∃ (sh : Bool), ∃ (us : Nat → Value), a' = ⟨#[.slice A L.length z, us 1, .int .i64 pc, us 3, us 4, us 5, .bool false, .slice Ax L.length cx, .int .i64 vu, .bool vb, .bool sh, us 11, us 12, us 13, us 14, us 15, us 16, us 17, us 18, us 19, us 20, us 21, us 22, us 23, us 24, us 25, us 26, us 27, us 28, us 29, us 30, us 31, us 32, us 33, us 34, us 35, us 36, us 37, us 38, us 39, us 40, us 41, us 42, us 43, us 44, us 45, us 46, us 47, us 48, us 49, us 50, us 51, us 52, us 53, us 54, us 55, us 56, us 57, us 58, us 59, us 60, us 61, us 62, us 63, us 64, us 65, us 66, us 67, us 68, us 69, us 70, us 71, us 72, us 73, us 74, us 75, us 76, us 77, us 78, us 79, us 80, us 81, us 82, us 83, us 84, us 85, us 86, us 87, us 88, us 89, us 90, us 91, us 92, us 93, us 94, us 95, us 96, us 97, us 98, us 99, us 100, us 101, us 102, us 103, us 104, us 105, us 106, us 107, us 108, us 109, us 110, us 111, us 112, us 113, us 114], []⟩ ∧ Hid (Ch [] w w') ∧ Hid (SrcIs w' (.slice A L.length z) (L.length) ((L).flatMap loadC) 16) ∧ Hid (OwnS w' w.heap.size 56 16 (.slice Ax L.length cx) (L.length) (L.flatMap loadC)) ∧ Hid (RightP L lr) ∧ Hid (SmallZ m) ∧ Hid (∀ x ∈ L, SmallL x) ∧ Hid (CmpOk w (candsOf L) (czF F)) ∧ Hid (SmallZ (sumZ L).2.1) ∧ Hid (vicP (czF F) L m pc = (vu, vb)) ∧ Hid (sh = decide ((sumZ L).2.1 > limZ m pc))) a' w') : codecalmB.wp Try.prog Q a' w' := by
 unfold codecalmB; dsimp only [sndC, fstC, bodyOf, Try.f5]
 obtain ⟨Ax, cx, F, vu, vb, sh, us, rfl, C0, SL, OX, HRP, HM, HSM, HCM, HSS, HV, HSH⟩ := h
 refine s_ (fun K1 hK1 => ?_)
 refine pu_ (v := .bool false) (y_assign rfl (by rfl) (by rfl)) ?_
 (try simp only [zP, zN, zA, zB, zC])
 refine nl_ (hK1 _ _ ?_); clear hK1 K1
 refine s_ (fun K2 hK2 => ?_)
 refine pu_ (v := .bool false) (y_assign rfl (by rfl) (by rfl)) ?_
 (try simp only [zP, zN, zA, zB, zC])
 refine nl_ (hK2 _ _ ?_); clear hK2 K2
 refine sq_ (fun K3 hK3 => ?_)
 refine s_ (fun K4 hK4 => ?_)
 refine pu_ (v := .int .i64 0) (y_assign rfl (by rfl) (by rfl)) ?_
 (try simp only [zP, zN, zA, zB, zC])
 refine nl_ (hK4 _ _ ?_); clear hK4 K4
 refine wp_block ?_
 refine loopk_ (fun (kq : Nat) (a' : Act) (w' : World) => ∃ (k : Nat), ∃ (f : Bool), ∃ (g : Bool), ∃ (us : Nat → Value), a' = ⟨#[.slice A L.length z, us 1, .int .i64 pc, us 3, us 4, us 5, .bool false, .slice Ax L.length cx, .int .i64 vu, .bool vb, .bool sh, .bool f, .bool g, .int .i64 k, us 14, us 15, us 16, us 17, us 18, us 19, us 20, us 21, us 22, us 23, us 24, us 25, us 26, us 27, us 28, us 29, us 30, us 31, us 32, us 33, us 34, us 35, us 36, us 37, us 38, us 39, us 40, us 41, us 42, us 43, us 44, us 45, us 46, us 47, us 48, us 49, us 50, us 51, us 52, us 53, us 54, us 55, us 56, us 57, us 58, us 59, us 60, us 61, us 62, us 63, us 64, us 65, us 66, us 67, us 68, us 69, us 70, us 71, us 72, us 73, us 74, us 75, us 76, us 77, us 78, us 79, us 80, us 81, us 82, us 83, us 84, us 85, us 86, us 87, us 88, us 89, us 90, us 91, us 92, us 93, us 94, us 95, us 96, us 97, us 98, us 99, us 100, us 101, us 102, us 103, us 104, us 105, us 106, us 107, us 108, us 109, us 110, us 111, us 112, us 113, us 114], []⟩ ∧ Hid (Ch [] w w') ∧ Hid (SrcIs w' (.slice A L.length z) (L.length) ((L).flatMap loadC) 16) ∧ Hid (OwnS w' w.heap.size 56 16 (.slice Ax L.length cx) (L.length) (L.flatMap loadC)) ∧ Hid (k ≤ L.length ∧ kq + k = L.length) ∧ Hid (foundB (L.take k) vu = f) ∧ Hid (someB (L.take k) = g)) (L.length) (⟨0, false, false, fun us_ => (#[.slice A L.length z, us 1, .int .i64 pc, us 3, us 4, us 5, .bool false, .slice Ax L.length cx, .int .i64 vu, .bool vb, .bool sh, .bool false, .bool false, .int .i64 0, us 14, us 15, us 16, us 17, us 18, us 19, us 20, us 21, us 22, us 23, us 24, us 25, us 26, us 27, us 28, us 29, us 30, us 31, us 32, us 33, us 34, us 35, us 36, us 37, us 38, us 39, us 40, us 41, us 42, us 43, us 44, us 45, us 46, us 47, us 48, us 49, us 50, us 51, us 52, us 53, us 54, us 55, us 56, us 57, us 58, us 59, us 60, us 61, us 62, us 63, us 64, us 65, us 66, us 67, us 68, us 69, us 70, us 71, us 72, us 73, us 74, us 75, us 76, us 77, us 78, us 79, us 80, us 81, us 82, us 83, us 84, us 85, us 86, us 87, us 88, us 89, us 90, us 91, us 92, us 93, us 94, us 95, us 96, us 97, us 98, us 99, us 100, us 101, us 102, us 103, us 104, us 105, us 106, us 107, us 108, us 109, us 110, us 111, us 112, us 113, us 114] : Array Value).getD us_ undef, rfl, C0, SL, OX, Lib.hid ⟨by omega, by omega⟩, Lib.hid rfl, Lib.hid rfl⟩) ?_
 rintro kq _ w5 ⟨k, f, g, us, rfl, C0, SL, OX, hk, hf, hg⟩ K6 hK6
 refine sq_ (fun K7 hK7 => ?_)
 rcases at_ways' hk.out.1 with ⟨x, ho0, hlt0⟩ | h; cases f <;> cases g <;> rcases (show (x.ph = 2 ∧ x.mrk = 0 ∧ x.uid = vu) ∨ (x.ph = 2 ∧ x.mrk = 0 ∧ x.uid ≠ vu) ∨ (x.ph = 2 ∧ x.mrk ≠ 0) ∨ x.ph ≠ 2 by omega) with h | h | h | h
 ·have hlt := Lib.hid hlt0
  have ho := Lib.hid ho0
  have HH := Lib.hid h
  clear hlt0 ho0 h
  obtain ⟨a, hsm_a⟩ := src_some SL.out (by have := hlt.out; omega)
  subst hsm_a
  have D48 := Lib.hid (show (k : Int) < (L.length : Int) by have := hlt.out; omega)
  have Wk := Lib.hid (show IntKind.i64.wrap ((k : Int) + 1) = ((k + 1 : Nat) : Int) by rw [wr64 (by have := hlt.out; have h7 := HRP.out.1; omega)]; omega)
  have D57 := Lib.hid (show (x.ph == 2) = true from beq_iff_eq.2 HH.out.1)
  have D65 := Lib.hid (show (x.mrk == 0) = true from beq_iff_eq.2 HH.out.2.1)
  have HIC := Lib.hid (show isCand x = true from by unfold isCand; rw [D57.out, D65.out]; rfl)
  have HU := Lib.hid (show (x.uid == vu) = true from beq_iff_eq.2 HH.out.2.2)
  refine s_ (fun K8 hK8 => ?_)
  refine pu_ (v := .int .i64 k) (y_move rfl (by rfl) (by rfl)) ?_
  (try simp only [zP, zN, zA, zB, zC])
  refine pu_ (v := .slice (some a) L.length z) (y_move rfl (by rfl) (by rfl)) ?_
  (try simp only [zP, zN, zA, zB, zC])
  refine pu_ (v := .int .i64 L.length) (y_run (by rfl) (fun W => by go_simp)) ?_
  (try simp only [zP, zN, zA, zB, zC])
  refine pu_ (v := .bool true) (y_run (by rfl) (fun W => by have d := D48.out; go_simp)) ?_
  (try simp only [zP, zN, zA, zB, zC])
  refine nl_ (hK8 _ _ ?_); clear hK8 K8
  refine wp_cond_true rfl ?_
  refine wp_skip ?_
  refine th_norm (hK7 _ _ ?_); try clear hK7 K7
  refine sq_ (fun K9 hK9 => ?_)
  refine wp_block ?_
  refine s_ (fun K10 hK10 => ?_)
  refine pu_ (v := .slice (some a) L.length z) (y_move rfl (by rfl) (by rfl)) ?_
  (try simp only [zP, zN, zA, zB, zC])
  refine pu_ (v := .int .i64 k) (y_move rfl (by rfl) (by rfl)) ?_
  (try simp only [zP, zN, zA, zB, zC])
  refine pu_ (v := .pointer (some (a.add (k * 16)))) (y_run (by rfl) (fun W => by have d := D48.out; go_simp)) ?_
  (try simp only [zP, zN, zA, zB, zC])
  refine pu_ (v := .pointer (some (a.add (k * 16)))) (y_run (by rfl) (fun W => by go_simp)) ?_
  (try simp only [zP, zN, zA, zB, zC])
  refine pu_ (v := .pointer (some ((a.add (k * 16)).add 9))) (y_run (by rfl) (fun W => by go_simp)) ?_
  (try simp only [zP, zN, zA, zB, zC])
  refine ld_ (v := .int .i64 x.ph) rfl (by rfl) (by rfl) (run_load_one ((src_at loadC_len SL.out ho.out) 9 _ (load_9 x)) Try.underlying3 rfl) ?_
  (try simp only [zP, zN, zA, zB, zC])
  refine pu_ (v := .bool true) (y_run (by rfl) (fun W => by have d := D57.out; go_simp)) ?_
  (try simp only [zP, zN, zA, zB, zC])
  refine pu_ (v := .bool true) (y_move rfl (by rfl) (by rfl)) ?_
  (try simp only [zP, zN, zA, zB, zC])
  refine pu_ (v := .slice (some a) L.length z) (y_move rfl (by rfl) (by rfl)) ?_
  (try simp only [zP, zN, zA, zB, zC])
  refine pu_ (v := .int .i64 k) (y_move rfl (by rfl) (by rfl)) ?_
  (try simp only [zP, zN, zA, zB, zC])
  refine pu_ (v := .pointer (some (a.add (k * 16)))) (y_run (by rfl) (fun W => by have d := D48.out; go_simp)) ?_
  (try simp only [zP, zN, zA, zB, zC])
  refine pu_ (v := .pointer (some (a.add (k * 16)))) (y_run (by rfl) (fun W => by go_simp)) ?_
  (try simp only [zP, zN, zA, zB, zC])
  refine pu_ (v := .pointer (some ((a.add (k * 16)).add 11))) (y_run (by rfl) (fun W => by go_simp)) ?_
  (try simp only [zP, zN, zA, zB, zC])
  refine ld_ (v := .int .i64 x.mrk) rfl (by rfl) (by rfl) (run_load_one ((src_at loadC_len SL.out ho.out) 11 _ (load_11 x)) Try.underlying3 rfl) ?_
  (try simp only [zP, zN, zA, zB, zC])
  refine pu_ (v := .bool true) (y_run (by rfl) (fun W => by have d := D65.out; go_simp)) ?_
  (try simp only [zP, zN, zA, zB, zC])
  refine pu_ (v := .bool true) (y_pick (t := true) (by rfl) rfl (by rfl) (by rfl)) ?_
  (try simp only [zP, zN, zA, zB, zC])
  refine pu_ (v := .bool true) (y_assign rfl (by rfl) (by rfl)) ?_
  (try simp only [zP, zN, zA, zB, zC])
  refine nl_ (hK10 _ _ ?_); clear hK10 K10
  refine s_ (fun K11 hK11 => ?_)
  refine pu_ (v := .bool false) (y_move rfl (by rfl) (by rfl)) ?_
  (try simp only [zP, zN, zA, zB, zC])
  refine pu_ (v := .bool false) (y_move rfl (by rfl) (by rfl)) ?_
  (try simp only [zP, zN, zA, zB, zC])
  refine pu_ (v := .bool true) (y_move rfl (by rfl) (by rfl)) ?_
  (try simp only [zP, zN, zA, zB, zC])
  refine pu_ (v := .bool true) (y_pick (t := false) (by rfl) rfl (by rfl) (by rfl)) ?_
  (try simp only [zP, zN, zA, zB, zC])
  refine pu_ (v := .bool true) (y_assign rfl (by rfl) (by rfl)) ?_
  (try simp only [zP, zN, zA, zB, zC])
  refine nl_ (hK11 _ _ ?_); clear hK11 K11
  refine r_ ?_
  refine pu_ (v := .bool false) (y_move rfl (by rfl) (by rfl)) ?_
  (try simp only [zP, zN, zA, zB, zC])
  refine pu_ (v := .bool false) (y_move rfl (by rfl) (by rfl)) ?_
  (try simp only [zP, zN, zA, zB, zC])
  refine pu_ (v := .bool true) (y_move rfl (by rfl) (by rfl)) ?_
  (try simp only [zP, zN, zA, zB, zC])
  refine pu_ (v := .bool true) (y_move rfl (by rfl) (by rfl)) ?_
  (try simp only [zP, zN, zA, zB, zC])
  refine pu_ (v := .slice (some a) L.length z) (y_move rfl (by rfl) (by rfl)) ?_
  (try simp only [zP, zN, zA, zB, zC])
  refine pu_ (v := .int .i64 k) (y_move rfl (by rfl) (by rfl)) ?_
  (try simp only [zP, zN, zA, zB, zC])
  refine pu_ (v := .pointer (some (a.add (k * 16)))) (y_run (by rfl) (fun W => by have d := D48.out; go_simp)) ?_
  (try simp only [zP, zN, zA, zB, zC])
  refine pu_ (v := .pointer (some (a.add (k * 16)))) (y_run (by rfl) (fun W => by go_simp)) ?_
  (try simp only [zP, zN, zA, zB, zC])
  refine pu_ (v := .pointer (some (a.add (k * 16)))) (y_run (by rfl) (fun W => by go_simp)) ?_
  (try simp only [zP, zN, zA, zB, zC])
  refine ld_ (v := .int .i64 x.uid) rfl (by rfl) (by rfl) (run_load_one (by have h9 := (src_at loadC_len SL.out ho.out) 0 _ (load_0 x); simpa [Addr.add] using h9) Try.underlying3 rfl) ?_
  (try simp only [zP, zN, zA, zB, zC])
  refine pu_ (v := .int .i64 vu) (y_move rfl (by rfl) (by rfl)) ?_
  (try simp only [zP, zN, zA, zB, zC])
  refine pu_ (v := .bool true) (y_run (by rfl) (fun W => by have d := HU.out; go_simp)) ?_
  (try simp only [zP, zN, zA, zB, zC])
  refine pu_ (v := .bool true) (y_pick (t := true) (by rfl) rfl (by rfl) (by rfl)) ?_
  (try simp only [zP, zN, zA, zB, zC])
  refine pu_ (v := .bool true) (y_pick (t := false) (by rfl) rfl (by rfl) (by rfl)) ?_
  (try simp only [zP, zN, zA, zB, zC])
  refine pu_ (v := .bool true) (y_assign rfl (by rfl) (by rfl)) ?_
  (try simp only [zP, zN, zA, zB, zC])
  refine nl_ ?_
  refine ib_norm ?_
  refine th_norm (hK9 _ _ ?_); try clear hK9 K9
  refine r_ ?_
  refine pu_ (v := .int .i64 k) (y_move rfl (by rfl) (by rfl)) ?_
  (try simp only [zP, zN, zA, zB, zC])
  refine pu_ (v := .int .i64 (k + 1 : Nat)) (y_run (by rfl) (fun W => by have d := Wk.out; go_simp)) ?_
  (try simp only [zP, zN, zA, zB, zC])
  refine pu_ (v := .int .i64 (k + 1 : Nat)) (y_assign rfl (by rfl) (by rfl)) ?_
  (try simp only [zP, zN, zA, zB, zC])
  refine nl_ ?_
  exact th_norm (hK6 (kq - 1) _ _ (by have := hlt.out; have := hk.out; omega) ⟨k + 1, true, true, fun us_ => (#[.slice (some a) L.length z, us 1, .int .i64 pc, us 3, us 4, us 5, .bool false, .slice Ax L.length cx, .int .i64 vu, .bool vb, .bool sh, .bool true, .bool true, .int .i64 (k + 1 : Nat), .bool true, us 15, us 16, us 17, us 18, us 19, us 20, us 21, us 22, us 23, us 24, us 25, us 26, us 27, us 28, us 29, us 30, us 31, us 32, us 33, us 34, us 35, us 36, us 37, us 38, us 39, us 40, us 41, us 42, us 43, us 44, .int .i64 k, .slice (some a) L.length z, .int .i64 L.length, .bool true, .int .i64 k, .int .i64 (k + 1 : Nat), .slice (some a) L.length z, .int .i64 k, .pointer (some (a.add (k * 16))), .pointer (some (a.add (k * 16))), .pointer (some ((a.add (k * 16)).add 9)), .int .i64 x.ph, .bool true, .bool true, .slice (some a) L.length z, .int .i64 k, .pointer (some (a.add (k * 16))), .pointer (some (a.add (k * 16))), .pointer (some ((a.add (k * 16)).add 11)), .int .i64 x.mrk, .bool true, .bool true, .bool false, .bool false, .bool true, .bool true, .bool false, .bool false, .bool true, .bool true, .slice (some a) L.length z, .int .i64 k, .pointer (some (a.add (k * 16))), .pointer (some (a.add (k * 16))), .pointer (some (a.add (k * 16))), .int .i64 x.uid, .int .i64 vu, .bool true, .bool true, .bool true, us 85, us 86, us 87, us 88, us 89, us 90, us 91, us 92, us 93, us 94, us 95, us 96, us 97, us 98, us 99, us 100, us 101, us 102, us 103, us 104, us 105, us 106, us 107, us 108, us 109, us 110, us 111, us 112, us 113, us 114] : Array Value).getD us_ undef, rfl, C0, SL, OX, Lib.hid ⟨by have := hlt.out; omega, by have := hlt.out; have := hk.out; omega⟩, Lib.hid (by rw [found_up ho.out, hf.out, HIC.out, HU.out]; rfl), Lib.hid (by rw [some_up ho.out, hg.out, HIC.out]; rfl)⟩)
 ·have hlt := Lib.hid hlt0
  have ho := Lib.hid ho0
  have HH := Lib.hid h
  clear hlt0 ho0 h
  obtain ⟨a, hsm_a⟩ := src_some SL.out (by have := hlt.out; omega)
  subst hsm_a
  have D48 := Lib.hid (show (k : Int) < (L.length : Int) by have := hlt.out; omega)
  have Wk := Lib.hid (show IntKind.i64.wrap ((k : Int) + 1) = ((k + 1 : Nat) : Int) by rw [wr64 (by have := hlt.out; have h7 := HRP.out.1; omega)]; omega)
  have D57 := Lib.hid (show (x.ph == 2) = true from beq_iff_eq.2 HH.out.1)
  have D65 := Lib.hid (show (x.mrk == 0) = true from beq_iff_eq.2 HH.out.2.1)
  have HIC := Lib.hid (show isCand x = true from by unfold isCand; rw [D57.out, D65.out]; rfl)
  have HU := Lib.hid (show (x.uid == vu) = false from beq_eq_false_iff_ne.2 HH.out.2.2)
  refine s_ (fun K12 hK12 => ?_)
  refine pu_ (v := .int .i64 k) (y_move rfl (by rfl) (by rfl)) ?_
  (try simp only [zP, zN, zA, zB, zC])
  refine pu_ (v := .slice (some a) L.length z) (y_move rfl (by rfl) (by rfl)) ?_
  (try simp only [zP, zN, zA, zB, zC])
  refine pu_ (v := .int .i64 L.length) (y_run (by rfl) (fun W => by go_simp)) ?_
  (try simp only [zP, zN, zA, zB, zC])
  refine pu_ (v := .bool true) (y_run (by rfl) (fun W => by have d := D48.out; go_simp)) ?_
  (try simp only [zP, zN, zA, zB, zC])
  refine nl_ (hK12 _ _ ?_); clear hK12 K12
  refine wp_cond_true rfl ?_
  refine wp_skip ?_
  refine th_norm (hK7 _ _ ?_); try clear hK7 K7
  refine sq_ (fun K13 hK13 => ?_)
  refine wp_block ?_
  refine s_ (fun K14 hK14 => ?_)
  refine pu_ (v := .slice (some a) L.length z) (y_move rfl (by rfl) (by rfl)) ?_
  (try simp only [zP, zN, zA, zB, zC])
  refine pu_ (v := .int .i64 k) (y_move rfl (by rfl) (by rfl)) ?_
  (try simp only [zP, zN, zA, zB, zC])
  refine pu_ (v := .pointer (some (a.add (k * 16)))) (y_run (by rfl) (fun W => by have d := D48.out; go_simp)) ?_
  (try simp only [zP, zN, zA, zB, zC])
  refine pu_ (v := .pointer (some (a.add (k * 16)))) (y_run (by rfl) (fun W => by go_simp)) ?_
  (try simp only [zP, zN, zA, zB, zC])
  refine pu_ (v := .pointer (some ((a.add (k * 16)).add 9))) (y_run (by rfl) (fun W => by go_simp)) ?_
  (try simp only [zP, zN, zA, zB, zC])
  refine ld_ (v := .int .i64 x.ph) rfl (by rfl) (by rfl) (run_load_one ((src_at loadC_len SL.out ho.out) 9 _ (load_9 x)) Try.underlying3 rfl) ?_
  (try simp only [zP, zN, zA, zB, zC])
  refine pu_ (v := .bool true) (y_run (by rfl) (fun W => by have d := D57.out; go_simp)) ?_
  (try simp only [zP, zN, zA, zB, zC])
  refine pu_ (v := .bool true) (y_move rfl (by rfl) (by rfl)) ?_
  (try simp only [zP, zN, zA, zB, zC])
  refine pu_ (v := .slice (some a) L.length z) (y_move rfl (by rfl) (by rfl)) ?_
  (try simp only [zP, zN, zA, zB, zC])
  refine pu_ (v := .int .i64 k) (y_move rfl (by rfl) (by rfl)) ?_
  (try simp only [zP, zN, zA, zB, zC])
  refine pu_ (v := .pointer (some (a.add (k * 16)))) (y_run (by rfl) (fun W => by have d := D48.out; go_simp)) ?_
  (try simp only [zP, zN, zA, zB, zC])
  refine pu_ (v := .pointer (some (a.add (k * 16)))) (y_run (by rfl) (fun W => by go_simp)) ?_
  (try simp only [zP, zN, zA, zB, zC])
  refine pu_ (v := .pointer (some ((a.add (k * 16)).add 11))) (y_run (by rfl) (fun W => by go_simp)) ?_
  (try simp only [zP, zN, zA, zB, zC])
  refine ld_ (v := .int .i64 x.mrk) rfl (by rfl) (by rfl) (run_load_one ((src_at loadC_len SL.out ho.out) 11 _ (load_11 x)) Try.underlying3 rfl) ?_
  (try simp only [zP, zN, zA, zB, zC])
  refine pu_ (v := .bool true) (y_run (by rfl) (fun W => by have d := D65.out; go_simp)) ?_
  (try simp only [zP, zN, zA, zB, zC])
  refine pu_ (v := .bool true) (y_pick (t := true) (by rfl) rfl (by rfl) (by rfl)) ?_
  (try simp only [zP, zN, zA, zB, zC])
  refine pu_ (v := .bool true) (y_assign rfl (by rfl) (by rfl)) ?_
  (try simp only [zP, zN, zA, zB, zC])
  refine nl_ (hK14 _ _ ?_); clear hK14 K14
  refine s_ (fun K15 hK15 => ?_)
  refine pu_ (v := .bool false) (y_move rfl (by rfl) (by rfl)) ?_
  (try simp only [zP, zN, zA, zB, zC])
  refine pu_ (v := .bool false) (y_move rfl (by rfl) (by rfl)) ?_
  (try simp only [zP, zN, zA, zB, zC])
  refine pu_ (v := .bool true) (y_move rfl (by rfl) (by rfl)) ?_
  (try simp only [zP, zN, zA, zB, zC])
  refine pu_ (v := .bool true) (y_pick (t := false) (by rfl) rfl (by rfl) (by rfl)) ?_
  (try simp only [zP, zN, zA, zB, zC])
  refine pu_ (v := .bool true) (y_assign rfl (by rfl) (by rfl)) ?_
  (try simp only [zP, zN, zA, zB, zC])
  refine nl_ (hK15 _ _ ?_); clear hK15 K15
  refine r_ ?_
  refine pu_ (v := .bool false) (y_move rfl (by rfl) (by rfl)) ?_
  (try simp only [zP, zN, zA, zB, zC])
  refine pu_ (v := .bool false) (y_move rfl (by rfl) (by rfl)) ?_
  (try simp only [zP, zN, zA, zB, zC])
  refine pu_ (v := .bool true) (y_move rfl (by rfl) (by rfl)) ?_
  (try simp only [zP, zN, zA, zB, zC])
  refine pu_ (v := .bool true) (y_move rfl (by rfl) (by rfl)) ?_
  (try simp only [zP, zN, zA, zB, zC])
  refine pu_ (v := .slice (some a) L.length z) (y_move rfl (by rfl) (by rfl)) ?_
  (try simp only [zP, zN, zA, zB, zC])
  refine pu_ (v := .int .i64 k) (y_move rfl (by rfl) (by rfl)) ?_
  (try simp only [zP, zN, zA, zB, zC])
  refine pu_ (v := .pointer (some (a.add (k * 16)))) (y_run (by rfl) (fun W => by have d := D48.out; go_simp)) ?_
  (try simp only [zP, zN, zA, zB, zC])
  refine pu_ (v := .pointer (some (a.add (k * 16)))) (y_run (by rfl) (fun W => by go_simp)) ?_
  (try simp only [zP, zN, zA, zB, zC])
  refine pu_ (v := .pointer (some (a.add (k * 16)))) (y_run (by rfl) (fun W => by go_simp)) ?_
  (try simp only [zP, zN, zA, zB, zC])
  refine ld_ (v := .int .i64 x.uid) rfl (by rfl) (by rfl) (run_load_one (by have h9 := (src_at loadC_len SL.out ho.out) 0 _ (load_0 x); simpa [Addr.add] using h9) Try.underlying3 rfl) ?_
  (try simp only [zP, zN, zA, zB, zC])
  refine pu_ (v := .int .i64 vu) (y_move rfl (by rfl) (by rfl)) ?_
  (try simp only [zP, zN, zA, zB, zC])
  refine pu_ (v := .bool false) (y_run (by rfl) (fun W => by have d := HU.out; go_simp)) ?_
  (try simp only [zP, zN, zA, zB, zC])
  refine pu_ (v := .bool false) (y_pick (t := true) (by rfl) rfl (by rfl) (by rfl)) ?_
  (try simp only [zP, zN, zA, zB, zC])
  refine pu_ (v := .bool false) (y_pick (t := false) (by rfl) rfl (by rfl) (by rfl)) ?_
  (try simp only [zP, zN, zA, zB, zC])
  refine pu_ (v := .bool false) (y_assign rfl (by rfl) (by rfl)) ?_
  (try simp only [zP, zN, zA, zB, zC])
  refine nl_ ?_
  refine ib_norm ?_
  refine th_norm (hK13 _ _ ?_); try clear hK13 K13
  refine r_ ?_
  refine pu_ (v := .int .i64 k) (y_move rfl (by rfl) (by rfl)) ?_
  (try simp only [zP, zN, zA, zB, zC])
  refine pu_ (v := .int .i64 (k + 1 : Nat)) (y_run (by rfl) (fun W => by have d := Wk.out; go_simp)) ?_
  (try simp only [zP, zN, zA, zB, zC])
  refine pu_ (v := .int .i64 (k + 1 : Nat)) (y_assign rfl (by rfl) (by rfl)) ?_
  (try simp only [zP, zN, zA, zB, zC])
  refine nl_ ?_
  exact th_norm (hK6 (kq - 1) _ _ (by have := hlt.out; have := hk.out; omega) ⟨k + 1, false, true, fun us_ => (#[.slice (some a) L.length z, us 1, .int .i64 pc, us 3, us 4, us 5, .bool false, .slice Ax L.length cx, .int .i64 vu, .bool vb, .bool sh, .bool false, .bool true, .int .i64 (k + 1 : Nat), .bool true, us 15, us 16, us 17, us 18, us 19, us 20, us 21, us 22, us 23, us 24, us 25, us 26, us 27, us 28, us 29, us 30, us 31, us 32, us 33, us 34, us 35, us 36, us 37, us 38, us 39, us 40, us 41, us 42, us 43, us 44, .int .i64 k, .slice (some a) L.length z, .int .i64 L.length, .bool true, .int .i64 k, .int .i64 (k + 1 : Nat), .slice (some a) L.length z, .int .i64 k, .pointer (some (a.add (k * 16))), .pointer (some (a.add (k * 16))), .pointer (some ((a.add (k * 16)).add 9)), .int .i64 x.ph, .bool true, .bool true, .slice (some a) L.length z, .int .i64 k, .pointer (some (a.add (k * 16))), .pointer (some (a.add (k * 16))), .pointer (some ((a.add (k * 16)).add 11)), .int .i64 x.mrk, .bool true, .bool true, .bool false, .bool false, .bool true, .bool true, .bool false, .bool false, .bool true, .bool true, .slice (some a) L.length z, .int .i64 k, .pointer (some (a.add (k * 16))), .pointer (some (a.add (k * 16))), .pointer (some (a.add (k * 16))), .int .i64 x.uid, .int .i64 vu, .bool false, .bool false, .bool false, us 85, us 86, us 87, us 88, us 89, us 90, us 91, us 92, us 93, us 94, us 95, us 96, us 97, us 98, us 99, us 100, us 101, us 102, us 103, us 104, us 105, us 106, us 107, us 108, us 109, us 110, us 111, us 112, us 113, us 114] : Array Value).getD us_ undef, rfl, C0, SL, OX, Lib.hid ⟨by have := hlt.out; omega, by have := hlt.out; have := hk.out; omega⟩, Lib.hid (by rw [found_up ho.out, hf.out, HIC.out, HU.out]; rfl), Lib.hid (by rw [some_up ho.out, hg.out, HIC.out]; rfl)⟩)
 ·have hlt := Lib.hid hlt0
  have ho := Lib.hid ho0
  have HH := Lib.hid h
  clear hlt0 ho0 h
  obtain ⟨a, hsm_a⟩ := src_some SL.out (by have := hlt.out; omega)
  subst hsm_a
  have D48 := Lib.hid (show (k : Int) < (L.length : Int) by have := hlt.out; omega)
  have Wk := Lib.hid (show IntKind.i64.wrap ((k : Int) + 1) = ((k + 1 : Nat) : Int) by rw [wr64 (by have := hlt.out; have h7 := HRP.out.1; omega)]; omega)
  have D57 := Lib.hid (show (x.ph == 2) = true from beq_iff_eq.2 HH.out.1)
  have D65 := Lib.hid (show (x.mrk == 0) = false from beq_eq_false_iff_ne.2 HH.out.2)
  have HIC := Lib.hid (show isCand x = false from by unfold isCand; rw [D57.out, D65.out]; rfl)
  refine s_ (fun K16 hK16 => ?_)
  refine pu_ (v := .int .i64 k) (y_move rfl (by rfl) (by rfl)) ?_
  (try simp only [zP, zN, zA, zB, zC])
  refine pu_ (v := .slice (some a) L.length z) (y_move rfl (by rfl) (by rfl)) ?_
  (try simp only [zP, zN, zA, zB, zC])
  refine pu_ (v := .int .i64 L.length) (y_run (by rfl) (fun W => by go_simp)) ?_
  (try simp only [zP, zN, zA, zB, zC])
  refine pu_ (v := .bool true) (y_run (by rfl) (fun W => by have d := D48.out; go_simp)) ?_
  (try simp only [zP, zN, zA, zB, zC])
  refine nl_ (hK16 _ _ ?_); clear hK16 K16
  refine wp_cond_true rfl ?_
  refine wp_skip ?_
  refine th_norm (hK7 _ _ ?_); try clear hK7 K7
  refine sq_ (fun K17 hK17 => ?_)
  refine wp_block ?_
  refine s_ (fun K18 hK18 => ?_)
  refine pu_ (v := .slice (some a) L.length z) (y_move rfl (by rfl) (by rfl)) ?_
  (try simp only [zP, zN, zA, zB, zC])
  refine pu_ (v := .int .i64 k) (y_move rfl (by rfl) (by rfl)) ?_
  (try simp only [zP, zN, zA, zB, zC])
  refine pu_ (v := .pointer (some (a.add (k * 16)))) (y_run (by rfl) (fun W => by have d := D48.out; go_simp)) ?_
  (try simp only [zP, zN, zA, zB, zC])
  refine pu_ (v := .pointer (some (a.add (k * 16)))) (y_run (by rfl) (fun W => by go_simp)) ?_
  (try simp only [zP, zN, zA, zB, zC])
  refine pu_ (v := .pointer (some ((a.add (k * 16)).add 9))) (y_run (by rfl) (fun W => by go_simp)) ?_
  (try simp only [zP, zN, zA, zB, zC])
  refine ld_ (v := .int .i64 x.ph) rfl (by rfl) (by rfl) (run_load_one ((src_at loadC_len SL.out ho.out) 9 _ (load_9 x)) Try.underlying3 rfl) ?_
  (try simp only [zP, zN, zA, zB, zC])
  refine pu_ (v := .bool true) (y_run (by rfl) (fun W => by have d := D57.out; go_simp)) ?_
  (try simp only [zP, zN, zA, zB, zC])
  refine pu_ (v := .bool true) (y_move rfl (by rfl) (by rfl)) ?_
  (try simp only [zP, zN, zA, zB, zC])
  refine pu_ (v := .slice (some a) L.length z) (y_move rfl (by rfl) (by rfl)) ?_
  (try simp only [zP, zN, zA, zB, zC])
  refine pu_ (v := .int .i64 k) (y_move rfl (by rfl) (by rfl)) ?_
  (try simp only [zP, zN, zA, zB, zC])
  refine pu_ (v := .pointer (some (a.add (k * 16)))) (y_run (by rfl) (fun W => by have d := D48.out; go_simp)) ?_
  (try simp only [zP, zN, zA, zB, zC])
  refine pu_ (v := .pointer (some (a.add (k * 16)))) (y_run (by rfl) (fun W => by go_simp)) ?_
  (try simp only [zP, zN, zA, zB, zC])
  refine pu_ (v := .pointer (some ((a.add (k * 16)).add 11))) (y_run (by rfl) (fun W => by go_simp)) ?_
  (try simp only [zP, zN, zA, zB, zC])
  refine ld_ (v := .int .i64 x.mrk) rfl (by rfl) (by rfl) (run_load_one ((src_at loadC_len SL.out ho.out) 11 _ (load_11 x)) Try.underlying3 rfl) ?_
  (try simp only [zP, zN, zA, zB, zC])
  refine pu_ (v := .bool false) (y_run (by rfl) (fun W => by have d := D65.out; go_simp)) ?_
  (try simp only [zP, zN, zA, zB, zC])
  refine pu_ (v := .bool false) (y_pick (t := true) (by rfl) rfl (by rfl) (by rfl)) ?_
  (try simp only [zP, zN, zA, zB, zC])
  refine pu_ (v := .bool false) (y_assign rfl (by rfl) (by rfl)) ?_
  (try simp only [zP, zN, zA, zB, zC])
  refine nl_ (hK18 _ _ ?_); clear hK18 K18
  refine s_ (fun K19 hK19 => ?_)
  refine pu_ (v := .bool false) (y_move rfl (by rfl) (by rfl)) ?_
  (try simp only [zP, zN, zA, zB, zC])
  refine pu_ (v := .bool false) (y_move rfl (by rfl) (by rfl)) ?_
  (try simp only [zP, zN, zA, zB, zC])
  refine pu_ (v := .bool false) (y_move rfl (by rfl) (by rfl)) ?_
  (try simp only [zP, zN, zA, zB, zC])
  refine pu_ (v := .bool false) (y_pick (t := false) (by rfl) rfl (by rfl) (by rfl)) ?_
  (try simp only [zP, zN, zA, zB, zC])
  refine pu_ (v := .bool false) (y_assign rfl (by rfl) (by rfl)) ?_
  (try simp only [zP, zN, zA, zB, zC])
  refine nl_ (hK19 _ _ ?_); clear hK19 K19
  refine r_ ?_
  refine pu_ (v := .bool false) (y_move rfl (by rfl) (by rfl)) ?_
  (try simp only [zP, zN, zA, zB, zC])
  refine pu_ (v := .bool false) (y_move rfl (by rfl) (by rfl)) ?_
  (try simp only [zP, zN, zA, zB, zC])
  refine pu_ (v := .bool false) (y_move rfl (by rfl) (by rfl)) ?_
  (try simp only [zP, zN, zA, zB, zC])
  refine pu_ (v := .bool false) (y_move rfl (by rfl) (by rfl)) ?_
  (try simp only [zP, zN, zA, zB, zC])
  refine pu_ (y_off (by rfl)) ?_
  (try simp only [zP, zN, zA, zB, zC])
  refine pu_ (y_off (by rfl)) ?_
  (try simp only [zP, zN, zA, zB, zC])
  refine pu_ (y_off (by rfl)) ?_
  (try simp only [zP, zN, zA, zB, zC])
  refine pu_ (y_off (by rfl)) ?_
  (try simp only [zP, zN, zA, zB, zC])
  refine pu_ (y_off (by rfl)) ?_
  (try simp only [zP, zN, zA, zB, zC])
  refine pu_ (y_off (by rfl)) ?_
  (try simp only [zP, zN, zA, zB, zC])
  refine pu_ (y_off (by rfl)) ?_
  (try simp only [zP, zN, zA, zB, zC])
  refine pu_ (y_off (by rfl)) ?_
  (try simp only [zP, zN, zA, zB, zC])
  refine pu_ (v := .bool false) (y_pick (t := false) (by rfl) rfl (by rfl) (by rfl)) ?_
  (try simp only [zP, zN, zA, zB, zC])
  refine pu_ (v := .bool false) (y_pick (t := false) (by rfl) rfl (by rfl) (by rfl)) ?_
  (try simp only [zP, zN, zA, zB, zC])
  refine pu_ (v := .bool false) (y_assign rfl (by rfl) (by rfl)) ?_
  (try simp only [zP, zN, zA, zB, zC])
  refine nl_ ?_
  refine ib_norm ?_
  refine th_norm (hK17 _ _ ?_); try clear hK17 K17
  refine r_ ?_
  refine pu_ (v := .int .i64 k) (y_move rfl (by rfl) (by rfl)) ?_
  (try simp only [zP, zN, zA, zB, zC])
  refine pu_ (v := .int .i64 (k + 1 : Nat)) (y_run (by rfl) (fun W => by have d := Wk.out; go_simp)) ?_
  (try simp only [zP, zN, zA, zB, zC])
  refine pu_ (v := .int .i64 (k + 1 : Nat)) (y_assign rfl (by rfl) (by rfl)) ?_
  (try simp only [zP, zN, zA, zB, zC])
  refine nl_ ?_
  exact th_norm (hK6 (kq - 1) _ _ (by have := hlt.out; have := hk.out; omega) ⟨k + 1, false, false, fun us_ => (#[.slice (some a) L.length z, us 1, .int .i64 pc, us 3, us 4, us 5, .bool false, .slice Ax L.length cx, .int .i64 vu, .bool vb, .bool sh, .bool false, .bool false, .int .i64 (k + 1 : Nat), .bool false, us 15, us 16, us 17, us 18, us 19, us 20, us 21, us 22, us 23, us 24, us 25, us 26, us 27, us 28, us 29, us 30, us 31, us 32, us 33, us 34, us 35, us 36, us 37, us 38, us 39, us 40, us 41, us 42, us 43, us 44, .int .i64 k, .slice (some a) L.length z, .int .i64 L.length, .bool true, .int .i64 k, .int .i64 (k + 1 : Nat), .slice (some a) L.length z, .int .i64 k, .pointer (some (a.add (k * 16))), .pointer (some (a.add (k * 16))), .pointer (some ((a.add (k * 16)).add 9)), .int .i64 x.ph, .bool true, .bool true, .slice (some a) L.length z, .int .i64 k, .pointer (some (a.add (k * 16))), .pointer (some (a.add (k * 16))), .pointer (some ((a.add (k * 16)).add 11)), .int .i64 x.mrk, .bool false, .bool false, .bool false, .bool false, .bool false, .bool false, .bool false, .bool false, .bool false, .bool false, undef, undef, undef, undef, undef, undef, undef, undef, .bool false, .bool false, us 85, us 86, us 87, us 88, us 89, us 90, us 91, us 92, us 93, us 94, us 95, us 96, us 97, us 98, us 99, us 100, us 101, us 102, us 103, us 104, us 105, us 106, us 107, us 108, us 109, us 110, us 111, us 112, us 113, us 114] : Array Value).getD us_ undef, rfl, C0, SL, OX, Lib.hid ⟨by have := hlt.out; omega, by have := hlt.out; have := hk.out; omega⟩, Lib.hid (by rw [found_up ho.out, hf.out, HIC.out]; rfl), Lib.hid (by rw [some_up ho.out, hg.out, HIC.out]; rfl)⟩)
 ·have hlt := Lib.hid hlt0
  have ho := Lib.hid ho0
  have HH := Lib.hid h
  clear hlt0 ho0 h
  obtain ⟨a, hsm_a⟩ := src_some SL.out (by have := hlt.out; omega)
  subst hsm_a
  have D48 := Lib.hid (show (k : Int) < (L.length : Int) by have := hlt.out; omega)
  have Wk := Lib.hid (show IntKind.i64.wrap ((k : Int) + 1) = ((k + 1 : Nat) : Int) by rw [wr64 (by have := hlt.out; have h7 := HRP.out.1; omega)]; omega)
  have D57 := Lib.hid (show (x.ph == 2) = false from beq_eq_false_iff_ne.2 HH.out)
  have HIC := Lib.hid (show isCand x = false from by unfold isCand; rw [D57.out]; rfl)
  refine s_ (fun K20 hK20 => ?_)
  refine pu_ (v := .int .i64 k) (y_move rfl (by rfl) (by rfl)) ?_
  (try simp only [zP, zN, zA, zB, zC])
  refine pu_ (v := .slice (some a) L.length z) (y_move rfl (by rfl) (by rfl)) ?_
  (try simp only [zP, zN, zA, zB, zC])
  refine pu_ (v := .int .i64 L.length) (y_run (by rfl) (fun W => by go_simp)) ?_
  (try simp only [zP, zN, zA, zB, zC])
  refine pu_ (v := .bool true) (y_run (by rfl) (fun W => by have d := D48.out; go_simp)) ?_
  (try simp only [zP, zN, zA, zB, zC])
  refine nl_ (hK20 _ _ ?_); clear hK20 K20
  refine wp_cond_true rfl ?_
  refine wp_skip ?_
  refine th_norm (hK7 _ _ ?_); try clear hK7 K7
  refine sq_ (fun K21 hK21 => ?_)
  refine wp_block ?_
  refine s_ (fun K22 hK22 => ?_)
  refine pu_ (v := .slice (some a) L.length z) (y_move rfl (by rfl) (by rfl)) ?_
  (try simp only [zP, zN, zA, zB, zC])
  refine pu_ (v := .int .i64 k) (y_move rfl (by rfl) (by rfl)) ?_
  (try simp only [zP, zN, zA, zB, zC])
  refine pu_ (v := .pointer (some (a.add (k * 16)))) (y_run (by rfl) (fun W => by have d := D48.out; go_simp)) ?_
  (try simp only [zP, zN, zA, zB, zC])
  refine pu_ (v := .pointer (some (a.add (k * 16)))) (y_run (by rfl) (fun W => by go_simp)) ?_
  (try simp only [zP, zN, zA, zB, zC])
  refine pu_ (v := .pointer (some ((a.add (k * 16)).add 9))) (y_run (by rfl) (fun W => by go_simp)) ?_
  (try simp only [zP, zN, zA, zB, zC])
  refine ld_ (v := .int .i64 x.ph) rfl (by rfl) (by rfl) (run_load_one ((src_at loadC_len SL.out ho.out) 9 _ (load_9 x)) Try.underlying3 rfl) ?_
  (try simp only [zP, zN, zA, zB, zC])
  refine pu_ (v := .bool false) (y_run (by rfl) (fun W => by have d := D57.out; go_simp)) ?_
  (try simp only [zP, zN, zA, zB, zC])
  refine pu_ (v := .bool false) (y_move rfl (by rfl) (by rfl)) ?_
  (try simp only [zP, zN, zA, zB, zC])
  refine pu_ (y_off (by rfl)) ?_
  (try simp only [zP, zN, zA, zB, zC])
  refine pu_ (y_off (by rfl)) ?_
  (try simp only [zP, zN, zA, zB, zC])
  refine pu_ (y_off (by rfl)) ?_
  (try simp only [zP, zN, zA, zB, zC])
  refine pu_ (y_off (by rfl)) ?_
  (try simp only [zP, zN, zA, zB, zC])
  refine pu_ (y_off (by rfl)) ?_
  (try simp only [zP, zN, zA, zB, zC])
  refine pu_ (y_off (by rfl)) ?_
  (try simp only [zP, zN, zA, zB, zC])
  refine pu_ (y_off (by rfl)) ?_
  (try simp only [zP, zN, zA, zB, zC])
  refine pu_ (v := .bool false) (y_pick (t := false) (by rfl) rfl (by rfl) (by rfl)) ?_
  (try simp only [zP, zN, zA, zB, zC])
  refine pu_ (v := .bool false) (y_assign rfl (by rfl) (by rfl)) ?_
  (try simp only [zP, zN, zA, zB, zC])
  refine nl_ (hK22 _ _ ?_); clear hK22 K22
  refine s_ (fun K23 hK23 => ?_)
  refine pu_ (v := .bool false) (y_move rfl (by rfl) (by rfl)) ?_
  (try simp only [zP, zN, zA, zB, zC])
  refine pu_ (v := .bool false) (y_move rfl (by rfl) (by rfl)) ?_
  (try simp only [zP, zN, zA, zB, zC])
  refine pu_ (v := .bool false) (y_move rfl (by rfl) (by rfl)) ?_
  (try simp only [zP, zN, zA, zB, zC])
  refine pu_ (v := .bool false) (y_pick (t := false) (by rfl) rfl (by rfl) (by rfl)) ?_
  (try simp only [zP, zN, zA, zB, zC])
  refine pu_ (v := .bool false) (y_assign rfl (by rfl) (by rfl)) ?_
  (try simp only [zP, zN, zA, zB, zC])
  refine nl_ (hK23 _ _ ?_); clear hK23 K23
  refine r_ ?_
  refine pu_ (v := .bool false) (y_move rfl (by rfl) (by rfl)) ?_
  (try simp only [zP, zN, zA, zB, zC])
  refine pu_ (v := .bool false) (y_move rfl (by rfl) (by rfl)) ?_
  (try simp only [zP, zN, zA, zB, zC])
  refine pu_ (v := .bool false) (y_move rfl (by rfl) (by rfl)) ?_
  (try simp only [zP, zN, zA, zB, zC])
  refine pu_ (v := .bool false) (y_move rfl (by rfl) (by rfl)) ?_
  (try simp only [zP, zN, zA, zB, zC])
  refine pu_ (y_off (by rfl)) ?_
  (try simp only [zP, zN, zA, zB, zC])
  refine pu_ (y_off (by rfl)) ?_
  (try simp only [zP, zN, zA, zB, zC])
  refine pu_ (y_off (by rfl)) ?_
  (try simp only [zP, zN, zA, zB, zC])
  refine pu_ (y_off (by rfl)) ?_
  (try simp only [zP, zN, zA, zB, zC])
  refine pu_ (y_off (by rfl)) ?_
  (try simp only [zP, zN, zA, zB, zC])
  refine pu_ (y_off (by rfl)) ?_
  (try simp only [zP, zN, zA, zB, zC])
  refine pu_ (y_off (by rfl)) ?_
  (try simp only [zP, zN, zA, zB, zC])
  refine pu_ (y_off (by rfl)) ?_
  (try simp only [zP, zN, zA, zB, zC])
  refine pu_ (v := .bool false) (y_pick (t := false) (by rfl) rfl (by rfl) (by rfl)) ?_
  (try simp only [zP, zN, zA, zB, zC])
  refine pu_ (v := .bool false) (y_pick (t := false) (by rfl) rfl (by rfl) (by rfl)) ?_
  (try simp only [zP, zN, zA, zB, zC])
  refine pu_ (v := .bool false) (y_assign rfl (by rfl) (by rfl)) ?_
  (try simp only [zP, zN, zA, zB, zC])
  refine nl_ ?_
  refine ib_norm ?_
  refine th_norm (hK21 _ _ ?_); try clear hK21 K21
  refine r_ ?_
  refine pu_ (v := .int .i64 k) (y_move rfl (by rfl) (by rfl)) ?_
  (try simp only [zP, zN, zA, zB, zC])
  refine pu_ (v := .int .i64 (k + 1 : Nat)) (y_run (by rfl) (fun W => by have d := Wk.out; go_simp)) ?_
  (try simp only [zP, zN, zA, zB, zC])
  refine pu_ (v := .int .i64 (k + 1 : Nat)) (y_assign rfl (by rfl) (by rfl)) ?_
  (try simp only [zP, zN, zA, zB, zC])
  refine nl_ ?_
  exact th_norm (hK6 (kq - 1) _ _ (by have := hlt.out; have := hk.out; omega) ⟨k + 1, false, false, fun us_ => (#[.slice (some a) L.length z, us 1, .int .i64 pc, us 3, us 4, us 5, .bool false, .slice Ax L.length cx, .int .i64 vu, .bool vb, .bool sh, .bool false, .bool false, .int .i64 (k + 1 : Nat), .bool false, us 15, us 16, us 17, us 18, us 19, us 20, us 21, us 22, us 23, us 24, us 25, us 26, us 27, us 28, us 29, us 30, us 31, us 32, us 33, us 34, us 35, us 36, us 37, us 38, us 39, us 40, us 41, us 42, us 43, us 44, .int .i64 k, .slice (some a) L.length z, .int .i64 L.length, .bool true, .int .i64 k, .int .i64 (k + 1 : Nat), .slice (some a) L.length z, .int .i64 k, .pointer (some (a.add (k * 16))), .pointer (some (a.add (k * 16))), .pointer (some ((a.add (k * 16)).add 9)), .int .i64 x.ph, .bool false, .bool false, undef, undef, undef, undef, undef, undef, undef, .bool false, .bool false, .bool false, .bool false, .bool false, .bool false, .bool false, .bool false, .bool false, undef, undef, undef, undef, undef, undef, undef, undef, .bool false, .bool false, us 85, us 86, us 87, us 88, us 89, us 90, us 91, us 92, us 93, us 94, us 95, us 96, us 97, us 98, us 99, us 100, us 101, us 102, us 103, us 104, us 105, us 106, us 107, us 108, us 109, us 110, us 111, us 112, us 113, us 114] : Array Value).getD us_ undef, rfl, C0, SL, OX, Lib.hid ⟨by have := hlt.out; omega, by have := hlt.out; have := hk.out; omega⟩, Lib.hid (by rw [found_up ho.out, hf.out, HIC.out]; rfl), Lib.hid (by rw [some_up ho.out, hg.out, HIC.out]; rfl)⟩)
 ·have hlt := Lib.hid hlt0
  have ho := Lib.hid ho0
  have HH := Lib.hid h
  clear hlt0 ho0 h
  obtain ⟨a, hsm_a⟩ := src_some SL.out (by have := hlt.out; omega)
  subst hsm_a
  have D48 := Lib.hid (show (k : Int) < (L.length : Int) by have := hlt.out; omega)
  have Wk := Lib.hid (show IntKind.i64.wrap ((k : Int) + 1) = ((k + 1 : Nat) : Int) by rw [wr64 (by have := hlt.out; have h7 := HRP.out.1; omega)]; omega)
  have D57 := Lib.hid (show (x.ph == 2) = true from beq_iff_eq.2 HH.out.1)
  have D65 := Lib.hid (show (x.mrk == 0) = true from beq_iff_eq.2 HH.out.2.1)
  have HIC := Lib.hid (show isCand x = true from by unfold isCand; rw [D57.out, D65.out]; rfl)
  have HU := Lib.hid (show (x.uid == vu) = true from beq_iff_eq.2 HH.out.2.2)
  refine s_ (fun K24 hK24 => ?_)
  refine pu_ (v := .int .i64 k) (y_move rfl (by rfl) (by rfl)) ?_
  (try simp only [zP, zN, zA, zB, zC])
  refine pu_ (v := .slice (some a) L.length z) (y_move rfl (by rfl) (by rfl)) ?_
  (try simp only [zP, zN, zA, zB, zC])
  refine pu_ (v := .int .i64 L.length) (y_run (by rfl) (fun W => by go_simp)) ?_
  (try simp only [zP, zN, zA, zB, zC])
  refine pu_ (v := .bool true) (y_run (by rfl) (fun W => by have d := D48.out; go_simp)) ?_
  (try simp only [zP, zN, zA, zB, zC])
  refine nl_ (hK24 _ _ ?_); clear hK24 K24
  refine wp_cond_true rfl ?_
  refine wp_skip ?_
  refine th_norm (hK7 _ _ ?_); try clear hK7 K7
  refine sq_ (fun K25 hK25 => ?_)
  refine wp_block ?_
  refine s_ (fun K26 hK26 => ?_)
  refine pu_ (v := .slice (some a) L.length z) (y_move rfl (by rfl) (by rfl)) ?_
  (try simp only [zP, zN, zA, zB, zC])
  refine pu_ (v := .int .i64 k) (y_move rfl (by rfl) (by rfl)) ?_
  (try simp only [zP, zN, zA, zB, zC])
  refine pu_ (v := .pointer (some (a.add (k * 16)))) (y_run (by rfl) (fun W => by have d := D48.out; go_simp)) ?_
  (try simp only [zP, zN, zA, zB, zC])
  refine pu_ (v := .pointer (some (a.add (k * 16)))) (y_run (by rfl) (fun W => by go_simp)) ?_
  (try simp only [zP, zN, zA, zB, zC])
  refine pu_ (v := .pointer (some ((a.add (k * 16)).add 9))) (y_run (by rfl) (fun W => by go_simp)) ?_
  (try simp only [zP, zN, zA, zB, zC])
  refine ld_ (v := .int .i64 x.ph) rfl (by rfl) (by rfl) (run_load_one ((src_at loadC_len SL.out ho.out) 9 _ (load_9 x)) Try.underlying3 rfl) ?_
  (try simp only [zP, zN, zA, zB, zC])
  refine pu_ (v := .bool true) (y_run (by rfl) (fun W => by have d := D57.out; go_simp)) ?_
  (try simp only [zP, zN, zA, zB, zC])
  refine pu_ (v := .bool true) (y_move rfl (by rfl) (by rfl)) ?_
  (try simp only [zP, zN, zA, zB, zC])
  refine pu_ (v := .slice (some a) L.length z) (y_move rfl (by rfl) (by rfl)) ?_
  (try simp only [zP, zN, zA, zB, zC])
  refine pu_ (v := .int .i64 k) (y_move rfl (by rfl) (by rfl)) ?_
  (try simp only [zP, zN, zA, zB, zC])
  refine pu_ (v := .pointer (some (a.add (k * 16)))) (y_run (by rfl) (fun W => by have d := D48.out; go_simp)) ?_
  (try simp only [zP, zN, zA, zB, zC])
  refine pu_ (v := .pointer (some (a.add (k * 16)))) (y_run (by rfl) (fun W => by go_simp)) ?_
  (try simp only [zP, zN, zA, zB, zC])
  refine pu_ (v := .pointer (some ((a.add (k * 16)).add 11))) (y_run (by rfl) (fun W => by go_simp)) ?_
  (try simp only [zP, zN, zA, zB, zC])
  refine ld_ (v := .int .i64 x.mrk) rfl (by rfl) (by rfl) (run_load_one ((src_at loadC_len SL.out ho.out) 11 _ (load_11 x)) Try.underlying3 rfl) ?_
  (try simp only [zP, zN, zA, zB, zC])
  refine pu_ (v := .bool true) (y_run (by rfl) (fun W => by have d := D65.out; go_simp)) ?_
  (try simp only [zP, zN, zA, zB, zC])
  refine pu_ (v := .bool true) (y_pick (t := true) (by rfl) rfl (by rfl) (by rfl)) ?_
  (try simp only [zP, zN, zA, zB, zC])
  refine pu_ (v := .bool true) (y_assign rfl (by rfl) (by rfl)) ?_
  (try simp only [zP, zN, zA, zB, zC])
  refine nl_ (hK26 _ _ ?_); clear hK26 K26
  refine s_ (fun K27 hK27 => ?_)
  refine pu_ (v := .bool true) (y_move rfl (by rfl) (by rfl)) ?_
  (try simp only [zP, zN, zA, zB, zC])
  refine pu_ (v := .bool true) (y_move rfl (by rfl) (by rfl)) ?_
  (try simp only [zP, zN, zA, zB, zC])
  refine pu_ (y_off (by rfl)) ?_
  (try simp only [zP, zN, zA, zB, zC])
  refine pu_ (v := .bool true) (y_pick (t := true) (by rfl) rfl (by rfl) (by rfl)) ?_
  (try simp only [zP, zN, zA, zB, zC])
  refine pu_ (v := .bool true) (y_assign rfl (by rfl) (by rfl)) ?_
  (try simp only [zP, zN, zA, zB, zC])
  refine nl_ (hK27 _ _ ?_); clear hK27 K27
  refine r_ ?_
  refine pu_ (v := .bool false) (y_move rfl (by rfl) (by rfl)) ?_
  (try simp only [zP, zN, zA, zB, zC])
  refine pu_ (v := .bool false) (y_move rfl (by rfl) (by rfl)) ?_
  (try simp only [zP, zN, zA, zB, zC])
  refine pu_ (v := .bool true) (y_move rfl (by rfl) (by rfl)) ?_
  (try simp only [zP, zN, zA, zB, zC])
  refine pu_ (v := .bool true) (y_move rfl (by rfl) (by rfl)) ?_
  (try simp only [zP, zN, zA, zB, zC])
  refine pu_ (v := .slice (some a) L.length z) (y_move rfl (by rfl) (by rfl)) ?_
  (try simp only [zP, zN, zA, zB, zC])
  refine pu_ (v := .int .i64 k) (y_move rfl (by rfl) (by rfl)) ?_
  (try simp only [zP, zN, zA, zB, zC])
  refine pu_ (v := .pointer (some (a.add (k * 16)))) (y_run (by rfl) (fun W => by have d := D48.out; go_simp)) ?_
  (try simp only [zP, zN, zA, zB, zC])
  refine pu_ (v := .pointer (some (a.add (k * 16)))) (y_run (by rfl) (fun W => by go_simp)) ?_
  (try simp only [zP, zN, zA, zB, zC])
  refine pu_ (v := .pointer (some (a.add (k * 16)))) (y_run (by rfl) (fun W => by go_simp)) ?_
  (try simp only [zP, zN, zA, zB, zC])
  refine ld_ (v := .int .i64 x.uid) rfl (by rfl) (by rfl) (run_load_one (by have h9 := (src_at loadC_len SL.out ho.out) 0 _ (load_0 x); simpa [Addr.add] using h9) Try.underlying3 rfl) ?_
  (try simp only [zP, zN, zA, zB, zC])
  refine pu_ (v := .int .i64 vu) (y_move rfl (by rfl) (by rfl)) ?_
  (try simp only [zP, zN, zA, zB, zC])
  refine pu_ (v := .bool true) (y_run (by rfl) (fun W => by have d := HU.out; go_simp)) ?_
  (try simp only [zP, zN, zA, zB, zC])
  refine pu_ (v := .bool true) (y_pick (t := true) (by rfl) rfl (by rfl) (by rfl)) ?_
  (try simp only [zP, zN, zA, zB, zC])
  refine pu_ (v := .bool true) (y_pick (t := false) (by rfl) rfl (by rfl) (by rfl)) ?_
  (try simp only [zP, zN, zA, zB, zC])
  refine pu_ (v := .bool true) (y_assign rfl (by rfl) (by rfl)) ?_
  (try simp only [zP, zN, zA, zB, zC])
  refine nl_ ?_
  refine ib_norm ?_
  refine th_norm (hK25 _ _ ?_); try clear hK25 K25
  refine r_ ?_
  refine pu_ (v := .int .i64 k) (y_move rfl (by rfl) (by rfl)) ?_
  (try simp only [zP, zN, zA, zB, zC])
  refine pu_ (v := .int .i64 (k + 1 : Nat)) (y_run (by rfl) (fun W => by have d := Wk.out; go_simp)) ?_
  (try simp only [zP, zN, zA, zB, zC])
  refine pu_ (v := .int .i64 (k + 1 : Nat)) (y_assign rfl (by rfl) (by rfl)) ?_
  (try simp only [zP, zN, zA, zB, zC])
  refine nl_ ?_
  exact th_norm (hK6 (kq - 1) _ _ (by have := hlt.out; have := hk.out; omega) ⟨k + 1, true, true, fun us_ => (#[.slice (some a) L.length z, us 1, .int .i64 pc, us 3, us 4, us 5, .bool false, .slice Ax L.length cx, .int .i64 vu, .bool vb, .bool sh, .bool true, .bool true, .int .i64 (k + 1 : Nat), .bool true, us 15, us 16, us 17, us 18, us 19, us 20, us 21, us 22, us 23, us 24, us 25, us 26, us 27, us 28, us 29, us 30, us 31, us 32, us 33, us 34, us 35, us 36, us 37, us 38, us 39, us 40, us 41, us 42, us 43, us 44, .int .i64 k, .slice (some a) L.length z, .int .i64 L.length, .bool true, .int .i64 k, .int .i64 (k + 1 : Nat), .slice (some a) L.length z, .int .i64 k, .pointer (some (a.add (k * 16))), .pointer (some (a.add (k * 16))), .pointer (some ((a.add (k * 16)).add 9)), .int .i64 x.ph, .bool true, .bool true, .slice (some a) L.length z, .int .i64 k, .pointer (some (a.add (k * 16))), .pointer (some (a.add (k * 16))), .pointer (some ((a.add (k * 16)).add 11)), .int .i64 x.mrk, .bool true, .bool true, .bool true, .bool true, undef, .bool true, .bool false, .bool false, .bool true, .bool true, .slice (some a) L.length z, .int .i64 k, .pointer (some (a.add (k * 16))), .pointer (some (a.add (k * 16))), .pointer (some (a.add (k * 16))), .int .i64 x.uid, .int .i64 vu, .bool true, .bool true, .bool true, us 85, us 86, us 87, us 88, us 89, us 90, us 91, us 92, us 93, us 94, us 95, us 96, us 97, us 98, us 99, us 100, us 101, us 102, us 103, us 104, us 105, us 106, us 107, us 108, us 109, us 110, us 111, us 112, us 113, us 114] : Array Value).getD us_ undef, rfl, C0, SL, OX, Lib.hid ⟨by have := hlt.out; omega, by have := hlt.out; have := hk.out; omega⟩, Lib.hid (by rw [found_up ho.out, hf.out, HIC.out, HU.out]; rfl), Lib.hid (by rw [some_up ho.out, hg.out, HIC.out]; rfl)⟩)
 ·have hlt := Lib.hid hlt0
  have ho := Lib.hid ho0
  have HH := Lib.hid h
  clear hlt0 ho0 h
  obtain ⟨a, hsm_a⟩ := src_some SL.out (by have := hlt.out; omega)
  subst hsm_a
  have D48 := Lib.hid (show (k : Int) < (L.length : Int) by have := hlt.out; omega)
  have Wk := Lib.hid (show IntKind.i64.wrap ((k : Int) + 1) = ((k + 1 : Nat) : Int) by rw [wr64 (by have := hlt.out; have h7 := HRP.out.1; omega)]; omega)
  have D57 := Lib.hid (show (x.ph == 2) = true from beq_iff_eq.2 HH.out.1)
  have D65 := Lib.hid (show (x.mrk == 0) = true from beq_iff_eq.2 HH.out.2.1)
  have HIC := Lib.hid (show isCand x = true from by unfold isCand; rw [D57.out, D65.out]; rfl)
  have HU := Lib.hid (show (x.uid == vu) = false from beq_eq_false_iff_ne.2 HH.out.2.2)
  refine s_ (fun K28 hK28 => ?_)
  refine pu_ (v := .int .i64 k) (y_move rfl (by rfl) (by rfl)) ?_
  (try simp only [zP, zN, zA, zB, zC])
  refine pu_ (v := .slice (some a) L.length z) (y_move rfl (by rfl) (by rfl)) ?_
  (try simp only [zP, zN, zA, zB, zC])
  refine pu_ (v := .int .i64 L.length) (y_run (by rfl) (fun W => by go_simp)) ?_
  (try simp only [zP, zN, zA, zB, zC])
  refine pu_ (v := .bool true) (y_run (by rfl) (fun W => by have d := D48.out; go_simp)) ?_
  (try simp only [zP, zN, zA, zB, zC])
  refine nl_ (hK28 _ _ ?_); clear hK28 K28
  refine wp_cond_true rfl ?_
  refine wp_skip ?_
  refine th_norm (hK7 _ _ ?_); try clear hK7 K7
  refine sq_ (fun K29 hK29 => ?_)
  refine wp_block ?_
  refine s_ (fun K30 hK30 => ?_)
  refine pu_ (v := .slice (some a) L.length z) (y_move rfl (by rfl) (by rfl)) ?_
  (try simp only [zP, zN, zA, zB, zC])
  refine pu_ (v := .int .i64 k) (y_move rfl (by rfl) (by rfl)) ?_
  (try simp only [zP, zN, zA, zB, zC])
  refine pu_ (v := .pointer (some (a.add (k * 16)))) (y_run (by rfl) (fun W => by have d := D48.out; go_simp)) ?_
  (try simp only [zP, zN, zA, zB, zC])
  refine pu_ (v := .pointer (some (a.add (k * 16)))) (y_run (by rfl) (fun W => by go_simp)) ?_
  (try simp only [zP, zN, zA, zB, zC])
  refine pu_ (v := .pointer (some ((a.add (k * 16)).add 9))) (y_run (by rfl) (fun W => by go_simp)) ?_
  (try simp only [zP, zN, zA, zB, zC])
  refine ld_ (v := .int .i64 x.ph) rfl (by rfl) (by rfl) (run_load_one ((src_at loadC_len SL.out ho.out) 9 _ (load_9 x)) Try.underlying3 rfl) ?_
  (try simp only [zP, zN, zA, zB, zC])
  refine pu_ (v := .bool true) (y_run (by rfl) (fun W => by have d := D57.out; go_simp)) ?_
  (try simp only [zP, zN, zA, zB, zC])
  refine pu_ (v := .bool true) (y_move rfl (by rfl) (by rfl)) ?_
  (try simp only [zP, zN, zA, zB, zC])
  refine pu_ (v := .slice (some a) L.length z) (y_move rfl (by rfl) (by rfl)) ?_
  (try simp only [zP, zN, zA, zB, zC])
  refine pu_ (v := .int .i64 k) (y_move rfl (by rfl) (by rfl)) ?_
  (try simp only [zP, zN, zA, zB, zC])
  refine pu_ (v := .pointer (some (a.add (k * 16)))) (y_run (by rfl) (fun W => by have d := D48.out; go_simp)) ?_
  (try simp only [zP, zN, zA, zB, zC])
  refine pu_ (v := .pointer (some (a.add (k * 16)))) (y_run (by rfl) (fun W => by go_simp)) ?_
  (try simp only [zP, zN, zA, zB, zC])
  refine pu_ (v := .pointer (some ((a.add (k * 16)).add 11))) (y_run (by rfl) (fun W => by go_simp)) ?_
  (try simp only [zP, zN, zA, zB, zC])
  refine ld_ (v := .int .i64 x.mrk) rfl (by rfl) (by rfl) (run_load_one ((src_at loadC_len SL.out ho.out) 11 _ (load_11 x)) Try.underlying3 rfl) ?_
  (try simp only [zP, zN, zA, zB, zC])
  refine pu_ (v := .bool true) (y_run (by rfl) (fun W => by have d := D65.out; go_simp)) ?_
  (try simp only [zP, zN, zA, zB, zC])
  refine pu_ (v := .bool true) (y_pick (t := true) (by rfl) rfl (by rfl) (by rfl)) ?_
  (try simp only [zP, zN, zA, zB, zC])
  refine pu_ (v := .bool true) (y_assign rfl (by rfl) (by rfl)) ?_
  (try simp only [zP, zN, zA, zB, zC])
  refine nl_ (hK30 _ _ ?_); clear hK30 K30
  refine s_ (fun K31 hK31 => ?_)
  refine pu_ (v := .bool true) (y_move rfl (by rfl) (by rfl)) ?_
  (try simp only [zP, zN, zA, zB, zC])
  refine pu_ (v := .bool true) (y_move rfl (by rfl) (by rfl)) ?_
  (try simp only [zP, zN, zA, zB, zC])
  refine pu_ (y_off (by rfl)) ?_
  (try simp only [zP, zN, zA, zB, zC])
  refine pu_ (v := .bool true) (y_pick (t := true) (by rfl) rfl (by rfl) (by rfl)) ?_
  (try simp only [zP, zN, zA, zB, zC])
  refine pu_ (v := .bool true) (y_assign rfl (by rfl) (by rfl)) ?_
  (try simp only [zP, zN, zA, zB, zC])
  refine nl_ (hK31 _ _ ?_); clear hK31 K31
  refine r_ ?_
  refine pu_ (v := .bool false) (y_move rfl (by rfl) (by rfl)) ?_
  (try simp only [zP, zN, zA, zB, zC])
  refine pu_ (v := .bool false) (y_move rfl (by rfl) (by rfl)) ?_
  (try simp only [zP, zN, zA, zB, zC])
  refine pu_ (v := .bool true) (y_move rfl (by rfl) (by rfl)) ?_
  (try simp only [zP, zN, zA, zB, zC])
  refine pu_ (v := .bool true) (y_move rfl (by rfl) (by rfl)) ?_
  (try simp only [zP, zN, zA, zB, zC])
  refine pu_ (v := .slice (some a) L.length z) (y_move rfl (by rfl) (by rfl)) ?_
  (try simp only [zP, zN, zA, zB, zC])
  refine pu_ (v := .int .i64 k) (y_move rfl (by rfl) (by rfl)) ?_
  (try simp only [zP, zN, zA, zB, zC])
  refine pu_ (v := .pointer (some (a.add (k * 16)))) (y_run (by rfl) (fun W => by have d := D48.out; go_simp)) ?_
  (try simp only [zP, zN, zA, zB, zC])
  refine pu_ (v := .pointer (some (a.add (k * 16)))) (y_run (by rfl) (fun W => by go_simp)) ?_
  (try simp only [zP, zN, zA, zB, zC])
  refine pu_ (v := .pointer (some (a.add (k * 16)))) (y_run (by rfl) (fun W => by go_simp)) ?_
  (try simp only [zP, zN, zA, zB, zC])
  refine ld_ (v := .int .i64 x.uid) rfl (by rfl) (by rfl) (run_load_one (by have h9 := (src_at loadC_len SL.out ho.out) 0 _ (load_0 x); simpa [Addr.add] using h9) Try.underlying3 rfl) ?_
  (try simp only [zP, zN, zA, zB, zC])
  refine pu_ (v := .int .i64 vu) (y_move rfl (by rfl) (by rfl)) ?_
  (try simp only [zP, zN, zA, zB, zC])
  refine pu_ (v := .bool false) (y_run (by rfl) (fun W => by have d := HU.out; go_simp)) ?_
  (try simp only [zP, zN, zA, zB, zC])
  refine pu_ (v := .bool false) (y_pick (t := true) (by rfl) rfl (by rfl) (by rfl)) ?_
  (try simp only [zP, zN, zA, zB, zC])
  refine pu_ (v := .bool false) (y_pick (t := false) (by rfl) rfl (by rfl) (by rfl)) ?_
  (try simp only [zP, zN, zA, zB, zC])
  refine pu_ (v := .bool false) (y_assign rfl (by rfl) (by rfl)) ?_
  (try simp only [zP, zN, zA, zB, zC])
  refine nl_ ?_
  refine ib_norm ?_
  refine th_norm (hK29 _ _ ?_); try clear hK29 K29
  refine r_ ?_
  refine pu_ (v := .int .i64 k) (y_move rfl (by rfl) (by rfl)) ?_
  (try simp only [zP, zN, zA, zB, zC])
  refine pu_ (v := .int .i64 (k + 1 : Nat)) (y_run (by rfl) (fun W => by have d := Wk.out; go_simp)) ?_
  (try simp only [zP, zN, zA, zB, zC])
  refine pu_ (v := .int .i64 (k + 1 : Nat)) (y_assign rfl (by rfl) (by rfl)) ?_
  (try simp only [zP, zN, zA, zB, zC])
  refine nl_ ?_
  exact th_norm (hK6 (kq - 1) _ _ (by have := hlt.out; have := hk.out; omega) ⟨k + 1, false, true, fun us_ => (#[.slice (some a) L.length z, us 1, .int .i64 pc, us 3, us 4, us 5, .bool false, .slice Ax L.length cx, .int .i64 vu, .bool vb, .bool sh, .bool false, .bool true, .int .i64 (k + 1 : Nat), .bool true, us 15, us 16, us 17, us 18, us 19, us 20, us 21, us 22, us 23, us 24, us 25, us 26, us 27, us 28, us 29, us 30, us 31, us 32, us 33, us 34, us 35, us 36, us 37, us 38, us 39, us 40, us 41, us 42, us 43, us 44, .int .i64 k, .slice (some a) L.length z, .int .i64 L.length, .bool true, .int .i64 k, .int .i64 (k + 1 : Nat), .slice (some a) L.length z, .int .i64 k, .pointer (some (a.add (k * 16))), .pointer (some (a.add (k * 16))), .pointer (some ((a.add (k * 16)).add 9)), .int .i64 x.ph, .bool true, .bool true, .slice (some a) L.length z, .int .i64 k, .pointer (some (a.add (k * 16))), .pointer (some (a.add (k * 16))), .pointer (some ((a.add (k * 16)).add 11)), .int .i64 x.mrk, .bool true, .bool true, .bool true, .bool true, undef, .bool true, .bool false, .bool false, .bool true, .bool true, .slice (some a) L.length z, .int .i64 k, .pointer (some (a.add (k * 16))), .pointer (some (a.add (k * 16))), .pointer (some (a.add (k * 16))), .int .i64 x.uid, .int .i64 vu, .bool false, .bool false, .bool false, us 85, us 86, us 87, us 88, us 89, us 90, us 91, us 92, us 93, us 94, us 95, us 96, us 97, us 98, us 99, us 100, us 101, us 102, us 103, us 104, us 105, us 106, us 107, us 108, us 109, us 110, us 111, us 112, us 113, us 114] : Array Value).getD us_ undef, rfl, C0, SL, OX, Lib.hid ⟨by have := hlt.out; omega, by have := hlt.out; have := hk.out; omega⟩, Lib.hid (by rw [found_up ho.out, hf.out, HIC.out, HU.out]; rfl), Lib.hid (by rw [some_up ho.out, hg.out, HIC.out]; rfl)⟩)
 ·have hlt := Lib.hid hlt0
  have ho := Lib.hid ho0
  have HH := Lib.hid h
  clear hlt0 ho0 h
  obtain ⟨a, hsm_a⟩ := src_some SL.out (by have := hlt.out; omega)
  subst hsm_a
  have D48 := Lib.hid (show (k : Int) < (L.length : Int) by have := hlt.out; omega)
  have Wk := Lib.hid (show IntKind.i64.wrap ((k : Int) + 1) = ((k + 1 : Nat) : Int) by rw [wr64 (by have := hlt.out; have h7 := HRP.out.1; omega)]; omega)
  have D57 := Lib.hid (show (x.ph == 2) = true from beq_iff_eq.2 HH.out.1)
  have D65 := Lib.hid (show (x.mrk == 0) = false from beq_eq_false_iff_ne.2 HH.out.2)
  have HIC := Lib.hid (show isCand x = false from by unfold isCand; rw [D57.out, D65.out]; rfl)
  refine s_ (fun K32 hK32 => ?_)
  refine pu_ (v := .int .i64 k) (y_move rfl (by rfl) (by rfl)) ?_
  (try simp only [zP, zN, zA, zB, zC])
  refine pu_ (v := .slice (some a) L.length z) (y_move rfl (by rfl) (by rfl)) ?_
  (try simp only [zP, zN, zA, zB, zC])
  refine pu_ (v := .int .i64 L.length) (y_run (by rfl) (fun W => by go_simp)) ?_
  (try simp only [zP, zN, zA, zB, zC])
  refine pu_ (v := .bool true) (y_run (by rfl) (fun W => by have d := D48.out; go_simp)) ?_
  (try simp only [zP, zN, zA, zB, zC])
  refine nl_ (hK32 _ _ ?_); clear hK32 K32
  refine wp_cond_true rfl ?_
  refine wp_skip ?_
  refine th_norm (hK7 _ _ ?_); try clear hK7 K7
  refine sq_ (fun K33 hK33 => ?_)
  refine wp_block ?_
  refine s_ (fun K34 hK34 => ?_)
  refine pu_ (v := .slice (some a) L.length z) (y_move rfl (by rfl) (by rfl)) ?_
  (try simp only [zP, zN, zA, zB, zC])
  refine pu_ (v := .int .i64 k) (y_move rfl (by rfl) (by rfl)) ?_
  (try simp only [zP, zN, zA, zB, zC])
  refine pu_ (v := .pointer (some (a.add (k * 16)))) (y_run (by rfl) (fun W => by have d := D48.out; go_simp)) ?_
  (try simp only [zP, zN, zA, zB, zC])
  refine pu_ (v := .pointer (some (a.add (k * 16)))) (y_run (by rfl) (fun W => by go_simp)) ?_
  (try simp only [zP, zN, zA, zB, zC])
  refine pu_ (v := .pointer (some ((a.add (k * 16)).add 9))) (y_run (by rfl) (fun W => by go_simp)) ?_
  (try simp only [zP, zN, zA, zB, zC])
  refine ld_ (v := .int .i64 x.ph) rfl (by rfl) (by rfl) (run_load_one ((src_at loadC_len SL.out ho.out) 9 _ (load_9 x)) Try.underlying3 rfl) ?_
  (try simp only [zP, zN, zA, zB, zC])
  refine pu_ (v := .bool true) (y_run (by rfl) (fun W => by have d := D57.out; go_simp)) ?_
  (try simp only [zP, zN, zA, zB, zC])
  refine pu_ (v := .bool true) (y_move rfl (by rfl) (by rfl)) ?_
  (try simp only [zP, zN, zA, zB, zC])
  refine pu_ (v := .slice (some a) L.length z) (y_move rfl (by rfl) (by rfl)) ?_
  (try simp only [zP, zN, zA, zB, zC])
  refine pu_ (v := .int .i64 k) (y_move rfl (by rfl) (by rfl)) ?_
  (try simp only [zP, zN, zA, zB, zC])
  refine pu_ (v := .pointer (some (a.add (k * 16)))) (y_run (by rfl) (fun W => by have d := D48.out; go_simp)) ?_
  (try simp only [zP, zN, zA, zB, zC])
  refine pu_ (v := .pointer (some (a.add (k * 16)))) (y_run (by rfl) (fun W => by go_simp)) ?_
  (try simp only [zP, zN, zA, zB, zC])
  refine pu_ (v := .pointer (some ((a.add (k * 16)).add 11))) (y_run (by rfl) (fun W => by go_simp)) ?_
  (try simp only [zP, zN, zA, zB, zC])
  refine ld_ (v := .int .i64 x.mrk) rfl (by rfl) (by rfl) (run_load_one ((src_at loadC_len SL.out ho.out) 11 _ (load_11 x)) Try.underlying3 rfl) ?_
  (try simp only [zP, zN, zA, zB, zC])
  refine pu_ (v := .bool false) (y_run (by rfl) (fun W => by have d := D65.out; go_simp)) ?_
  (try simp only [zP, zN, zA, zB, zC])
  refine pu_ (v := .bool false) (y_pick (t := true) (by rfl) rfl (by rfl) (by rfl)) ?_
  (try simp only [zP, zN, zA, zB, zC])
  refine pu_ (v := .bool false) (y_assign rfl (by rfl) (by rfl)) ?_
  (try simp only [zP, zN, zA, zB, zC])
  refine nl_ (hK34 _ _ ?_); clear hK34 K34
  refine s_ (fun K35 hK35 => ?_)
  refine pu_ (v := .bool true) (y_move rfl (by rfl) (by rfl)) ?_
  (try simp only [zP, zN, zA, zB, zC])
  refine pu_ (v := .bool true) (y_move rfl (by rfl) (by rfl)) ?_
  (try simp only [zP, zN, zA, zB, zC])
  refine pu_ (y_off (by rfl)) ?_
  (try simp only [zP, zN, zA, zB, zC])
  refine pu_ (v := .bool true) (y_pick (t := true) (by rfl) rfl (by rfl) (by rfl)) ?_
  (try simp only [zP, zN, zA, zB, zC])
  refine pu_ (v := .bool true) (y_assign rfl (by rfl) (by rfl)) ?_
  (try simp only [zP, zN, zA, zB, zC])
  refine nl_ (hK35 _ _ ?_); clear hK35 K35
  refine r_ ?_
  refine pu_ (v := .bool false) (y_move rfl (by rfl) (by rfl)) ?_
  (try simp only [zP, zN, zA, zB, zC])
  refine pu_ (v := .bool false) (y_move rfl (by rfl) (by rfl)) ?_
  (try simp only [zP, zN, zA, zB, zC])
  refine pu_ (v := .bool false) (y_move rfl (by rfl) (by rfl)) ?_
  (try simp only [zP, zN, zA, zB, zC])
  refine pu_ (v := .bool false) (y_move rfl (by rfl) (by rfl)) ?_
  (try simp only [zP, zN, zA, zB, zC])
  refine pu_ (y_off (by rfl)) ?_
  (try simp only [zP, zN, zA, zB, zC])
  refine pu_ (y_off (by rfl)) ?_
  (try simp only [zP, zN, zA, zB, zC])
  refine pu_ (y_off (by rfl)) ?_
  (try simp only [zP, zN, zA, zB, zC])
  refine pu_ (y_off (by rfl)) ?_
  (try simp only [zP, zN, zA, zB, zC])
  refine pu_ (y_off (by rfl)) ?_
  (try simp only [zP, zN, zA, zB, zC])
  refine pu_ (y_off (by rfl)) ?_
  (try simp only [zP, zN, zA, zB, zC])
  refine pu_ (y_off (by rfl)) ?_
  (try simp only [zP, zN, zA, zB, zC])
  refine pu_ (y_off (by rfl)) ?_
  (try simp only [zP, zN, zA, zB, zC])
  refine pu_ (v := .bool false) (y_pick (t := false) (by rfl) rfl (by rfl) (by rfl)) ?_
  (try simp only [zP, zN, zA, zB, zC])
  refine pu_ (v := .bool false) (y_pick (t := false) (by rfl) rfl (by rfl) (by rfl)) ?_
  (try simp only [zP, zN, zA, zB, zC])
  refine pu_ (v := .bool false) (y_assign rfl (by rfl) (by rfl)) ?_
  (try simp only [zP, zN, zA, zB, zC])
  refine nl_ ?_
  refine ib_norm ?_
  refine th_norm (hK33 _ _ ?_); try clear hK33 K33
  refine r_ ?_
  refine pu_ (v := .int .i64 k) (y_move rfl (by rfl) (by rfl)) ?_
  (try simp only [zP, zN, zA, zB, zC])
  refine pu_ (v := .int .i64 (k + 1 : Nat)) (y_run (by rfl) (fun W => by have d := Wk.out; go_simp)) ?_
  (try simp only [zP, zN, zA, zB, zC])
  refine pu_ (v := .int .i64 (k + 1 : Nat)) (y_assign rfl (by rfl) (by rfl)) ?_
  (try simp only [zP, zN, zA, zB, zC])
  refine nl_ ?_
  exact th_norm (hK6 (kq - 1) _ _ (by have := hlt.out; have := hk.out; omega) ⟨k + 1, false, true, fun us_ => (#[.slice (some a) L.length z, us 1, .int .i64 pc, us 3, us 4, us 5, .bool false, .slice Ax L.length cx, .int .i64 vu, .bool vb, .bool sh, .bool false, .bool true, .int .i64 (k + 1 : Nat), .bool false, us 15, us 16, us 17, us 18, us 19, us 20, us 21, us 22, us 23, us 24, us 25, us 26, us 27, us 28, us 29, us 30, us 31, us 32, us 33, us 34, us 35, us 36, us 37, us 38, us 39, us 40, us 41, us 42, us 43, us 44, .int .i64 k, .slice (some a) L.length z, .int .i64 L.length, .bool true, .int .i64 k, .int .i64 (k + 1 : Nat), .slice (some a) L.length z, .int .i64 k, .pointer (some (a.add (k * 16))), .pointer (some (a.add (k * 16))), .pointer (some ((a.add (k * 16)).add 9)), .int .i64 x.ph, .bool true, .bool true, .slice (some a) L.length z, .int .i64 k, .pointer (some (a.add (k * 16))), .pointer (some (a.add (k * 16))), .pointer (some ((a.add (k * 16)).add 11)), .int .i64 x.mrk, .bool false, .bool false, .bool true, .bool true, undef, .bool true, .bool false, .bool false, .bool false, .bool false, undef, undef, undef, undef, undef, undef, undef, undef, .bool false, .bool false, us 85, us 86, us 87, us 88, us 89, us 90, us 91, us 92, us 93, us 94, us 95, us 96, us 97, us 98, us 99, us 100, us 101, us 102, us 103, us 104, us 105, us 106, us 107, us 108, us 109, us 110, us 111, us 112, us 113, us 114] : Array Value).getD us_ undef, rfl, C0, SL, OX, Lib.hid ⟨by have := hlt.out; omega, by have := hlt.out; have := hk.out; omega⟩, Lib.hid (by rw [found_up ho.out, hf.out, HIC.out]; rfl), Lib.hid (by rw [some_up ho.out, hg.out, HIC.out]; rfl)⟩)
 ·have hlt := Lib.hid hlt0
  have ho := Lib.hid ho0
  have HH := Lib.hid h
  clear hlt0 ho0 h
  obtain ⟨a, hsm_a⟩ := src_some SL.out (by have := hlt.out; omega)
  subst hsm_a
  have D48 := Lib.hid (show (k : Int) < (L.length : Int) by have := hlt.out; omega)
  have Wk := Lib.hid (show IntKind.i64.wrap ((k : Int) + 1) = ((k + 1 : Nat) : Int) by rw [wr64 (by have := hlt.out; have h7 := HRP.out.1; omega)]; omega)
  have D57 := Lib.hid (show (x.ph == 2) = false from beq_eq_false_iff_ne.2 HH.out)
  have HIC := Lib.hid (show isCand x = false from by unfold isCand; rw [D57.out]; rfl)
  refine s_ (fun K36 hK36 => ?_)
  refine pu_ (v := .int .i64 k) (y_move rfl (by rfl) (by rfl)) ?_
  (try simp only [zP, zN, zA, zB, zC])
  refine pu_ (v := .slice (some a) L.length z) (y_move rfl (by rfl) (by rfl)) ?_
  (try simp only [zP, zN, zA, zB, zC])
  refine pu_ (v := .int .i64 L.length) (y_run (by rfl) (fun W => by go_simp)) ?_
  (try simp only [zP, zN, zA, zB, zC])
  refine pu_ (v := .bool true) (y_run (by rfl) (fun W => by have d := D48.out; go_simp)) ?_
  (try simp only [zP, zN, zA, zB, zC])
  refine nl_ (hK36 _ _ ?_); clear hK36 K36
  refine wp_cond_true rfl ?_
  refine wp_skip ?_
  refine th_norm (hK7 _ _ ?_); try clear hK7 K7
  refine sq_ (fun K37 hK37 => ?_)
  refine wp_block ?_
  refine s_ (fun K38 hK38 => ?_)
  refine pu_ (v := .slice (some a) L.length z) (y_move rfl (by rfl) (by rfl)) ?_
  (try simp only [zP, zN, zA, zB, zC])
  refine pu_ (v := .int .i64 k) (y_move rfl (by rfl) (by rfl)) ?_
  (try simp only [zP, zN, zA, zB, zC])
  refine pu_ (v := .pointer (some (a.add (k * 16)))) (y_run (by rfl) (fun W => by have d := D48.out; go_simp)) ?_
  (try simp only [zP, zN, zA, zB, zC])
  refine pu_ (v := .pointer (some (a.add (k * 16)))) (y_run (by rfl) (fun W => by go_simp)) ?_
  (try simp only [zP, zN, zA, zB, zC])
  refine pu_ (v := .pointer (some ((a.add (k * 16)).add 9))) (y_run (by rfl) (fun W => by go_simp)) ?_
  (try simp only [zP, zN, zA, zB, zC])
  refine ld_ (v := .int .i64 x.ph) rfl (by rfl) (by rfl) (run_load_one ((src_at loadC_len SL.out ho.out) 9 _ (load_9 x)) Try.underlying3 rfl) ?_
  (try simp only [zP, zN, zA, zB, zC])
  refine pu_ (v := .bool false) (y_run (by rfl) (fun W => by have d := D57.out; go_simp)) ?_
  (try simp only [zP, zN, zA, zB, zC])
  refine pu_ (v := .bool false) (y_move rfl (by rfl) (by rfl)) ?_
  (try simp only [zP, zN, zA, zB, zC])
  refine pu_ (y_off (by rfl)) ?_
  (try simp only [zP, zN, zA, zB, zC])
  refine pu_ (y_off (by rfl)) ?_
  (try simp only [zP, zN, zA, zB, zC])
  refine pu_ (y_off (by rfl)) ?_
  (try simp only [zP, zN, zA, zB, zC])
  refine pu_ (y_off (by rfl)) ?_
  (try simp only [zP, zN, zA, zB, zC])
  refine pu_ (y_off (by rfl)) ?_
  (try simp only [zP, zN, zA, zB, zC])
  refine pu_ (y_off (by rfl)) ?_
  (try simp only [zP, zN, zA, zB, zC])
  refine pu_ (y_off (by rfl)) ?_
  (try simp only [zP, zN, zA, zB, zC])
  refine pu_ (v := .bool false) (y_pick (t := false) (by rfl) rfl (by rfl) (by rfl)) ?_
  (try simp only [zP, zN, zA, zB, zC])
  refine pu_ (v := .bool false) (y_assign rfl (by rfl) (by rfl)) ?_
  (try simp only [zP, zN, zA, zB, zC])
  refine nl_ (hK38 _ _ ?_); clear hK38 K38
  refine s_ (fun K39 hK39 => ?_)
  refine pu_ (v := .bool true) (y_move rfl (by rfl) (by rfl)) ?_
  (try simp only [zP, zN, zA, zB, zC])
  refine pu_ (v := .bool true) (y_move rfl (by rfl) (by rfl)) ?_
  (try simp only [zP, zN, zA, zB, zC])
  refine pu_ (y_off (by rfl)) ?_
  (try simp only [zP, zN, zA, zB, zC])
  refine pu_ (v := .bool true) (y_pick (t := true) (by rfl) rfl (by rfl) (by rfl)) ?_
  (try simp only [zP, zN, zA, zB, zC])
  refine pu_ (v := .bool true) (y_assign rfl (by rfl) (by rfl)) ?_
  (try simp only [zP, zN, zA, zB, zC])
  refine nl_ (hK39 _ _ ?_); clear hK39 K39
  refine r_ ?_
  refine pu_ (v := .bool false) (y_move rfl (by rfl) (by rfl)) ?_
  (try simp only [zP, zN, zA, zB, zC])
  refine pu_ (v := .bool false) (y_move rfl (by rfl) (by rfl)) ?_
  (try simp only [zP, zN, zA, zB, zC])
  refine pu_ (v := .bool false) (y_move rfl (by rfl) (by rfl)) ?_
  (try simp only [zP, zN, zA, zB, zC])
  refine pu_ (v := .bool false) (y_move rfl (by rfl) (by rfl)) ?_
  (try simp only [zP, zN, zA, zB, zC])
  refine pu_ (y_off (by rfl)) ?_
  (try simp only [zP, zN, zA, zB, zC])
  refine pu_ (y_off (by rfl)) ?_
  (try simp only [zP, zN, zA, zB, zC])
  refine pu_ (y_off (by rfl)) ?_
  (try simp only [zP, zN, zA, zB, zC])
  refine pu_ (y_off (by rfl)) ?_
  (try simp only [zP, zN, zA, zB, zC])
  refine pu_ (y_off (by rfl)) ?_
  (try simp only [zP, zN, zA, zB, zC])
  refine pu_ (y_off (by rfl)) ?_
  (try simp only [zP, zN, zA, zB, zC])
  refine pu_ (y_off (by rfl)) ?_
  (try simp only [zP, zN, zA, zB, zC])
  refine pu_ (y_off (by rfl)) ?_
  (try simp only [zP, zN, zA, zB, zC])
  refine pu_ (v := .bool false) (y_pick (t := false) (by rfl) rfl (by rfl) (by rfl)) ?_
  (try simp only [zP, zN, zA, zB, zC])
  refine pu_ (v := .bool false) (y_pick (t := false) (by rfl) rfl (by rfl) (by rfl)) ?_
  (try simp only [zP, zN, zA, zB, zC])
  refine pu_ (v := .bool false) (y_assign rfl (by rfl) (by rfl)) ?_
  (try simp only [zP, zN, zA, zB, zC])
  refine nl_ ?_
  refine ib_norm ?_
  refine th_norm (hK37 _ _ ?_); try clear hK37 K37
  refine r_ ?_
  refine pu_ (v := .int .i64 k) (y_move rfl (by rfl) (by rfl)) ?_
  (try simp only [zP, zN, zA, zB, zC])
  refine pu_ (v := .int .i64 (k + 1 : Nat)) (y_run (by rfl) (fun W => by have d := Wk.out; go_simp)) ?_
  (try simp only [zP, zN, zA, zB, zC])
  refine pu_ (v := .int .i64 (k + 1 : Nat)) (y_assign rfl (by rfl) (by rfl)) ?_
  (try simp only [zP, zN, zA, zB, zC])
  refine nl_ ?_
  exact th_norm (hK6 (kq - 1) _ _ (by have := hlt.out; have := hk.out; omega) ⟨k + 1, false, true, fun us_ => (#[.slice (some a) L.length z, us 1, .int .i64 pc, us 3, us 4, us 5, .bool false, .slice Ax L.length cx, .int .i64 vu, .bool vb, .bool sh, .bool false, .bool true, .int .i64 (k + 1 : Nat), .bool false, us 15, us 16, us 17, us 18, us 19, us 20, us 21, us 22, us 23, us 24, us 25, us 26, us 27, us 28, us 29, us 30, us 31, us 32, us 33, us 34, us 35, us 36, us 37, us 38, us 39, us 40, us 41, us 42, us 43, us 44, .int .i64 k, .slice (some a) L.length z, .int .i64 L.length, .bool true, .int .i64 k, .int .i64 (k + 1 : Nat), .slice (some a) L.length z, .int .i64 k, .pointer (some (a.add (k * 16))), .pointer (some (a.add (k * 16))), .pointer (some ((a.add (k * 16)).add 9)), .int .i64 x.ph, .bool false, .bool false, undef, undef, undef, undef, undef, undef, undef, .bool false, .bool true, .bool true, undef, .bool true, .bool false, .bool false, .bool false, .bool false, undef, undef, undef, undef, undef, undef, undef, undef, .bool false, .bool false, us 85, us 86, us 87, us 88, us 89, us 90, us 91, us 92, us 93, us 94, us 95, us 96, us 97, us 98, us 99, us 100, us 101, us 102, us 103, us 104, us 105, us 106, us 107, us 108, us 109, us 110, us 111, us 112, us 113, us 114] : Array Value).getD us_ undef, rfl, C0, SL, OX, Lib.hid ⟨by have := hlt.out; omega, by have := hlt.out; have := hk.out; omega⟩, Lib.hid (by rw [found_up ho.out, hf.out, HIC.out]; rfl), Lib.hid (by rw [some_up ho.out, hg.out, HIC.out]; rfl)⟩)
 ·have hlt := Lib.hid hlt0
  have ho := Lib.hid ho0
  have HH := Lib.hid h
  clear hlt0 ho0 h
  obtain ⟨a, hsm_a⟩ := src_some SL.out (by have := hlt.out; omega)
  subst hsm_a
  have D48 := Lib.hid (show (k : Int) < (L.length : Int) by have := hlt.out; omega)
  have Wk := Lib.hid (show IntKind.i64.wrap ((k : Int) + 1) = ((k + 1 : Nat) : Int) by rw [wr64 (by have := hlt.out; have h7 := HRP.out.1; omega)]; omega)
  have D57 := Lib.hid (show (x.ph == 2) = true from beq_iff_eq.2 HH.out.1)
  have D65 := Lib.hid (show (x.mrk == 0) = true from beq_iff_eq.2 HH.out.2.1)
  have HIC := Lib.hid (show isCand x = true from by unfold isCand; rw [D57.out, D65.out]; rfl)
  have HU := Lib.hid (show (x.uid == vu) = true from beq_iff_eq.2 HH.out.2.2)
  refine s_ (fun K40 hK40 => ?_)
  refine pu_ (v := .int .i64 k) (y_move rfl (by rfl) (by rfl)) ?_
  (try simp only [zP, zN, zA, zB, zC])
  refine pu_ (v := .slice (some a) L.length z) (y_move rfl (by rfl) (by rfl)) ?_
  (try simp only [zP, zN, zA, zB, zC])
  refine pu_ (v := .int .i64 L.length) (y_run (by rfl) (fun W => by go_simp)) ?_
  (try simp only [zP, zN, zA, zB, zC])
  refine pu_ (v := .bool true) (y_run (by rfl) (fun W => by have d := D48.out; go_simp)) ?_
  (try simp only [zP, zN, zA, zB, zC])
  refine nl_ (hK40 _ _ ?_); clear hK40 K40
  refine wp_cond_true rfl ?_
  refine wp_skip ?_
  refine th_norm (hK7 _ _ ?_); try clear hK7 K7
  refine sq_ (fun K41 hK41 => ?_)
  refine wp_block ?_
  refine s_ (fun K42 hK42 => ?_)
  refine pu_ (v := .slice (some a) L.length z) (y_move rfl (by rfl) (by rfl)) ?_
  (try simp only [zP, zN, zA, zB, zC])
  refine pu_ (v := .int .i64 k) (y_move rfl (by rfl) (by rfl)) ?_
  (try simp only [zP, zN, zA, zB, zC])
  refine pu_ (v := .pointer (some (a.add (k * 16)))) (y_run (by rfl) (fun W => by have d := D48.out; go_simp)) ?_
  (try simp only [zP, zN, zA, zB, zC])
  refine pu_ (v := .pointer (some (a.add (k * 16)))) (y_run (by rfl) (fun W => by go_simp)) ?_
  (try simp only [zP, zN, zA, zB, zC])
  refine pu_ (v := .pointer (some ((a.add (k * 16)).add 9))) (y_run (by rfl) (fun W => by go_simp)) ?_
  (try simp only [zP, zN, zA, zB, zC])
  refine ld_ (v := .int .i64 x.ph) rfl (by rfl) (by rfl) (run_load_one ((src_at loadC_len SL.out ho.out) 9 _ (load_9 x)) Try.underlying3 rfl) ?_
  (try simp only [zP, zN, zA, zB, zC])
  refine pu_ (v := .bool true) (y_run (by rfl) (fun W => by have d := D57.out; go_simp)) ?_
  (try simp only [zP, zN, zA, zB, zC])
  refine pu_ (v := .bool true) (y_move rfl (by rfl) (by rfl)) ?_
  (try simp only [zP, zN, zA, zB, zC])
  refine pu_ (v := .slice (some a) L.length z) (y_move rfl (by rfl) (by rfl)) ?_
  (try simp only [zP, zN, zA, zB, zC])
  refine pu_ (v := .int .i64 k) (y_move rfl (by rfl) (by rfl)) ?_
  (try simp only [zP, zN, zA, zB, zC])
  refine pu_ (v := .pointer (some (a.add (k * 16)))) (y_run (by rfl) (fun W => by have d := D48.out; go_simp)) ?_
  (try simp only [zP, zN, zA, zB, zC])
  refine pu_ (v := .pointer (some (a.add (k * 16)))) (y_run (by rfl) (fun W => by go_simp)) ?_
  (try simp only [zP, zN, zA, zB, zC])
  refine pu_ (v := .pointer (some ((a.add (k * 16)).add 11))) (y_run (by rfl) (fun W => by go_simp)) ?_
  (try simp only [zP, zN, zA, zB, zC])
  refine ld_ (v := .int .i64 x.mrk) rfl (by rfl) (by rfl) (run_load_one ((src_at loadC_len SL.out ho.out) 11 _ (load_11 x)) Try.underlying3 rfl) ?_
  (try simp only [zP, zN, zA, zB, zC])
  refine pu_ (v := .bool true) (y_run (by rfl) (fun W => by have d := D65.out; go_simp)) ?_
  (try simp only [zP, zN, zA, zB, zC])
  refine pu_ (v := .bool true) (y_pick (t := true) (by rfl) rfl (by rfl) (by rfl)) ?_
  (try simp only [zP, zN, zA, zB, zC])
  refine pu_ (v := .bool true) (y_assign rfl (by rfl) (by rfl)) ?_
  (try simp only [zP, zN, zA, zB, zC])
  refine nl_ (hK42 _ _ ?_); clear hK42 K42
  refine s_ (fun K43 hK43 => ?_)
  refine pu_ (v := .bool false) (y_move rfl (by rfl) (by rfl)) ?_
  (try simp only [zP, zN, zA, zB, zC])
  refine pu_ (v := .bool false) (y_move rfl (by rfl) (by rfl)) ?_
  (try simp only [zP, zN, zA, zB, zC])
  refine pu_ (v := .bool true) (y_move rfl (by rfl) (by rfl)) ?_
  (try simp only [zP, zN, zA, zB, zC])
  refine pu_ (v := .bool true) (y_pick (t := false) (by rfl) rfl (by rfl) (by rfl)) ?_
  (try simp only [zP, zN, zA, zB, zC])
  refine pu_ (v := .bool true) (y_assign rfl (by rfl) (by rfl)) ?_
  (try simp only [zP, zN, zA, zB, zC])
  refine nl_ (hK43 _ _ ?_); clear hK43 K43
  refine r_ ?_
  refine pu_ (v := .bool true) (y_move rfl (by rfl) (by rfl)) ?_
  (try simp only [zP, zN, zA, zB, zC])
  refine pu_ (v := .bool true) (y_move rfl (by rfl) (by rfl)) ?_
  (try simp only [zP, zN, zA, zB, zC])
  refine pu_ (y_off (by rfl)) ?_
  (try simp only [zP, zN, zA, zB, zC])
  refine pu_ (y_off (by rfl)) ?_
  (try simp only [zP, zN, zA, zB, zC])
  refine pu_ (y_off (by rfl)) ?_
  (try simp only [zP, zN, zA, zB, zC])
  refine pu_ (y_off (by rfl)) ?_
  (try simp only [zP, zN, zA, zB, zC])
  refine pu_ (y_off (by rfl)) ?_
  (try simp only [zP, zN, zA, zB, zC])
  refine pu_ (y_off (by rfl)) ?_
  (try simp only [zP, zN, zA, zB, zC])
  refine pu_ (y_off (by rfl)) ?_
  (try simp only [zP, zN, zA, zB, zC])
  refine pu_ (y_off (by rfl)) ?_
  (try simp only [zP, zN, zA, zB, zC])
  refine pu_ (y_off (by rfl)) ?_
  (try simp only [zP, zN, zA, zB, zC])
  refine pu_ (y_off (by rfl)) ?_
  (try simp only [zP, zN, zA, zB, zC])
  refine pu_ (y_off (by rfl)) ?_
  (try simp only [zP, zN, zA, zB, zC])
  refine pu_ (v := .bool true) (y_pick (t := true) (by rfl) rfl (by rfl) (by rfl)) ?_
  (try simp only [zP, zN, zA, zB, zC])
  refine pu_ (v := .bool true) (y_assign rfl (by rfl) (by rfl)) ?_
  (try simp only [zP, zN, zA, zB, zC])
  refine nl_ ?_
  refine ib_norm ?_
  refine th_norm (hK41 _ _ ?_); try clear hK41 K41
  refine r_ ?_
  refine pu_ (v := .int .i64 k) (y_move rfl (by rfl) (by rfl)) ?_
  (try simp only [zP, zN, zA, zB, zC])
  refine pu_ (v := .int .i64 (k + 1 : Nat)) (y_run (by rfl) (fun W => by have d := Wk.out; go_simp)) ?_
  (try simp only [zP, zN, zA, zB, zC])
  refine pu_ (v := .int .i64 (k + 1 : Nat)) (y_assign rfl (by rfl) (by rfl)) ?_
  (try simp only [zP, zN, zA, zB, zC])
  refine nl_ ?_
  exact th_norm (hK6 (kq - 1) _ _ (by have := hlt.out; have := hk.out; omega) ⟨k + 1, true, true, fun us_ => (#[.slice (some a) L.length z, us 1, .int .i64 pc, us 3, us 4, us 5, .bool false, .slice Ax L.length cx, .int .i64 vu, .bool vb, .bool sh, .bool true, .bool true, .int .i64 (k + 1 : Nat), .bool true, us 15, us 16, us 17, us 18, us 19, us 20, us 21, us 22, us 23, us 24, us 25, us 26, us 27, us 28, us 29, us 30, us 31, us 32, us 33, us 34, us 35, us 36, us 37, us 38, us 39, us 40, us 41, us 42, us 43, us 44, .int .i64 k, .slice (some a) L.length z, .int .i64 L.length, .bool true, .int .i64 k, .int .i64 (k + 1 : Nat), .slice (some a) L.length z, .int .i64 k, .pointer (some (a.add (k * 16))), .pointer (some (a.add (k * 16))), .pointer (some ((a.add (k * 16)).add 9)), .int .i64 x.ph, .bool true, .bool true, .slice (some a) L.length z, .int .i64 k, .pointer (some (a.add (k * 16))), .pointer (some (a.add (k * 16))), .pointer (some ((a.add (k * 16)).add 11)), .int .i64 x.mrk, .bool true, .bool true, .bool false, .bool false, .bool true, .bool true, .bool true, .bool true, undef, undef, undef, undef, undef, undef, undef, undef, undef, undef, undef, .bool true, us 85, us 86, us 87, us 88, us 89, us 90, us 91, us 92, us 93, us 94, us 95, us 96, us 97, us 98, us 99, us 100, us 101, us 102, us 103, us 104, us 105, us 106, us 107, us 108, us 109, us 110, us 111, us 112, us 113, us 114] : Array Value).getD us_ undef, rfl, C0, SL, OX, Lib.hid ⟨by have := hlt.out; omega, by have := hlt.out; have := hk.out; omega⟩, Lib.hid (by rw [found_up ho.out, hf.out, HIC.out, HU.out]; rfl), Lib.hid (by rw [some_up ho.out, hg.out, HIC.out]; rfl)⟩)
 ·have hlt := Lib.hid hlt0
  have ho := Lib.hid ho0
  have HH := Lib.hid h
  clear hlt0 ho0 h
  obtain ⟨a, hsm_a⟩ := src_some SL.out (by have := hlt.out; omega)
  subst hsm_a
  have D48 := Lib.hid (show (k : Int) < (L.length : Int) by have := hlt.out; omega)
  have Wk := Lib.hid (show IntKind.i64.wrap ((k : Int) + 1) = ((k + 1 : Nat) : Int) by rw [wr64 (by have := hlt.out; have h7 := HRP.out.1; omega)]; omega)
  have D57 := Lib.hid (show (x.ph == 2) = true from beq_iff_eq.2 HH.out.1)
  have D65 := Lib.hid (show (x.mrk == 0) = true from beq_iff_eq.2 HH.out.2.1)
  have HIC := Lib.hid (show isCand x = true from by unfold isCand; rw [D57.out, D65.out]; rfl)
  have HU := Lib.hid (show (x.uid == vu) = false from beq_eq_false_iff_ne.2 HH.out.2.2)
  refine s_ (fun K44 hK44 => ?_)
  refine pu_ (v := .int .i64 k) (y_move rfl (by rfl) (by rfl)) ?_
  (try simp only [zP, zN, zA, zB, zC])
  refine pu_ (v := .slice (some a) L.length z) (y_move rfl (by rfl) (by rfl)) ?_
  (try simp only [zP, zN, zA, zB, zC])
  refine pu_ (v := .int .i64 L.length) (y_run (by rfl) (fun W => by go_simp)) ?_
  (try simp only [zP, zN, zA, zB, zC])
  refine pu_ (v := .bool true) (y_run (by rfl) (fun W => by have d := D48.out; go_simp)) ?_
  (try simp only [zP, zN, zA, zB, zC])
  refine nl_ (hK44 _ _ ?_); clear hK44 K44
  refine wp_cond_true rfl ?_
  refine wp_skip ?_
  refine th_norm (hK7 _ _ ?_); try clear hK7 K7
  refine sq_ (fun K45 hK45 => ?_)
  refine wp_block ?_
  refine s_ (fun K46 hK46 => ?_)
  refine pu_ (v := .slice (some a) L.length z) (y_move rfl (by rfl) (by rfl)) ?_
  (try simp only [zP, zN, zA, zB, zC])
  refine pu_ (v := .int .i64 k) (y_move rfl (by rfl) (by rfl)) ?_
  (try simp only [zP, zN, zA, zB, zC])
  refine pu_ (v := .pointer (some (a.add (k * 16)))) (y_run (by rfl) (fun W => by have d := D48.out; go_simp)) ?_
  (try simp only [zP, zN, zA, zB, zC])
  refine pu_ (v := .pointer (some (a.add (k * 16)))) (y_run (by rfl) (fun W => by go_simp)) ?_
  (try simp only [zP, zN, zA, zB, zC])
  refine pu_ (v := .pointer (some ((a.add (k * 16)).add 9))) (y_run (by rfl) (fun W => by go_simp)) ?_
  (try simp only [zP, zN, zA, zB, zC])
  refine ld_ (v := .int .i64 x.ph) rfl (by rfl) (by rfl) (run_load_one ((src_at loadC_len SL.out ho.out) 9 _ (load_9 x)) Try.underlying3 rfl) ?_
  (try simp only [zP, zN, zA, zB, zC])
  refine pu_ (v := .bool true) (y_run (by rfl) (fun W => by have d := D57.out; go_simp)) ?_
  (try simp only [zP, zN, zA, zB, zC])
  refine pu_ (v := .bool true) (y_move rfl (by rfl) (by rfl)) ?_
  (try simp only [zP, zN, zA, zB, zC])
  refine pu_ (v := .slice (some a) L.length z) (y_move rfl (by rfl) (by rfl)) ?_
  (try simp only [zP, zN, zA, zB, zC])
  refine pu_ (v := .int .i64 k) (y_move rfl (by rfl) (by rfl)) ?_
  (try simp only [zP, zN, zA, zB, zC])
  refine pu_ (v := .pointer (some (a.add (k * 16)))) (y_run (by rfl) (fun W => by have d := D48.out; go_simp)) ?_
  (try simp only [zP, zN, zA, zB, zC])
  refine pu_ (v := .pointer (some (a.add (k * 16)))) (y_run (by rfl) (fun W => by go_simp)) ?_
  (try simp only [zP, zN, zA, zB, zC])
  refine pu_ (v := .pointer (some ((a.add (k * 16)).add 11))) (y_run (by rfl) (fun W => by go_simp)) ?_
  (try simp only [zP, zN, zA, zB, zC])
  refine ld_ (v := .int .i64 x.mrk) rfl (by rfl) (by rfl) (run_load_one ((src_at loadC_len SL.out ho.out) 11 _ (load_11 x)) Try.underlying3 rfl) ?_
  (try simp only [zP, zN, zA, zB, zC])
  refine pu_ (v := .bool true) (y_run (by rfl) (fun W => by have d := D65.out; go_simp)) ?_
  (try simp only [zP, zN, zA, zB, zC])
  refine pu_ (v := .bool true) (y_pick (t := true) (by rfl) rfl (by rfl) (by rfl)) ?_
  (try simp only [zP, zN, zA, zB, zC])
  refine pu_ (v := .bool true) (y_assign rfl (by rfl) (by rfl)) ?_
  (try simp only [zP, zN, zA, zB, zC])
  refine nl_ (hK46 _ _ ?_); clear hK46 K46
  refine s_ (fun K47 hK47 => ?_)
  refine pu_ (v := .bool false) (y_move rfl (by rfl) (by rfl)) ?_
  (try simp only [zP, zN, zA, zB, zC])
  refine pu_ (v := .bool false) (y_move rfl (by rfl) (by rfl)) ?_
  (try simp only [zP, zN, zA, zB, zC])
  refine pu_ (v := .bool true) (y_move rfl (by rfl) (by rfl)) ?_
  (try simp only [zP, zN, zA, zB, zC])
  refine pu_ (v := .bool true) (y_pick (t := false) (by rfl) rfl (by rfl) (by rfl)) ?_
  (try simp only [zP, zN, zA, zB, zC])
  refine pu_ (v := .bool true) (y_assign rfl (by rfl) (by rfl)) ?_
  (try simp only [zP, zN, zA, zB, zC])
  refine nl_ (hK47 _ _ ?_); clear hK47 K47
  refine r_ ?_
  refine pu_ (v := .bool true) (y_move rfl (by rfl) (by rfl)) ?_
  (try simp only [zP, zN, zA, zB, zC])
  refine pu_ (v := .bool true) (y_move rfl (by rfl) (by rfl)) ?_
  (try simp only [zP, zN, zA, zB, zC])
  refine pu_ (y_off (by rfl)) ?_
  (try simp only [zP, zN, zA, zB, zC])
  refine pu_ (y_off (by rfl)) ?_
  (try simp only [zP, zN, zA, zB, zC])
  refine pu_ (y_off (by rfl)) ?_
  (try simp only [zP, zN, zA, zB, zC])
  refine pu_ (y_off (by rfl)) ?_
  (try simp only [zP, zN, zA, zB, zC])
  refine pu_ (y_off (by rfl)) ?_
  (try simp only [zP, zN, zA, zB, zC])
  refine pu_ (y_off (by rfl)) ?_
  (try simp only [zP, zN, zA, zB, zC])
  refine pu_ (y_off (by rfl)) ?_
  (try simp only [zP, zN, zA, zB, zC])
  refine pu_ (y_off (by rfl)) ?_
  (try simp only [zP, zN, zA, zB, zC])
  refine pu_ (y_off (by rfl)) ?_
  (try simp only [zP, zN, zA, zB, zC])
  refine pu_ (y_off (by rfl)) ?_
  (try simp only [zP, zN, zA, zB, zC])
  refine pu_ (y_off (by rfl)) ?_
  (try simp only [zP, zN, zA, zB, zC])
  refine pu_ (v := .bool true) (y_pick (t := true) (by rfl) rfl (by rfl) (by rfl)) ?_
  (try simp only [zP, zN, zA, zB, zC])
  refine pu_ (v := .bool true) (y_assign rfl (by rfl) (by rfl)) ?_
  (try simp only [zP, zN, zA, zB, zC])
  refine nl_ ?_
  refine ib_norm ?_
  refine th_norm (hK45 _ _ ?_); try clear hK45 K45
  refine r_ ?_
  refine pu_ (v := .int .i64 k) (y_move rfl (by rfl) (by rfl)) ?_
  (try simp only [zP, zN, zA, zB, zC])
  refine pu_ (v := .int .i64 (k + 1 : Nat)) (y_run (by rfl) (fun W => by have d := Wk.out; go_simp)) ?_
  (try simp only [zP, zN, zA, zB, zC])
  refine pu_ (v := .int .i64 (k + 1 : Nat)) (y_assign rfl (by rfl) (by rfl)) ?_
  (try simp only [zP, zN, zA, zB, zC])
  refine nl_ ?_
  exact th_norm (hK6 (kq - 1) _ _ (by have := hlt.out; have := hk.out; omega) ⟨k + 1, true, true, fun us_ => (#[.slice (some a) L.length z, us 1, .int .i64 pc, us 3, us 4, us 5, .bool false, .slice Ax L.length cx, .int .i64 vu, .bool vb, .bool sh, .bool true, .bool true, .int .i64 (k + 1 : Nat), .bool true, us 15, us 16, us 17, us 18, us 19, us 20, us 21, us 22, us 23, us 24, us 25, us 26, us 27, us 28, us 29, us 30, us 31, us 32, us 33, us 34, us 35, us 36, us 37, us 38, us 39, us 40, us 41, us 42, us 43, us 44, .int .i64 k, .slice (some a) L.length z, .int .i64 L.length, .bool true, .int .i64 k, .int .i64 (k + 1 : Nat), .slice (some a) L.length z, .int .i64 k, .pointer (some (a.add (k * 16))), .pointer (some (a.add (k * 16))), .pointer (some ((a.add (k * 16)).add 9)), .int .i64 x.ph, .bool true, .bool true, .slice (some a) L.length z, .int .i64 k, .pointer (some (a.add (k * 16))), .pointer (some (a.add (k * 16))), .pointer (some ((a.add (k * 16)).add 11)), .int .i64 x.mrk, .bool true, .bool true, .bool false, .bool false, .bool true, .bool true, .bool true, .bool true, undef, undef, undef, undef, undef, undef, undef, undef, undef, undef, undef, .bool true, us 85, us 86, us 87, us 88, us 89, us 90, us 91, us 92, us 93, us 94, us 95, us 96, us 97, us 98, us 99, us 100, us 101, us 102, us 103, us 104, us 105, us 106, us 107, us 108, us 109, us 110, us 111, us 112, us 113, us 114] : Array Value).getD us_ undef, rfl, C0, SL, OX, Lib.hid ⟨by have := hlt.out; omega, by have := hlt.out; have := hk.out; omega⟩, Lib.hid (by rw [found_up ho.out, hf.out, HIC.out, HU.out]; rfl), Lib.hid (by rw [some_up ho.out, hg.out, HIC.out]; rfl)⟩)
 ·have hlt := Lib.hid hlt0
  have ho := Lib.hid ho0
  have HH := Lib.hid h
  clear hlt0 ho0 h
  obtain ⟨a, hsm_a⟩ := src_some SL.out (by have := hlt.out; omega)
  subst hsm_a
  have D48 := Lib.hid (show (k : Int) < (L.length : Int) by have := hlt.out; omega)
  have Wk := Lib.hid (show IntKind.i64.wrap ((k : Int) + 1) = ((k + 1 : Nat) : Int) by rw [wr64 (by have := hlt.out; have h7 := HRP.out.1; omega)]; omega)
  have D57 := Lib.hid (show (x.ph == 2) = true from beq_iff_eq.2 HH.out.1)
  have D65 := Lib.hid (show (x.mrk == 0) = false from beq_eq_false_iff_ne.2 HH.out.2)
  have HIC := Lib.hid (show isCand x = false from by unfold isCand; rw [D57.out, D65.out]; rfl)
  refine s_ (fun K48 hK48 => ?_)
  refine pu_ (v := .int .i64 k) (y_move rfl (by rfl) (by rfl)) ?_
  (try simp only [zP, zN, zA, zB, zC])
  refine pu_ (v := .slice (some a) L.length z) (y_move rfl (by rfl) (by rfl)) ?_
  (try simp only [zP, zN, zA, zB, zC])
  refine pu_ (v := .int .i64 L.length) (y_run (by rfl) (fun W => by go_simp)) ?_
  (try simp only [zP, zN, zA, zB, zC])
  refine pu_ (v := .bool true) (y_run (by rfl) (fun W => by have d := D48.out; go_simp)) ?_
  (try simp only [zP, zN, zA, zB, zC])
  refine nl_ (hK48 _ _ ?_); clear hK48 K48
  refine wp_cond_true rfl ?_
  refine wp_skip ?_
  refine th_norm (hK7 _ _ ?_); try clear hK7 K7
  refine sq_ (fun K49 hK49 => ?_)
  refine wp_block ?_
  refine s_ (fun K50 hK50 => ?_)
  refine pu_ (v := .slice (some a) L.length z) (y_move rfl (by rfl) (by rfl)) ?_
  (try simp only [zP, zN, zA, zB, zC])
  refine pu_ (v := .int .i64 k) (y_move rfl (by rfl) (by rfl)) ?_
  (try simp only [zP, zN, zA, zB, zC])
  refine pu_ (v := .pointer (some (a.add (k * 16)))) (y_run (by rfl) (fun W => by have d := D48.out; go_simp)) ?_
  (try simp only [zP, zN, zA, zB, zC])
  refine pu_ (v := .pointer (some (a.add (k * 16)))) (y_run (by rfl) (fun W => by go_simp)) ?_
  (try simp only [zP, zN, zA, zB, zC])
  refine pu_ (v := .pointer (some ((a.add (k * 16)).add 9))) (y_run (by rfl) (fun W => by go_simp)) ?_
  (try simp only [zP, zN, zA, zB, zC])
  refine ld_ (v := .int .i64 x.ph) rfl (by rfl) (by rfl) (run_load_one ((src_at loadC_len SL.out ho.out) 9 _ (load_9 x)) Try.underlying3 rfl) ?_
  (try simp only [zP, zN, zA, zB, zC])
  refine pu_ (v := .bool true) (y_run (by rfl) (fun W => by have d := D57.out; go_simp)) ?_
  (try simp only [zP, zN, zA, zB, zC])
  refine pu_ (v := .bool true) (y_move rfl (by rfl) (by rfl)) ?_
  (try simp only [zP, zN, zA, zB, zC])
  refine pu_ (v := .slice (some a) L.length z) (y_move rfl (by rfl) (by rfl)) ?_
  (try simp only [zP, zN, zA, zB, zC])
  refine pu_ (v := .int .i64 k) (y_move rfl (by rfl) (by rfl)) ?_
  (try simp only [zP, zN, zA, zB, zC])
  refine pu_ (v := .pointer (some (a.add (k * 16)))) (y_run (by rfl) (fun W => by have d := D48.out; go_simp)) ?_
  (try simp only [zP, zN, zA, zB, zC])
  refine pu_ (v := .pointer (some (a.add (k * 16)))) (y_run (by rfl) (fun W => by go_simp)) ?_
  (try simp only [zP, zN, zA, zB, zC])
  refine pu_ (v := .pointer (some ((a.add (k * 16)).add 11))) (y_run (by rfl) (fun W => by go_simp)) ?_
  (try simp only [zP, zN, zA, zB, zC])
  refine ld_ (v := .int .i64 x.mrk) rfl (by rfl) (by rfl) (run_load_one ((src_at loadC_len SL.out ho.out) 11 _ (load_11 x)) Try.underlying3 rfl) ?_
  (try simp only [zP, zN, zA, zB, zC])
  refine pu_ (v := .bool false) (y_run (by rfl) (fun W => by have d := D65.out; go_simp)) ?_
  (try simp only [zP, zN, zA, zB, zC])
  refine pu_ (v := .bool false) (y_pick (t := true) (by rfl) rfl (by rfl) (by rfl)) ?_
  (try simp only [zP, zN, zA, zB, zC])
  refine pu_ (v := .bool false) (y_assign rfl (by rfl) (by rfl)) ?_
  (try simp only [zP, zN, zA, zB, zC])
  refine nl_ (hK50 _ _ ?_); clear hK50 K50
  refine s_ (fun K51 hK51 => ?_)
  refine pu_ (v := .bool false) (y_move rfl (by rfl) (by rfl)) ?_
  (try simp only [zP, zN, zA, zB, zC])
  refine pu_ (v := .bool false) (y_move rfl (by rfl) (by rfl)) ?_
  (try simp only [zP, zN, zA, zB, zC])
  refine pu_ (v := .bool false) (y_move rfl (by rfl) (by rfl)) ?_
  (try simp only [zP, zN, zA, zB, zC])
  refine pu_ (v := .bool false) (y_pick (t := false) (by rfl) rfl (by rfl) (by rfl)) ?_
  (try simp only [zP, zN, zA, zB, zC])
  refine pu_ (v := .bool false) (y_assign rfl (by rfl) (by rfl)) ?_
  (try simp only [zP, zN, zA, zB, zC])
  refine nl_ (hK51 _ _ ?_); clear hK51 K51
  refine r_ ?_
  refine pu_ (v := .bool true) (y_move rfl (by rfl) (by rfl)) ?_
  (try simp only [zP, zN, zA, zB, zC])
  refine pu_ (v := .bool true) (y_move rfl (by rfl) (by rfl)) ?_
  (try simp only [zP, zN, zA, zB, zC])
  refine pu_ (y_off (by rfl)) ?_
  (try simp only [zP, zN, zA, zB, zC])
  refine pu_ (y_off (by rfl)) ?_
  (try simp only [zP, zN, zA, zB, zC])
  refine pu_ (y_off (by rfl)) ?_
  (try simp only [zP, zN, zA, zB, zC])
  refine pu_ (y_off (by rfl)) ?_
  (try simp only [zP, zN, zA, zB, zC])
  refine pu_ (y_off (by rfl)) ?_
  (try simp only [zP, zN, zA, zB, zC])
  refine pu_ (y_off (by rfl)) ?_
  (try simp only [zP, zN, zA, zB, zC])
  refine pu_ (y_off (by rfl)) ?_
  (try simp only [zP, zN, zA, zB, zC])
  refine pu_ (y_off (by rfl)) ?_
  (try simp only [zP, zN, zA, zB, zC])
  refine pu_ (y_off (by rfl)) ?_
  (try simp only [zP, zN, zA, zB, zC])
  refine pu_ (y_off (by rfl)) ?_
  (try simp only [zP, zN, zA, zB, zC])
  refine pu_ (y_off (by rfl)) ?_
  (try simp only [zP, zN, zA, zB, zC])
  refine pu_ (v := .bool true) (y_pick (t := true) (by rfl) rfl (by rfl) (by rfl)) ?_
  (try simp only [zP, zN, zA, zB, zC])
  refine pu_ (v := .bool true) (y_assign rfl (by rfl) (by rfl)) ?_
  (try simp only [zP, zN, zA, zB, zC])
  refine nl_ ?_
  refine ib_norm ?_
  refine th_norm (hK49 _ _ ?_); try clear hK49 K49
  refine r_ ?_
  refine pu_ (v := .int .i64 k) (y_move rfl (by rfl) (by rfl)) ?_
  (try simp only [zP, zN, zA, zB, zC])
  refine pu_ (v := .int .i64 (k + 1 : Nat)) (y_run (by rfl) (fun W => by have d := Wk.out; go_simp)) ?_
  (try simp only [zP, zN, zA, zB, zC])
  refine pu_ (v := .int .i64 (k + 1 : Nat)) (y_assign rfl (by rfl) (by rfl)) ?_
  (try simp only [zP, zN, zA, zB, zC])
  refine nl_ ?_
  exact th_norm (hK6 (kq - 1) _ _ (by have := hlt.out; have := hk.out; omega) ⟨k + 1, true, false, fun us_ => (#[.slice (some a) L.length z, us 1, .int .i64 pc, us 3, us 4, us 5, .bool false, .slice Ax L.length cx, .int .i64 vu, .bool vb, .bool sh, .bool true, .bool false, .int .i64 (k + 1 : Nat), .bool false, us 15, us 16, us 17, us 18, us 19, us 20, us 21, us 22, us 23, us 24, us 25, us 26, us 27, us 28, us 29, us 30, us 31, us 32, us 33, us 34, us 35, us 36, us 37, us 38, us 39, us 40, us 41, us 42, us 43, us 44, .int .i64 k, .slice (some a) L.length z, .int .i64 L.length, .bool true, .int .i64 k, .int .i64 (k + 1 : Nat), .slice (some a) L.length z, .int .i64 k, .pointer (some (a.add (k * 16))), .pointer (some (a.add (k * 16))), .pointer (some ((a.add (k * 16)).add 9)), .int .i64 x.ph, .bool true, .bool true, .slice (some a) L.length z, .int .i64 k, .pointer (some (a.add (k * 16))), .pointer (some (a.add (k * 16))), .pointer (some ((a.add (k * 16)).add 11)), .int .i64 x.mrk, .bool false, .bool false, .bool false, .bool false, .bool false, .bool false, .bool true, .bool true, undef, undef, undef, undef, undef, undef, undef, undef, undef, undef, undef, .bool true, us 85, us 86, us 87, us 88, us 89, us 90, us 91, us 92, us 93, us 94, us 95, us 96, us 97, us 98, us 99, us 100, us 101, us 102, us 103, us 104, us 105, us 106, us 107, us 108, us 109, us 110, us 111, us 112, us 113, us 114] : Array Value).getD us_ undef, rfl, C0, SL, OX, Lib.hid ⟨by have := hlt.out; omega, by have := hlt.out; have := hk.out; omega⟩, Lib.hid (by rw [found_up ho.out, hf.out, HIC.out]; rfl), Lib.hid (by rw [some_up ho.out, hg.out, HIC.out]; rfl)⟩)
 ·have hlt := Lib.hid hlt0
  have ho := Lib.hid ho0
  have HH := Lib.hid h
  clear hlt0 ho0 h
  obtain ⟨a, hsm_a⟩ := src_some SL.out (by have := hlt.out; omega)
  subst hsm_a
  have D48 := Lib.hid (show (k : Int) < (L.length : Int) by have := hlt.out; omega)
  have Wk := Lib.hid (show IntKind.i64.wrap ((k : Int) + 1) = ((k + 1 : Nat) : Int) by rw [wr64 (by have := hlt.out; have h7 := HRP.out.1; omega)]; omega)
  have D57 := Lib.hid (show (x.ph == 2) = false from beq_eq_false_iff_ne.2 HH.out)
  have HIC := Lib.hid (show isCand x = false from by unfold isCand; rw [D57.out]; rfl)
  refine s_ (fun K52 hK52 => ?_)
  refine pu_ (v := .int .i64 k) (y_move rfl (by rfl) (by rfl)) ?_
  (try simp only [zP, zN, zA, zB, zC])
  refine pu_ (v := .slice (some a) L.length z) (y_move rfl (by rfl) (by rfl)) ?_
  (try simp only [zP, zN, zA, zB, zC])
  refine pu_ (v := .int .i64 L.length) (y_run (by rfl) (fun W => by go_simp)) ?_
  (try simp only [zP, zN, zA, zB, zC])
  refine pu_ (v := .bool true) (y_run (by rfl) (fun W => by have d := D48.out; go_simp)) ?_
  (try simp only [zP, zN, zA, zB, zC])
  refine nl_ (hK52 _ _ ?_); clear hK52 K52
  refine wp_cond_true rfl ?_
  refine wp_skip ?_
  refine th_norm (hK7 _ _ ?_); try clear hK7 K7
  refine sq_ (fun K53 hK53 => ?_)
  refine wp_block ?_
  refine s_ (fun K54 hK54 => ?_)
  refine pu_ (v := .slice (some a) L.length z) (y_move rfl (by rfl) (by rfl)) ?_
  (try simp only [zP, zN, zA, zB, zC])
  refine pu_ (v := .int .i64 k) (y_move rfl (by rfl) (by rfl)) ?_
  (try simp only [zP, zN, zA, zB, zC])
  refine pu_ (v := .pointer (some (a.add (k * 16)))) (y_run (by rfl) (fun W => by have d := D48.out; go_simp)) ?_
  (try simp only [zP, zN, zA, zB, zC])
  refine pu_ (v := .pointer (some (a.add (k * 16)))) (y_run (by rfl) (fun W => by go_simp)) ?_
  (try simp only [zP, zN, zA, zB, zC])
  refine pu_ (v := .pointer (some ((a.add (k * 16)).add 9))) (y_run (by rfl) (fun W => by go_simp)) ?_
  (try simp only [zP, zN, zA, zB, zC])
  refine ld_ (v := .int .i64 x.ph) rfl (by rfl) (by rfl) (run_load_one ((src_at loadC_len SL.out ho.out) 9 _ (load_9 x)) Try.underlying3 rfl) ?_
  (try simp only [zP, zN, zA, zB, zC])
  refine pu_ (v := .bool false) (y_run (by rfl) (fun W => by have d := D57.out; go_simp)) ?_
  (try simp only [zP, zN, zA, zB, zC])
  refine pu_ (v := .bool false) (y_move rfl (by rfl) (by rfl)) ?_
  (try simp only [zP, zN, zA, zB, zC])
  refine pu_ (y_off (by rfl)) ?_
  (try simp only [zP, zN, zA, zB, zC])
  refine pu_ (y_off (by rfl)) ?_
  (try simp only [zP, zN, zA, zB, zC])
  refine pu_ (y_off (by rfl)) ?_
  (try simp only [zP, zN, zA, zB, zC])
  refine pu_ (y_off (by rfl)) ?_
  (try simp only [zP, zN, zA, zB, zC])
  refine pu_ (y_off (by rfl)) ?_
  (try simp only [zP, zN, zA, zB, zC])
  refine pu_ (y_off (by rfl)) ?_
  (try simp only [zP, zN, zA, zB, zC])
  refine pu_ (y_off (by rfl)) ?_
  (try simp only [zP, zN, zA, zB, zC])
  refine pu_ (v := .bool false) (y_pick (t := false) (by rfl) rfl (by rfl) (by rfl)) ?_
  (try simp only [zP, zN, zA, zB, zC])
  refine pu_ (v := .bool false) (y_assign rfl (by rfl) (by rfl)) ?_
  (try simp only [zP, zN, zA, zB, zC])
  refine nl_ (hK54 _ _ ?_); clear hK54 K54
  refine s_ (fun K55 hK55 => ?_)
  refine pu_ (v := .bool false) (y_move rfl (by rfl) (by rfl)) ?_
  (try simp only [zP, zN, zA, zB, zC])
  refine pu_ (v := .bool false) (y_move rfl (by rfl) (by rfl)) ?_
  (try simp only [zP, zN, zA, zB, zC])
  refine pu_ (v := .bool false) (y_move rfl (by rfl) (by rfl)) ?_
  (try simp only [zP, zN, zA, zB, zC])
  refine pu_ (v := .bool false) (y_pick (t := false) (by rfl) rfl (by rfl) (by rfl)) ?_
  (try simp only [zP, zN, zA, zB, zC])
  refine pu_ (v := .bool false) (y_assign rfl (by rfl) (by rfl)) ?_
  (try simp only [zP, zN, zA, zB, zC])
  refine nl_ (hK55 _ _ ?_); clear hK55 K55
  refine r_ ?_
  refine pu_ (v := .bool true) (y_move rfl (by rfl) (by rfl)) ?_
  (try simp only [zP, zN, zA, zB, zC])
  refine pu_ (v := .bool true) (y_move rfl (by rfl) (by rfl)) ?_
  (try simp only [zP, zN, zA, zB, zC])
  refine pu_ (y_off (by rfl)) ?_
  (try simp only [zP, zN, zA, zB, zC])
  refine pu_ (y_off (by rfl)) ?_
  (try simp only [zP, zN, zA, zB, zC])
  refine pu_ (y_off (by rfl)) ?_
  (try simp only [zP, zN, zA, zB, zC])
  refine pu_ (y_off (by rfl)) ?_
  (try simp only [zP, zN, zA, zB, zC])
  refine pu_ (y_off (by rfl)) ?_
  (try simp only [zP, zN, zA, zB, zC])
  refine pu_ (y_off (by rfl)) ?_
  (try simp only [zP, zN, zA, zB, zC])
  refine pu_ (y_off (by rfl)) ?_
  (try simp only [zP, zN, zA, zB, zC])
  refine pu_ (y_off (by rfl)) ?_
  (try simp only [zP, zN, zA, zB, zC])
  refine pu_ (y_off (by rfl)) ?_
  (try simp only [zP, zN, zA, zB, zC])
  refine pu_ (y_off (by rfl)) ?_
  (try simp only [zP, zN, zA, zB, zC])
  refine pu_ (y_off (by rfl)) ?_
  (try simp only [zP, zN, zA, zB, zC])
  refine pu_ (v := .bool true) (y_pick (t := true) (by rfl) rfl (by rfl) (by rfl)) ?_
  (try simp only [zP, zN, zA, zB, zC])
  refine pu_ (v := .bool true) (y_assign rfl (by rfl) (by rfl)) ?_
  (try simp only [zP, zN, zA, zB, zC])
  refine nl_ ?_
  refine ib_norm ?_
  refine th_norm (hK53 _ _ ?_); try clear hK53 K53
  refine r_ ?_
  refine pu_ (v := .int .i64 k) (y_move rfl (by rfl) (by rfl)) ?_
  (try simp only [zP, zN, zA, zB, zC])
  refine pu_ (v := .int .i64 (k + 1 : Nat)) (y_run (by rfl) (fun W => by have d := Wk.out; go_simp)) ?_
  (try simp only [zP, zN, zA, zB, zC])
  refine pu_ (v := .int .i64 (k + 1 : Nat)) (y_assign rfl (by rfl) (by rfl)) ?_
  (try simp only [zP, zN, zA, zB, zC])
  refine nl_ ?_
  exact th_norm (hK6 (kq - 1) _ _ (by have := hlt.out; have := hk.out; omega) ⟨k + 1, true, false, fun us_ => (#[.slice (some a) L.length z, us 1, .int .i64 pc, us 3, us 4, us 5, .bool false, .slice Ax L.length cx, .int .i64 vu, .bool vb, .bool sh, .bool true, .bool false, .int .i64 (k + 1 : Nat), .bool false, us 15, us 16, us 17, us 18, us 19, us 20, us 21, us 22, us 23, us 24, us 25, us 26, us 27, us 28, us 29, us 30, us 31, us 32, us 33, us 34, us 35, us 36, us 37, us 38, us 39, us 40, us 41, us 42, us 43, us 44, .int .i64 k, .slice (some a) L.length z, .int .i64 L.length, .bool true, .int .i64 k, .int .i64 (k + 1 : Nat), .slice (some a) L.length z, .int .i64 k, .pointer (some (a.add (k * 16))), .pointer (some (a.add (k * 16))), .pointer (some ((a.add (k * 16)).add 9)), .int .i64 x.ph, .bool false, .bool false, undef, undef, undef, undef, undef, undef, undef, .bool false, .bool false, .bool false, .bool false, .bool false, .bool true, .bool true, undef, undef, undef, undef, undef, undef, undef, undef, undef, undef, undef, .bool true, us 85, us 86, us 87, us 88, us 89, us 90, us 91, us 92, us 93, us 94, us 95, us 96, us 97, us 98, us 99, us 100, us 101, us 102, us 103, us 104, us 105, us 106, us 107, us 108, us 109, us 110, us 111, us 112, us 113, us 114] : Array Value).getD us_ undef, rfl, C0, SL, OX, Lib.hid ⟨by have := hlt.out; omega, by have := hlt.out; have := hk.out; omega⟩, Lib.hid (by rw [found_up ho.out, hf.out, HIC.out]; rfl), Lib.hid (by rw [some_up ho.out, hg.out, HIC.out]; rfl)⟩)
 ·have hlt := Lib.hid hlt0
  have ho := Lib.hid ho0
  have HH := Lib.hid h
  clear hlt0 ho0 h
  obtain ⟨a, hsm_a⟩ := src_some SL.out (by have := hlt.out; omega)
  subst hsm_a
  have D48 := Lib.hid (show (k : Int) < (L.length : Int) by have := hlt.out; omega)
  have Wk := Lib.hid (show IntKind.i64.wrap ((k : Int) + 1) = ((k + 1 : Nat) : Int) by rw [wr64 (by have := hlt.out; have h7 := HRP.out.1; omega)]; omega)
  have D57 := Lib.hid (show (x.ph == 2) = true from beq_iff_eq.2 HH.out.1)
  have D65 := Lib.hid (show (x.mrk == 0) = true from beq_iff_eq.2 HH.out.2.1)
  have HIC := Lib.hid (show isCand x = true from by unfold isCand; rw [D57.out, D65.out]; rfl)
  have HU := Lib.hid (show (x.uid == vu) = true from beq_iff_eq.2 HH.out.2.2)
  refine s_ (fun K56 hK56 => ?_)
  refine pu_ (v := .int .i64 k) (y_move rfl (by rfl) (by rfl)) ?_
  (try simp only [zP, zN, zA, zB, zC])
  refine pu_ (v := .slice (some a) L.length z) (y_move rfl (by rfl) (by rfl)) ?_
  (try simp only [zP, zN, zA, zB, zC])
  refine pu_ (v := .int .i64 L.length) (y_run (by rfl) (fun W => by go_simp)) ?_
  (try simp only [zP, zN, zA, zB, zC])
  refine pu_ (v := .bool true) (y_run (by rfl) (fun W => by have d := D48.out; go_simp)) ?_
  (try simp only [zP, zN, zA, zB, zC])
  refine nl_ (hK56 _ _ ?_); clear hK56 K56
  refine wp_cond_true rfl ?_
  refine wp_skip ?_
  refine th_norm (hK7 _ _ ?_); try clear hK7 K7
  refine sq_ (fun K57 hK57 => ?_)
  refine wp_block ?_
  refine s_ (fun K58 hK58 => ?_)
  refine pu_ (v := .slice (some a) L.length z) (y_move rfl (by rfl) (by rfl)) ?_
  (try simp only [zP, zN, zA, zB, zC])
  refine pu_ (v := .int .i64 k) (y_move rfl (by rfl) (by rfl)) ?_
  (try simp only [zP, zN, zA, zB, zC])
  refine pu_ (v := .pointer (some (a.add (k * 16)))) (y_run (by rfl) (fun W => by have d := D48.out; go_simp)) ?_
  (try simp only [zP, zN, zA, zB, zC])
  refine pu_ (v := .pointer (some (a.add (k * 16)))) (y_run (by rfl) (fun W => by go_simp)) ?_
  (try simp only [zP, zN, zA, zB, zC])
  refine pu_ (v := .pointer (some ((a.add (k * 16)).add 9))) (y_run (by rfl) (fun W => by go_simp)) ?_
  (try simp only [zP, zN, zA, zB, zC])
  refine ld_ (v := .int .i64 x.ph) rfl (by rfl) (by rfl) (run_load_one ((src_at loadC_len SL.out ho.out) 9 _ (load_9 x)) Try.underlying3 rfl) ?_
  (try simp only [zP, zN, zA, zB, zC])
  refine pu_ (v := .bool true) (y_run (by rfl) (fun W => by have d := D57.out; go_simp)) ?_
  (try simp only [zP, zN, zA, zB, zC])
  refine pu_ (v := .bool true) (y_move rfl (by rfl) (by rfl)) ?_
  (try simp only [zP, zN, zA, zB, zC])
  refine pu_ (v := .slice (some a) L.length z) (y_move rfl (by rfl) (by rfl)) ?_
  (try simp only [zP, zN, zA, zB, zC])
  refine pu_ (v := .int .i64 k) (y_move rfl (by rfl) (by rfl)) ?_
  (try simp only [zP, zN, zA, zB, zC])
  refine pu_ (v := .pointer (some (a.add (k * 16)))) (y_run (by rfl) (fun W => by have d := D48.out; go_simp)) ?_
  (try simp only [zP, zN, zA, zB, zC])
  refine pu_ (v := .pointer (some (a.add (k * 16)))) (y_run (by rfl) (fun W => by go_simp)) ?_
  (try simp only [zP, zN, zA, zB, zC])
  refine pu_ (v := .pointer (some ((a.add (k * 16)).add 11))) (y_run (by rfl) (fun W => by go_simp)) ?_
  (try simp only [zP, zN, zA, zB, zC])
  refine ld_ (v := .int .i64 x.mrk) rfl (by rfl) (by rfl) (run_load_one ((src_at loadC_len SL.out ho.out) 11 _ (load_11 x)) Try.underlying3 rfl) ?_
  (try simp only [zP, zN, zA, zB, zC])
  refine pu_ (v := .bool true) (y_run (by rfl) (fun W => by have d := D65.out; go_simp)) ?_
  (try simp only [zP, zN, zA, zB, zC])
  refine pu_ (v := .bool true) (y_pick (t := true) (by rfl) rfl (by rfl) (by rfl)) ?_
  (try simp only [zP, zN, zA, zB, zC])
  refine pu_ (v := .bool true) (y_assign rfl (by rfl) (by rfl)) ?_
  (try simp only [zP, zN, zA, zB, zC])
  refine nl_ (hK58 _ _ ?_); clear hK58 K58
  refine s_ (fun K59 hK59 => ?_)
  refine pu_ (v := .bool true) (y_move rfl (by rfl) (by rfl)) ?_
  (try simp only [zP, zN, zA, zB, zC])
  refine pu_ (v := .bool true) (y_move rfl (by rfl) (by rfl)) ?_
  (try simp only [zP, zN, zA, zB, zC])
  refine pu_ (y_off (by rfl)) ?_
  (try simp only [zP, zN, zA, zB, zC])
  refine pu_ (v := .bool true) (y_pick (t := true) (by rfl) rfl (by rfl) (by rfl)) ?_
  (try simp only [zP, zN, zA, zB, zC])
  refine pu_ (v := .bool true) (y_assign rfl (by rfl) (by rfl)) ?_
  (try simp only [zP, zN, zA, zB, zC])
  refine nl_ (hK59 _ _ ?_); clear hK59 K59
  refine r_ ?_
  refine pu_ (v := .bool true) (y_move rfl (by rfl) (by rfl)) ?_
  (try simp only [zP, zN, zA, zB, zC])
  refine pu_ (v := .bool true) (y_move rfl (by rfl) (by rfl)) ?_
  (try simp only [zP, zN, zA, zB, zC])
  refine pu_ (y_off (by rfl)) ?_
  (try simp only [zP, zN, zA, zB, zC])
  refine pu_ (y_off (by rfl)) ?_
  (try simp only [zP, zN, zA, zB, zC])
  refine pu_ (y_off (by rfl)) ?_
  (try simp only [zP, zN, zA, zB, zC])
  refine pu_ (y_off (by rfl)) ?_
  (try simp only [zP, zN, zA, zB, zC])
  refine pu_ (y_off (by rfl)) ?_
  (try simp only [zP, zN, zA, zB, zC])
  refine pu_ (y_off (by rfl)) ?_
  (try simp only [zP, zN, zA, zB, zC])
  refine pu_ (y_off (by rfl)) ?_
  (try simp only [zP, zN, zA, zB, zC])
  refine pu_ (y_off (by rfl)) ?_
  (try simp only [zP, zN, zA, zB, zC])
  refine pu_ (y_off (by rfl)) ?_
  (try simp only [zP, zN, zA, zB, zC])
  refine pu_ (y_off (by rfl)) ?_
  (try simp only [zP, zN, zA, zB, zC])
  refine pu_ (y_off (by rfl)) ?_
  (try simp only [zP, zN, zA, zB, zC])
  refine pu_ (v := .bool true) (y_pick (t := true) (by rfl) rfl (by rfl) (by rfl)) ?_
  (try simp only [zP, zN, zA, zB, zC])
  refine pu_ (v := .bool true) (y_assign rfl (by rfl) (by rfl)) ?_
  (try simp only [zP, zN, zA, zB, zC])
  refine nl_ ?_
  refine ib_norm ?_
  refine th_norm (hK57 _ _ ?_); try clear hK57 K57
  refine r_ ?_
  refine pu_ (v := .int .i64 k) (y_move rfl (by rfl) (by rfl)) ?_
  (try simp only [zP, zN, zA, zB, zC])
  refine pu_ (v := .int .i64 (k + 1 : Nat)) (y_run (by rfl) (fun W => by have d := Wk.out; go_simp)) ?_
  (try simp only [zP, zN, zA, zB, zC])
  refine pu_ (v := .int .i64 (k + 1 : Nat)) (y_assign rfl (by rfl) (by rfl)) ?_
  (try simp only [zP, zN, zA, zB, zC])
  refine nl_ ?_
  exact th_norm (hK6 (kq - 1) _ _ (by have := hlt.out; have := hk.out; omega) ⟨k + 1, true, true, fun us_ => (#[.slice (some a) L.length z, us 1, .int .i64 pc, us 3, us 4, us 5, .bool false, .slice Ax L.length cx, .int .i64 vu, .bool vb, .bool sh, .bool true, .bool true, .int .i64 (k + 1 : Nat), .bool true, us 15, us 16, us 17, us 18, us 19, us 20, us 21, us 22, us 23, us 24, us 25, us 26, us 27, us 28, us 29, us 30, us 31, us 32, us 33, us 34, us 35, us 36, us 37, us 38, us 39, us 40, us 41, us 42, us 43, us 44, .int .i64 k, .slice (some a) L.length z, .int .i64 L.length, .bool true, .int .i64 k, .int .i64 (k + 1 : Nat), .slice (some a) L.length z, .int .i64 k, .pointer (some (a.add (k * 16))), .pointer (some (a.add (k * 16))), .pointer (some ((a.add (k * 16)).add 9)), .int .i64 x.ph, .bool true, .bool true, .slice (some a) L.length z, .int .i64 k, .pointer (some (a.add (k * 16))), .pointer (some (a.add (k * 16))), .pointer (some ((a.add (k * 16)).add 11)), .int .i64 x.mrk, .bool true, .bool true, .bool true, .bool true, undef, .bool true, .bool true, .bool true, undef, undef, undef, undef, undef, undef, undef, undef, undef, undef, undef, .bool true, us 85, us 86, us 87, us 88, us 89, us 90, us 91, us 92, us 93, us 94, us 95, us 96, us 97, us 98, us 99, us 100, us 101, us 102, us 103, us 104, us 105, us 106, us 107, us 108, us 109, us 110, us 111, us 112, us 113, us 114] : Array Value).getD us_ undef, rfl, C0, SL, OX, Lib.hid ⟨by have := hlt.out; omega, by have := hlt.out; have := hk.out; omega⟩, Lib.hid (by rw [found_up ho.out, hf.out, HIC.out, HU.out]; rfl), Lib.hid (by rw [some_up ho.out, hg.out, HIC.out]; rfl)⟩)
 ·have hlt := Lib.hid hlt0
  have ho := Lib.hid ho0
  have HH := Lib.hid h
  clear hlt0 ho0 h
  obtain ⟨a, hsm_a⟩ := src_some SL.out (by have := hlt.out; omega)
  subst hsm_a
  have D48 := Lib.hid (show (k : Int) < (L.length : Int) by have := hlt.out; omega)
  have Wk := Lib.hid (show IntKind.i64.wrap ((k : Int) + 1) = ((k + 1 : Nat) : Int) by rw [wr64 (by have := hlt.out; have h7 := HRP.out.1; omega)]; omega)
  have D57 := Lib.hid (show (x.ph == 2) = true from beq_iff_eq.2 HH.out.1)
  have D65 := Lib.hid (show (x.mrk == 0) = true from beq_iff_eq.2 HH.out.2.1)
  have HIC := Lib.hid (show isCand x = true from by unfold isCand; rw [D57.out, D65.out]; rfl)
  have HU := Lib.hid (show (x.uid == vu) = false from beq_eq_false_iff_ne.2 HH.out.2.2)
  refine s_ (fun K60 hK60 => ?_)
  refine pu_ (v := .int .i64 k) (y_move rfl (by rfl) (by rfl)) ?_
  (try simp only [zP, zN, zA, zB, zC])
  refine pu_ (v := .slice (some a) L.length z) (y_move rfl (by rfl) (by rfl)) ?_
  (try simp only [zP, zN, zA, zB, zC])
  refine pu_ (v := .int .i64 L.length) (y_run (by rfl) (fun W => by go_simp)) ?_
  (try simp only [zP, zN, zA, zB, zC])
  refine pu_ (v := .bool true) (y_run (by rfl) (fun W => by have d := D48.out; go_simp)) ?_
  (try simp only [zP, zN, zA, zB, zC])
  refine nl_ (hK60 _ _ ?_); clear hK60 K60
  refine wp_cond_true rfl ?_
  refine wp_skip ?_
  refine th_norm (hK7 _ _ ?_); try clear hK7 K7
  refine sq_ (fun K61 hK61 => ?_)
  refine wp_block ?_
  refine s_ (fun K62 hK62 => ?_)
  refine pu_ (v := .slice (some a) L.length z) (y_move rfl (by rfl) (by rfl)) ?_
  (try simp only [zP, zN, zA, zB, zC])
  refine pu_ (v := .int .i64 k) (y_move rfl (by rfl) (by rfl)) ?_
  (try simp only [zP, zN, zA, zB, zC])
  refine pu_ (v := .pointer (some (a.add (k * 16)))) (y_run (by rfl) (fun W => by have d := D48.out; go_simp)) ?_
  (try simp only [zP, zN, zA, zB, zC])
  refine pu_ (v := .pointer (some (a.add (k * 16)))) (y_run (by rfl) (fun W => by go_simp)) ?_
  (try simp only [zP, zN, zA, zB, zC])
  refine pu_ (v := .pointer (some ((a.add (k * 16)).add 9))) (y_run (by rfl) (fun W => by go_simp)) ?_
  (try simp only [zP, zN, zA, zB, zC])
  refine ld_ (v := .int .i64 x.ph) rfl (by rfl) (by rfl) (run_load_one ((src_at loadC_len SL.out ho.out) 9 _ (load_9 x)) Try.underlying3 rfl) ?_
  (try simp only [zP, zN, zA, zB, zC])
  refine pu_ (v := .bool true) (y_run (by rfl) (fun W => by have d := D57.out; go_simp)) ?_
  (try simp only [zP, zN, zA, zB, zC])
  refine pu_ (v := .bool true) (y_move rfl (by rfl) (by rfl)) ?_
  (try simp only [zP, zN, zA, zB, zC])
  refine pu_ (v := .slice (some a) L.length z) (y_move rfl (by rfl) (by rfl)) ?_
  (try simp only [zP, zN, zA, zB, zC])
  refine pu_ (v := .int .i64 k) (y_move rfl (by rfl) (by rfl)) ?_
  (try simp only [zP, zN, zA, zB, zC])
  refine pu_ (v := .pointer (some (a.add (k * 16)))) (y_run (by rfl) (fun W => by have d := D48.out; go_simp)) ?_
  (try simp only [zP, zN, zA, zB, zC])
  refine pu_ (v := .pointer (some (a.add (k * 16)))) (y_run (by rfl) (fun W => by go_simp)) ?_
  (try simp only [zP, zN, zA, zB, zC])
  refine pu_ (v := .pointer (some ((a.add (k * 16)).add 11))) (y_run (by rfl) (fun W => by go_simp)) ?_
  (try simp only [zP, zN, zA, zB, zC])
  refine ld_ (v := .int .i64 x.mrk) rfl (by rfl) (by rfl) (run_load_one ((src_at loadC_len SL.out ho.out) 11 _ (load_11 x)) Try.underlying3 rfl) ?_
  (try simp only [zP, zN, zA, zB, zC])
  refine pu_ (v := .bool true) (y_run (by rfl) (fun W => by have d := D65.out; go_simp)) ?_
  (try simp only [zP, zN, zA, zB, zC])
  refine pu_ (v := .bool true) (y_pick (t := true) (by rfl) rfl (by rfl) (by rfl)) ?_
  (try simp only [zP, zN, zA, zB, zC])
  refine pu_ (v := .bool true) (y_assign rfl (by rfl) (by rfl)) ?_
  (try simp only [zP, zN, zA, zB, zC])
  refine nl_ (hK62 _ _ ?_); clear hK62 K62
  refine s_ (fun K63 hK63 => ?_)
  refine pu_ (v := .bool true) (y_move rfl (by rfl) (by rfl)) ?_
  (try simp only [zP, zN, zA, zB, zC])
  refine pu_ (v := .bool true) (y_move rfl (by rfl) (by rfl)) ?_
  (try simp only [zP, zN, zA, zB, zC])
  refine pu_ (y_off (by rfl)) ?_
  (try simp only [zP, zN, zA, zB, zC])
  refine pu_ (v := .bool true) (y_pick (t := true) (by rfl) rfl (by rfl) (by rfl)) ?_
  (try simp only [zP, zN, zA, zB, zC])
  refine pu_ (v := .bool true) (y_assign rfl (by rfl) (by rfl)) ?_
  (try simp only [zP, zN, zA, zB, zC])
  refine nl_ (hK63 _ _ ?_); clear hK63 K63
  refine r_ ?_
  refine pu_ (v := .bool true) (y_move rfl (by rfl) (by rfl)) ?_
  (try simp only [zP, zN, zA, zB, zC])
  refine pu_ (v := .bool true) (y_move rfl (by rfl) (by rfl)) ?_
  (try simp only [zP, zN, zA, zB, zC])
  refine pu_ (y_off (by rfl)) ?_
  (try simp only [zP, zN, zA, zB, zC])
  refine pu_ (y_off (by rfl)) ?_
  (try simp only [zP, zN, zA, zB, zC])
  refine pu_ (y_off (by rfl)) ?_
  (try simp only [zP, zN, zA, zB, zC])
  refine pu_ (y_off (by rfl)) ?_
  (try simp only [zP, zN, zA, zB, zC])
  refine pu_ (y_off (by rfl)) ?_
  (try simp only [zP, zN, zA, zB, zC])
  refine pu_ (y_off (by rfl)) ?_
  (try simp only [zP, zN, zA, zB, zC])
  refine pu_ (y_off (by rfl)) ?_
  (try simp only [zP, zN, zA, zB, zC])
  refine pu_ (y_off (by rfl)) ?_
  (try simp only [zP, zN, zA, zB, zC])
  refine pu_ (y_off (by rfl)) ?_
  (try simp only [zP, zN, zA, zB, zC])
  refine pu_ (y_off (by rfl)) ?_
  (try simp only [zP, zN, zA, zB, zC])
  refine pu_ (y_off (by rfl)) ?_
  (try simp only [zP, zN, zA, zB, zC])
  refine pu_ (v := .bool true) (y_pick (t := true) (by rfl) rfl (by rfl) (by rfl)) ?_
  (try simp only [zP, zN, zA, zB, zC])
  refine pu_ (v := .bool true) (y_assign rfl (by rfl) (by rfl)) ?_
  (try simp only [zP, zN, zA, zB, zC])
  refine nl_ ?_
  refine ib_norm ?_
  refine th_norm (hK61 _ _ ?_); try clear hK61 K61
  refine r_ ?_
  refine pu_ (v := .int .i64 k) (y_move rfl (by rfl) (by rfl)) ?_
  (try simp only [zP, zN, zA, zB, zC])
  refine pu_ (v := .int .i64 (k + 1 : Nat)) (y_run (by rfl) (fun W => by have d := Wk.out; go_simp)) ?_
  (try simp only [zP, zN, zA, zB, zC])
  refine pu_ (v := .int .i64 (k + 1 : Nat)) (y_assign rfl (by rfl) (by rfl)) ?_
  (try simp only [zP, zN, zA, zB, zC])
  refine nl_ ?_
  exact th_norm (hK6 (kq - 1) _ _ (by have := hlt.out; have := hk.out; omega) ⟨k + 1, true, true, fun us_ => (#[.slice (some a) L.length z, us 1, .int .i64 pc, us 3, us 4, us 5, .bool false, .slice Ax L.length cx, .int .i64 vu, .bool vb, .bool sh, .bool true, .bool true, .int .i64 (k + 1 : Nat), .bool true, us 15, us 16, us 17, us 18, us 19, us 20, us 21, us 22, us 23, us 24, us 25, us 26, us 27, us 28, us 29, us 30, us 31, us 32, us 33, us 34, us 35, us 36, us 37, us 38, us 39, us 40, us 41, us 42, us 43, us 44, .int .i64 k, .slice (some a) L.length z, .int .i64 L.length, .bool true, .int .i64 k, .int .i64 (k + 1 : Nat), .slice (some a) L.length z, .int .i64 k, .pointer (some (a.add (k * 16))), .pointer (some (a.add (k * 16))), .pointer (some ((a.add (k * 16)).add 9)), .int .i64 x.ph, .bool true, .bool true, .slice (some a) L.length z, .int .i64 k, .pointer (some (a.add (k * 16))), .pointer (some (a.add (k * 16))), .pointer (some ((a.add (k * 16)).add 11)), .int .i64 x.mrk, .bool true, .bool true, .bool true, .bool true, undef, .bool true, .bool true, .bool true, undef, undef, undef, undef, undef, undef, undef, undef, undef, undef, undef, .bool true, us 85, us 86, us 87, us 88, us 89, us 90, us 91, us 92, us 93, us 94, us 95, us 96, us 97, us 98, us 99, us 100, us 101, us 102, us 103, us 104, us 105, us 106, us 107, us 108, us 109, us 110, us 111, us 112, us 113, us 114] : Array Value).getD us_ undef, rfl, C0, SL, OX, Lib.hid ⟨by have := hlt.out; omega, by have := hlt.out; have := hk.out; omega⟩, Lib.hid (by rw [found_up ho.out, hf.out, HIC.out, HU.out]; rfl), Lib.hid (by rw [some_up ho.out, hg.out, HIC.out]; rfl)⟩)
 ·have hlt := Lib.hid hlt0
  have ho := Lib.hid ho0
  have HH := Lib.hid h
  clear hlt0 ho0 h
  obtain ⟨a, hsm_a⟩ := src_some SL.out (by have := hlt.out; omega)
  subst hsm_a
  have D48 := Lib.hid (show (k : Int) < (L.length : Int) by have := hlt.out; omega)
  have Wk := Lib.hid (show IntKind.i64.wrap ((k : Int) + 1) = ((k + 1 : Nat) : Int) by rw [wr64 (by have := hlt.out; have h7 := HRP.out.1; omega)]; omega)
  have D57 := Lib.hid (show (x.ph == 2) = true from beq_iff_eq.2 HH.out.1)
  have D65 := Lib.hid (show (x.mrk == 0) = false from beq_eq_false_iff_ne.2 HH.out.2)
  have HIC := Lib.hid (show isCand x = false from by unfold isCand; rw [D57.out, D65.out]; rfl)
  refine s_ (fun K64 hK64 => ?_)
  refine pu_ (v := .int .i64 k) (y_move rfl (by rfl) (by rfl)) ?_
  (try simp only [zP, zN, zA, zB, zC])
  refine pu_ (v := .slice (some a) L.length z) (y_move rfl (by rfl) (by rfl)) ?_
  (try simp only [zP, zN, zA, zB, zC])
  refine pu_ (v := .int .i64 L.length) (y_run (by rfl) (fun W => by go_simp)) ?_
  (try simp only [zP, zN, zA, zB, zC])
  refine pu_ (v := .bool true) (y_run (by rfl) (fun W => by have d := D48.out; go_simp)) ?_
  (try simp only [zP, zN, zA, zB, zC])
  refine nl_ (hK64 _ _ ?_); clear hK64 K64
  refine wp_cond_true rfl ?_
  refine wp_skip ?_
  refine th_norm (hK7 _ _ ?_); try clear hK7 K7
  refine sq_ (fun K65 hK65 => ?_)
  refine wp_block ?_
  refine s_ (fun K66 hK66 => ?_)
  refine pu_ (v := .slice (some a) L.length z) (y_move rfl (by rfl) (by rfl)) ?_
  (try simp only [zP, zN, zA, zB, zC])
  refine pu_ (v := .int .i64 k) (y_move rfl (by rfl) (by rfl)) ?_
  (try simp only [zP, zN, zA, zB, zC])
  refine pu_ (v := .pointer (some (a.add (k * 16)))) (y_run (by rfl) (fun W => by have d := D48.out; go_simp)) ?_
  (try simp only [zP, zN, zA, zB, zC])
  refine pu_ (v := .pointer (some (a.add (k * 16)))) (y_run (by rfl) (fun W => by go_simp)) ?_
  (try simp only [zP, zN, zA, zB, zC])
  refine pu_ (v := .pointer (some ((a.add (k * 16)).add 9))) (y_run (by rfl) (fun W => by go_simp)) ?_
  (try simp only [zP, zN, zA, zB, zC])
  refine ld_ (v := .int .i64 x.ph) rfl (by rfl) (by rfl) (run_load_one ((src_at loadC_len SL.out ho.out) 9 _ (load_9 x)) Try.underlying3 rfl) ?_
  (try simp only [zP, zN, zA, zB, zC])
  refine pu_ (v := .bool true) (y_run (by rfl) (fun W => by have d := D57.out; go_simp)) ?_
  (try simp only [zP, zN, zA, zB, zC])
  refine pu_ (v := .bool true) (y_move rfl (by rfl) (by rfl)) ?_
  (try simp only [zP, zN, zA, zB, zC])
  refine pu_ (v := .slice (some a) L.length z) (y_move rfl (by rfl) (by rfl)) ?_
  (try simp only [zP, zN, zA, zB, zC])
  refine pu_ (v := .int .i64 k) (y_move rfl (by rfl) (by rfl)) ?_
  (try simp only [zP, zN, zA, zB, zC])
  refine pu_ (v := .pointer (some (a.add (k * 16)))) (y_run (by rfl) (fun W => by have d := D48.out; go_simp)) ?_
  (try simp only [zP, zN, zA, zB, zC])
  refine pu_ (v := .pointer (some (a.add (k * 16)))) (y_run (by rfl) (fun W => by go_simp)) ?_
  (try simp only [zP, zN, zA, zB, zC])
  refine pu_ (v := .pointer (some ((a.add (k * 16)).add 11))) (y_run (by rfl) (fun W => by go_simp)) ?_
  (try simp only [zP, zN, zA, zB, zC])
  refine ld_ (v := .int .i64 x.mrk) rfl (by rfl) (by rfl) (run_load_one ((src_at loadC_len SL.out ho.out) 11 _ (load_11 x)) Try.underlying3 rfl) ?_
  (try simp only [zP, zN, zA, zB, zC])
  refine pu_ (v := .bool false) (y_run (by rfl) (fun W => by have d := D65.out; go_simp)) ?_
  (try simp only [zP, zN, zA, zB, zC])
  refine pu_ (v := .bool false) (y_pick (t := true) (by rfl) rfl (by rfl) (by rfl)) ?_
  (try simp only [zP, zN, zA, zB, zC])
  refine pu_ (v := .bool false) (y_assign rfl (by rfl) (by rfl)) ?_
  (try simp only [zP, zN, zA, zB, zC])
  refine nl_ (hK66 _ _ ?_); clear hK66 K66
  refine s_ (fun K67 hK67 => ?_)
  refine pu_ (v := .bool true) (y_move rfl (by rfl) (by rfl)) ?_
  (try simp only [zP, zN, zA, zB, zC])
  refine pu_ (v := .bool true) (y_move rfl (by rfl) (by rfl)) ?_
  (try simp only [zP, zN, zA, zB, zC])
  refine pu_ (y_off (by rfl)) ?_
  (try simp only [zP, zN, zA, zB, zC])
  refine pu_ (v := .bool true) (y_pick (t := true) (by rfl) rfl (by rfl) (by rfl)) ?_
  (try simp only [zP, zN, zA, zB, zC])
  refine pu_ (v := .bool true) (y_assign rfl (by rfl) (by rfl)) ?_
  (try simp only [zP, zN, zA, zB, zC])
  refine nl_ (hK67 _ _ ?_); clear hK67 K67
  refine r_ ?_
  refine pu_ (v := .bool true) (y_move rfl (by rfl) (by rfl)) ?_
  (try simp only [zP, zN, zA, zB, zC])
  refine pu_ (v := .bool true) (y_move rfl (by rfl) (by rfl)) ?_
  (try simp only [zP, zN, zA, zB, zC])
  refine pu_ (y_off (by rfl)) ?_
  (try simp only [zP, zN, zA, zB, zC])
  refine pu_ (y_off (by rfl)) ?_
  (try simp only [zP, zN, zA, zB, zC])
  refine pu_ (y_off (by rfl)) ?_
  (try simp only [zP, zN, zA, zB, zC])
  refine pu_ (y_off (by rfl)) ?_
  (try simp only [zP, zN, zA, zB, zC])
  refine pu_ (y_off (by rfl)) ?_
  (try simp only [zP, zN, zA, zB, zC])
  refine pu_ (y_off (by rfl)) ?_
  (try simp only [zP, zN, zA, zB, zC])
  refine pu_ (y_off (by rfl)) ?_
  (try simp only [zP, zN, zA, zB, zC])
  refine pu_ (y_off (by rfl)) ?_
  (try simp only [zP, zN, zA, zB, zC])
  refine pu_ (y_off (by rfl)) ?_
  (try simp only [zP, zN, zA, zB, zC])
  refine pu_ (y_off (by rfl)) ?_
  (try simp only [zP, zN, zA, zB, zC])
  refine pu_ (y_off (by rfl)) ?_
  (try simp only [zP, zN, zA, zB, zC])
  refine pu_ (v := .bool true) (y_pick (t := true) (by rfl) rfl (by rfl) (by rfl)) ?_
  (try simp only [zP, zN, zA, zB, zC])
  refine pu_ (v := .bool true) (y_assign rfl (by rfl) (by rfl)) ?_
  (try simp only [zP, zN, zA, zB, zC])
  refine nl_ ?_
  refine ib_norm ?_
  refine th_norm (hK65 _ _ ?_); try clear hK65 K65
  refine r_ ?_
  refine pu_ (v := .int .i64 k) (y_move rfl (by rfl) (by rfl)) ?_
  (try simp only [zP, zN, zA, zB, zC])
  refine pu_ (v := .int .i64 (k + 1 : Nat)) (y_run (by rfl) (fun W => by have d := Wk.out; go_simp)) ?_
  (try simp only [zP, zN, zA, zB, zC])
  refine pu_ (v := .int .i64 (k + 1 : Nat)) (y_assign rfl (by rfl) (by rfl)) ?_
  (try simp only [zP, zN, zA, zB, zC])
  refine nl_ ?_
  exact th_norm (hK6 (kq - 1) _ _ (by have := hlt.out; have := hk.out; omega) ⟨k + 1, true, true, fun us_ => (#[.slice (some a) L.length z, us 1, .int .i64 pc, us 3, us 4, us 5, .bool false, .slice Ax L.length cx, .int .i64 vu, .bool vb, .bool sh, .bool true, .bool true, .int .i64 (k + 1 : Nat), .bool false, us 15, us 16, us 17, us 18, us 19, us 20, us 21, us 22, us 23, us 24, us 25, us 26, us 27, us 28, us 29, us 30, us 31, us 32, us 33, us 34, us 35, us 36, us 37, us 38, us 39, us 40, us 41, us 42, us 43, us 44, .int .i64 k, .slice (some a) L.length z, .int .i64 L.length, .bool true, .int .i64 k, .int .i64 (k + 1 : Nat), .slice (some a) L.length z, .int .i64 k, .pointer (some (a.add (k * 16))), .pointer (some (a.add (k * 16))), .pointer (some ((a.add (k * 16)).add 9)), .int .i64 x.ph, .bool true, .bool true, .slice (some a) L.length z, .int .i64 k, .pointer (some (a.add (k * 16))), .pointer (some (a.add (k * 16))), .pointer (some ((a.add (k * 16)).add 11)), .int .i64 x.mrk, .bool false, .bool false, .bool true, .bool true, undef, .bool true, .bool true, .bool true, undef, undef, undef, undef, undef, undef, undef, undef, undef, undef, undef, .bool true, us 85, us 86, us 87, us 88, us 89, us 90, us 91, us 92, us 93, us 94, us 95, us 96, us 97, us 98, us 99, us 100, us 101, us 102, us 103, us 104, us 105, us 106, us 107, us 108, us 109, us 110, us 111, us 112, us 113, us 114] : Array Value).getD us_ undef, rfl, C0, SL, OX, Lib.hid ⟨by have := hlt.out; omega, by have := hlt.out; have := hk.out; omega⟩, Lib.hid (by rw [found_up ho.out, hf.out, HIC.out]; rfl), Lib.hid (by rw [some_up ho.out, hg.out, HIC.out]; rfl)⟩)
 ·have hlt := Lib.hid hlt0
  have ho := Lib.hid ho0
  have HH := Lib.hid h
  clear hlt0 ho0 h
  obtain ⟨a, hsm_a⟩ := src_some SL.out (by have := hlt.out; omega)
  subst hsm_a
  have D48 := Lib.hid (show (k : Int) < (L.length : Int) by have := hlt.out; omega)
  have Wk := Lib.hid (show IntKind.i64.wrap ((k : Int) + 1) = ((k + 1 : Nat) : Int) by rw [wr64 (by have := hlt.out; have h7 := HRP.out.1; omega)]; omega)
  have D57 := Lib.hid (show (x.ph == 2) = false from beq_eq_false_iff_ne.2 HH.out)
  have HIC := Lib.hid (show isCand x = false from by unfold isCand; rw [D57.out]; rfl)
  refine s_ (fun K68 hK68 => ?_)
  refine pu_ (v := .int .i64 k) (y_move rfl (by rfl) (by rfl)) ?_
  (try simp only [zP, zN, zA, zB, zC])
  refine pu_ (v := .slice (some a) L.length z) (y_move rfl (by rfl) (by rfl)) ?_
  (try simp only [zP, zN, zA, zB, zC])
  refine pu_ (v := .int .i64 L.length) (y_run (by rfl) (fun W => by go_simp)) ?_
  (try simp only [zP, zN, zA, zB, zC])
  refine pu_ (v := .bool true) (y_run (by rfl) (fun W => by have d := D48.out; go_simp)) ?_
  (try simp only [zP, zN, zA, zB, zC])
  refine nl_ (hK68 _ _ ?_); clear hK68 K68
  refine wp_cond_true rfl ?_
  refine wp_skip ?_
  refine th_norm (hK7 _ _ ?_); try clear hK7 K7
  refine sq_ (fun K69 hK69 => ?_)
  refine wp_block ?_
  refine s_ (fun K70 hK70 => ?_)
  refine pu_ (v := .slice (some a) L.length z) (y_move rfl (by rfl) (by rfl)) ?_
  (try simp only [zP, zN, zA, zB, zC])
  refine pu_ (v := .int .i64 k) (y_move rfl (by rfl) (by rfl)) ?_
  (try simp only [zP, zN, zA, zB, zC])
  refine pu_ (v := .pointer (some (a.add (k * 16)))) (y_run (by rfl) (fun W => by have d := D48.out; go_simp)) ?_
  (try simp only [zP, zN, zA, zB, zC])
  refine pu_ (v := .pointer (some (a.add (k * 16)))) (y_run (by rfl) (fun W => by go_simp)) ?_
  (try simp only [zP, zN, zA, zB, zC])
  refine pu_ (v := .pointer (some ((a.add (k * 16)).add 9))) (y_run (by rfl) (fun W => by go_simp)) ?_
  (try simp only [zP, zN, zA, zB, zC])
  refine ld_ (v := .int .i64 x.ph) rfl (by rfl) (by rfl) (run_load_one ((src_at loadC_len SL.out ho.out) 9 _ (load_9 x)) Try.underlying3 rfl) ?_
  (try simp only [zP, zN, zA, zB, zC])
  refine pu_ (v := .bool false) (y_run (by rfl) (fun W => by have d := D57.out; go_simp)) ?_
  (try simp only [zP, zN, zA, zB, zC])
  refine pu_ (v := .bool false) (y_move rfl (by rfl) (by rfl)) ?_
  (try simp only [zP, zN, zA, zB, zC])
  refine pu_ (y_off (by rfl)) ?_
  (try simp only [zP, zN, zA, zB, zC])
  refine pu_ (y_off (by rfl)) ?_
  (try simp only [zP, zN, zA, zB, zC])
  refine pu_ (y_off (by rfl)) ?_
  (try simp only [zP, zN, zA, zB, zC])
  refine pu_ (y_off (by rfl)) ?_
  (try simp only [zP, zN, zA, zB, zC])
  refine pu_ (y_off (by rfl)) ?_
  (try simp only [zP, zN, zA, zB, zC])
  refine pu_ (y_off (by rfl)) ?_
  (try simp only [zP, zN, zA, zB, zC])
  refine pu_ (y_off (by rfl)) ?_
  (try simp only [zP, zN, zA, zB, zC])
  refine pu_ (v := .bool false) (y_pick (t := false) (by rfl) rfl (by rfl) (by rfl)) ?_
  (try simp only [zP, zN, zA, zB, zC])
  refine pu_ (v := .bool false) (y_assign rfl (by rfl) (by rfl)) ?_
  (try simp only [zP, zN, zA, zB, zC])
  refine nl_ (hK70 _ _ ?_); clear hK70 K70
  refine s_ (fun K71 hK71 => ?_)
  refine pu_ (v := .bool true) (y_move rfl (by rfl) (by rfl)) ?_
  (try simp only [zP, zN, zA, zB, zC])
  refine pu_ (v := .bool true) (y_move rfl (by rfl) (by rfl)) ?_
  (try simp only [zP, zN, zA, zB, zC])
  refine pu_ (y_off (by rfl)) ?_
  (try simp only [zP, zN, zA, zB, zC])
  refine pu_ (v := .bool true) (y_pick (t := true) (by rfl) rfl (by rfl) (by rfl)) ?_
  (try simp only [zP, zN, zA, zB, zC])
  refine pu_ (v := .bool true) (y_assign rfl (by rfl) (by rfl)) ?_
  (try simp only [zP, zN, zA, zB, zC])
  refine nl_ (hK71 _ _ ?_); clear hK71 K71
  refine r_ ?_
  refine pu_ (v := .bool true) (y_move rfl (by rfl) (by rfl)) ?_
  (try simp only [zP, zN, zA, zB, zC])
  refine pu_ (v := .bool true) (y_move rfl (by rfl) (by rfl)) ?_
  (try simp only [zP, zN, zA, zB, zC])
  refine pu_ (y_off (by rfl)) ?_
  (try simp only [zP, zN, zA, zB, zC])
  refine pu_ (y_off (by rfl)) ?_
  (try simp only [zP, zN, zA, zB, zC])
  refine pu_ (y_off (by rfl)) ?_
  (try simp only [zP, zN, zA, zB, zC])
  refine pu_ (y_off (by rfl)) ?_
  (try simp only [zP, zN, zA, zB, zC])
  refine pu_ (y_off (by rfl)) ?_
  (try simp only [zP, zN, zA, zB, zC])
  refine pu_ (y_off (by rfl)) ?_
  (try simp only [zP, zN, zA, zB, zC])
  refine pu_ (y_off (by rfl)) ?_
  (try simp only [zP, zN, zA, zB, zC])
  refine pu_ (y_off (by rfl)) ?_
  (try simp only [zP, zN, zA, zB, zC])
  refine pu_ (y_off (by rfl)) ?_
  (try simp only [zP, zN, zA, zB, zC])
  refine pu_ (y_off (by rfl)) ?_
  (try simp only [zP, zN, zA, zB, zC])
  refine pu_ (y_off (by rfl)) ?_
  (try simp only [zP, zN, zA, zB, zC])
  refine pu_ (v := .bool true) (y_pick (t := true) (by rfl) rfl (by rfl) (by rfl)) ?_
  (try simp only [zP, zN, zA, zB, zC])
  refine pu_ (v := .bool true) (y_assign rfl (by rfl) (by rfl)) ?_
  (try simp only [zP, zN, zA, zB, zC])
  refine nl_ ?_
  refine ib_norm ?_
  refine th_norm (hK69 _ _ ?_); try clear hK69 K69
  refine r_ ?_
  refine pu_ (v := .int .i64 k) (y_move rfl (by rfl) (by rfl)) ?_
  (try simp only [zP, zN, zA, zB, zC])
  refine pu_ (v := .int .i64 (k + 1 : Nat)) (y_run (by rfl) (fun W => by have d := Wk.out; go_simp)) ?_
  (try simp only [zP, zN, zA, zB, zC])
  refine pu_ (v := .int .i64 (k + 1 : Nat)) (y_assign rfl (by rfl) (by rfl)) ?_
  (try simp only [zP, zN, zA, zB, zC])
  refine nl_ ?_
  exact th_norm (hK6 (kq - 1) _ _ (by have := hlt.out; have := hk.out; omega) ⟨k + 1, true, true, fun us_ => (#[.slice (some a) L.length z, us 1, .int .i64 pc, us 3, us 4, us 5, .bool false, .slice Ax L.length cx, .int .i64 vu, .bool vb, .bool sh, .bool true, .bool true, .int .i64 (k + 1 : Nat), .bool false, us 15, us 16, us 17, us 18, us 19, us 20, us 21, us 22, us 23, us 24, us 25, us 26, us 27, us 28, us 29, us 30, us 31, us 32, us 33, us 34, us 35, us 36, us 37, us 38, us 39, us 40, us 41, us 42, us 43, us 44, .int .i64 k, .slice (some a) L.length z, .int .i64 L.length, .bool true, .int .i64 k, .int .i64 (k + 1 : Nat), .slice (some a) L.length z, .int .i64 k, .pointer (some (a.add (k * 16))), .pointer (some (a.add (k * 16))), .pointer (some ((a.add (k * 16)).add 9)), .int .i64 x.ph, .bool false, .bool false, undef, undef, undef, undef, undef, undef, undef, .bool false, .bool true, .bool true, undef, .bool true, .bool true, .bool true, undef, undef, undef, undef, undef, undef, undef, undef, undef, undef, undef, .bool true, us 85, us 86, us 87, us 88, us 89, us 90, us 91, us 92, us 93, us 94, us 95, us 96, us 97, us 98, us 99, us 100, us 101, us 102, us 103, us 104, us 105, us 106, us 107, us 108, us 109, us 110, us 111, us 112, us 113, us 114] : Array Value).getD us_ undef, rfl, C0, SL, OX, Lib.hid ⟨by have := hlt.out; omega, by have := hlt.out; have := hk.out; omega⟩, Lib.hid (by rw [found_up ho.out, hf.out, HIC.out]; rfl), Lib.hid (by rw [some_up ho.out, hg.out, HIC.out]; rfl)⟩)
 ·have D48 := Lib.hid (show ¬ k < L.length by have := hk.out; omega)
  have HF := Lib.hid (show foundB L vu = f by have h9 := hf.out; rw [h, List.take_length] at h9; exact h9)
  have HG := Lib.hid (show someB L = g by have h9 := hg.out; rw [h, List.take_length] at h9; exact h9)
  clear h
  refine s_ (fun K72 hK72 => ?_)
  refine pu_ (v := .int .i64 k) (y_move rfl (by rfl) (by rfl)) ?_
  (try simp only [zP, zN, zA, zB, zC])
  refine pu_ (v := .slice A L.length z) (y_move rfl (by rfl) (by rfl)) ?_
  (try simp only [zP, zN, zA, zB, zC])
  refine pu_ (v := .int .i64 L.length) (y_run (by rfl) (fun W => by go_simp)) ?_
  (try simp only [zP, zN, zA, zB, zC])
  refine pu_ (v := .bool false) (y_run (by rfl) (fun W => by have d := D48.out; go_simp)) ?_
  (try simp only [zP, zN, zA, zB, zC])
  refine nl_ (hK72 _ _ ?_); clear hK72 K72
  refine wp_cond_false rfl ?_
  refine wp_exit ?_
  refine th_exit ?_
  refine th_exit ?_
  refine ib_exit ?_
  refine th_norm (hK3 _ _ ?_); try clear hK3 K3
  rcases calm_ways (czF F) L m pc (fun x hx => (HRP.out.2 x hx).2.2) with h | h | h
  ·obtain ⟨h, h2, h4⟩ := h
   have EV := Lib.hid (show ((vu, vb) : Int × Bool) = (0, false) by rw [← HV.out]; exact h2)
   have EU := Lib.hid (congrArg Prod.fst EV.out)
   have EB := Lib.hid (show vb = false from congrArg Prod.snd EV.out)
   have ESH := Lib.hid (show sh = false by rw [HSH.out]; exact decide_eq_false h)
   have EF := Lib.hid (show f = false by rw [← HF.out, show vu = 0 from EU.out]; exact h4)
   clear h h2 h4
   have e9 := EB.out; subst e9
   have e9 := ESH.out; subst e9
   have e9 := EF.out; subst e9
   refine s_ (fun K73 hK73 => ?_)
   refine pu_ (v := .slice Ax L.length cx) (y_move rfl (by rfl) (by rfl)) ?_
   (try simp only [zP, zN, zA, zB, zC])
   refine pu_ (v := .slice Ax L.length cx) (y_move rfl (by rfl) (by rfl)) ?_
   (try simp only [zP, zN, zA, zB, zC])
   refine ef_ (fun K74 hK74 => ?_)
   refine e_call Try.func18 (by kernel_rfl) rfl #[.slice Ax L.length cx] (by rfl) rfl rfl (by first | rfl | (simp only [List.map_toArray, List.map_cons, List.map_nil]; first | done | rfl)) ((sum_ (Lib.hid (by have := HRP.out.1; omega)) HSM (Lib.hid OX.out.src))) ?_
   rintro en w76 ⟨rfl, cc75⟩
   refine ⟨_, rfl, ?_⟩
   have C0' := Lib.hid (show Ch [] w w76 from C0.out.trans' cc75 (fun x hx => absurd hx (by simp)))
   have SL' := Lib.hid (show SrcIs w76 (.slice A L.length z) (L.length) ((L).flatMap loadC) 16 from SL.out.chx cc75 xnin_nil)
   have OX' := Lib.hid (show OwnS w76 w.heap.size 56 16 (.slice Ax L.length cx) (L.length) (L.flatMap loadC) from OX.out.ch cc75 rnin_nil)
   clear C0 SL OX
   have C0 := C0'; clear C0'
   have SL := SL'; clear SL'
   have OX := OX'; clear OX'
   clear cc75
   refine hK74 _ _ ?_; clear hK74 K74
   (try simp only [zP, zN, zA, zB, zC])
   refine pu_ (v := .int .i64 (sumZ L).2.1) (y_run (by rfl) (fun W => by have d := field23 (sumZ L).1 (sumZ L).2.1 (sumZ L).2.2 W; go_simp)) ?_
   (try simp only [zP, zN, zA, zB, zC])
   refine pu_ (v := .agg #[.int .i64 0, .int .i64 (sumZ L).2.1, .int .i64 0]) (y_build (vs := #[(1, .int .i64 (sumZ L).2.1)]) (by rfl) rfl (by first | rfl | (simp only [List.map_toArray, List.map_cons, List.map_nil]; first | done | rfl)) (by kernel_rfl)) ?_
   (try simp only [zP, zN, zA, zB, zC])
   refine ef_ (fun K77 hK77 => ?_)
   refine e_call Try.func16 (by kernel_rfl) rfl #[.slice Ax L.length cx, .agg #[.int .i64 0, .int .i64 (sumZ L).2.1, .int .i64 0], .int .i64 100] (by rfl) rfl rfl (by first | rfl | (simp only [List.map_toArray, List.map_cons, List.map_nil]; first | done | rfl)) ((by have h9 := victim_ (w := w76) (L := L) (W := w) (cz := czF F) (a := 0) (b := 0) (hm := (sumZ L).2.1) (pc := 100) (Lib.hid HRP.out.1) HSM HSS HCM (Lib.hid C0.out.below0) (Lib.hid OX.out.src); rw [vic_all] at h9; exact h9)) ?_
   rintro en w79 ⟨rfl, cc78⟩
   refine ⟨_, rfl, ?_⟩
   have C0' := Lib.hid (show Ch [] w w79 from C0.out.trans' cc78 (fun x hx => absurd hx (by simp)))
   have SL' := Lib.hid (show SrcIs w79 (.slice A L.length z) (L.length) ((L).flatMap loadC) 16 from SL.out.chx cc78 xnin_nil)
   have OX' := Lib.hid (show OwnS w79 w.heap.size 56 16 (.slice Ax L.length cx) (L.length) (L.flatMap loadC) from OX.out.ch cc78 rnin_nil)
   clear C0 SL OX
   have C0 := C0'; clear C0'
   have SL := SL'; clear SL'
   have OX := OX'; clear OX'
   clear cc78
   refine hK77 _ _ ?_; clear hK77 K77
   (try simp only [zP, zN, zA, zB, zC])
   refine pu_ (v := .tuple #[.int .i64 0, .bool false]) (y_move rfl (by rfl) (by rfl)) ?_
   (try simp only [zP, zN, zA, zB, zC])
   refine pu_ (v := .int .i64 0) (y_run (by rfl) (fun W => by go_simp)) ?_
   (try simp only [zP, zN, zA, zB, zC])
   refine pu_ (v := .bool false) (y_run (by rfl) (fun W => by go_simp)) ?_
   (try simp only [zP, zN, zA, zB, zC])
   refine pu_ (v := .int .i64 0) (y_assign rfl (by rfl) (by rfl)) ?_
   (try simp only [zP, zN, zA, zB, zC])
   refine pu_ (v := .bool false) (y_assign rfl (by rfl) (by rfl)) ?_
   (try simp only [zP, zN, zA, zB, zC])
   refine nl_ (hK73 _ _ ?_); clear hK73 K73
   refine s_ (fun K80 hK80 => ?_)
   refine pu_ (v := .bool false) (y_move rfl (by rfl) (by rfl)) ?_
   (try simp only [zP, zN, zA, zB, zC])
   refine pu_ (v := .bool false) (y_move rfl (by rfl) (by rfl)) ?_
   (try simp only [zP, zN, zA, zB, zC])
   refine pu_ (v := .bool false) (y_move rfl (by rfl) (by rfl)) ?_
   (try simp only [zP, zN, zA, zB, zC])
   refine pu_ (y_off (by rfl)) ?_
   (try simp only [zP, zN, zA, zB, zC])
   refine pu_ (v := .bool false) (y_pick (t := false) (by rfl) rfl (by rfl) (by rfl)) ?_
   (try simp only [zP, zN, zA, zB, zC])
   refine pu_ (v := .bool true) (y_run (by rfl) (fun W => by first | (go_simp; done) | (go_simp; rfl) | (go_simp; decide))) ?_
   (try simp only [zP, zN, zA, zB, zC])
   refine pu_ (v := .bool true) (y_move rfl (by rfl) (by rfl)) ?_
   (try simp only [zP, zN, zA, zB, zC])
   refine pu_ (v := .bool false) (y_move rfl (by rfl) (by rfl)) ?_
   (try simp only [zP, zN, zA, zB, zC])
   refine pu_ (v := .bool false) (y_move rfl (by rfl) (by rfl)) ?_
   (try simp only [zP, zN, zA, zB, zC])
   refine pu_ (v := .bool true) (y_run (by rfl) (fun W => by first | (go_simp; done) | (go_simp; rfl) | (go_simp; decide))) ?_
   (try simp only [zP, zN, zA, zB, zC])
   refine pu_ (v := .bool true) (y_pick (t := true) (by rfl) rfl (by rfl) (by rfl)) ?_
   (try simp only [zP, zN, zA, zB, zC])
   refine pu_ (v := .bool true) (y_move rfl (by rfl) (by rfl)) ?_
   (try simp only [zP, zN, zA, zB, zC])
   refine pu_ (v := .bool false) (y_move rfl (by rfl) (by rfl)) ?_
   (try simp only [zP, zN, zA, zB, zC])
   refine pu_ (v := .bool false) (y_move rfl (by rfl) (by rfl)) ?_
   (try simp only [zP, zN, zA, zB, zC])
   refine pu_ (y_off (by rfl)) ?_
   (try simp only [zP, zN, zA, zB, zC])
   refine pu_ (y_off (by rfl)) ?_
   (try simp only [zP, zN, zA, zB, zC])
   refine pu_ (y_off (by rfl)) ?_
   (try simp only [zP, zN, zA, zB, zC])
   refine pu_ (y_off (by rfl)) ?_
   (try simp only [zP, zN, zA, zB, zC])
   refine pu_ (v := .bool false) (y_pick (t := false) (by rfl) rfl (by rfl) (by rfl)) ?_
   (try simp only [zP, zN, zA, zB, zC])
   refine pu_ (v := .bool true) (y_run (by rfl) (fun W => by go_simp)) ?_
   (try simp only [zP, zN, zA, zB, zC])
   refine pu_ (v := .bool true) (y_pick (t := true) (by rfl) rfl (by rfl) (by rfl)) ?_
   (try simp only [zP, zN, zA, zB, zC])
   refine pu_ (v := .bool true) (y_assign rfl (by rfl) (by rfl)) ?_
   (try simp only [zP, zN, zA, zB, zC])
   refine nl_ (hK80 _ _ ?_); clear hK80 K80
   refine wp_ret ?_
   refine hQ _ _ _ ?_
   refine bodyPost_ret (res1 rfl (rdv_tmp (v := .bool true) (by rfl))) rfl ?_
   exact ⟨rfl, C0.out⟩
  ·obtain ⟨h, h2, h3, h4⟩ := h
   have EV := Lib.hid (show ((vu, vb) : Int × Bool) = (0, false) by rw [← HV.out]; exact h2)
   have EU := Lib.hid (congrArg Prod.fst EV.out)
   have EB := Lib.hid (show vb = false from congrArg Prod.snd EV.out)
   have ESH := Lib.hid (show sh = true by rw [HSH.out]; exact decide_eq_true h)
   have EF := Lib.hid (show f = false by rw [← HF.out, show vu = 0 from EU.out]; exact h4)
   have EG := Lib.hid (show g = false by rw [← HG.out]; exact h3)
   clear h h2 h4 h3
   have e9 := EB.out; subst e9
   have e9 := ESH.out; subst e9
   have e9 := EF.out; subst e9
   have e9 := EG.out; subst e9
   refine s_ (fun K81 hK81 => ?_)
   refine pu_ (v := .slice Ax L.length cx) (y_move rfl (by rfl) (by rfl)) ?_
   (try simp only [zP, zN, zA, zB, zC])
   refine pu_ (v := .slice Ax L.length cx) (y_move rfl (by rfl) (by rfl)) ?_
   (try simp only [zP, zN, zA, zB, zC])
   refine ef_ (fun K82 hK82 => ?_)
   refine e_call Try.func18 (by kernel_rfl) rfl #[.slice Ax L.length cx] (by rfl) rfl rfl (by first | rfl | (simp only [List.map_toArray, List.map_cons, List.map_nil]; first | done | rfl)) ((sum_ (Lib.hid (by have := HRP.out.1; omega)) HSM (Lib.hid OX.out.src))) ?_
   rintro en w84 ⟨rfl, cc83⟩
   refine ⟨_, rfl, ?_⟩
   have C0' := Lib.hid (show Ch [] w w84 from C0.out.trans' cc83 (fun x hx => absurd hx (by simp)))
   have SL' := Lib.hid (show SrcIs w84 (.slice A L.length z) (L.length) ((L).flatMap loadC) 16 from SL.out.chx cc83 xnin_nil)
   have OX' := Lib.hid (show OwnS w84 w.heap.size 56 16 (.slice Ax L.length cx) (L.length) (L.flatMap loadC) from OX.out.ch cc83 rnin_nil)
   clear C0 SL OX
   have C0 := C0'; clear C0'
   have SL := SL'; clear SL'
   have OX := OX'; clear OX'
   clear cc83
   refine hK82 _ _ ?_; clear hK82 K82
   (try simp only [zP, zN, zA, zB, zC])
   refine pu_ (v := .int .i64 (sumZ L).2.1) (y_run (by rfl) (fun W => by have d := field23 (sumZ L).1 (sumZ L).2.1 (sumZ L).2.2 W; go_simp)) ?_
   (try simp only [zP, zN, zA, zB, zC])
   refine pu_ (v := .agg #[.int .i64 0, .int .i64 (sumZ L).2.1, .int .i64 0]) (y_build (vs := #[(1, .int .i64 (sumZ L).2.1)]) (by rfl) rfl (by first | rfl | (simp only [List.map_toArray, List.map_cons, List.map_nil]; first | done | rfl)) (by kernel_rfl)) ?_
   (try simp only [zP, zN, zA, zB, zC])
   refine ef_ (fun K85 hK85 => ?_)
   refine e_call Try.func16 (by kernel_rfl) rfl #[.slice Ax L.length cx, .agg #[.int .i64 0, .int .i64 (sumZ L).2.1, .int .i64 0], .int .i64 100] (by rfl) rfl rfl (by first | rfl | (simp only [List.map_toArray, List.map_cons, List.map_nil]; first | done | rfl)) ((by have h9 := victim_ (w := w84) (L := L) (W := w) (cz := czF F) (a := 0) (b := 0) (hm := (sumZ L).2.1) (pc := 100) (Lib.hid HRP.out.1) HSM HSS HCM (Lib.hid C0.out.below0) (Lib.hid OX.out.src); rw [vic_all] at h9; exact h9)) ?_
   rintro en w87 ⟨rfl, cc86⟩
   refine ⟨_, rfl, ?_⟩
   have C0' := Lib.hid (show Ch [] w w87 from C0.out.trans' cc86 (fun x hx => absurd hx (by simp)))
   have SL' := Lib.hid (show SrcIs w87 (.slice A L.length z) (L.length) ((L).flatMap loadC) 16 from SL.out.chx cc86 xnin_nil)
   have OX' := Lib.hid (show OwnS w87 w.heap.size 56 16 (.slice Ax L.length cx) (L.length) (L.flatMap loadC) from OX.out.ch cc86 rnin_nil)
   clear C0 SL OX
   have C0 := C0'; clear C0'
   have SL := SL'; clear SL'
   have OX := OX'; clear OX'
   clear cc86
   refine hK85 _ _ ?_; clear hK85 K85
   (try simp only [zP, zN, zA, zB, zC])
   refine pu_ (v := .tuple #[.int .i64 0, .bool false]) (y_move rfl (by rfl) (by rfl)) ?_
   (try simp only [zP, zN, zA, zB, zC])
   refine pu_ (v := .int .i64 0) (y_run (by rfl) (fun W => by go_simp)) ?_
   (try simp only [zP, zN, zA, zB, zC])
   refine pu_ (v := .bool false) (y_run (by rfl) (fun W => by go_simp)) ?_
   (try simp only [zP, zN, zA, zB, zC])
   refine pu_ (v := .int .i64 0) (y_assign rfl (by rfl) (by rfl)) ?_
   (try simp only [zP, zN, zA, zB, zC])
   refine pu_ (v := .bool false) (y_assign rfl (by rfl) (by rfl)) ?_
   (try simp only [zP, zN, zA, zB, zC])
   refine nl_ (hK81 _ _ ?_); clear hK81 K81
   refine s_ (fun K88 hK88 => ?_)
   refine pu_ (v := .bool false) (y_move rfl (by rfl) (by rfl)) ?_
   (try simp only [zP, zN, zA, zB, zC])
   refine pu_ (v := .bool true) (y_move rfl (by rfl) (by rfl)) ?_
   (try simp only [zP, zN, zA, zB, zC])
   refine pu_ (v := .bool true) (y_move rfl (by rfl) (by rfl)) ?_
   (try simp only [zP, zN, zA, zB, zC])
   refine pu_ (v := .bool false) (y_move rfl (by rfl) (by rfl)) ?_
   (try simp only [zP, zN, zA, zB, zC])
   refine pu_ (v := .bool false) (y_pick (t := true) (by rfl) rfl (by rfl) (by rfl)) ?_
   (try simp only [zP, zN, zA, zB, zC])
   refine pu_ (v := .bool true) (y_run (by rfl) (fun W => by first | (go_simp; done) | (go_simp; rfl) | (go_simp; decide))) ?_
   (try simp only [zP, zN, zA, zB, zC])
   refine pu_ (v := .bool true) (y_move rfl (by rfl) (by rfl)) ?_
   (try simp only [zP, zN, zA, zB, zC])
   refine pu_ (v := .bool false) (y_move rfl (by rfl) (by rfl)) ?_
   (try simp only [zP, zN, zA, zB, zC])
   refine pu_ (v := .bool false) (y_move rfl (by rfl) (by rfl)) ?_
   (try simp only [zP, zN, zA, zB, zC])
   refine pu_ (v := .bool true) (y_run (by rfl) (fun W => by first | (go_simp; done) | (go_simp; rfl) | (go_simp; decide))) ?_
   (try simp only [zP, zN, zA, zB, zC])
   refine pu_ (v := .bool true) (y_pick (t := true) (by rfl) rfl (by rfl) (by rfl)) ?_
   (try simp only [zP, zN, zA, zB, zC])
   refine pu_ (v := .bool true) (y_move rfl (by rfl) (by rfl)) ?_
   (try simp only [zP, zN, zA, zB, zC])
   refine pu_ (v := .bool false) (y_move rfl (by rfl) (by rfl)) ?_
   (try simp only [zP, zN, zA, zB, zC])
   refine pu_ (v := .bool false) (y_move rfl (by rfl) (by rfl)) ?_
   (try simp only [zP, zN, zA, zB, zC])
   refine pu_ (y_off (by rfl)) ?_
   (try simp only [zP, zN, zA, zB, zC])
   refine pu_ (y_off (by rfl)) ?_
   (try simp only [zP, zN, zA, zB, zC])
   refine pu_ (y_off (by rfl)) ?_
   (try simp only [zP, zN, zA, zB, zC])
   refine pu_ (y_off (by rfl)) ?_
   (try simp only [zP, zN, zA, zB, zC])
   refine pu_ (v := .bool false) (y_pick (t := false) (by rfl) rfl (by rfl) (by rfl)) ?_
   (try simp only [zP, zN, zA, zB, zC])
   refine pu_ (v := .bool true) (y_run (by rfl) (fun W => by go_simp)) ?_
   (try simp only [zP, zN, zA, zB, zC])
   refine pu_ (v := .bool true) (y_pick (t := true) (by rfl) rfl (by rfl) (by rfl)) ?_
   (try simp only [zP, zN, zA, zB, zC])
   refine pu_ (v := .bool true) (y_assign rfl (by rfl) (by rfl)) ?_
   (try simp only [zP, zN, zA, zB, zC])
   refine nl_ (hK88 _ _ ?_); clear hK88 K88
   refine wp_ret ?_
   refine hQ _ _ _ ?_
   refine bodyPost_ret (res1 rfl (rdv_tmp (v := .bool true) (by rfl))) rfl ?_
   exact ⟨rfl, C0.out⟩
  ·obtain ⟨h, u, h2, h3, h4⟩ := h
   have EV := Lib.hid (show ((vu, vb) : Int × Bool) = (u, true) by rw [← HV.out]; exact h2)
   have EU := Lib.hid (congrArg Prod.fst EV.out)
   have EB := Lib.hid (show vb = true from congrArg Prod.snd EV.out)
   have ESH := Lib.hid (show sh = true by rw [HSH.out]; exact decide_eq_true h)
   have EF := Lib.hid (show f = true by rw [← HF.out, show vu = u from EU.out]; exact h4)
   have EG := Lib.hid (show g = true by rw [← HG.out]; exact h3)
   clear h h2 h4 h3
   have e9 := EB.out; subst e9
   have e9 := ESH.out; subst e9
   have e9 := EF.out; subst e9
   have e9 := EG.out; subst e9
   refine s_ (fun K89 hK89 => ?_)
   refine pu_ (v := .slice Ax L.length cx) (y_move rfl (by rfl) (by rfl)) ?_
   (try simp only [zP, zN, zA, zB, zC])
   refine pu_ (v := .slice Ax L.length cx) (y_move rfl (by rfl) (by rfl)) ?_
   (try simp only [zP, zN, zA, zB, zC])
   refine ef_ (fun K90 hK90 => ?_)
   refine e_call Try.func18 (by kernel_rfl) rfl #[.slice Ax L.length cx] (by rfl) rfl rfl (by first | rfl | (simp only [List.map_toArray, List.map_cons, List.map_nil]; first | done | rfl)) ((sum_ (Lib.hid (by have := HRP.out.1; omega)) HSM (Lib.hid OX.out.src))) ?_
   rintro en w92 ⟨rfl, cc91⟩
   refine ⟨_, rfl, ?_⟩
   have C0' := Lib.hid (show Ch [] w w92 from C0.out.trans' cc91 (fun x hx => absurd hx (by simp)))
   have SL' := Lib.hid (show SrcIs w92 (.slice A L.length z) (L.length) ((L).flatMap loadC) 16 from SL.out.chx cc91 xnin_nil)
   have OX' := Lib.hid (show OwnS w92 w.heap.size 56 16 (.slice Ax L.length cx) (L.length) (L.flatMap loadC) from OX.out.ch cc91 rnin_nil)
   clear C0 SL OX
   have C0 := C0'; clear C0'
   have SL := SL'; clear SL'
   have OX := OX'; clear OX'
   clear cc91
   refine hK90 _ _ ?_; clear hK90 K90
   (try simp only [zP, zN, zA, zB, zC])
   refine pu_ (v := .int .i64 (sumZ L).2.1) (y_run (by rfl) (fun W => by have d := field23 (sumZ L).1 (sumZ L).2.1 (sumZ L).2.2 W; go_simp)) ?_
   (try simp only [zP, zN, zA, zB, zC])
   refine pu_ (v := .agg #[.int .i64 0, .int .i64 (sumZ L).2.1, .int .i64 0]) (y_build (vs := #[(1, .int .i64 (sumZ L).2.1)]) (by rfl) rfl (by first | rfl | (simp only [List.map_toArray, List.map_cons, List.map_nil]; first | done | rfl)) (by kernel_rfl)) ?_
   (try simp only [zP, zN, zA, zB, zC])
   refine ef_ (fun K93 hK93 => ?_)
   refine e_call Try.func16 (by kernel_rfl) rfl #[.slice Ax L.length cx, .agg #[.int .i64 0, .int .i64 (sumZ L).2.1, .int .i64 0], .int .i64 100] (by rfl) rfl rfl (by first | rfl | (simp only [List.map_toArray, List.map_cons, List.map_nil]; first | done | rfl)) ((by have h9 := victim_ (w := w92) (L := L) (W := w) (cz := czF F) (a := 0) (b := 0) (hm := (sumZ L).2.1) (pc := 100) (Lib.hid HRP.out.1) HSM HSS HCM (Lib.hid C0.out.below0) (Lib.hid OX.out.src); rw [vic_all] at h9; exact h9)) ?_
   rintro en w95 ⟨rfl, cc94⟩
   refine ⟨_, rfl, ?_⟩
   have C0' := Lib.hid (show Ch [] w w95 from C0.out.trans' cc94 (fun x hx => absurd hx (by simp)))
   have SL' := Lib.hid (show SrcIs w95 (.slice A L.length z) (L.length) ((L).flatMap loadC) 16 from SL.out.chx cc94 xnin_nil)
   have OX' := Lib.hid (show OwnS w95 w.heap.size 56 16 (.slice Ax L.length cx) (L.length) (L.flatMap loadC) from OX.out.ch cc94 rnin_nil)
   clear C0 SL OX
   have C0 := C0'; clear C0'
   have SL := SL'; clear SL'
   have OX := OX'; clear OX'
   clear cc94
   refine hK93 _ _ ?_; clear hK93 K93
   (try simp only [zP, zN, zA, zB, zC])
   refine pu_ (v := .tuple #[.int .i64 0, .bool false]) (y_move rfl (by rfl) (by rfl)) ?_
   (try simp only [zP, zN, zA, zB, zC])
   refine pu_ (v := .int .i64 0) (y_run (by rfl) (fun W => by go_simp)) ?_
   (try simp only [zP, zN, zA, zB, zC])
   refine pu_ (v := .bool false) (y_run (by rfl) (fun W => by go_simp)) ?_
   (try simp only [zP, zN, zA, zB, zC])
   refine pu_ (v := .int .i64 0) (y_assign rfl (by rfl) (by rfl)) ?_
   (try simp only [zP, zN, zA, zB, zC])
   refine pu_ (v := .bool false) (y_assign rfl (by rfl) (by rfl)) ?_
   (try simp only [zP, zN, zA, zB, zC])
   refine nl_ (hK89 _ _ ?_); clear hK89 K89
   refine s_ (fun K96 hK96 => ?_)
   refine pu_ (v := .bool true) (y_move rfl (by rfl) (by rfl)) ?_
   (try simp only [zP, zN, zA, zB, zC])
   refine pu_ (v := .bool true) (y_move rfl (by rfl) (by rfl)) ?_
   (try simp only [zP, zN, zA, zB, zC])
   refine pu_ (v := .bool true) (y_move rfl (by rfl) (by rfl)) ?_
   (try simp only [zP, zN, zA, zB, zC])
   refine pu_ (v := .bool true) (y_move rfl (by rfl) (by rfl)) ?_
   (try simp only [zP, zN, zA, zB, zC])
   refine pu_ (v := .bool true) (y_pick (t := true) (by rfl) rfl (by rfl) (by rfl)) ?_
   (try simp only [zP, zN, zA, zB, zC])
   refine pu_ (v := .bool true) (y_run (by rfl) (fun W => by first | (go_simp; done) | (go_simp; rfl) | (go_simp; decide))) ?_
   (try simp only [zP, zN, zA, zB, zC])
   refine pu_ (v := .bool true) (y_move rfl (by rfl) (by rfl)) ?_
   (try simp only [zP, zN, zA, zB, zC])
   refine pu_ (v := .bool true) (y_move rfl (by rfl) (by rfl)) ?_
   (try simp only [zP, zN, zA, zB, zC])
   refine pu_ (v := .bool true) (y_move rfl (by rfl) (by rfl)) ?_
   (try simp only [zP, zN, zA, zB, zC])
   refine pu_ (v := .bool true) (y_run (by rfl) (fun W => by first | (go_simp; done) | (go_simp; rfl) | (go_simp; decide))) ?_
   (try simp only [zP, zN, zA, zB, zC])
   refine pu_ (v := .bool true) (y_pick (t := true) (by rfl) rfl (by rfl) (by rfl)) ?_
   (try simp only [zP, zN, zA, zB, zC])
   refine pu_ (v := .bool true) (y_move rfl (by rfl) (by rfl)) ?_
   (try simp only [zP, zN, zA, zB, zC])
   refine pu_ (v := .bool false) (y_move rfl (by rfl) (by rfl)) ?_
   (try simp only [zP, zN, zA, zB, zC])
   refine pu_ (v := .bool false) (y_move rfl (by rfl) (by rfl)) ?_
   (try simp only [zP, zN, zA, zB, zC])
   refine pu_ (y_off (by rfl)) ?_
   (try simp only [zP, zN, zA, zB, zC])
   refine pu_ (y_off (by rfl)) ?_
   (try simp only [zP, zN, zA, zB, zC])
   refine pu_ (y_off (by rfl)) ?_
   (try simp only [zP, zN, zA, zB, zC])
   refine pu_ (y_off (by rfl)) ?_
   (try simp only [zP, zN, zA, zB, zC])
   refine pu_ (v := .bool false) (y_pick (t := false) (by rfl) rfl (by rfl) (by rfl)) ?_
   (try simp only [zP, zN, zA, zB, zC])
   refine pu_ (v := .bool true) (y_run (by rfl) (fun W => by go_simp)) ?_
   (try simp only [zP, zN, zA, zB, zC])
   refine pu_ (v := .bool true) (y_pick (t := true) (by rfl) rfl (by rfl) (by rfl)) ?_
   (try simp only [zP, zN, zA, zB, zC])
   refine pu_ (v := .bool true) (y_assign rfl (by rfl) (by rfl)) ?_
   (try simp only [zP, zN, zA, zB, zC])
   refine nl_ (hK96 _ _ ?_); clear hK96 K96
   refine wp_ret ?_
   refine hQ _ _ _ ?_
   refine bodyPost_ret (res1 rfl (rdv_tmp (v := .bool true) (by rfl))) rfl ?_
   exact ⟨rfl, C0.out⟩
theorem calm_ {A : Option Addr} {z : Nat} {L : List HL} {lr : HL → Bool} {c m e pc : Int} (HLD : Hid (∀ x ∈ L, SpecR w x.sp.1 (lr x) ∧ (lr x = true → ∃ M N pr, SpOk w x.sp.1 M N pr) ∧ I3 (x.cpu, x.mem, x.pids))) (SL : Hid (SrcIs w (.slice A L.length z) L.length (L.flatMap loadC) 16)) : Calls Try.prog 5 #[.slice A L.length z, .agg #[.int .i64 c, .int .i64 m, .int .i64 e], .int .i64 pc] w fun en w' => en = .returned (.bool true) ∧ Ch [] w w' := by
 have C0 := Lib.hid (Ch.refl [] w)
 have HLR := Lib.hid (fun x (hx : x ∈ L) => (HLD.out x hx).1)
 go_enter Try.func5, Try.ntmps5
 refine q_ (fun Q hQ hP => ?_)
 refine s_ (fun K1 hK1 => ?_)
 refine ef_ (fun K2 hK2 => ?_)
 refine e_boxN (by rfl) rfl rfl (cs := #[.int .i64 c, .int .i64 m, .int .i64 e]) (v := .agg #[.int .i64 c, .int .i64 m, .int .i64 e]) (by rfl) rfl ?_
 rintro g3 w4 HG5 B6 C7
 have nw8 := Lib.hid (show w.heap.size ≤ g3 by have := C0.out.size; have := HG5.out; omega)
 have nx9 := Lib.hid (SL.out.ne_new (by decide) HG5)
 have C0' := Lib.hid (show Ch [] w w4 from C0.out.trans' C7 (fun x hx => absurd hx (by simp)))
 have SL' := Lib.hid (show SrcIs w4 (.slice A L.length z) (L.length) ((L).flatMap loadC) 16 from SL.out.chx C7 xnin_nil)
 clear C0 SL
 have C0 := C0'; clear C0'
 have SL := SL'; clear SL'
 have Fg3 := Lib.hid (show Blk w4 g3 (#[.int .i64 c, .int .i64 m, .int .i64 e]) 23 from B6); clear B6 C7
 refine hK2 _ _ ?_; clear hK2 K2
 (try simp only [zP, zN, zA, zB, zC])
 refine pu_ (v := .bool false) (y_assign rfl (by rfl) (by rfl)) ?_
 (try simp only [zP, zN, zA, zB, zC])
 refine nl_ (hK1 _ _ ?_); clear hK1 K1
 refine sq_ (fun K10 hK10 => ?_)
 refine s_ (fun K11 hK11 => ?_)
 refine ef_ (fun K12 hK12 => ?_)
 refine e_call Try.func7 (by kernel_rfl) rfl #[] (by rfl) rfl rfl (by first | rfl | (simp only [List.map_toArray, List.map_cons, List.map_nil]; first | done | rfl)) (works_) ?_
 rintro en w14 ⟨rfl, cc13⟩
 refine ⟨_, rfl, ?_⟩
 have C0' := Lib.hid (show Ch [] w w14 from C0.out.trans' cc13 (fun x hx => absurd hx (by simp)))
 have SL' := Lib.hid (show SrcIs w14 (.slice A L.length z) (L.length) ((L).flatMap loadC) 16 from SL.out.chx cc13 xnin_nil)
 have Fg3' := Lib.hid (show Blk w14 g3 (#[.int .i64 c, .int .i64 m, .int .i64 e]) 23 from cc13.blk Fg3.out nin_nil)
 clear C0 SL Fg3
 have C0 := C0'; clear C0'
 have SL := SL'; clear SL'
 have Fg3 := Fg3'; clear Fg3'
 clear cc13
 refine hK12 _ _ ?_; clear hK12 K12
 (try simp only [zP, zN, zA, zB, zC])
 refine pu_ (v := .bool false) (y_run (by rfl) (fun W => by go_simp)) ?_
 (try simp only [zP, zN, zA, zB, zC])
 refine nl_ (hK11 _ _ ?_); clear hK11 K11
 refine wp_cond_false rfl ?_
 refine wp_skip ?_
 refine th_norm (hK10 _ _ ?_); try clear hK10 K10
 refine sq_ (fun K15 hK15 => ?_)
 rcases (show (¬ RightP L lr) ∨ (RightP L lr ∧ ¬ (SmallZ c ∧ SmallZ m ∧ SmallZ e)) ∨ (RightP L lr ∧ (SmallZ c ∧ SmallZ m ∧ SmallZ e)) from by rcases Classical.em (RightP L lr) with h1 | h1 <;> rcases Classical.em (SmallZ c ∧ SmallZ m ∧ SmallZ e) with h2 | h2 <;> simp only [h1, h2, not_true_eq_false, not_false_eq_true, and_self, and_true, true_and, or_true, true_or, false_and, and_false, or_false, false_or]) with h | h | h
 ·have HH := Lib.hid h
  clear h
  refine s_ (fun K16 hK16 => ?_)
  refine pu_ (v := .slice A L.length z) (y_move rfl (by rfl) (by rfl)) ?_
  (try simp only [zP, zN, zA, zB, zC])
  refine ef_ (fun K17 hK17 => ?_)
  refine e_call Try.func11 (by kernel_rfl) rfl #[.slice A L.length z] (by rfl) rfl rfl (by first | rfl | (simp only [List.map_toArray, List.map_cons, List.map_nil]; first | done | rfl)) ((ynF (right_ (lr := lr) (Lib.hid (fun x hx w2 hb => HLR.out x hx w2 (C0.out.below0.trans (hb.mono C0.out.size)))) SL) HH.out)) ?_
  rintro en w19 ⟨rfl, cc18⟩
  refine ⟨_, rfl, ?_⟩
  have C0' := Lib.hid (show Ch [] w w19 from C0.out.trans' cc18 (fun x hx => absurd hx (by simp)))
  have SL' := Lib.hid (show SrcIs w19 (.slice A L.length z) (L.length) ((L).flatMap loadC) 16 from SL.out.chx cc18 xnin_nil)
  have Fg3' := Lib.hid (show Blk w19 g3 (#[.int .i64 c, .int .i64 m, .int .i64 e]) 23 from cc18.blk Fg3.out nin_nil)
  clear C0 SL Fg3
  have C0 := C0'; clear C0'
  have SL := SL'; clear SL'
  have Fg3 := Fg3'; clear Fg3'
  clear cc18
  refine hK17 _ _ ?_; clear hK17 K17
  (try simp only [zP, zN, zA, zB, zC])
  refine pu_ (v := .bool true) (y_run (by rfl) (fun W => by go_simp)) ?_
  (try simp only [zP, zN, zA, zB, zC])
  refine pu_ (v := .bool true) (y_move rfl (by rfl) (by rfl)) ?_
  (try simp only [zP, zN, zA, zB, zC])
  refine pu_ (y_off (by rfl)) ?_
  (try simp only [zP, zN, zA, zB, zC])
  refine pu_ (y_off (by rfl)) ?_
  (try simp only [zP, zN, zA, zB, zC])
  refine pu_ (y_off (by rfl)) ?_
  (try simp only [zP, zN, zA, zB, zC])
  refine pu_ (v := .bool true) (y_pick (t := true) (by rfl) rfl (by rfl) (by rfl)) ?_
  (try simp only [zP, zN, zA, zB, zC])
  refine nl_ (hK16 _ _ ?_); clear hK16 K16
  refine wp_cond_true rfl ?_
  refine s_ (fun K20 hK20 => ?_)
  refine pu_ (v := .bool true) (y_assign rfl (by rfl) (by rfl)) ?_
  (try simp only [zP, zN, zA, zB, zC])
  refine nl_ (hK20 _ _ ?_); clear hK20 K20
  refine wp_ret ?_
  refine th_ret ?_
  refine hQ _ _ _ ?_
  refine bodyPost_ret (res1 rfl (rdv_tmp (v := .bool true) (by rfl))) rfl ?_
  exact ⟨rfl, C0.out⟩
 ·have HH := Lib.hid h
  clear h
  refine s_ (fun K21 hK21 => ?_)
  refine pu_ (v := .slice A L.length z) (y_move rfl (by rfl) (by rfl)) ?_
  (try simp only [zP, zN, zA, zB, zC])
  refine ef_ (fun K22 hK22 => ?_)
  refine e_call Try.func11 (by kernel_rfl) rfl #[.slice A L.length z] (by rfl) rfl rfl (by first | rfl | (simp only [List.map_toArray, List.map_cons, List.map_nil]; first | done | rfl)) ((ynT (right_ (lr := lr) (Lib.hid (fun x hx w2 hb => HLR.out x hx w2 (C0.out.below0.trans (hb.mono C0.out.size)))) SL) HH.out.1)) ?_
  rintro en w24 ⟨rfl, cc23⟩
  refine ⟨_, rfl, ?_⟩
  have C0' := Lib.hid (show Ch [] w w24 from C0.out.trans' cc23 (fun x hx => absurd hx (by simp)))
  have SL' := Lib.hid (show SrcIs w24 (.slice A L.length z) (L.length) ((L).flatMap loadC) 16 from SL.out.chx cc23 xnin_nil)
  have Fg3' := Lib.hid (show Blk w24 g3 (#[.int .i64 c, .int .i64 m, .int .i64 e]) 23 from cc23.blk Fg3.out nin_nil)
  clear C0 SL Fg3
  have C0 := C0'; clear C0'
  have SL := SL'; clear SL'
  have Fg3 := Fg3'; clear Fg3'
  clear cc23
  refine hK22 _ _ ?_; clear hK22 K22
  (try simp only [zP, zN, zA, zB, zC])
  refine pu_ (v := .bool false) (y_run (by rfl) (fun W => by go_simp)) ?_
  (try simp only [zP, zN, zA, zB, zC])
  refine pu_ (v := .bool false) (y_move rfl (by rfl) (by rfl)) ?_
  (try simp only [zP, zN, zA, zB, zC])
  refine ld_ (v := .agg (#[.int .i64 c, .int .i64 m, .int .i64 e])) rfl (by rfl) (by rfl) (run_loadVar_row _ _ 23 23 (#[.int .i64 c, .int .i64 m, .int .i64 e]) (0, 0) _ Fg3.out Try.underlying23 rfl (by kernel_rfl)) ?_
  (try simp only [zP, zN, zA, zB, zC])
  refine ef_ (fun K25 hK25 => ?_)
  refine e_call Try.func6 (by kernel_rfl) rfl #[.agg (#[.int .i64 c, .int .i64 m, .int .i64 e])] (by rfl) rfl rfl (by first | rfl | (simp only [List.map_toArray, List.map_cons, List.map_nil]; first | done | rfl)) ((ynF (small_ c m e) HH.out.2)) ?_
  rintro en w27 ⟨rfl, cc26⟩
  refine ⟨_, rfl, ?_⟩
  have C0' := Lib.hid (show Ch [] w w27 from C0.out.trans' cc26 (fun x hx => absurd hx (by simp)))
  have SL' := Lib.hid (show SrcIs w27 (.slice A L.length z) (L.length) ((L).flatMap loadC) 16 from SL.out.chx cc26 xnin_nil)
  have Fg3' := Lib.hid (show Blk w27 g3 (#[.int .i64 c, .int .i64 m, .int .i64 e]) 23 from cc26.blk Fg3.out nin_nil)
  clear C0 SL Fg3
  have C0 := C0'; clear C0'
  have SL := SL'; clear SL'
  have Fg3 := Fg3'; clear Fg3'
  clear cc26
  refine hK25 _ _ ?_; clear hK25 K25
  (try simp only [zP, zN, zA, zB, zC])
  refine pu_ (v := .bool true) (y_run (by rfl) (fun W => by go_simp)) ?_
  (try simp only [zP, zN, zA, zB, zC])
  refine pu_ (v := .bool true) (y_pick (t := false) (by rfl) rfl (by rfl) (by rfl)) ?_
  (try simp only [zP, zN, zA, zB, zC])
  refine nl_ (hK21 _ _ ?_); clear hK21 K21
  refine wp_cond_true rfl ?_
  refine s_ (fun K28 hK28 => ?_)
  refine pu_ (v := .bool true) (y_assign rfl (by rfl) (by rfl)) ?_
  (try simp only [zP, zN, zA, zB, zC])
  refine nl_ (hK28 _ _ ?_); clear hK28 K28
  refine wp_ret ?_
  refine th_ret ?_
  refine hQ _ _ _ ?_
  refine bodyPost_ret (res1 rfl (rdv_tmp (v := .bool true) (by rfl))) rfl ?_
  exact ⟨rfl, C0.out⟩
 ·have HH := Lib.hid h
  clear h
  have HRP := Lib.hid HH.out.1
  have HM := Lib.hid (show SmallZ m from HH.out.2.2.1)
  have HSM := Lib.hid (show ∀ x ∈ L, SmallL x from fun x hx => (HH.out.1.2 x hx).1)
  obtain ⟨F, hF⟩ := tab_of HLD.out HH.out.1
  have HCM := Lib.hid (cmp_ok hF)
  clear hF
  refine s_ (fun K29 hK29 => ?_)
  refine pu_ (v := .slice A L.length z) (y_move rfl (by rfl) (by rfl)) ?_
  (try simp only [zP, zN, zA, zB, zC])
  refine ef_ (fun K30 hK30 => ?_)
  refine e_call Try.func11 (by kernel_rfl) rfl #[.slice A L.length z] (by rfl) rfl rfl (by first | rfl | (simp only [List.map_toArray, List.map_cons, List.map_nil]; first | done | rfl)) ((ynT (right_ (lr := lr) (Lib.hid (fun x hx w2 hb => HLR.out x hx w2 (C0.out.below0.trans (hb.mono C0.out.size)))) SL) HH.out.1)) ?_
  rintro en w32 ⟨rfl, cc31⟩
  refine ⟨_, rfl, ?_⟩
  have C0' := Lib.hid (show Ch [] w w32 from C0.out.trans' cc31 (fun x hx => absurd hx (by simp)))
  have SL' := Lib.hid (show SrcIs w32 (.slice A L.length z) (L.length) ((L).flatMap loadC) 16 from SL.out.chx cc31 xnin_nil)
  have Fg3' := Lib.hid (show Blk w32 g3 (#[.int .i64 c, .int .i64 m, .int .i64 e]) 23 from cc31.blk Fg3.out nin_nil)
  clear C0 SL Fg3
  have C0 := C0'; clear C0'
  have SL := SL'; clear SL'
  have Fg3 := Fg3'; clear Fg3'
  clear cc31
  refine hK30 _ _ ?_; clear hK30 K30
  (try simp only [zP, zN, zA, zB, zC])
  refine pu_ (v := .bool false) (y_run (by rfl) (fun W => by go_simp)) ?_
  (try simp only [zP, zN, zA, zB, zC])
  refine pu_ (v := .bool false) (y_move rfl (by rfl) (by rfl)) ?_
  (try simp only [zP, zN, zA, zB, zC])
  refine ld_ (v := .agg (#[.int .i64 c, .int .i64 m, .int .i64 e])) rfl (by rfl) (by rfl) (run_loadVar_row _ _ 23 23 (#[.int .i64 c, .int .i64 m, .int .i64 e]) (0, 0) _ Fg3.out Try.underlying23 rfl (by kernel_rfl)) ?_
  (try simp only [zP, zN, zA, zB, zC])
  refine ef_ (fun K33 hK33 => ?_)
  refine e_call Try.func6 (by kernel_rfl) rfl #[.agg (#[.int .i64 c, .int .i64 m, .int .i64 e])] (by rfl) rfl rfl (by first | rfl | (simp only [List.map_toArray, List.map_cons, List.map_nil]; first | done | rfl)) ((ynT (small_ c m e) HH.out.2)) ?_
  rintro en w35 ⟨rfl, cc34⟩
  refine ⟨_, rfl, ?_⟩
  have C0' := Lib.hid (show Ch [] w w35 from C0.out.trans' cc34 (fun x hx => absurd hx (by simp)))
  have SL' := Lib.hid (show SrcIs w35 (.slice A L.length z) (L.length) ((L).flatMap loadC) 16 from SL.out.chx cc34 xnin_nil)
  have Fg3' := Lib.hid (show Blk w35 g3 (#[.int .i64 c, .int .i64 m, .int .i64 e]) 23 from cc34.blk Fg3.out nin_nil)
  clear C0 SL Fg3
  have C0 := C0'; clear C0'
  have SL := SL'; clear SL'
  have Fg3 := Fg3'; clear Fg3'
  clear cc34
  refine hK33 _ _ ?_; clear hK33 K33
  (try simp only [zP, zN, zA, zB, zC])
  refine pu_ (v := .bool false) (y_run (by rfl) (fun W => by go_simp)) ?_
  (try simp only [zP, zN, zA, zB, zC])
  refine pu_ (v := .bool false) (y_pick (t := false) (by rfl) rfl (by rfl) (by rfl)) ?_
  (try simp only [zP, zN, zA, zB, zC])
  refine nl_ (hK29 _ _ ?_); clear hK29 K29
  refine wp_cond_false rfl ?_
  refine wp_skip ?_
  refine th_norm (hK15 _ _ ?_); try clear hK15 K15
  refine s_ (fun K36 hK36 => ?_)
  refine pu_ (v := .slice A L.length z) (y_move rfl (by rfl) (by rfl)) ?_
  (try simp only [zP, zN, zA, zB, zC])
  refine ef_ (fun K37 hK37 => ?_)
  have HLO := Lib.hid C0.out.size
  refine e_call Try.func12 (by kernel_rfl) rfl #[.slice A L.length z] (by rfl) rfl rfl (by first | rfl | (simp only [List.map_toArray, List.map_cons, List.map_nil]; first | done | rfl)) ((to_ (Lib.hid (by have := HRP.out.1; omega)) SL)) ?_
  rintro en w40 ⟨vx, rfl, OX0, cc39⟩
  refine ⟨_, rfl, ?_⟩
  have hr38 := OX0.lt
  have rw41 := Lib.hid (show ∀ x, x ∈ rl vx → x ∈ [] ∨ w.heap.size ≤ x from fun x hx => .inr (by have := (fun k hk => (hr38 k hk).1) x hx; have := C0.out.size; omega))
  have xr42 := Lib.hid (show ∀ k, k ∈ xb (.slice A L.length z) → k ∉ rl vx from fun k hk hm => by have := (fun k hk => (hr38 k hk).1) k hm; have := SL.out.lt (by decide) k hk; omega)
  have C0' := Lib.hid (show Ch [] w w40 from C0.out.trans' cc39 (fun x hx => absurd hx (by simp)))
  have SL' := Lib.hid (show SrcIs w40 (.slice A L.length z) (L.length) ((L).flatMap loadC) 16 from SL.out.chx cc39 xnin_nil)
  have Fg3' := Lib.hid (show Blk w40 g3 (#[.int .i64 c, .int .i64 m, .int .i64 e]) 23 from cc39.blk Fg3.out nin_nil)
  clear C0 SL Fg3
  have C0 := C0'; clear C0'
  have SL := SL'; clear SL'
  have Fg3 := Fg3'; clear Fg3'
  clear cc39
  have OX := Lib.hid (show OwnS w40 w35.heap.size 56 16 (vx) (L.length) (L.flatMap loadC) from OX0)
  obtain ⟨Ax, cx, hvx, -, -⟩ := OX.out.slice
  subst hvx
  refine hK37 _ _ ?_; clear hK37 K37
  (try simp only [zP, zN, zA, zB, zC])
  refine pu_ (v := .slice Ax L.length cx) (y_assign rfl (by rfl) (by rfl)) ?_
  (try simp only [zP, zN, zA, zB, zC])
  refine nl_ (hK36 _ _ ?_); clear hK36 K36
  refine sq_ (fun K43 hK43 => ?_)
  rcases Classical.em (SmallZ (sumZ L).1 ∧ SmallZ (sumZ L).2.1 ∧ SmallZ (sumZ L).2.2) with h | h
  ·have HH6 := Lib.hid h
   clear h
   have HSS := Lib.hid (show SmallZ (sumZ L).2.1 from HH6.out.2.1)
   obtain ⟨vu, vb, hv⟩ : ∃ vu vb, vicP (czF F) L m pc = (vu, vb) := ⟨_, _, rfl⟩
   obtain ⟨sh, hsh⟩ : ∃ sh, sh = decide ((sumZ L).2.1 > limZ m pc) := ⟨_, rfl⟩
   have HV := Lib.hid hv
   have HSH := Lib.hid hsh
   clear hv hsh
   refine s_ (fun K44 hK44 => ?_)
   refine pu_ (v := .slice Ax L.length cx) (y_move rfl (by rfl) (by rfl)) ?_
   (try simp only [zP, zN, zA, zB, zC])
   refine ef_ (fun K45 hK45 => ?_)
   refine e_call Try.func18 (by kernel_rfl) rfl #[.slice Ax L.length cx] (by rfl) rfl rfl (by first | rfl | (simp only [List.map_toArray, List.map_cons, List.map_nil]; first | done | rfl)) ((sum_ (Lib.hid (by have := HRP.out.1; omega)) HSM (Lib.hid OX.out.src))) ?_
   rintro en w47 ⟨rfl, cc46⟩
   refine ⟨_, rfl, ?_⟩
   have C0' := Lib.hid (show Ch [] w w47 from C0.out.trans' cc46 (fun x hx => absurd hx (by simp)))
   have SL' := Lib.hid (show SrcIs w47 (.slice A L.length z) (L.length) ((L).flatMap loadC) 16 from SL.out.chx cc46 xnin_nil)
   have Fg3' := Lib.hid (show Blk w47 g3 (#[.int .i64 c, .int .i64 m, .int .i64 e]) 23 from cc46.blk Fg3.out nin_nil)
   have OX' := Lib.hid (show OwnS w47 w35.heap.size 56 16 (.slice Ax L.length cx) (L.length) (L.flatMap loadC) from OX.out.ch cc46 rnin_nil)
   clear C0 SL Fg3 OX
   have C0 := C0'; clear C0'
   have SL := SL'; clear SL'
   have Fg3 := Fg3'; clear Fg3'
   have OX := OX'; clear OX'
   clear cc46
   refine hK45 _ _ ?_; clear hK45 K45
   (try simp only [zP, zN, zA, zB, zC])
   refine ef_ (fun K48 hK48 => ?_)
   refine e_call Try.func6 (by kernel_rfl) rfl #[.agg #[.int .i64 (sumZ L).1, .int .i64 (sumZ L).2.1, .int .i64 (sumZ L).2.2]] (by rfl) rfl rfl (by first | rfl | (simp only [List.map_toArray, List.map_cons, List.map_nil]; first | done | rfl)) ((ynT (small_ (sumZ L).1 (sumZ L).2.1 (sumZ L).2.2) HH6.out)) ?_
   rintro en w50 ⟨rfl, cc49⟩
   refine ⟨_, rfl, ?_⟩
   have C0' := Lib.hid (show Ch [] w w50 from C0.out.trans' cc49 (fun x hx => absurd hx (by simp)))
   have SL' := Lib.hid (show SrcIs w50 (.slice A L.length z) (L.length) ((L).flatMap loadC) 16 from SL.out.chx cc49 xnin_nil)
   have Fg3' := Lib.hid (show Blk w50 g3 (#[.int .i64 c, .int .i64 m, .int .i64 e]) 23 from cc49.blk Fg3.out nin_nil)
   have OX' := Lib.hid (show OwnS w50 w35.heap.size 56 16 (.slice Ax L.length cx) (L.length) (L.flatMap loadC) from OX.out.ch cc49 rnin_nil)
   clear C0 SL Fg3 OX
   have C0 := C0'; clear C0'
   have SL := SL'; clear SL'
   have Fg3 := Fg3'; clear Fg3'
   have OX := OX'; clear OX'
   clear cc49
   refine hK48 _ _ ?_; clear hK48 K48
   (try simp only [zP, zN, zA, zB, zC])
   refine pu_ (v := .bool false) (y_run (by rfl) (fun W => by go_simp)) ?_
   (try simp only [zP, zN, zA, zB, zC])
   refine nl_ (hK44 _ _ ?_); clear hK44 K44
   refine wp_cond_false rfl ?_
   refine wp_skip ?_
   refine th_norm (hK43 _ _ ?_); try clear hK43 K43
   refine s_ (fun K51 hK51 => ?_)
   refine pu_ (v := .slice Ax L.length cx) (y_move rfl (by rfl) (by rfl)) ?_
   (try simp only [zP, zN, zA, zB, zC])
   refine ld_ (v := .agg (#[.int .i64 c, .int .i64 m, .int .i64 e])) rfl (by rfl) (by rfl) (run_loadVar_row _ _ 23 23 (#[.int .i64 c, .int .i64 m, .int .i64 e]) (0, 0) _ Fg3.out Try.underlying23 rfl (by kernel_rfl)) ?_
   (try simp only [zP, zN, zA, zB, zC])
   refine pu_ (v := .int .i64 pc) (y_move rfl (by rfl) (by rfl)) ?_
   (try simp only [zP, zN, zA, zB, zC])
   refine ef_ (fun K52 hK52 => ?_)
   refine e_call Try.func16 (by kernel_rfl) rfl #[.slice Ax L.length cx, .agg (#[.int .i64 c, .int .i64 m, .int .i64 e]), .int .i64 pc] (by rfl) rfl rfl (by first | rfl | (simp only [List.map_toArray, List.map_cons, List.map_nil]; first | done | rfl)) ((by have h9 := victim_ (w := w50) (L := L) (W := w) (cz := czF F) (a := c) (b := e) (hm := m) (pc := pc) (Lib.hid HRP.out.1) HSM HM HCM (Lib.hid C0.out.below0) (Lib.hid OX.out.src); rw [HV.out] at h9; exact h9)) ?_
   rintro en w54 ⟨rfl, cc53⟩
   refine ⟨_, rfl, ?_⟩
   have C0' := Lib.hid (show Ch [] w w54 from C0.out.trans' cc53 (fun x hx => absurd hx (by simp)))
   have SL' := Lib.hid (show SrcIs w54 (.slice A L.length z) (L.length) ((L).flatMap loadC) 16 from SL.out.chx cc53 xnin_nil)
   have Fg3' := Lib.hid (show Blk w54 g3 (#[.int .i64 c, .int .i64 m, .int .i64 e]) 23 from cc53.blk Fg3.out nin_nil)
   have OX' := Lib.hid (show OwnS w54 w35.heap.size 56 16 (.slice Ax L.length cx) (L.length) (L.flatMap loadC) from OX.out.ch cc53 rnin_nil)
   clear C0 SL Fg3 OX
   have C0 := C0'; clear C0'
   have SL := SL'; clear SL'
   have Fg3 := Fg3'; clear Fg3'
   have OX := OX'; clear OX'
   clear cc53
   refine hK52 _ _ ?_; clear hK52 K52
   (try simp only [zP, zN, zA, zB, zC])
   refine pu_ (v := .tuple #[.int .i64 vu, .bool vb]) (y_move rfl (by rfl) (by rfl)) ?_
   (try simp only [zP, zN, zA, zB, zC])
   refine pu_ (v := .int .i64 vu) (y_run (by rfl) (fun W => by go_simp)) ?_
   (try simp only [zP, zN, zA, zB, zC])
   refine pu_ (v := .bool vb) (y_run (by rfl) (fun W => by go_simp)) ?_
   (try simp only [zP, zN, zA, zB, zC])
   refine pu_ (v := .int .i64 vu) (y_assign rfl (by rfl) (by rfl)) ?_
   (try simp only [zP, zN, zA, zB, zC])
   refine pu_ (v := .bool vb) (y_assign rfl (by rfl) (by rfl)) ?_
   (try simp only [zP, zN, zA, zB, zC])
   refine nl_ (hK51 _ _ ?_); clear hK51 K51
   refine sq_ (fun K55 hK55 => ?_)
   refine startk_ (S := fun W => Blk W g3 (#[.int .i64 c, .int .i64 m, .int .i64 e]) 23 ∧ True) (ds := []) #[false, false, false, false, false, false] (by kernel_rfl) rfl rfl (fun W c => ⟨c.blk Fg3.out nin_nil, trivial⟩) (fun w56 C57 hS58 => ?_)
   have C0' := Lib.hid (show Ch [] w w56 from C0.out.trans' C57 (fun x hx => absurd hx (by simp)))
   have SL' := Lib.hid (show SrcIs w56 (.slice A L.length z) (L.length) ((L).flatMap loadC) 16 from SL.out.chx C57 xnin_nil)
   have Fg3' := Lib.hid (show Blk w56 g3 (#[.int .i64 c, .int .i64 m, .int .i64 e]) 23 from C57.blk Fg3.out nin_nil)
   have OX' := Lib.hid (show OwnS w56 w35.heap.size 56 16 (.slice Ax L.length cx) (L.length) (L.flatMap loadC) from OX.out.ch C57 rnin_nil)
   clear C0 SL Fg3 OX
   have C0 := C0'; clear C0'
   have SL := SL'; clear SL'
   have Fg3 := Fg3'; clear Fg3'
   have OX := OX'; clear OX'
   clear C57
   refine pure_ (i := 0) (N := some 40) (v := .slice Ax L.length cx) #[true, false, false, false, false, false] rfl rfl (by kernel_rfl) (fun c a w h => hP c a _ _ w h) (y_move rfl (by rfl) (by rfl)) rfl ?_
   (try simp only [zP, zN, zA, zB, zC])
   refine take_ (i := 2) (N := some 42) (v := .agg (#[.int .i64 c, .int .i64 m, .int .i64 e])) #[true, false, true, false, false, false] rfl rfl (by kernel_rfl) (fun c a w h => hP c a _ _ w h) (y_load (p := ⟨g3, 0, none⟩) rfl (by rfl) (by rfl) (fun W hS => run_loadVar_row _ _ 23 23 (#[.int .i64 c, .int .i64 m, .int .i64 e]) (0, 0) _ hS.1 Try.underlying23 rfl (by kernel_rfl))) hS58 rfl ?_
   (try simp only [zP, zN, zA, zB, zC])
   refine pure_ (i := 3) (N := some 43) (v := .int .i64 pc) #[true, false, true, true, false, false] rfl rfl (by kernel_rfl) (fun c a w h => hP c a _ _ w h) (y_move rfl (by rfl) (by rfl)) rfl ?_
   (try simp only [zP, zN, zA, zB, zC])
   refine one_ (i := 1) (N := some 41) #[true, true, true, true, false, false] rfl rfl (by kernel_rfl) (by simp) (fun K59 hK59 => ?_)
   refine e_call Try.func18 (by kernel_rfl) rfl #[.slice Ax L.length cx] (by rfl) rfl rfl (by first | rfl | (simp only [List.map_toArray, List.map_cons, List.map_nil]; first | done | rfl)) ((sum_ (Lib.hid (by have := HRP.out.1; omega)) HSM (Lib.hid OX.out.src))) ?_
   rintro en w61 ⟨rfl, cc60⟩
   refine ⟨_, rfl, ?_⟩
   have C0' := Lib.hid (show Ch [] w w61 from C0.out.trans' cc60 (fun x hx => absurd hx (by simp)))
   have SL' := Lib.hid (show SrcIs w61 (.slice A L.length z) (L.length) ((L).flatMap loadC) 16 from SL.out.chx cc60 xnin_nil)
   have Fg3' := Lib.hid (show Blk w61 g3 (#[.int .i64 c, .int .i64 m, .int .i64 e]) 23 from cc60.blk Fg3.out nin_nil)
   have OX' := Lib.hid (show OwnS w61 w35.heap.size 56 16 (.slice Ax L.length cx) (L.length) (L.flatMap loadC) from OX.out.ch cc60 rnin_nil)
   clear C0 SL Fg3 OX
   have C0 := C0'; clear C0'
   have SL := SL'; clear SL'
   have Fg3 := Fg3'; clear Fg3'
   have OX := OX'; clear OX'
   clear cc60
   refine hK59.out _ _ ⟨Fg3.out, trivial⟩ (fun hS62 => ?_); clear hK59 K59
   (try simp only [zP, zN, zA, zB, zC])
   refine one_ (i := 4) (N := some 44) #[true, true, true, true, true, false] rfl rfl (by kernel_rfl) (by simp) (fun K63 hK63 => ?_)
   refine e_call Try.func10 (by kernel_rfl) rfl #[.agg #[.int .i64 (sumZ L).1, .int .i64 (sumZ L).2.1, .int .i64 (sumZ L).2.2], .agg (#[.int .i64 c, .int .i64 m, .int .i64 e]), .int .i64 pc] (by rfl) rfl rfl (by first | rfl | (simp only [List.map_toArray, List.map_cons, List.map_nil]; first | done | rfl)) ((by have h9 := short_ (w := w61) (a := (sumZ L).1) (b := (sumZ L).2.1) (c := (sumZ L).2.2) (d := c) (e := e) (pc := pc) HM; rw [← HSH.out] at h9; exact h9)) ?_
   rintro en w65 ⟨rfl, cc64⟩
   refine ⟨_, rfl, ?_⟩
   have C0' := Lib.hid (show Ch [] w w65 from C0.out.trans' cc64 (fun x hx => absurd hx (by simp)))
   have SL' := Lib.hid (show SrcIs w65 (.slice A L.length z) (L.length) ((L).flatMap loadC) 16 from SL.out.chx cc64 xnin_nil)
   have Fg3' := Lib.hid (show Blk w65 g3 (#[.int .i64 c, .int .i64 m, .int .i64 e]) 23 from cc64.blk Fg3.out nin_nil)
   have OX' := Lib.hid (show OwnS w65 w35.heap.size 56 16 (.slice Ax L.length cx) (L.length) (L.flatMap loadC) from OX.out.ch cc64 rnin_nil)
   clear C0 SL Fg3 OX
   have C0 := C0'; clear C0'
   have SL := SL'; clear SL'
   have Fg3 := Fg3'; clear Fg3'
   have OX := OX'; clear OX'
   clear cc64
   refine hK63.out _ _ ⟨Fg3.out, trivial⟩ (fun hS66 => ?_); clear hK63 K63
   (try simp only [zP, zN, zA, zB, zC])
   refine pure_ (i := 5) (N := some 10) (v := .bool sh) #[true, true, true, true, true, true] rfl rfl (by kernel_rfl) (fun c a w h => hP c a _ _ w h) (y_assign rfl (by rfl) (by rfl)) rfl ?_
   (try simp only [zP, zN, zA, zB, zC])
   refine done_ (by kernel_rfl) (th_norm (hK55 _ _ ?_)); clear hK55 K55
   exact calmB hQ hP _ _ ⟨_, _, _, _, _, _, fun us_ => (#[.slice A L.length z, .agg #[.int .i64 c, .int .i64 m, .int .i64 e], .int .i64 pc, undef, .pointer (some ⟨g3, 0, none⟩), undef, .bool false, .slice Ax L.length cx, .int .i64 vu, .bool vb, .bool sh, undef, undef, undef, undef, undef, undef, .bool true, .bool false, .slice A L.length z, .bool true, .bool false, .bool false, .agg (#[.int .i64 c, .int .i64 m, .int .i64 e]), .bool true, .bool false, .bool false, .slice A L.length z, .slice Ax L.length cx, .slice Ax L.length cx, .agg #[.int .i64 (sumZ L).1, .int .i64 (sumZ L).2.1, .int .i64 (sumZ L).2.2], .bool true, .bool false, .tuple #[.int .i64 vu, .bool vb], .slice Ax L.length cx, .agg (#[.int .i64 c, .int .i64 m, .int .i64 e]), .int .i64 pc, .tuple #[.int .i64 vu, .bool vb], .int .i64 vu, .bool vb, .slice Ax L.length cx, .agg #[.int .i64 (sumZ L).1, .int .i64 (sumZ L).2.1, .int .i64 (sumZ L).2.2], .agg (#[.int .i64 c, .int .i64 m, .int .i64 e]), .int .i64 pc, .bool sh, undef, undef, undef, undef, undef, undef, undef, undef, undef, undef, undef, undef, undef, undef, undef, undef, undef, undef, undef, undef, undef, undef, undef, undef, undef, undef, undef, undef, undef, undef, undef, undef, undef, undef, undef, undef, undef, undef, undef, undef, undef, undef, undef, undef, undef, undef, undef, undef, undef, undef, undef, undef, undef, undef, undef, undef, undef, undef, undef, undef, undef, undef, undef, undef, undef, undef, undef, undef, undef, undef] : Array Value).getD us_ undef, rfl, C0, SL, Lib.hid (OX.out.lower HLO.out), HRP, HM, HSM, HCM, HSS, HV, HSH⟩
  ·have HH6 := Lib.hid h
   clear h
   refine s_ (fun K67 hK67 => ?_)
   refine pu_ (v := .slice Ax L.length cx) (y_move rfl (by rfl) (by rfl)) ?_
   (try simp only [zP, zN, zA, zB, zC])
   refine ef_ (fun K68 hK68 => ?_)
   refine e_call Try.func18 (by kernel_rfl) rfl #[.slice Ax L.length cx] (by rfl) rfl rfl (by first | rfl | (simp only [List.map_toArray, List.map_cons, List.map_nil]; first | done | rfl)) ((sum_ (Lib.hid (by have := HRP.out.1; omega)) HSM (Lib.hid OX.out.src))) ?_
   rintro en w70 ⟨rfl, cc69⟩
   refine ⟨_, rfl, ?_⟩
   have C0' := Lib.hid (show Ch [] w w70 from C0.out.trans' cc69 (fun x hx => absurd hx (by simp)))
   have SL' := Lib.hid (show SrcIs w70 (.slice A L.length z) (L.length) ((L).flatMap loadC) 16 from SL.out.chx cc69 xnin_nil)
   have Fg3' := Lib.hid (show Blk w70 g3 (#[.int .i64 c, .int .i64 m, .int .i64 e]) 23 from cc69.blk Fg3.out nin_nil)
   have OX' := Lib.hid (show OwnS w70 w35.heap.size 56 16 (.slice Ax L.length cx) (L.length) (L.flatMap loadC) from OX.out.ch cc69 rnin_nil)
   clear C0 SL Fg3 OX
   have C0 := C0'; clear C0'
   have SL := SL'; clear SL'
   have Fg3 := Fg3'; clear Fg3'
   have OX := OX'; clear OX'
   clear cc69
   refine hK68 _ _ ?_; clear hK68 K68
   (try simp only [zP, zN, zA, zB, zC])
   refine ef_ (fun K71 hK71 => ?_)
   refine e_call Try.func6 (by kernel_rfl) rfl #[.agg #[.int .i64 (sumZ L).1, .int .i64 (sumZ L).2.1, .int .i64 (sumZ L).2.2]] (by rfl) rfl rfl (by first | rfl | (simp only [List.map_toArray, List.map_cons, List.map_nil]; first | done | rfl)) ((ynF (small_ (sumZ L).1 (sumZ L).2.1 (sumZ L).2.2) HH6.out)) ?_
   rintro en w73 ⟨rfl, cc72⟩
   refine ⟨_, rfl, ?_⟩
   have C0' := Lib.hid (show Ch [] w w73 from C0.out.trans' cc72 (fun x hx => absurd hx (by simp)))
   have SL' := Lib.hid (show SrcIs w73 (.slice A L.length z) (L.length) ((L).flatMap loadC) 16 from SL.out.chx cc72 xnin_nil)
   have Fg3' := Lib.hid (show Blk w73 g3 (#[.int .i64 c, .int .i64 m, .int .i64 e]) 23 from cc72.blk Fg3.out nin_nil)
   have OX' := Lib.hid (show OwnS w73 w35.heap.size 56 16 (.slice Ax L.length cx) (L.length) (L.flatMap loadC) from OX.out.ch cc72 rnin_nil)
   clear C0 SL Fg3 OX
   have C0 := C0'; clear C0'
   have SL := SL'; clear SL'
   have Fg3 := Fg3'; clear Fg3'
   have OX := OX'; clear OX'
   clear cc72
   refine hK71 _ _ ?_; clear hK71 K71
   (try simp only [zP, zN, zA, zB, zC])
   refine pu_ (v := .bool true) (y_run (by rfl) (fun W => by go_simp)) ?_
   (try simp only [zP, zN, zA, zB, zC])
   refine nl_ (hK67 _ _ ?_); clear hK67 K67
   refine wp_cond_true rfl ?_
   refine s_ (fun K74 hK74 => ?_)
   refine pu_ (v := .bool true) (y_assign rfl (by rfl) (by rfl)) ?_
   (try simp only [zP, zN, zA, zB, zC])
   refine nl_ (hK74 _ _ ?_); clear hK74 K74
   refine wp_ret ?_
   refine th_ret ?_
   refine hQ _ _ _ ?_
   refine bodyPost_ret (res1 rfl (rdv_tmp (v := .bool true) (by rfl))) rfl ?_
   exact ⟨rfl, C0.out⟩
end
end Go.Proofs.Ytmoelehhofmhcaa.V
