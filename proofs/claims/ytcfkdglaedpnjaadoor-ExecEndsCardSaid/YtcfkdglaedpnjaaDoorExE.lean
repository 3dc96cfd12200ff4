/- The walks of package exec: a container's sessions end. -/
import Derived.Test.YtcfkdglaedpnjaaDoorExD
namespace Go.Proofs.YtcfkdglaedpnjaaDoor.V
open Go Go.RowKit Go.Proofs.YtcfkdglaedpnjaaDoor.K Go.Proofs.YtcfkdglaedpnjaaDoor.R Go.Proofs.YtcfkdglaedpnjaaDoorW.PrintLast
set_option linter.unusedVariables false
set_option linter.unusedSimpArgs false
set_option maxRecDepth 100000
set_option maxHeartbeats 1600000
section
variable {w : World}
/-- Is a session one of the container's that are open? -/
def hit (bx ct : Int) (s : HS) : Bool := s.op && (s.box == bx && s.ctr == ct)
/-- A session, ended if it is one of the container's. -/
def endS (bx ct : Int) (s : HS) : HS := if hit bx ct s then { s with op := false } else s
theorem mix_at {α : Type} {f : α → α} {l : List α} {k : Nat} {c : α} (h : l[k]? = some c) : ((l.take k).map f ++ l.drop k)[k]? = some c := by
  have hk : k < l.length := (List.getElem?_eq_some_iff.1 h).1
  rw [List.getElem?_append_right (by rw [List.length_map, List.length_take]; omega), List.length_map, List.length_take, List.getElem?_drop, show k + (k - min k l.length) = k by omega, h]
theorem mix_set {α : Type} {f : α → α} {l : List α} {k : Nat} {c : α} (h : l[k]? = some c) : ((l.take k).map f ++ l.drop k).set k (f c) = (l.take (k + 1)).map f ++ l.drop (k + 1) := by
  obtain ⟨hk, rfl⟩ := List.getElem?_eq_some_iff.1 h
  rw [List.set_append_right _ _ (by rw [List.length_map, List.length_take]; omega), List.length_map, List.length_take, show k - min k l.length = 0 by omega, List.drop_eq_getElem_cons hk, List.set_cons_zero, take_snoc h, List.map_append, List.map_cons, List.map_nil, List.append_assoc]
  rfl
theorem mix_keep {α : Type} {f : α → α} {l : List α} {k : Nat} {c : α} (h : l[k]? = some c) (hc : f c = c) : (l.take k).map f ++ l.drop k = (l.take (k + 1)).map f ++ l.drop (k + 1) := by
  rw [← mix_set h, hc]
  apply List.ext_getElem?
  intro i
  by_cases hi : k = i
  · subst hi
    rw [mix_at h, List.getElem?_set_self (by have := mix_at (f := f) h; exact (List.getElem?_eq_some_iff.1 this).1)]
  · rw [List.getElem?_set_ne hi]
theorem count_succ {α : Type} {p : α → Bool} {l : List α} {k : Nat} {c : α} (h : l[k]? = some c) : (l.take (k + 1)).countP p = (l.take k).countP p + (if p c then 1 else 0) := by
  rw [take_snoc h, List.countP_append, List.countP_singleton]
/-- The three blocks of one session are three. -/
theorem AllIs.three {w : World} {c : Nat} {K : List SB} {L : List HS} (h : AllIs w c K L) {j : Nat} {k : SB} (hk : K[j]? = some k) : k.b ≠ k.bi ∧ k.b ≠ k.bo ∧ k.bi ≠ k.bo := by
  have hn := h.nodup
  obtain ⟨hj, rfl⟩ := List.getElem?_eq_some_iff.1 hk
  have h2 : (kbs K).Nodup := hn
  unfold kbs at h2
  rw [← List.take_append_drop j K, List.drop_eq_getElem_cons hj, List.flatMap_append, List.nodup_append] at h2
  have h3 := h2.2.1
  rw [List.flatMap_cons, List.nodup_append] at h3
  have h4 := h3.1
  simp at h4
  exact ⟨h4.1.1, h4.1.2, h4.2⟩
theorem end_ {A : Option Addr} {z c x la : Nat} {K : List SB} {L : List HS} {bx ct : Int} (HN : Hid (K.length ≤ 100)) (HA : Hid (AllIs w c K L)) (HXS : Hid (∀ y, y ∈ kbs K → y ∉ xb (.slice A K.length z))) (SL : Hid (SrcIs w (.slice A K.length z) (K.length) (K.flatMap ptrC) 1)) (FX : Hid (Blk w x (#[.slice A K.length z, .int .i64 la]) 60)) :
    Calls Tryd.prog 13 #[.pointer (some ⟨x, 0, none⟩), .int .i64 bx, .int .i64 ct] w fun en w' => en = .returned (.int .i64 (L.countP (hit bx ct) : Nat)) ∧ AllIs w' c K (L.map (endS bx ct)) ∧ Ch (kbs K) w w' := by
  have C0 := Lib.hid (Ch.refl ((kbs K)) w)
  go_enter Tryd.func13, Tryd.ntmps13
  refine q_ (fun Q hQ hP => ?_)
  refine s_ (fun K1 hK1 => ?_)
  refine pu_ (v := .int .i64 0) (y_assign rfl (by rfl) (by rfl)) ?_
  (try simp only [zP, zN, zA, zB, zC])
  refine nl_ (hK1 _ _ ?_); clear hK1 K1
  refine s_ (fun K2 hK2 => ?_)
  refine pu_ (v := .int .i64 0) (y_assign rfl (by rfl) (by rfl)) ?_
  (try simp only [zP, zN, zA, zB, zC])
  refine nl_ (hK2 _ _ ?_); clear hK2 K2
  refine sq_ (fun K3 hK3 => ?_)
  refine s_ (fun K4 hK4 => ?_)
  refine pu_ (v := .pointer (some ⟨x, 0, none⟩)) (y_move rfl (by rfl) (by rfl)) ?_
  (try simp only [zP, zN, zA, zB, zC])
  refine pu_ (v := .pointer (some ⟨x, 0, none⟩)) (y_nil rfl (by rfl) (by rfl)) ?_
  (try simp only [zP, zN, zA, zB, zC])
  refine pu_ (v := .pointer (some ⟨x, 0, none⟩)) (y_run (by rfl) (fun W => by go_simp)) ?_
  (try simp only [zP, zN, zA, zB, zC])
  refine ld_ (v := .slice A K.length z) rfl (by rfl) (by rfl) (run_load_one ((FX.out.cell 0).trans rfl) Tryd.underlying58 rfl) ?_
  (try simp only [zP, zN, zA, zB, zC])
  refine pu_ (v := .int .i64 K.length) (y_run (by rfl) (fun W => by go_simp)) ?_
  (try simp only [zP, zN, zA, zB, zC])
  refine pu_ (v := .int .i64 0) (y_move rfl (by rfl) (by rfl)) ?_
  (try simp only [zP, zN, zA, zB, zC])
  refine nl_ (hK4 _ _ ?_); clear hK4 K4
  refine wp_block ?_
  have AL0 := Lib.hid (show AllIs w c K ((L.take 0).map (endS bx ct) ++ L.drop 0) from by rw [List.take_zero, List.drop_zero]; exact HA.out)
  refine loopk_ (fun (jq : Nat) (a' : Act) (w' : World) => ∃ (j : Nat), ∃ (us : Nat → Value), a' = ⟨#[.pointer (some ⟨x, 0, none⟩), .int .i64 bx, .int .i64 ct, us 3, us 4, us 5, us 6, .int .i64 ((L.take j).countP (hit bx ct) : Nat), us 8, us 9, us 10, us 11, us 12, .slice A K.length z, .int .i64 K.length, .int .i64 j, us 16, us 17, us 18, us 19, us 20, us 21, us 22, us 23, us 24, us 25, us 26, us 27, us 28, us 29, us 30, us 31, us 32, us 33, us 34, us 35, us 36, us 37, us 38, us 39, us 40, us 41, us 42, us 43, us 44, us 45, us 46, us 47, us 48, us 49, us 50], []⟩ ∧ Hid (Ch ((kbs K)) w w') ∧ Hid (SrcIs w' (.slice A K.length z) (K.length) (K.flatMap ptrC) 1) ∧ Hid (j ≤ K.length ∧ jq + j = K.length) ∧ Hid (AllIs w' c K ((L.take j).map (endS bx ct) ++ L.drop j))) (K.length) (⟨0, fun us_ => (#[.pointer (some ⟨x, 0, none⟩), .int .i64 bx, .int .i64 ct, undef, undef, undef, .int .i64 0, .int .i64 0, undef, undef, .pointer (some ⟨x, 0, none⟩), .pointer (some ⟨x, 0, none⟩), .pointer (some ⟨x, 0, none⟩), .slice A K.length z, .int .i64 K.length, .int .i64 0, undef, undef, undef, undef, undef, undef, undef, undef, undef, undef, undef, undef, undef, undef, undef, undef, undef, undef, undef, undef, undef, undef, undef, undef, undef, undef, undef, undef, undef, undef, undef, undef, undef, undef, undef] : Array Value).getD us_ undef, rfl, C0, SL, Lib.hid ⟨by omega, by omega⟩, AL0⟩) ?_
  rintro jq _ w5 ⟨j, us, rfl, C0, SL, hj, AL⟩ K6 hK6
  rcases at_ways' hj.out.1 with ⟨k, ho0, hlt0⟩ | h; obtain ⟨s, hs0, hsi0⟩ := AL.out.get ho0; rcases (show s.op = false ∨ (s.op = true ∧ s.box ≠ bx) ∨ (s.op = true ∧ s.box = bx ∧ s.ctr ≠ ct) ∨ (s.op = true ∧ s.box = bx ∧ s.ctr = ct) by cases s.op <;> simp; exact (Classical.em (s.box = bx)).elim (fun h1 => (Classical.em (s.ctr = ct)).elim (fun h2 => .inr (.inr ⟨h1, h2⟩)) (fun h2 => .inr (.inl ⟨h1, h2⟩))) .inl) with hc | hc | hc | hc
  · have hlt := Lib.hid hlt0
    have HK := Lib.hid ho0
    have HCC := Lib.hid hc
    have HS_ := Lib.hid (show L[j]? = some s from by rw [List.getElem?_append_right (by rw [List.length_map, List.length_take]; have := HA.out.len; have := hlt0; omega), List.length_map, List.length_take, List.getElem?_drop, show j + (j - min j L.length) = j by have := HA.out.len; have := hlt0; omega] at hs0; exact hs0)
    have HSI := Lib.hid hsi0
    have H3 := Lib.hid (AL.out.three ho0)
    clear hs0 hsi0 hc hlt0 ho0
    have FS := Lib.hid (show Blk w5 k.b (#[.int .i64 s.id, .int .i64 s.box, .int .i64 s.ctr, .bool false, .pointer (some ⟨k.bi, 0, none⟩), .pointer (some ⟨k.bo, 0, none⟩)]) 65 from by have h9 := HSI.out.blk; unfold sessA at h9; rw [HCC.out] at h9; exact h9)
    have C1 := Lib.hid (Ch.refl [] w5)
    have HEN := Lib.hid (show endS bx ct s = s from by unfold endS hit; rw [HCC.out]; simp)
    have HHI := Lib.hid (show hit bx ct s = false from by unfold hit; rw [HCC.out]; simp)
    obtain ⟨a, hsm_a⟩ := src_some SL.out (by have := hlt.out; omega)
    subst hsm_a
    have D16 := Lib.hid (show (j : Int) < (K.length : Int) by have := hlt.out; omega)
    have Wj := Lib.hid (show IntKind.i64.wrap ((j : Int) + 1) = ((j + 1 : Nat) : Int) by rw [wr64 (by have := hlt.out; have h7 := HN.out; omega)]; omega)
    have W7 := Lib.hid (show (Value.int .i64 ((L.take j).countP (hit bx ct) : Nat)) = .int .i64 ((L.take (j + 1)).countP (hit bx ct) : Nat) by rw [count_succ HS_.out, HHI.out]; simp)
    rw [W7.out]
    refine s_ (fun K7 hK7 => ?_)
    refine pu_ (v := .bool true) (y_run (by rfl) (fun W => by have d := D16.out; go_simp)) ?_
    (try simp only [zP, zN, zA, zB, zC])
    refine nl_ (hK7 _ _ ?_); clear hK7 K7
    refine sq_ (fun K8 hK8 => ?_)
    refine wp_cond_true rfl ?_
    refine wp_skip ?_
    refine th_norm (hK8 _ _ ?_); try clear hK8 K8
    refine sq_ (fun K9 hK9 => ?_)
    refine wp_block ?_
    refine s_ (fun K10 hK10 => ?_)
    refine pu_ (v := .pointer (some (a.add j))) (y_run (by rfl) (fun W => by have d := D16.out; go_simp)) ?_
    (try simp only [zP, zN, zA, zB, zC])
    refine ld_ (v := .pointer (some ⟨k.b, 0, none⟩)) rfl (by rfl) (by rfl) (run_load_one (one_at (by have h9 := src_at ptrC_len SL.out HK.out; rw [Nat.mul_one] at h9; exact h9)) Tryd.underlying61 rfl) ?_
    (try simp only [zP, zN, zA, zB, zC])
    refine pu_ (v := .pointer (some ⟨k.b, 0, none⟩)) (y_assign rfl (by rfl) (by rfl)) ?_
    (try simp only [zP, zN, zA, zB, zC])
    refine nl_ (hK10 _ _ ?_); clear hK10 K10
    refine s_ (fun K11 hK11 => ?_)
    refine pu_ (v := .pointer (some ⟨k.b, 0, none⟩)) (y_move rfl (by rfl) (by rfl)) ?_
    (try simp only [zP, zN, zA, zB, zC])
    refine pu_ (v := .pointer (some ⟨k.b, 0, none⟩)) (y_nil rfl (by rfl) (by rfl)) ?_
    (try simp only [zP, zN, zA, zB, zC])
    refine pu_ (v := .pointer (some ⟨k.b, 3, none⟩)) (y_run (by rfl) (fun W => by go_simp)) ?_
    (try simp only [zP, zN, zA, zB, zC])
    refine ld_ (v := .bool false) rfl (by rfl) (by rfl) (run_load_one ((FS.out.cell 3).trans rfl) Tryd.underlying4 rfl) ?_
    (try simp only [zP, zN, zA, zB, zC])
    refine pu_ (v := .bool false) (y_move rfl (by rfl) (by rfl)) ?_
    (try simp only [zP, zN, zA, zB, zC])
    refine pu_ (y_off (by rfl)) ?_
    (try simp only [zP, zN, zA, zB, zC])
    refine pu_ (y_off (by rfl)) ?_
    (try simp only [zP, zN, zA, zB, zC])
    refine pu_ (y_off (by rfl)) ?_
    (try simp only [zP, zN, zA, zB, zC])
    refine pu_ (y_off (by rfl)) ?_
    (try simp only [zP, zN, zA, zB, zC])
    refine pu_ (y_off (by rfl)) ?_
    (try simp only [zP, zN, zA, zB, zC])
    refine pu_ (y_off (by rfl)) ?_
    (try simp only [zP, zN, zA, zB, zC])
    refine pu_ (v := .bool false) (y_pick (t := false) (by rfl) rfl (by rfl) (by rfl)) ?_
    (try simp only [zP, zN, zA, zB, zC])
    refine pu_ (v := .bool false) (y_move rfl (by rfl) (by rfl)) ?_
    (try simp only [zP, zN, zA, zB, zC])
    refine pu_ (y_off (by rfl)) ?_
    (try simp only [zP, zN, zA, zB, zC])
    refine pu_ (y_off (by rfl)) ?_
    (try simp only [zP, zN, zA, zB, zC])
    refine pu_ (y_off (by rfl)) ?_
    (try simp only [zP, zN, zA, zB, zC])
    refine pu_ (y_off (by rfl)) ?_
    (try simp only [zP, zN, zA, zB, zC])
    refine pu_ (y_off (by rfl)) ?_
    (try simp only [zP, zN, zA, zB, zC])
    refine pu_ (y_off (by rfl)) ?_
    (try simp only [zP, zN, zA, zB, zC])
    refine pu_ (v := .bool false) (y_pick (t := false) (by rfl) rfl (by rfl) (by rfl)) ?_
    (try simp only [zP, zN, zA, zB, zC])
    refine nl_ (hK11 _ _ ?_); clear hK11 K11
    refine wp_cond_false rfl ?_
    refine wp_skip ?_
    refine ib_norm ?_
    refine th_norm (hK9 _ _ ?_); try clear hK9 K9
    refine r_ ?_
    refine pu_ (v := .int .i64 (j + 1 : Nat)) (y_run (by rfl) (fun W => by have d := Wj.out; go_simp)) ?_
    (try simp only [zP, zN, zA, zB, zC])
    refine pu_ (v := .int .i64 (j + 1 : Nat)) (y_move rfl (by rfl) (by rfl)) ?_
    (try simp only [zP, zN, zA, zB, zC])
    refine nl_ ?_
    exact th_norm (hK6 (jq - 1) _ _ (by have := hlt.out; have := hj.out; omega) ⟨j + 1, fun us_ => (#[.pointer (some ⟨x, 0, none⟩), .int .i64 bx, .int .i64 ct, us 3, us 4, us 5, us 6, .int .i64 ((L.take (j + 1)).countP (hit bx ct) : Nat), us 8, .pointer (some ⟨k.b, 0, none⟩), us 10, us 11, us 12, .slice (some a) K.length z, .int .i64 K.length, .int .i64 (j + 1 : Nat), .bool true, .pointer (some (a.add j)), .pointer (some ⟨k.b, 0, none⟩), .pointer (some ⟨k.b, 0, none⟩), .pointer (some ⟨k.b, 0, none⟩), .pointer (some ⟨k.b, 3, none⟩), .bool false, .bool false, undef, undef, undef, undef, undef, undef, .bool false, .bool false, undef, undef, undef, undef, undef, undef, .bool false, us 39, us 40, us 41, us 42, us 43, us 44, us 45, us 46, us 47, us 48, .int .i64 (j + 1 : Nat), us 50] : Array Value).getD us_ undef, rfl, C0, SL, Lib.hid ⟨by have := hlt.out; omega, by have := hlt.out; have := hj.out; omega⟩, Lib.hid (by have h9 := AL.out.ch C1.out (by simp); rw [mix_keep HS_.out HEN.out] at h9; exact h9)⟩)
  · have hlt := Lib.hid hlt0
    have HK := Lib.hid ho0
    have HCC := Lib.hid hc
    have HS_ := Lib.hid (show L[j]? = some s from by rw [List.getElem?_append_right (by rw [List.length_map, List.length_take]; have := HA.out.len; have := hlt0; omega), List.length_map, List.length_take, List.getElem?_drop, show j + (j - min j L.length) = j by have := HA.out.len; have := hlt0; omega] at hs0; exact hs0)
    have HSI := Lib.hid hsi0
    have H3 := Lib.hid (AL.out.three ho0)
    clear hs0 hsi0 hc hlt0 ho0
    have FS := Lib.hid (show Blk w5 k.b (#[.int .i64 s.id, .int .i64 s.box, .int .i64 s.ctr, .bool true, .pointer (some ⟨k.bi, 0, none⟩), .pointer (some ⟨k.bo, 0, none⟩)]) 65 from by have h9 := HSI.out.blk; unfold sessA at h9; rw [HCC.out.1] at h9; exact h9)
    have C1 := Lib.hid (Ch.refl [] w5)
    have HEN := Lib.hid (show endS bx ct s = s from by unfold endS hit; rw [HCC.out.1]; simp [HCC.out.2])
    have HHI := Lib.hid (show hit bx ct s = false from by unfold hit; rw [HCC.out.1]; simp [HCC.out.2])
    obtain ⟨a, hsm_a⟩ := src_some SL.out (by have := hlt.out; omega)
    subst hsm_a
    have D16 := Lib.hid (show (j : Int) < (K.length : Int) by have := hlt.out; omega)
    have Wj := Lib.hid (show IntKind.i64.wrap ((j : Int) + 1) = ((j + 1 : Nat) : Int) by rw [wr64 (by have := hlt.out; have h7 := HN.out; omega)]; omega)
    have D29 := Lib.hid (show (s.box == bx) = false from beq_eq_false_iff_ne.2 HCC.out.2)
    have W7 := Lib.hid (show (Value.int .i64 ((L.take j).countP (hit bx ct) : Nat)) = .int .i64 ((L.take (j + 1)).countP (hit bx ct) : Nat) by rw [count_succ HS_.out, HHI.out]; simp)
    rw [W7.out]
    refine s_ (fun K12 hK12 => ?_)
    refine pu_ (v := .bool true) (y_run (by rfl) (fun W => by have d := D16.out; go_simp)) ?_
    (try simp only [zP, zN, zA, zB, zC])
    refine nl_ (hK12 _ _ ?_); clear hK12 K12
    refine sq_ (fun K13 hK13 => ?_)
    refine wp_cond_true rfl ?_
    refine wp_skip ?_
    refine th_norm (hK13 _ _ ?_); try clear hK13 K13
    refine sq_ (fun K14 hK14 => ?_)
    refine wp_block ?_
    refine s_ (fun K15 hK15 => ?_)
    refine pu_ (v := .pointer (some (a.add j))) (y_run (by rfl) (fun W => by have d := D16.out; go_simp)) ?_
    (try simp only [zP, zN, zA, zB, zC])
    refine ld_ (v := .pointer (some ⟨k.b, 0, none⟩)) rfl (by rfl) (by rfl) (run_load_one (one_at (by have h9 := src_at ptrC_len SL.out HK.out; rw [Nat.mul_one] at h9; exact h9)) Tryd.underlying61 rfl) ?_
    (try simp only [zP, zN, zA, zB, zC])
    refine pu_ (v := .pointer (some ⟨k.b, 0, none⟩)) (y_assign rfl (by rfl) (by rfl)) ?_
    (try simp only [zP, zN, zA, zB, zC])
    refine nl_ (hK15 _ _ ?_); clear hK15 K15
    refine s_ (fun K16 hK16 => ?_)
    refine pu_ (v := .pointer (some ⟨k.b, 0, none⟩)) (y_move rfl (by rfl) (by rfl)) ?_
    (try simp only [zP, zN, zA, zB, zC])
    refine pu_ (v := .pointer (some ⟨k.b, 0, none⟩)) (y_nil rfl (by rfl) (by rfl)) ?_
    (try simp only [zP, zN, zA, zB, zC])
    refine pu_ (v := .pointer (some ⟨k.b, 3, none⟩)) (y_run (by rfl) (fun W => by go_simp)) ?_
    (try simp only [zP, zN, zA, zB, zC])
    refine ld_ (v := .bool true) rfl (by rfl) (by rfl) (run_load_one ((FS.out.cell 3).trans rfl) Tryd.underlying4 rfl) ?_
    (try simp only [zP, zN, zA, zB, zC])
    refine pu_ (v := .bool true) (y_move rfl (by rfl) (by rfl)) ?_
    (try simp only [zP, zN, zA, zB, zC])
    refine pu_ (v := .pointer (some ⟨k.b, 0, none⟩)) (y_move rfl (by rfl) (by rfl)) ?_
    (try simp only [zP, zN, zA, zB, zC])
    refine pu_ (v := .pointer (some ⟨k.b, 0, none⟩)) (y_nil rfl (by rfl) (by rfl)) ?_
    (try simp only [zP, zN, zA, zB, zC])
    refine pu_ (v := .pointer (some ⟨k.b, 1, none⟩)) (y_run (by rfl) (fun W => by go_simp)) ?_
    (try simp only [zP, zN, zA, zB, zC])
    refine ld_ (v := .int .i64 s.box) rfl (by rfl) (by rfl) (run_load_one ((FS.out.cell 1).trans rfl) Tryd.underlying3 rfl) ?_
    (try simp only [zP, zN, zA, zB, zC])
    refine pu_ (v := .int .i64 bx) (y_move rfl (by rfl) (by rfl)) ?_
    (try simp only [zP, zN, zA, zB, zC])
    refine pu_ (v := .bool false) (y_run (by rfl) (fun W => by have d := D29.out; go_simp)) ?_
    (try simp only [zP, zN, zA, zB, zC])
    refine pu_ (v := .bool false) (y_pick (t := true) (by rfl) rfl (by rfl) (by rfl)) ?_
    (try simp only [zP, zN, zA, zB, zC])
    refine pu_ (v := .bool false) (y_move rfl (by rfl) (by rfl)) ?_
    (try simp only [zP, zN, zA, zB, zC])
    refine pu_ (y_off (by rfl)) ?_
    (try simp only [zP, zN, zA, zB, zC])
    refine pu_ (y_off (by rfl)) ?_
    (try simp only [zP, zN, zA, zB, zC])
    refine pu_ (y_off (by rfl)) ?_
    (try simp only [zP, zN, zA, zB, zC])
    refine pu_ (y_off (by rfl)) ?_
    (try simp only [zP, zN, zA, zB, zC])
    refine pu_ (y_off (by rfl)) ?_
    (try simp only [zP, zN, zA, zB, zC])
    refine pu_ (y_off (by rfl)) ?_
    (try simp only [zP, zN, zA, zB, zC])
    refine pu_ (v := .bool false) (y_pick (t := false) (by rfl) rfl (by rfl) (by rfl)) ?_
    (try simp only [zP, zN, zA, zB, zC])
    refine nl_ (hK16 _ _ ?_); clear hK16 K16
    refine wp_cond_false rfl ?_
    refine wp_skip ?_
    refine ib_norm ?_
    refine th_norm (hK14 _ _ ?_); try clear hK14 K14
    refine r_ ?_
    refine pu_ (v := .int .i64 (j + 1 : Nat)) (y_run (by rfl) (fun W => by have d := Wj.out; go_simp)) ?_
    (try simp only [zP, zN, zA, zB, zC])
    refine pu_ (v := .int .i64 (j + 1 : Nat)) (y_move rfl (by rfl) (by rfl)) ?_
    (try simp only [zP, zN, zA, zB, zC])
    refine nl_ ?_
    exact th_norm (hK6 (jq - 1) _ _ (by have := hlt.out; have := hj.out; omega) ⟨j + 1, fun us_ => (#[.pointer (some ⟨x, 0, none⟩), .int .i64 bx, .int .i64 ct, us 3, us 4, us 5, us 6, .int .i64 ((L.take (j + 1)).countP (hit bx ct) : Nat), us 8, .pointer (some ⟨k.b, 0, none⟩), us 10, us 11, us 12, .slice (some a) K.length z, .int .i64 K.length, .int .i64 (j + 1 : Nat), .bool true, .pointer (some (a.add j)), .pointer (some ⟨k.b, 0, none⟩), .pointer (some ⟨k.b, 0, none⟩), .pointer (some ⟨k.b, 0, none⟩), .pointer (some ⟨k.b, 3, none⟩), .bool true, .bool true, .pointer (some ⟨k.b, 0, none⟩), .pointer (some ⟨k.b, 0, none⟩), .pointer (some ⟨k.b, 1, none⟩), .int .i64 s.box, .int .i64 bx, .bool false, .bool false, .bool false, undef, undef, undef, undef, undef, undef, .bool false, us 39, us 40, us 41, us 42, us 43, us 44, us 45, us 46, us 47, us 48, .int .i64 (j + 1 : Nat), us 50] : Array Value).getD us_ undef, rfl, C0, SL, Lib.hid ⟨by have := hlt.out; omega, by have := hlt.out; have := hj.out; omega⟩, Lib.hid (by have h9 := AL.out.ch C1.out (by simp); rw [mix_keep HS_.out HEN.out] at h9; exact h9)⟩)
  · have hlt := Lib.hid hlt0
    have HK := Lib.hid ho0
    have HCC := Lib.hid hc
    have HS_ := Lib.hid (show L[j]? = some s from by rw [List.getElem?_append_right (by rw [List.length_map, List.length_take]; have := HA.out.len; have := hlt0; omega), List.length_map, List.length_take, List.getElem?_drop, show j + (j - min j L.length) = j by have := HA.out.len; have := hlt0; omega] at hs0; exact hs0)
    have HSI := Lib.hid hsi0
    have H3 := Lib.hid (AL.out.three ho0)
    clear hs0 hsi0 hc hlt0 ho0
    have FS := Lib.hid (show Blk w5 k.b (#[.int .i64 s.id, .int .i64 s.box, .int .i64 s.ctr, .bool true, .pointer (some ⟨k.bi, 0, none⟩), .pointer (some ⟨k.bo, 0, none⟩)]) 65 from by have h9 := HSI.out.blk; unfold sessA at h9; rw [HCC.out.1] at h9; exact h9)
    have C1 := Lib.hid (Ch.refl [] w5)
    have HEN := Lib.hid (show endS bx ct s = s from by unfold endS hit; rw [HCC.out.1]; simp [HCC.out.2.2])
    have HHI := Lib.hid (show hit bx ct s = false from by unfold hit; rw [HCC.out.1]; simp [HCC.out.2.2])
    obtain ⟨a, hsm_a⟩ := src_some SL.out (by have := hlt.out; omega)
    subst hsm_a
    have D16 := Lib.hid (show (j : Int) < (K.length : Int) by have := hlt.out; omega)
    have Wj := Lib.hid (show IntKind.i64.wrap ((j : Int) + 1) = ((j + 1 : Nat) : Int) by rw [wr64 (by have := hlt.out; have h7 := HN.out; omega)]; omega)
    have D29 := Lib.hid (show (s.box == bx) = true from beq_iff_eq.2 HCC.out.2.1)
    have D37 := Lib.hid (show (s.ctr == ct) = false from beq_eq_false_iff_ne.2 HCC.out.2.2)
    have W7 := Lib.hid (show (Value.int .i64 ((L.take j).countP (hit bx ct) : Nat)) = .int .i64 ((L.take (j + 1)).countP (hit bx ct) : Nat) by rw [count_succ HS_.out, HHI.out]; simp)
    rw [W7.out]
    refine s_ (fun K17 hK17 => ?_)
    refine pu_ (v := .bool true) (y_run (by rfl) (fun W => by have d := D16.out; go_simp)) ?_
    (try simp only [zP, zN, zA, zB, zC])
    refine nl_ (hK17 _ _ ?_); clear hK17 K17
    refine sq_ (fun K18 hK18 => ?_)
    refine wp_cond_true rfl ?_
    refine wp_skip ?_
    refine th_norm (hK18 _ _ ?_); try clear hK18 K18
    refine sq_ (fun K19 hK19 => ?_)
    refine wp_block ?_
    refine s_ (fun K20 hK20 => ?_)
    refine pu_ (v := .pointer (some (a.add j))) (y_run (by rfl) (fun W => by have d := D16.out; go_simp)) ?_
    (try simp only [zP, zN, zA, zB, zC])
    refine ld_ (v := .pointer (some ⟨k.b, 0, none⟩)) rfl (by rfl) (by rfl) (run_load_one (one_at (by have h9 := src_at ptrC_len SL.out HK.out; rw [Nat.mul_one] at h9; exact h9)) Tryd.underlying61 rfl) ?_
    (try simp only [zP, zN, zA, zB, zC])
    refine pu_ (v := .pointer (some ⟨k.b, 0, none⟩)) (y_assign rfl (by rfl) (by rfl)) ?_
    (try simp only [zP, zN, zA, zB, zC])
    refine nl_ (hK20 _ _ ?_); clear hK20 K20
    refine s_ (fun K21 hK21 => ?_)
    refine pu_ (v := .pointer (some ⟨k.b, 0, none⟩)) (y_move rfl (by rfl) (by rfl)) ?_
    (try simp only [zP, zN, zA, zB, zC])
    refine pu_ (v := .pointer (some ⟨k.b, 0, none⟩)) (y_nil rfl (by rfl) (by rfl)) ?_
    (try simp only [zP, zN, zA, zB, zC])
    refine pu_ (v := .pointer (some ⟨k.b, 3, none⟩)) (y_run (by rfl) (fun W => by go_simp)) ?_
    (try simp only [zP, zN, zA, zB, zC])
    refine ld_ (v := .bool true) rfl (by rfl) (by rfl) (run_load_one ((FS.out.cell 3).trans rfl) Tryd.underlying4 rfl) ?_
    (try simp only [zP, zN, zA, zB, zC])
    refine pu_ (v := .bool true) (y_move rfl (by rfl) (by rfl)) ?_
    (try simp only [zP, zN, zA, zB, zC])
    refine pu_ (v := .pointer (some ⟨k.b, 0, none⟩)) (y_move rfl (by rfl) (by rfl)) ?_
    (try simp only [zP, zN, zA, zB, zC])
    refine pu_ (v := .pointer (some ⟨k.b, 0, none⟩)) (y_nil rfl (by rfl) (by rfl)) ?_
    (try simp only [zP, zN, zA, zB, zC])
    refine pu_ (v := .pointer (some ⟨k.b, 1, none⟩)) (y_run (by rfl) (fun W => by go_simp)) ?_
    (try simp only [zP, zN, zA, zB, zC])
    refine ld_ (v := .int .i64 s.box) rfl (by rfl) (by rfl) (run_load_one ((FS.out.cell 1).trans rfl) Tryd.underlying3 rfl) ?_
    (try simp only [zP, zN, zA, zB, zC])
    refine pu_ (v := .int .i64 bx) (y_move rfl (by rfl) (by rfl)) ?_
    (try simp only [zP, zN, zA, zB, zC])
    refine pu_ (v := .bool true) (y_run (by rfl) (fun W => by have d := D29.out; go_simp)) ?_
    (try simp only [zP, zN, zA, zB, zC])
    refine pu_ (v := .bool true) (y_pick (t := true) (by rfl) rfl (by rfl) (by rfl)) ?_
    (try simp only [zP, zN, zA, zB, zC])
    refine pu_ (v := .bool true) (y_move rfl (by rfl) (by rfl)) ?_
    (try simp only [zP, zN, zA, zB, zC])
    refine pu_ (v := .pointer (some ⟨k.b, 0, none⟩)) (y_move rfl (by rfl) (by rfl)) ?_
    (try simp only [zP, zN, zA, zB, zC])
    refine pu_ (v := .pointer (some ⟨k.b, 0, none⟩)) (y_nil rfl (by rfl) (by rfl)) ?_
    (try simp only [zP, zN, zA, zB, zC])
    refine pu_ (v := .pointer (some ⟨k.b, 2, none⟩)) (y_run (by rfl) (fun W => by go_simp)) ?_
    (try simp only [zP, zN, zA, zB, zC])
    refine ld_ (v := .int .i64 s.ctr) rfl (by rfl) (by rfl) (run_load_one ((FS.out.cell 2).trans rfl) Tryd.underlying3 rfl) ?_
    (try simp only [zP, zN, zA, zB, zC])
    refine pu_ (v := .int .i64 ct) (y_move rfl (by rfl) (by rfl)) ?_
    (try simp only [zP, zN, zA, zB, zC])
    refine pu_ (v := .bool false) (y_run (by rfl) (fun W => by have d := D37.out; go_simp)) ?_
    (try simp only [zP, zN, zA, zB, zC])
    refine pu_ (v := .bool false) (y_pick (t := true) (by rfl) rfl (by rfl) (by rfl)) ?_
    (try simp only [zP, zN, zA, zB, zC])
    refine nl_ (hK21 _ _ ?_); clear hK21 K21
    refine wp_cond_false rfl ?_
    refine wp_skip ?_
    refine ib_norm ?_
    refine th_norm (hK19 _ _ ?_); try clear hK19 K19
    refine r_ ?_
    refine pu_ (v := .int .i64 (j + 1 : Nat)) (y_run (by rfl) (fun W => by have d := Wj.out; go_simp)) ?_
    (try simp only [zP, zN, zA, zB, zC])
    refine pu_ (v := .int .i64 (j + 1 : Nat)) (y_move rfl (by rfl) (by rfl)) ?_
    (try simp only [zP, zN, zA, zB, zC])
    refine nl_ ?_
    exact th_norm (hK6 (jq - 1) _ _ (by have := hlt.out; have := hj.out; omega) ⟨j + 1, fun us_ => (#[.pointer (some ⟨x, 0, none⟩), .int .i64 bx, .int .i64 ct, us 3, us 4, us 5, us 6, .int .i64 ((L.take (j + 1)).countP (hit bx ct) : Nat), us 8, .pointer (some ⟨k.b, 0, none⟩), us 10, us 11, us 12, .slice (some a) K.length z, .int .i64 K.length, .int .i64 (j + 1 : Nat), .bool true, .pointer (some (a.add j)), .pointer (some ⟨k.b, 0, none⟩), .pointer (some ⟨k.b, 0, none⟩), .pointer (some ⟨k.b, 0, none⟩), .pointer (some ⟨k.b, 3, none⟩), .bool true, .bool true, .pointer (some ⟨k.b, 0, none⟩), .pointer (some ⟨k.b, 0, none⟩), .pointer (some ⟨k.b, 1, none⟩), .int .i64 s.box, .int .i64 bx, .bool true, .bool true, .bool true, .pointer (some ⟨k.b, 0, none⟩), .pointer (some ⟨k.b, 0, none⟩), .pointer (some ⟨k.b, 2, none⟩), .int .i64 s.ctr, .int .i64 ct, .bool false, .bool false, us 39, us 40, us 41, us 42, us 43, us 44, us 45, us 46, us 47, us 48, .int .i64 (j + 1 : Nat), us 50] : Array Value).getD us_ undef, rfl, C0, SL, Lib.hid ⟨by have := hlt.out; omega, by have := hlt.out; have := hj.out; omega⟩, Lib.hid (by have h9 := AL.out.ch C1.out (by simp); rw [mix_keep HS_.out HEN.out] at h9; exact h9)⟩)
  · have hlt := Lib.hid hlt0
    have HK := Lib.hid ho0
    have HCC := Lib.hid hc
    have HS_ := Lib.hid (show L[j]? = some s from by rw [List.getElem?_append_right (by rw [List.length_map, List.length_take]; have := HA.out.len; have := hlt0; omega), List.length_map, List.length_take, List.getElem?_drop, show j + (j - min j L.length) = j by have := HA.out.len; have := hlt0; omega] at hs0; exact hs0)
    have HSI := Lib.hid hsi0
    have H3 := Lib.hid (AL.out.three ho0)
    clear hs0 hsi0 hc hlt0 ho0
    have FS := Lib.hid (show Blk w5 k.b (#[.int .i64 s.id, .int .i64 s.box, .int .i64 s.ctr, .bool true, .pointer (some ⟨k.bi, 0, none⟩), .pointer (some ⟨k.bo, 0, none⟩)]) 65 from by have h9 := HSI.out.blk; unfold sessA at h9; rw [HCC.out.1] at h9; exact h9)
    have C1 := Lib.hid (Ch.refl [k.b, k.bi] w5)
    have PI := Lib.hid (show PipeC w5 c k.bi s.qi false from by have h9 := HSI.out.pin; rw [HCC.out.1] at h9; exact h9)
    have HIN := Lib.hid (show ∀ z, z ∈ [k.b, k.bi] → z ∈ [k.b, k.bi, k.bo] from fun z hz => by simp at hz ⊢; rcases hz with h | h <;> simp [h])
    have HBO := Lib.hid (show k.bo ∉ [k.b, k.bi] from fun hz => by have h9 := H3.out; simp at hz; rcases hz with h | h; exact h9.2.1 h.symm; exact h9.2.2 h.symm)
    have hxb := Lib.hid (HXS.out k.b (kbs_mem HK.out (by simp)))
    have hinb := Lib.hid (kbs_mem HK.out (show k.b ∈ [k.b, k.bi, k.bo] by simp))
    have hxbi := Lib.hid (HXS.out k.bi (kbs_mem HK.out (by simp)))
    have hinbi := Lib.hid (kbs_mem HK.out (show k.bi ∈ [k.b, k.bi, k.bo] by simp))
    have HEN := Lib.hid (show endS bx ct s = { s with op := false } from by unfold endS hit; rw [HCC.out.1, HCC.out.2.1, HCC.out.2.2]; simp)
    have HHI := Lib.hid (show hit bx ct s = true from by unfold hit; rw [HCC.out.1, HCC.out.2.1, HCC.out.2.2]; simp)
    obtain ⟨a, hsm_a⟩ := src_some SL.out (by have := hlt.out; omega)
    subst hsm_a
    have D16 := Lib.hid (show (j : Int) < (K.length : Int) by have := hlt.out; omega)
    have Wj := Lib.hid (show IntKind.i64.wrap ((j : Int) + 1) = ((j + 1 : Nat) : Int) by rw [wr64 (by have := hlt.out; have h7 := HN.out; omega)]; omega)
    have D29 := Lib.hid (show (s.box == bx) = true from beq_iff_eq.2 HCC.out.2.1)
    have D37 := Lib.hid (show (s.ctr == ct) = true from beq_iff_eq.2 HCC.out.2.2)
    have W48 := Lib.hid (show IntKind.i64.wrap ((((L.take j).countP (hit bx ct) : Nat) : Int) + 1) = (((L.take (j + 1)).countP (hit bx ct) : Nat) : Int) by rw [count_succ HS_.out, HHI.out, if_pos rfl, wr64 (by have h9 := List.countP_le_length (p := hit bx ct) (l := L.take j); rw [List.length_take] at h9; have := hlt.out; have := HN.out; omega)]; omega)
    refine s_ (fun K22 hK22 => ?_)
    refine pu_ (v := .bool true) (y_run (by rfl) (fun W => by have d := D16.out; go_simp)) ?_
    (try simp only [zP, zN, zA, zB, zC])
    refine nl_ (hK22 _ _ ?_); clear hK22 K22
    refine sq_ (fun K23 hK23 => ?_)
    refine wp_cond_true rfl ?_
    refine wp_skip ?_
    refine th_norm (hK23 _ _ ?_); try clear hK23 K23
    refine sq_ (fun K24 hK24 => ?_)
    refine wp_block ?_
    refine s_ (fun K25 hK25 => ?_)
    refine pu_ (v := .pointer (some (a.add j))) (y_run (by rfl) (fun W => by have d := D16.out; go_simp)) ?_
    (try simp only [zP, zN, zA, zB, zC])
    refine ld_ (v := .pointer (some ⟨k.b, 0, none⟩)) rfl (by rfl) (by rfl) (run_load_one (one_at (by have h9 := src_at ptrC_len SL.out HK.out; rw [Nat.mul_one] at h9; exact h9)) Tryd.underlying61 rfl) ?_
    (try simp only [zP, zN, zA, zB, zC])
    refine pu_ (v := .pointer (some ⟨k.b, 0, none⟩)) (y_assign rfl (by rfl) (by rfl)) ?_
    (try simp only [zP, zN, zA, zB, zC])
    refine nl_ (hK25 _ _ ?_); clear hK25 K25
    refine s_ (fun K26 hK26 => ?_)
    refine pu_ (v := .pointer (some ⟨k.b, 0, none⟩)) (y_move rfl (by rfl) (by rfl)) ?_
    (try simp only [zP, zN, zA, zB, zC])
    refine pu_ (v := .pointer (some ⟨k.b, 0, none⟩)) (y_nil rfl (by rfl) (by rfl)) ?_
    (try simp only [zP, zN, zA, zB, zC])
    refine pu_ (v := .pointer (some ⟨k.b, 3, none⟩)) (y_run (by rfl) (fun W => by go_simp)) ?_
    (try simp only [zP, zN, zA, zB, zC])
    refine ld_ (v := .bool true) rfl (by rfl) (by rfl) (run_load_one ((FS.out.cell 3).trans rfl) Tryd.underlying4 rfl) ?_
    (try simp only [zP, zN, zA, zB, zC])
    refine pu_ (v := .bool true) (y_move rfl (by rfl) (by rfl)) ?_
    (try simp only [zP, zN, zA, zB, zC])
    refine pu_ (v := .pointer (some ⟨k.b, 0, none⟩)) (y_move rfl (by rfl) (by rfl)) ?_
    (try simp only [zP, zN, zA, zB, zC])
    refine pu_ (v := .pointer (some ⟨k.b, 0, none⟩)) (y_nil rfl (by rfl) (by rfl)) ?_
    (try simp only [zP, zN, zA, zB, zC])
    refine pu_ (v := .pointer (some ⟨k.b, 1, none⟩)) (y_run (by rfl) (fun W => by go_simp)) ?_
    (try simp only [zP, zN, zA, zB, zC])
    refine ld_ (v := .int .i64 s.box) rfl (by rfl) (by rfl) (run_load_one ((FS.out.cell 1).trans rfl) Tryd.underlying3 rfl) ?_
    (try simp only [zP, zN, zA, zB, zC])
    refine pu_ (v := .int .i64 bx) (y_move rfl (by rfl) (by rfl)) ?_
    (try simp only [zP, zN, zA, zB, zC])
    refine pu_ (v := .bool true) (y_run (by rfl) (fun W => by have d := D29.out; go_simp)) ?_
    (try simp only [zP, zN, zA, zB, zC])
    refine pu_ (v := .bool true) (y_pick (t := true) (by rfl) rfl (by rfl) (by rfl)) ?_
    (try simp only [zP, zN, zA, zB, zC])
    refine pu_ (v := .bool true) (y_move rfl (by rfl) (by rfl)) ?_
    (try simp only [zP, zN, zA, zB, zC])
    refine pu_ (v := .pointer (some ⟨k.b, 0, none⟩)) (y_move rfl (by rfl) (by rfl)) ?_
    (try simp only [zP, zN, zA, zB, zC])
    refine pu_ (v := .pointer (some ⟨k.b, 0, none⟩)) (y_nil rfl (by rfl) (by rfl)) ?_
    (try simp only [zP, zN, zA, zB, zC])
    refine pu_ (v := .pointer (some ⟨k.b, 2, none⟩)) (y_run (by rfl) (fun W => by go_simp)) ?_
    (try simp only [zP, zN, zA, zB, zC])
    refine ld_ (v := .int .i64 s.ctr) rfl (by rfl) (by rfl) (run_load_one ((FS.out.cell 2).trans rfl) Tryd.underlying3 rfl) ?_
    (try simp only [zP, zN, zA, zB, zC])
    refine pu_ (v := .int .i64 ct) (y_move rfl (by rfl) (by rfl)) ?_
    (try simp only [zP, zN, zA, zB, zC])
    refine pu_ (v := .bool true) (y_run (by rfl) (fun W => by have d := D37.out; go_simp)) ?_
    (try simp only [zP, zN, zA, zB, zC])
    refine pu_ (v := .bool true) (y_pick (t := true) (by rfl) rfl (by rfl) (by rfl)) ?_
    (try simp only [zP, zN, zA, zB, zC])
    refine nl_ (hK26 _ _ ?_); clear hK26 K26
    refine wp_cond_true rfl ?_
    refine s_ (fun K27 hK27 => ?_)
    refine pu_ (v := .pointer (some ⟨k.b, 0, none⟩)) (y_move rfl (by rfl) (by rfl)) ?_
    (try simp only [zP, zN, zA, zB, zC])
    refine pu_ (v := .pointer (some ⟨k.b, 0, none⟩)) (y_nil rfl (by rfl) (by rfl)) ?_
    (try simp only [zP, zN, zA, zB, zC])
    refine pu_ (v := .pointer (some ⟨k.b, 3, none⟩)) (y_run (by rfl) (fun W => by go_simp)) ?_
    (try simp only [zP, zN, zA, zB, zC])
    refine ef_ (fun K28 hK28 => ?_)
    refine e_store1 (b := k.b) (j := 3) (v := .bool false) (by rfl) rfl rfl (by rfl) (by rfl) FS.out (show 3 < 6 by omega) (by kernel_rfl) rfl ?_
    rintro w29 B30 C31
    have C0' := Lib.hid (show Ch ((kbs K)) w w29 from C0.out.trans' C31 (inw_cons (.inl hinb.out) inw_nil))
    have SL' := Lib.hid (show SrcIs w29 (.slice (some a) K.length z) (K.length) (K.flatMap ptrC) 1 from SL.out.chx C31 (xnin_cons hxb.out xnin_nil))
    have C1' := Lib.hid (show Ch [k.b, k.bi] w5 w29 from C1.out.trans' C31 (inw_cons (.inl List.mem_cons_self) inw_nil))
    have PI' := Lib.hid (show PipeC w29 (c) (k.bi) (s.qi) (false) from PI.out.ch C31 (nin_cons (Blk.ne_type PI.out.blk.choose_spec FS.out (by decide)) nin_nil))
    clear C0 SL C1 PI
    have C0 := C0'; clear C0'
    have SL := SL'; clear SL'
    have C1 := C1'; clear C1'
    have PI := PI'; clear PI'
    clear FS; have FS := Lib.hid (show Blk w29 k.b (#[.int .i64 s.id, .int .i64 s.box, .int .i64 s.ctr, .bool false, .pointer (some ⟨k.bi, 0, none⟩), .pointer (some ⟨k.bo, 0, none⟩)]) 65 from B30); clear B30 C31
    refine hK28 _ _ ?_; clear hK28 K28
    (try simp only [zP, zN, zA, zB, zC])
    refine nl_ (hK27 _ _ ?_); clear hK27 K27
    refine s_ (fun K32 hK32 => ?_)
    refine pu_ (v := .pointer (some ⟨k.b, 0, none⟩)) (y_move rfl (by rfl) (by rfl)) ?_
    (try simp only [zP, zN, zA, zB, zC])
    refine pu_ (v := .pointer (some ⟨k.b, 0, none⟩)) (y_nil rfl (by rfl) (by rfl)) ?_
    (try simp only [zP, zN, zA, zB, zC])
    refine pu_ (v := .pointer (some ⟨k.b, 4, none⟩)) (y_run (by rfl) (fun W => by go_simp)) ?_
    (try simp only [zP, zN, zA, zB, zC])
    refine ld_ (v := .pointer (some ⟨k.bi, 0, none⟩)) rfl (by rfl) (by rfl) (run_load_one ((FS.out.cell 4).trans rfl) Tryd.underlying62 rfl) ?_
    (try simp only [zP, zN, zA, zB, zC])
    refine ef_ (fun K33 hK33 => ?_)
    refine e_call Tryd.func32 (by kernel_rfl) rfl #[.pointer (some ⟨k.bi, 0, none⟩)] (by rfl) rfl rfl (by first | rfl | (simp only [List.map_toArray, List.map_cons, List.map_nil]; first | done | rfl)) ((pshut_ PI.out)) ?_
    rintro en w36 ⟨rfl, B35, cc34⟩
    refine ⟨_, rfl, ?_⟩
    have C0' := Lib.hid (show Ch ((kbs K)) w w36 from C0.out.trans' cc34 (inw_cons (.inl hinbi.out) inw_nil))
    have SL' := Lib.hid (show SrcIs w36 (.slice (some a) K.length z) (K.length) (K.flatMap ptrC) 1 from SL.out.chx cc34 (xnin_cons hxbi.out xnin_nil))
    have FS' := Lib.hid (show Blk w36 k.b (#[.int .i64 s.id, .int .i64 s.box, .int .i64 s.ctr, .bool false, .pointer (some ⟨k.bi, 0, none⟩), .pointer (some ⟨k.bo, 0, none⟩)]) 65 from cc34.blk FS.out (nin_cons (Blk.ne_type FS.out PI.out.blk.choose_spec (by decide)) nin_nil))
    have C1' := Lib.hid (show Ch [k.b, k.bi] w5 w36 from C1.out.trans' cc34 (inw_cons (.inl (List.mem_cons_of_mem _ List.mem_cons_self)) inw_nil))
    clear C0 SL FS C1
    have C0 := C0'; clear C0'
    have SL := SL'; clear SL'
    have FS := FS'; clear FS'
    have C1 := C1'; clear C1'
    clear PI
    clear cc34
    have PI := Lib.hid (show PipeC w36 (c) (k.bi) (s.qi) (true) from B35)
    refine hK33 _ _ ?_; clear hK33 K33
    (try simp only [zP, zN, zA, zB, zC])
    refine nl_ (hK32 _ _ ?_); clear hK32 K32
    refine r_ ?_
    refine pu_ (v := .int .i64 ((L.take j).countP (hit bx ct) : Nat)) (y_move rfl (by rfl) (by rfl)) ?_
    (try simp only [zP, zN, zA, zB, zC])
    refine pu_ (v := .int .i64 ((L.take (j + 1)).countP (hit bx ct) : Nat)) (y_run (by rfl) (fun W => by have d := W48.out; go_simp)) ?_
    (try simp only [zP, zN, zA, zB, zC])
    refine pu_ (v := .int .i64 ((L.take (j + 1)).countP (hit bx ct) : Nat)) (y_assign rfl (by rfl) (by rfl)) ?_
    (try simp only [zP, zN, zA, zB, zC])
    refine nl_ ?_
    refine ib_norm ?_
    refine th_norm (hK24 _ _ ?_); try clear hK24 K24
    refine r_ ?_
    refine pu_ (v := .int .i64 (j + 1 : Nat)) (y_run (by rfl) (fun W => by have d := Wj.out; go_simp)) ?_
    (try simp only [zP, zN, zA, zB, zC])
    refine pu_ (v := .int .i64 (j + 1 : Nat)) (y_move rfl (by rfl) (by rfl)) ?_
    (try simp only [zP, zN, zA, zB, zC])
    refine nl_ ?_
    exact th_norm (hK6 (jq - 1) _ _ (by have := hlt.out; have := hj.out; omega) ⟨j + 1, fun us_ => (#[.pointer (some ⟨x, 0, none⟩), .int .i64 bx, .int .i64 ct, us 3, us 4, us 5, us 6, .int .i64 ((L.take (j + 1)).countP (hit bx ct) : Nat), us 8, .pointer (some ⟨k.b, 0, none⟩), us 10, us 11, us 12, .slice (some a) K.length z, .int .i64 K.length, .int .i64 (j + 1 : Nat), .bool true, .pointer (some (a.add j)), .pointer (some ⟨k.b, 0, none⟩), .pointer (some ⟨k.b, 0, none⟩), .pointer (some ⟨k.b, 0, none⟩), .pointer (some ⟨k.b, 3, none⟩), .bool true, .bool true, .pointer (some ⟨k.b, 0, none⟩), .pointer (some ⟨k.b, 0, none⟩), .pointer (some ⟨k.b, 1, none⟩), .int .i64 s.box, .int .i64 bx, .bool true, .bool true, .bool true, .pointer (some ⟨k.b, 0, none⟩), .pointer (some ⟨k.b, 0, none⟩), .pointer (some ⟨k.b, 2, none⟩), .int .i64 s.ctr, .int .i64 ct, .bool true, .bool true, .pointer (some ⟨k.b, 0, none⟩), .pointer (some ⟨k.b, 0, none⟩), .pointer (some ⟨k.b, 3, none⟩), .pointer (some ⟨k.b, 0, none⟩), .pointer (some ⟨k.b, 0, none⟩), .pointer (some ⟨k.b, 4, none⟩), .pointer (some ⟨k.bi, 0, none⟩), .tuple #[], .int .i64 ((L.take j).countP (hit bx ct) : Nat), .int .i64 ((L.take (j + 1)).countP (hit bx ct) : Nat), .int .i64 (j + 1 : Nat), us 50] : Array Value).getD us_ undef, rfl, C0, SL, Lib.hid ⟨by have := hlt.out; omega, by have := hlt.out; have := hj.out; omega⟩, Lib.hid (by have h9 := AL.out.set HK.out C1.out HIN.out (Nat.le_refl c) (s' := endS bx ct s) (by rw [HEN.out]; exact ⟨FS.out, PI.out, HSI.out.pout.ch C1.out HBO.out⟩); rw [mix_set HS_.out] at h9; exact h9)⟩)
  · have D16 := Lib.hid (show ¬ j < K.length by have := hj.out; omega)
    have HE := Lib.hid h
    clear h
    refine s_ (fun K37 hK37 => ?_)
    refine pu_ (v := .bool false) (y_run (by rfl) (fun W => by have d := D16.out; go_simp)) ?_
    (try simp only [zP, zN, zA, zB, zC])
    refine nl_ (hK37 _ _ ?_); clear hK37 K37
    refine sq_ (fun K38 hK38 => ?_)
    refine wp_cond_false rfl ?_
    refine wp_exit ?_
    refine th_exit ?_
    refine th_exit ?_
    refine ib_exit ?_
    refine th_norm (hK3 _ _ ?_); try clear hK3 K3
    refine s_ (fun K39 hK39 => ?_)
    refine pu_ (v := .int .i64 ((L.take j).countP (hit bx ct) : Nat)) (y_move rfl (by rfl) (by rfl)) ?_
    (try simp only [zP, zN, zA, zB, zC])
    refine pu_ (v := .int .i64 ((L.take j).countP (hit bx ct) : Nat)) (y_assign rfl (by rfl) (by rfl)) ?_
    (try simp only [zP, zN, zA, zB, zC])
    refine nl_ (hK39 _ _ ?_); clear hK39 K39
    refine wp_ret ?_
    refine hQ _ _ _ ?_
    refine bodyPost_ret (res1 rfl (rdv_tmp (v := .int .i64 ((L.take j).countP (hit bx ct) : Nat)) (by rfl))) rfl ?_
    exact ⟨by rw [show L.countP (hit bx ct) = (L.take j).countP (hit bx ct) by rw [List.take_of_length_le (by have := HA.out.len; have := HE.out; omega)]], by have h9 := AL.out; rw [List.take_of_length_le (by have := HA.out.len; have := HE.out; omega), List.drop_of_length_le (by have := HA.out.len; have := HE.out; omega), List.append_nil] at h9; exact h9, C0.out⟩
end
end Go.Proofs.YtcfkdglaedpnjaaDoor.V
