/- The walks of package exec: a session is there no more. -/
import Derived.Test.YtcfkdglaedpnjaaDoorExK
namespace Go.Proofs.YtcfkdglaedpnjaaDoor.V
open Go Go.RowKit Go.Proofs.YtcfkdglaedpnjaaDoor.K Go.Proofs.YtcfkdglaedpnjaaDoor.R Go.Proofs.YtcfkdglaedpnjaaDoorW.PrintLast
set_option linter.unusedVariables false
set_option linter.unusedSimpArgs false
set_option maxRecDepth 100000
set_option maxHeartbeats 1600000
section
variable {w : World}
theorem run_neq_some_slice {P : Program} (W : World) (t e : TypeId) (a : Addr) (n c : Nat) (h : P.underlying t = some (.slice e)) : (binOp .eql t (.slice (some a) n c) (.slice none 0 0)).run P W = .ok (.bool false) W := Lib.run_eql_slice_nil W t e (some a) n c 0 0 h
theorem clone_ {a : Addr} {z : Nat} {K : List SB} (HN : Hid (K.length ≤ 100)) (SL : Hid (SrcIs w (.slice (some a) K.length z) (K.length) (K.flatMap ptrC) 1)) :
    Calls Tryd.prog 31 #[.slice (some a) K.length z] w fun en w' => ∃ v', en = .returned v' ∧ OwnS w' w.heap.size 61 1 v' K.length (K.flatMap ptrC) ∧ Ch [] w w' := by
  have C0 := Lib.hid (Ch.refl [] w)
  obtain ⟨i61, I61⟩ := Info.of info61
  go_enter Tryd.func31, Tryd.ntmps31
  refine q_ (fun Q hQ hP => ?_)
  refine s_ (fun K1 hK1 => ?_)
  refine pu_ (v := .slice none 0 0) (y_assign rfl (by rfl) (by rfl)) ?_
  (try simp only [zP, zN, zA, zB, zC])
  refine nl_ (hK1 _ _ ?_); clear hK1 K1
  refine sq_ (fun K2 hK2 => ?_)
  refine s_ (fun K3 hK3 => ?_)
  refine pu_ (v := .slice (some a) K.length z) (y_move rfl (by rfl) (by rfl)) ?_
  (try simp only [zP, zN, zA, zB, zC])
  refine pu_ (v := .bool false) (y_run (by rfl) (fun W => by have d := run_neq_some_slice W 58 61 a K.length z Tryd.underlying58; go_simp)) ?_
  (try simp only [zP, zN, zA, zB, zC])
  refine nl_ (hK3 _ _ ?_); clear hK3 K3
  refine wp_cond_false rfl ?_
  refine wp_skip ?_
  refine th_norm (hK2 _ _ ?_); try clear hK2 K2
  refine s_ (fun K4 hK4 => ?_)
  refine ef_ (fun K5 hK5 => ?_)
  refine e_buildS0 (by rfl) rfl rfl Tryd.underlying58 I61.hi ?_
  rintro g6 w7 HG8 C10
  have C0' := Lib.hid (show Ch [] w w7 from C0.out.trans' C10 (fun x hx => absurd hx (by simp)))
  have SL' := Lib.hid (show SrcIs w7 (.slice (some a) K.length z) (K.length) (K.flatMap ptrC) 1 from SL.out.chx C10 xnin_nil)
  clear C0 SL
  have C0 := C0'; clear C0'
  have SL := SL'; clear SL'
  clear C10
  have Z11 := Lib.hid (show OwnS w7 w.heap.size 61 1 (.slice (some ⟨g6, 0, none⟩) 0 0) (0) ([]) from OwnS.nil _ _ _ _ _)
  refine hK5 _ _ ?_; clear hK5 K5
  (try simp only [zP, zN, zA, zB, zC])
  refine pu_ (v := .slice (some a) K.length z) (y_move rfl (by rfl) (by rfl)) ?_
  (try simp only [zP, zN, zA, zB, zC])
  refine ef_ (fun K12 hK12 => ?_)
  refine e_append (by rfl) rfl rfl (w.heap.size) 61 _ _ 1 8 Tryd.underlying58 I61.hi I61.hz I61.hs I61.hb rfl (by decide) (.slice (some ⟨g6, 0, none⟩) 0 0) (0) ([]) (by rfl) Z11.out (.slice (some a) K.length z) K.length (K.flatMap ptrC) (by rfl) SL.out (flat_one ptrC_one K) (by unfold maxLen; have := HN.out; omega) (by have := HN.out; omega) C0.out.size ?_
  rintro v13 w14 O15 C16 R17 -
  replace C16 : Ch [] _ _ := C16
  replace R17 : ∀ k, k ∈ rl v13 → w7.heap.size ≤ k := fun k hk => (R17 k hk).elim (fun h => absurd h (by simp [rl])) id
  have rw18 := Lib.hid (show ∀ z_, z_ ∈ rl v13 → z_ ∈ [] ∨ w.heap.size ≤ z_ from fun x hx => .inr (by have := R17 x hx; have := C0.out.size; omega))
  have xr19 := Lib.hid (show ∀ k, k ∈ xb (.slice (some a) K.length z) → k ∉ rl v13 from fun k hk hm => by have := R17 k hm; have := SL.out.lt (by decide) k hk; omega)
  have C0' := Lib.hid (show Ch [] w w14 from C0.out.trans' C16 (fun x hx => absurd hx (by simp)))
  have SL' := Lib.hid (show SrcIs w14 (.slice (some a) K.length z) (K.length) (K.flatMap ptrC) 1 from SL.out.chx C16 xnin_nil)
  clear C0 SL
  have C0 := C0'; clear C0'
  have SL := SL'; clear SL'
  clear Z11
  have Z11 := Lib.hid (show OwnS w14 w.heap.size 61 1 (v13) (K.length) (K.flatMap ptrC) from (by simpa using O15)); clear O15 C16
  refine hK12 _ _ ?_; clear hK12 K12
  (try simp only [zP, zN, zA, zB, zC])
  refine pu_ (v := v13) (y_assign rfl (by rfl) (by rfl)) ?_
  (try simp only [zP, zN, zA, zB, zC])
  refine nl_ (hK4 _ _ ?_); clear hK4 K4
  refine wp_ret ?_
  refine hQ _ _ _ ?_
  refine bodyPost_ret (res1 rfl (rdv_tmp (v := v13) (by rfl))) rfl ?_
  exact ⟨_, rfl, Z11.out, C0.out⟩
theorem close_none {A : Option Addr} {z c x la : Nat} {K : List SB} {L : List HS} {id : Int} (HN : Hid (K.length ≤ 100)) (HA : Hid (AllIs w c K L)) (HF : Hid (fx id L = none)) (SL : Hid (SrcIs w (.slice A K.length z) (K.length) (K.flatMap ptrC) 1)) (FX : Hid (Blk w x (#[.slice A K.length z, .int .i64 la]) 60)) :
    Calls Tryd.prog 12 #[.pointer (some ⟨x, 0, none⟩), .int .i64 id] w fun en w' => en = .returned (.int .i64 6) ∧ Ch [] w w' := by
  have C0 := Lib.hid (Ch.refl [] w)
  have HFI := Lib.hid (show fxI id L = -1 by unfold fxI; rw [HF.out])
  go_enter Tryd.func12, Tryd.ntmps12
  refine q_ (fun Q hQ hP => ?_)
  refine s_ (fun K1 hK1 => ?_)
  refine pu_ (v := .int .i64 0) (y_assign rfl (by rfl) (by rfl)) ?_
  (try simp only [zP, zN, zA, zB, zC])
  refine nl_ (hK1 _ _ ?_); clear hK1 K1
  refine s_ (fun K2 hK2 => ?_)
  refine pu_ (v := .pointer (some ⟨x, 0, none⟩)) (y_move rfl (by rfl) (by rfl)) ?_
  (try simp only [zP, zN, zA, zB, zC])
  refine pu_ (v := .int .i64 id) (y_move rfl (by rfl) (by rfl)) ?_
  (try simp only [zP, zN, zA, zB, zC])
  refine ef_ (fun K3 hK3 => ?_)
  refine e_call Tryd.func29 (by kernel_rfl) rfl #[.pointer (some ⟨x, 0, none⟩), .int .i64 id] (by rfl) rfl rfl (by first | rfl | (simp only [List.map_toArray, List.map_cons, List.map_nil]; first | done | rfl)) ((find_ (id := id) HN (Lib.hid (HA.out.ch C0.out (by simp))) SL FX)) ?_
  rintro en w4 ⟨rfl, cc⟩
  refine ⟨_, rfl, ?_⟩
  rw [HFI.out]
  have C0' := Lib.hid (show Ch [] w w4 from C0.out.trans' cc (fun x hx => absurd hx (by simp)))
  have SL' := Lib.hid (show SrcIs w4 (.slice A K.length z) (K.length) (K.flatMap ptrC) 1 from SL.out.chx cc xnin_nil)
  have FX' := Lib.hid (show Blk w4 x (#[.slice A K.length z, .int .i64 la]) 60 from cc.blk FX.out nin_nil)
  clear C0 SL FX
  have C0 := C0'; clear C0'
  have SL := SL'; clear SL'
  have FX := FX'; clear FX'
  clear cc
  refine hK3 _ _ ?_; clear hK3 K3
  (try simp only [zP, zN, zA, zB, zC])
  refine pu_ (v := .int .i64 (-1)) (y_assign rfl (by rfl) (by rfl)) ?_
  (try simp only [zP, zN, zA, zB, zC])
  refine nl_ (hK2 _ _ ?_); clear hK2 K2
  refine sq_ (fun K5 hK5 => ?_)
  refine s_ (fun K6 hK6 => ?_)
  refine pu_ (v := .int .i64 (-1)) (y_move rfl (by rfl) (by rfl)) ?_
  (try simp only [zP, zN, zA, zB, zC])
  refine pu_ (v := .bool true) (y_run (by rfl) (fun W => by first | (go_simp; done) | (go_simp; rfl) | (go_simp; decide))) ?_
  (try simp only [zP, zN, zA, zB, zC])
  refine nl_ (hK6 _ _ ?_); clear hK6 K6
  refine wp_cond_true rfl ?_
  refine s_ (fun K7 hK7 => ?_)
  refine pu_ (v := .int .i64 6) (y_assign rfl (by rfl) (by rfl)) ?_
  (try simp only [zP, zN, zA, zB, zC])
  refine nl_ (hK7 _ _ ?_); clear hK7 K7
  refine wp_ret ?_
  refine th_ret ?_
  refine hQ _ _ _ ?_
  refine bodyPost_ret (res1 rfl (rdv_tmp (v := .int .i64 6) (by rfl))) rfl ?_
  exact ⟨rfl, C0.out⟩
theorem close_ok {a : Addr} {z c x la : Nat} {K : List SB} {L : List HS} {id : Int} (HN : Hid (K.length ≤ 100)) (HA : Hid (AllIs w c K L)) {j : Nat} (HF : Hid (fx id L = some j)) (SL : Hid (SrcIs w (.slice (some a) K.length z) (K.length) (K.flatMap ptrC) 1)) (FX : Hid (Blk w x (#[.slice (some a) K.length z, .int .i64 la]) 60)) :
    Calls Tryd.prog 12 #[.pointer (some ⟨x, 0, none⟩), .int .i64 id] w fun en w' => ∃ v', en = .returned (.int .i64 0) ∧ Blk w' x #[v', .int .i64 la] 60 ∧ OwnS w' w.heap.size 61 1 v' (K.length - 1) ((K.eraseIdx j).flatMap ptrC) ∧ Ch [x] w w' := by
  have C0 := Lib.hid (Ch.refl [x] w)
  have HFI := Lib.hid (show fxI id L = j by unfold fxI; rw [HF.out])
  have HSL0 := SL
  have HFX0 := FX
  go_enter Tryd.func12, Tryd.ntmps12
  refine q_ (fun Q hQ hP => ?_)
  refine s_ (fun K1 hK1 => ?_)
  refine pu_ (v := .int .i64 0) (y_assign rfl (by rfl) (by rfl)) ?_
  (try simp only [zP, zN, zA, zB, zC])
  refine nl_ (hK1 _ _ ?_); clear hK1 K1
  refine s_ (fun K2 hK2 => ?_)
  refine pu_ (v := .pointer (some ⟨x, 0, none⟩)) (y_move rfl (by rfl) (by rfl)) ?_
  (try simp only [zP, zN, zA, zB, zC])
  refine pu_ (v := .int .i64 id) (y_move rfl (by rfl) (by rfl)) ?_
  (try simp only [zP, zN, zA, zB, zC])
  refine ef_ (fun K3 hK3 => ?_)
  refine e_call Tryd.func29 (by kernel_rfl) rfl #[.pointer (some ⟨x, 0, none⟩), .int .i64 id] (by rfl) rfl rfl (by first | rfl | (simp only [List.map_toArray, List.map_cons, List.map_nil]; first | done | rfl)) ((find_ (id := id) HN HA SL FX)) ?_
  rintro en w4 ⟨rfl, cc⟩
  refine ⟨_, rfl, ?_⟩
  rw [HFI.out]
  have C0' := Lib.hid (show Ch [x] w w4 from C0.out.trans' cc (fun x hx => absurd hx (by simp)))
  have SL' := Lib.hid (show SrcIs w4 (.slice (some a) K.length z) (K.length) (K.flatMap ptrC) 1 from SL.out.chx cc xnin_nil)
  have FX' := Lib.hid (show Blk w4 x (#[.slice (some a) K.length z, .int .i64 la]) 60 from cc.blk FX.out nin_nil)
  clear C0 SL FX
  have C0 := C0'; clear C0'
  have SL := SL'; clear SL'
  have FX := FX'; clear FX'
  clear cc
  refine hK3 _ _ ?_; clear hK3 K3
  (try simp only [zP, zN, zA, zB, zC])
  refine pu_ (v := .int .i64 j) (y_assign rfl (by rfl) (by rfl)) ?_
  (try simp only [zP, zN, zA, zB, zC])
  refine nl_ (hK2 _ _ ?_); clear hK2 K2
  refine sq_ (fun K5 hK5 => ?_)
  skip
  · have D10 := Lib.hid (show ¬ (j : Int) < 0 by omega)
    have HJ := Lib.hid (show j < K.length by obtain ⟨s, hs, -⟩ := fx_at HF.out; have h9 := (List.getElem?_eq_some_iff.1 hs).1; rw [HA.out.len]; exact h9)
    have W19 := Lib.hid (show IntKind.i64.wrap ((j : Int) + 1) = ((j + 1 : Nat) : Int) by rw [wr64 (by have := HJ.out; have := HN.out; omega)]; omega)
    refine s_ (fun K6 hK6 => ?_)
    refine pu_ (v := .int .i64 j) (y_move rfl (by rfl) (by rfl)) ?_
    (try simp only [zP, zN, zA, zB, zC])
    refine pu_ (v := .bool false) (y_run (by rfl) (fun W => by have d := D10.out; go_simp)) ?_
    (try simp only [zP, zN, zA, zB, zC])
    refine nl_ (hK6 _ _ ?_); clear hK6 K6
    refine wp_cond_false rfl ?_
    refine wp_skip ?_
    refine th_norm (hK5 _ _ ?_); try clear hK5 K5
    refine s_ (fun K7 hK7 => ?_)
    refine pu_ (v := .pointer (some ⟨x, 0, none⟩)) (y_move rfl (by rfl) (by rfl)) ?_
    (try simp only [zP, zN, zA, zB, zC])
    refine pu_ (v := .pointer (some ⟨x, 0, none⟩)) (y_move rfl (by rfl) (by rfl)) ?_
    (try simp only [zP, zN, zA, zB, zC])
    refine pu_ (v := .pointer (some ⟨x, 0, none⟩)) (y_nil rfl (by rfl) (by rfl)) ?_
    (try simp only [zP, zN, zA, zB, zC])
    refine pu_ (v := .pointer (some ⟨x, 0, none⟩)) (y_run (by rfl) (fun W => by go_simp)) ?_
    (try simp only [zP, zN, zA, zB, zC])
    refine ld_ (v := .slice (some a) K.length z) rfl (by rfl) (by rfl) (run_load_one ((FX.out.cell 0).trans rfl) Tryd.underlying58 rfl) ?_
    (try simp only [zP, zN, zA, zB, zC])
    refine ef_ (fun K8 hK8 => ?_)
    have HC0 := Lib.hid C0.out.size
    refine e_call Tryd.func31 (by kernel_rfl) rfl #[.slice (some a) K.length z] (by rfl) rfl rfl (by first | rfl | (simp only [List.map_toArray, List.map_cons, List.map_nil]; first | done | rfl)) ((clone_ HN SL)) ?_
    rintro en w11 ⟨vt, rfl, OT0, cc10⟩
    refine ⟨_, rfl, ?_⟩
    have hr9 := OT0.lt
    have rw12 := Lib.hid (show ∀ z_, z_ ∈ rl vt → z_ ∈ [x] ∨ w.heap.size ≤ z_ from fun x hx => .inr (by have := (fun k hk => (hr9 k hk).1) x hx; have := C0.out.size; omega))
    have xr13 := Lib.hid (show ∀ k, k ∈ xb (.slice (some a) K.length z) → k ∉ rl vt from fun k hk hm => by have := (fun k hk => (hr9 k hk).1) k hm; have := SL.out.lt (by decide) k hk; omega)
    have C0' := Lib.hid (show Ch [x] w w11 from C0.out.trans' cc10 (fun x hx => absurd hx (by simp)))
    have SL' := Lib.hid (show SrcIs w11 (.slice (some a) K.length z) (K.length) (K.flatMap ptrC) 1 from SL.out.chx cc10 xnin_nil)
    have FX' := Lib.hid (show Blk w11 x (#[.slice (some a) K.length z, .int .i64 la]) 60 from cc10.blk FX.out nin_nil)
    clear C0 SL FX
    have C0 := C0'; clear C0'
    have SL := SL'; clear SL'
    have FX := FX'; clear FX'
    clear cc10
    have OT := Lib.hid (show OwnS w11 w4.heap.size 61 1 (vt) (K.length) (K.flatMap ptrC) from OT0)
    obtain ⟨gx, cx, hv, -, -, -, -, -⟩ := OT.out.some_ (by have := HJ.out; omega)
    subst hv
    refine hK8 _ _ ?_; clear hK8 K8
    (try simp only [zP, zN, zA, zB, zC])
    refine pu_ (v := .int .i64 j) (y_move rfl (by rfl) (by rfl)) ?_
    (try simp only [zP, zN, zA, zB, zC])
    refine pu_ (v := .int .i64 j) (y_move rfl (by rfl) (by rfl)) ?_
    (try simp only [zP, zN, zA, zB, zC])
    refine pu_ (v := .int .i64 (j + 1 : Nat)) (y_run (by rfl) (fun W => by have d := W19.out; go_simp)) ?_
    (try simp only [zP, zN, zA, zB, zC])
    refine ef_ (fun K14 hK14 => ?_)
    have HGX := Lib.hid (OT.out.lt gx (by obtain ⟨g9, c9, e9, h1, h2, h3, -, -⟩ := OT.out.some_ (by have := HJ.out; omega); have e8 : gx = g9 ∧ cx = c9 := (by simpa using e9); rw [rl_some gx K.length cx (by have := HJ.out; have := e8.2; omega)]; simp))
    have hgxN := Lib.hid (show w.heap.size ≤ gx by have := HGX.out.1; have h9 := HC0.out; omega)
    have hgxS := Lib.hid (show gx ∉ xb (.slice (some a) K.length z) from fun hk => by have := HSL0.out.lt (by decide) _ hk; have := HGX.out.1; have := HC0.out; omega)
    have hxgx := Lib.hid (show x ≠ gx from fun e => by have := HFX0.out.lt; have := hgxN.out; omega)
    refine e_call Tryd.func30 (by kernel_rfl) rfl #[.slice (some ⟨gx, 0, none⟩) K.length cx, .int .i64 j, .int .i64 (j + 1 : Nat)] (by rfl) rfl rfl (by first | rfl | (simp only [List.map_toArray, List.map_cons, List.map_nil]; first | done | rfl)) ((del_ (i := j) OT.out HJ.out)) ?_
    rintro en w16 ⟨rfl, O9, cc15⟩
    refine ⟨_, rfl, ?_⟩
    have C0' := Lib.hid (show Ch [x] w w16 from C0.out.trans' cc15 (inw_cons (.inr hgxN.out) inw_nil))
    have SL' := Lib.hid (show SrcIs w16 (.slice (some a) K.length z) (K.length) (K.flatMap ptrC) 1 from SL.out.chx cc15 (xnin_cons hgxS.out xnin_nil))
    have FX' := Lib.hid (show Blk w16 x (#[.slice (some a) K.length z, .int .i64 la]) 60 from cc15.blk FX.out (nin_cons hxgx.out nin_nil))
    clear C0 SL FX
    have C0 := C0'; clear C0'
    have SL := SL'; clear SL'
    have FX := FX'; clear FX'
    clear OT
    clear cc15
    have OT := Lib.hid (show OwnS w16 w4.heap.size 61 1 (.slice (some ⟨gx, 0, none⟩) (K.length - 1) cx) ((K.length - 1)) ((K.eraseIdx j).flatMap ptrC) from O9)
    clear SL
    refine hK14 _ _ ?_; clear hK14 K14
    (try simp only [zP, zN, zA, zB, zC])
    refine pu_ (v := .pointer (some ⟨x, 0, none⟩)) (y_nil rfl (by rfl) (by rfl)) ?_
    (try simp only [zP, zN, zA, zB, zC])
    refine pu_ (v := .pointer (some ⟨x, 0, none⟩)) (y_run (by rfl) (fun W => by go_simp)) ?_
    (try simp only [zP, zN, zA, zB, zC])
    refine ef_ (fun K17 hK17 => ?_)
    refine e_store1 (b := x) (j := 0) (v := .slice (some ⟨gx, 0, none⟩) (K.length - 1) cx) (by rfl) rfl rfl (by rfl) (by rfl) FX.out (show 0 < 2 by omega) (by kernel_rfl) rfl ?_
    rintro w18 B19 C20
    have C0' := Lib.hid (show Ch [x] w w18 from C0.out.trans' C20 (inw_cons (.inl List.mem_cons_self) inw_nil))
    have OT' := Lib.hid (show OwnS w18 w4.heap.size 61 1 (.slice (some ⟨gx, 0, none⟩) (K.length - 1) cx) ((K.length - 1)) ((K.eraseIdx j).flatMap ptrC) from OT.out.ch C20 (rnin_cons (OT.out.ne FX.out (by decide)) rnin_nil))
    clear C0 OT
    have C0 := C0'; clear C0'
    have OT := OT'; clear OT'
    clear FX; have FX := Lib.hid (show Blk w18 x (#[.slice (some ⟨gx, 0, none⟩) (K.length - 1) cx, .int .i64 la]) 60 from B19); clear B19 C20
    refine hK17 _ _ ?_; clear hK17 K17
    (try simp only [zP, zN, zA, zB, zC])
    refine nl_ (hK7 _ _ ?_); clear hK7 K7
    refine s_ (fun K21 hK21 => ?_)
    refine pu_ (v := .int .i64 0) (y_assign rfl (by rfl) (by rfl)) ?_
    (try simp only [zP, zN, zA, zB, zC])
    refine nl_ (hK21 _ _ ?_); clear hK21 K21
    refine wp_ret ?_
    refine hQ _ _ _ ?_
    refine bodyPost_ret (res1 rfl (rdv_tmp (v := .int .i64 0) (by rfl))) rfl ?_
    exact ⟨_, rfl, FX.out, OT.out.lower HC0.out, C0.out⟩
end
end Go.Proofs.YtcfkdglaedpnjaaDoor.V
