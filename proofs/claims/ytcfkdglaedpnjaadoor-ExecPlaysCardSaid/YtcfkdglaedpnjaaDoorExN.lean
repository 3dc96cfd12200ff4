/- The walk of the law ExecPlays. -/
import Derived.Test.YtcfkdglaedpnjaaDoorExL
namespace Go.Proofs.YtcfkdglaedpnjaaDoor.V
open Go Go.RowKit Go.Proofs.YtcfkdglaedpnjaaDoor.K Go.Proofs.YtcfkdglaedpnjaaDoor.R Go.Proofs.YtcfkdglaedpnjaaDoorW.PrintLast
set_option linter.unusedVariables false
set_option linter.unusedSimpArgs false
set_option maxRecDepth 100000
set_option maxHeartbeats 6000000
section
variable {w : World}
theorem ofR_none {E : HX} {id : Int} (h : fx id E.L = none) : ofR E id = (0, 0, false) := by unfold ofR; rw [h]
theorem ofR_some {E : HX} {id : Int} {j : Nat} {s : HS} (h : fx id E.L = some j) (hs : E.L[j]? = some s) : ofR E id = (s.box, s.ctr, s.op) := by unfold ofR; rw [h]; simp only [hs]
theorem fx_ways (id : Int) (L : List HS) : fx id L = none ∨ ∃ j s, fx id L = some j ∧ L[j]? = some s ∧ j < L.length := by
  cases h : fx id L with
  | none => exact .inl rfl
  | some j =>
    obtain ⟨s, hs, _⟩ := fx_at h
    exact .inr ⟨j, s, rfl, hs, (List.getElem?_eq_some_iff.1 hs).1⟩
theorem plays_ {A : Option Addr} {z : Nat} {L : List HA} {ask : Int} (HTB : Hid (Tabs w)) (HOK : Hid (∀ o ∈ L, IntOk o.n)) (SL : Hid (SrcIs w (.slice A L.length z) (L.length) (L.flatMap actC) 6)) :
    Calls Tryd.prog 5 #[.slice A L.length z, .int .i64 ask] w fun en w' => en = .returned (.bool true) ∧ Ch [] w w' := by
  have C0 := Lib.hid (Ch.refl [] w)
  go_enter Tryd.func5, Tryd.ntmps5
  refine q_ (fun Q hQ hP => ?_)
  refine s_ (fun K1 hK1 => ?_)
  refine pu_ (v := .bool false) (y_assign rfl (by rfl) (by rfl)) ?_
  (try simp only [zP, zN, zA, zB, zC])
  refine nl_ (hK1 _ _ ?_); clear hK1 K1
  refine s_ (fun K2 hK2 => ?_)
  refine ef_ (fun K3 hK3 => ?_)
  refine e_call Tryd.func7 (by kernel_rfl) rfl #[] (by rfl) rfl rfl (by first | rfl | (simp only [List.map_toArray, List.map_cons, List.map_nil]; first | done | rfl)) ((new_l (lo := w.heap.size) C0.out.size)) ?_
  rintro en w4 ⟨x, rfl, bk, hge, cc⟩
  refine ⟨_, rfl, ?_⟩
  have hxsN := Lib.hid (show ∀ k_, k_ ∈ xb (.slice A L.length z) → k_ ∉ [x] from fun k_ hk_ hm_ => by have h8 := SL.out.lt (by decide) k_ hk_; rw [List.mem_singleton.1 hm_] at h8; omega)
  have C0' := Lib.hid (show Ch [] w w4 from C0.out.trans' cc (fun x hx => absurd hx (by simp)))
  have SL' := Lib.hid (show SrcIs w4 (.slice A L.length z) (L.length) (L.flatMap actC) 6 from SL.out.chx cc xnin_nil)
  clear C0 SL
  have C0 := C0'; clear C0'
  have SL := SL'; clear SL'
  have EX := Lib.hid (show ExIs w4 w.heap.size [x] x (64 * 0) (⟨[], 0⟩) from bk)
  clear bk cc
  refine hK3 _ _ ?_; clear hK3 K3
  (try simp only [zP, zN, zA, zB, zC])
  refine pu_ (v := .pointer (some ⟨x, 0, none⟩)) (y_assign rfl (by rfl) (by rfl)) ?_
  (try simp only [zP, zN, zA, zB, zC])
  refine nl_ (hK2 _ _ ?_); clear hK2 K2
  refine sq_ (fun K5 hK5 => ?_)
  refine s_ (fun K6 hK6 => ?_)
  refine pu_ (v := .pointer (some ⟨x, 0, none⟩)) (y_move rfl (by rfl) (by rfl)) ?_
  (try simp only [zP, zN, zA, zB, zC])
  refine pu_ (v := .bool false) (y_run (by rfl) (fun W => by first | (go_simp; done) | (go_simp; rfl) | (go_simp; decide))) ?_
  (try simp only [zP, zN, zA, zB, zC])
  refine nl_ (hK6 _ _ ?_); clear hK6 K6
  refine wp_cond_false rfl ?_
  refine wp_skip ?_
  refine th_norm (hK5 _ _ ?_); try clear hK5 K5
  refine s_ (fun K7 hK7 => ?_)
  refine pu_ (v := .agg #[.slice none 0 0, .int .i64 0]) (y_build (vs := #[]) (by rfl) rfl (by first | rfl | (simp only [List.map_toArray, List.map_cons, List.map_nil]; first | done | rfl)) (by kernel_rfl)) ?_
  (try simp only [zP, zN, zA, zB, zC])
  refine ef_ (fun K8 hK8 => ?_)
  refine e_alloc (by rfl) rfl rfl (cs := #[.slice none 0 0, .int .i64 0]) (by kernel_rfl) ?_
  rintro gq w9 HG10 B11 C12
  have nw13 := Lib.hid (show w.heap.size ≤ gq by have := C0.out.size; have := HG10.out; omega)
  have nx14 := Lib.hid (SL.out.ne_new (by decide) HG10)
  have hs15 := Lib.hid (show gq ∉ [x] from fun hk => by have h8 := (EX.out.lt _ hk).2; have := HG10.out; omega)
  have C0' := Lib.hid (show Ch [] w w9 from C0.out.trans' C12 (fun x hx => absurd hx (by simp)))
  have SL' := Lib.hid (show SrcIs w9 (.slice A L.length z) (L.length) (L.flatMap actC) 6 from SL.out.chx C12 xnin_nil)
  have EX' := Lib.hid (show ExIs w9 w.heap.size [x] x (64 * 0) (⟨[], 0⟩) from EX.out.ch C12 (fun _ _ h => absurd h (by simp)))
  clear C0 SL EX
  have C0 := C0'; clear C0'
  have SL := SL'; clear SL'
  have EX := EX'; clear EX'
  have Fgq := Lib.hid (show Blk w9 gq (#[.slice none 0 0, .int .i64 0]) 44 from B11); clear B11 C12
  refine hK8 _ _ ?_; clear hK8 K8
  (try simp only [zP, zN, zA, zB, zC])
  refine ef_ (fun K16 hK16 => ?_)
  refine e_storeN (cells := #[.slice none 0 0, .int .i64 0]) (by rfl) rfl rfl (by rfl) (by rfl) Fgq.out (by kernel_rfl) (by rfl) (ones_cons rfl (ones_cons rfl ones_nil)) ?_
  rintro w17 B18 C19
  have C0' := Lib.hid (show Ch [] w w17 from C0.out.trans' C19 (inw_cons (.inr nw13.out) inw_nil))
  have SL' := Lib.hid (show SrcIs w17 (.slice A L.length z) (L.length) (L.flatMap actC) 6 from SL.out.chx C19 (xnin_cons nx14.out xnin_nil))
  have EX' := Lib.hid (show ExIs w17 w.heap.size [x] x (64 * 0) (⟨[], 0⟩) from EX.out.ch C19 (fun k hk hm => (List.mem_cons.1 hm).elim (fun e => hs15.out (e ▸ hk)) (fun h => (fun _ _ h => absurd h (by simp)) k hk h)))
  clear C0 SL EX
  have C0 := C0'; clear C0'
  have SL := SL'; clear SL'
  have EX := EX'; clear EX'
  clear Fgq; have Fgq := Lib.hid (show Blk w17 gq (#[.slice none 0 0, .int .i64 0]) 44 from B18); clear B18 C19
  refine hK16 _ _ ?_; clear hK16 K16
  (try simp only [zP, zN, zA, zB, zC])
  refine nl_ (hK7 _ _ ?_); clear hK7 K7
  refine cutk_ (fun (a' : Act) (w' : World) => ∃ (k : Nat), ∃ (Bs : List Nat), ∃ (E : HX), ∃ (qa : Option Addr), ∃ (zq : Nat), ∃ (us : Nat → Value), a' = ⟨#[us 0, us 1, us 2, us 3, .bool false, .pointer (some ⟨x, 0, none⟩), .pointer (some ⟨gq, 0, none⟩), us 7, us 8, us 9, us 10, us 11, us 12, us 13, us 14, us 15, us 16, us 17, us 18, us 19, us 20, us 21, us 22, us 23, us 24, us 25, us 26, us 27, us 28, us 29, us 30, us 31, us 32, us 33, us 34, us 35, us 36, us 37, us 38, us 39, us 40, us 41, us 42, us 43, us 44, us 45, us 46, us 47, us 48, us 49, us 50, us 51, us 52, us 53, us 54, us 55, us 56, us 57, us 58, us 59, us 60, us 61, us 62, us 63, us 64, us 65, us 66, us 67, us 68, us 69, us 70, us 71, us 72, us 73, us 74, us 75, us 76, us 77, us 78, us 79, us 80, us 81, us 82, us 83, us 84, us 85, us 86, us 87, us 88, us 89, us 90, us 91, us 92, us 93, us 94, us 95, us 96, us 97, us 98, us 99, us 100, us 101, us 102, us 103, us 104, us 105, us 106, us 107, us 108, us 109, us 110], []⟩ ∧ Hid (Ch [] w w') ∧ Hid (ExIs w' w.heap.size Bs x (64 * k) (E)) ∧ Hid (SrcIs w' (.slice qa E.L.length zq) (E.L.length) (E.L.flatMap sesC) 6) ∧ Hid (Blk w' gq (#[.slice qa E.L.length zq, .int .i64 E.last]) 44) ∧ Hid (k ≤ 100) ∧ Hid (Few E k) ∧ Hid (Lawful E) ∧ Hid (E.L.length ≤ zq ∧ zq ≤ maxLen) ∧ Hid (∀ k_, k_ ∈ xb (.slice qa E.L.length zq) → k_ ∉ Bs) ∧ Hid (gq ∉ Bs) ∧ Hid (gq ∉ xb (.slice qa E.L.length zq))) (fun K20 hK20 => ?_) ?_
  · refine s_ (fun K22 hK22 => ?_)
    refine pu_ (v := .int .i64 0) (y_assign rfl (by rfl) (by rfl)) ?_
    (try simp only [zP, zN, zA, zB, zC])
    refine nl_ (hK22 _ _ ?_); clear hK22 K22
    refine wp_block ?_
    have hgN := nw13
    have SQ := Lib.hid (show SrcIs w17 (.slice none (⟨[], 0⟩ : HX).L.length 0) ((⟨[], 0⟩ : HX).L.length) ((⟨[], 0⟩ : HX).L.flatMap sesC) 6 from (RefIs.new w17).1)
    refine loopk_ (fun (kq : Nat) (a' : Act) (w' : World) => ∃ (k : Nat), ∃ (Bs : List Nat), ∃ (E : HX), ∃ (qa : Option Addr), ∃ (zq : Nat), ∃ (us : Nat → Value), a' = ⟨#[.slice A L.length z, .int .i64 ask, us 2, us 3, .bool false, .pointer (some ⟨x, 0, none⟩), .pointer (some ⟨gq, 0, none⟩), .int .i64 k, us 8, us 9, us 10, us 11, us 12, us 13, us 14, us 15, us 16, us 17, us 18, us 19, us 20, us 21, us 22, us 23, us 24, us 25, us 26, us 27, us 28, us 29, us 30, us 31, us 32, us 33, us 34, us 35, us 36, us 37, us 38, us 39, us 40, us 41, us 42, us 43, us 44, us 45, us 46, us 47, us 48, us 49, us 50, us 51, us 52, us 53, us 54, us 55, us 56, us 57, us 58, us 59, us 60, us 61, us 62, us 63, us 64, us 65, us 66, us 67, us 68, us 69, us 70, us 71, us 72, us 73, us 74, us 75, us 76, us 77, us 78, us 79, us 80, us 81, us 82, us 83, us 84, us 85, us 86, us 87, us 88, us 89, us 90, us 91, us 92, us 93, us 94, us 95, us 96, us 97, us 98, us 99, us 100, us 101, us 102, us 103, us 104, us 105, us 106, us 107, us 108, us 109, us 110], []⟩ ∧ Hid (Ch [] w w') ∧ Hid (ExIs w' w.heap.size Bs x (64 * k) (E)) ∧ Hid (SrcIs w' (.slice qa E.L.length zq) (E.L.length) (E.L.flatMap sesC) 6) ∧ Hid (Blk w' gq (#[.slice qa E.L.length zq, .int .i64 E.last]) 44) ∧ Hid (SrcIs w' (.slice A L.length z) (L.length) (L.flatMap actC) 6) ∧ Hid (k ≤ L.length ∧ k ≤ 100 ∧ kq + k = L.length) ∧ Hid (Few E k) ∧ Hid (Lawful E) ∧ Hid (E.L.length ≤ zq ∧ zq ≤ maxLen) ∧ Hid (∀ k_, k_ ∈ xb (.slice qa E.L.length zq) → k_ ∉ Bs) ∧ Hid (gq ∉ Bs) ∧ Hid (gq ∉ xb (.slice qa E.L.length zq)) ∧ Hid (∀ k_, k_ ∈ xb (.slice A L.length z) → k_ ∉ Bs) ∧ Hid (gq ∉ xb (.slice A L.length z))) (L.length) (⟨0, [x], (⟨[], 0⟩ : HX), none, 0, fun us_ => (#[.slice A L.length z, .int .i64 ask, undef, undef, .bool false, .pointer (some ⟨x, 0, none⟩), .pointer (some ⟨gq, 0, none⟩), .int .i64 0, undef, undef, undef, undef, undef, undef, undef, .pointer (some ⟨x, 0, none⟩), .pointer (some ⟨x, 0, none⟩), .bool false, .agg #[.slice none 0 0, .int .i64 0], undef, undef, undef, undef, undef, undef, undef, undef, undef, undef, undef, undef, undef, undef, undef, undef, undef, undef, undef, undef, undef, undef, undef, undef, undef, undef, undef, undef, undef, undef, undef, undef, undef, undef, undef, undef, undef, undef, undef, undef, undef, undef, undef, undef, undef, undef, undef, undef, undef, undef, undef, undef, undef, undef, undef, undef, undef, undef, undef, undef, undef, undef, undef, undef, undef, undef, undef, undef, undef, undef, undef, undef, undef, undef, undef, undef, undef, undef, undef, undef, undef, undef, undef, undef, undef, undef, undef, undef, undef, undef, undef, undef] : Array Value).getD us_ undef, rfl, C0, EX, SQ, Fgq, SL, Lib.hid ⟨by omega, by omega, by omega⟩, Lib.hid ⟨by show 0 ≤ 8; omega, Nat.le_refl _⟩, Lib.hid Lawful.new, Lib.hid (RefIs.new w).2, Lib.hid (fun k_ hk_ => absurd hk_ (by simp [xb])), hs15, Lib.hid (fun hk_ => absurd hk_ (by simp [xb])), hxsN, nx14⟩) ?_
    rintro kq _ w23 ⟨k, Bs, E, qa, zq, us, rfl, C0, EX, SQ, Fgq, SL, hk, hfew, hlaw, hz, hqs, hgs, hgq, hxs, hgx⟩ K24 hK24
    refine sq_ (fun K25 hK25 => ?_)
    rcases (show (∃ o, L[k]? = some o ∧ k < L.length ∧ k < 100) ∨ (k < L.length ∧ 100 ≤ k) ∨ k = L.length by rcases at_ways' hk.out.1 with ⟨o, ho0, hlt0⟩ | h; rcases (show k < 100 ∨ 100 ≤ k by omega) with h1 | h1; exact .inl ⟨o, ho0, hlt0, h1⟩; exact .inr (.inl ⟨hlt0, h1⟩); exact .inr (.inr h)) with ⟨o, ho0, hlt0, h1⟩ | ⟨hl_, h1⟩ | h
    · have hlt := Lib.hid (And.intro hlt0 h1)
      have ho := Lib.hid ho0
      clear hlt0 ho0 h1
      obtain ⟨a, hsm_a⟩ := src_some SL.out (by have := hlt.out; omega)
      subst hsm_a
      have D22 := Lib.hid (show (k : Int) < (L.length : Int) by have := hlt.out; omega)
      have D25 := Lib.hid (show (k : Int) < (100 : Int) by have := hlt.out; omega)
      have Wk := Lib.hid (show IntKind.i64.wrap ((k : Int) + 1) = ((k + 1 : Nat) : Int) by rw [wr64 (by have := hlt.out; omega)]; omega)
      have hok := Lib.hid (HOK.out o (List.mem_of_getElem? ho.out))
      refine s_ (fun K26 hK26 => ?_)
      refine pu_ (v := .int .i64 k) (y_move rfl (by rfl) (by rfl)) ?_
      (try simp only [zP, zN, zA, zB, zC])
      refine pu_ (v := .slice (some a) L.length z) (y_move rfl (by rfl) (by rfl)) ?_
      (try simp only [zP, zN, zA, zB, zC])
      refine pu_ (v := .int .i64 L.length) (y_run (by rfl) (fun W => by go_simp)) ?_
      (try simp only [zP, zN, zA, zB, zC])
      refine pu_ (v := .bool true) (y_run (by rfl) (fun W => by have d := D22.out; go_simp)) ?_
      (try simp only [zP, zN, zA, zB, zC])
      refine pu_ (v := .bool true) (y_move rfl (by rfl) (by rfl)) ?_
      (try simp only [zP, zN, zA, zB, zC])
      refine pu_ (v := .int .i64 k) (y_move rfl (by rfl) (by rfl)) ?_
      (try simp only [zP, zN, zA, zB, zC])
      refine pu_ (v := .bool true) (y_run (by rfl) (fun W => by have d := D25.out; go_simp)) ?_
      (try simp only [zP, zN, zA, zB, zC])
      refine pu_ (v := .bool true) (y_pick (t := true) (by rfl) rfl (by rfl) (by rfl)) ?_
      (try simp only [zP, zN, zA, zB, zC])
      refine nl_ (hK26 _ _ ?_); clear hK26 K26
      refine wp_cond_true rfl ?_
      refine wp_skip ?_
      refine th_norm (hK25 _ _ ?_); try clear hK25 K25
      refine sq_ (fun K27 hK27 => ?_)
      refine wp_block ?_
      refine sq_ (fun K28 hK28 => ?_)
      rcases (show 300 < o.s.size ∨ o.s.size ≤ 300 by omega) with h | h
      · have HSZ := Lib.hid h
        have D35 := Lib.hid (show  (300 : Int) < (o.s.size : Int) by have := HSZ.out; omega)
        clear h
        refine s_ (fun K29 hK29 => ?_)
        refine pu_ (v := .slice (some a) L.length z) (y_move rfl (by rfl) (by rfl)) ?_
        (try simp only [zP, zN, zA, zB, zC])
        refine pu_ (v := .int .i64 k) (y_move rfl (by rfl) (by rfl)) ?_
        (try simp only [zP, zN, zA, zB, zC])
        refine pu_ (v := .pointer (some (a.add (k * 6)))) (y_run (by rfl) (fun W => by have d := D22.out; go_simp)) ?_
        (try simp only [zP, zN, zA, zB, zC])
        refine pu_ (v := .pointer (some ((a.add (k * 6)).add 5))) (y_run (by rfl) (fun W => by go_simp)) ?_
        (try simp only [zP, zN, zA, zB, zC])
        refine ld_ (v := .string o.s) rfl (by rfl) (by rfl) (run_load_one (src_at actC_len SL.out ho.out 5 (.string o.s) rfl) Tryd.underlying9 rfl) ?_
        (try simp only [zP, zN, zA, zB, zC])
        refine pu_ (v := .int .i64 o.s.size) (y_run (by rfl) (fun W => by go_simp)) ?_
        (try simp only [zP, zN, zA, zB, zC])
        refine pu_ (v := .bool true) (y_run (by rfl) (fun W => by have d := D35.out; go_simp)) ?_
        (try simp only [zP, zN, zA, zB, zC])
        refine nl_ (hK29 _ _ ?_); clear hK29 K29
        refine wp_cond_true rfl ?_
        refine s_ (fun K30 hK30 => ?_)
        refine ef_ (fun K31 hK31 => ?_)
        refine e_call Tryd.func6 (by kernel_rfl) rfl #[] (by rfl) rfl rfl (by first | rfl | (simp only [List.map_toArray, List.map_cons, List.map_nil]; first | done | rfl)) ((works_ (Lib.hid (tabs_ch HTB.out C0.out.below0)))) ?_
        rintro en w33 ⟨rfl, cc32⟩
        refine ⟨_, rfl, ?_⟩
        have C0' := Lib.hid (show Ch [] w w33 from C0.out.trans' cc32 (fun x hx => absurd hx (by simp)))
        have EX' := Lib.hid (show ExIs w33 w.heap.size Bs x (64 * k) (E) from EX.out.ch cc32 (fun _ _ h => absurd h (by simp)))
        have SQ' := Lib.hid (show SrcIs w33 (.slice qa E.L.length zq) (E.L.length) (E.L.flatMap sesC) 6 from SQ.out.chx cc32 xnin_nil)
        have Fgq' := Lib.hid (show Blk w33 gq (#[.slice qa E.L.length zq, .int .i64 E.last]) 44 from cc32.blk Fgq.out nin_nil)
        have SL' := Lib.hid (show SrcIs w33 (.slice (some a) L.length z) (L.length) (L.flatMap actC) 6 from SL.out.chx cc32 xnin_nil)
        clear C0 EX SQ Fgq SL
        have C0 := C0'; clear C0'
        have EX := EX'; clear EX'
        have SQ := SQ'; clear SQ'
        have Fgq := Fgq'; clear Fgq'
        have SL := SL'; clear SL'
        clear cc32
        refine hK31 _ _ ?_; clear hK31 K31
        (try simp only [zP, zN, zA, zB, zC])
        refine pu_ (v := .bool true) (y_assign rfl (by rfl) (by rfl)) ?_
        (try simp only [zP, zN, zA, zB, zC])
        refine nl_ (hK30 _ _ ?_); clear hK30 K30
        refine wp_ret ?_
        refine th_ret ?_
        refine ib_ret ?_
        refine th_ret ?_
        refine th_ret ?_
        refine ib_ret ?_
        refine th_ret ?_
        refine hQ _ _ _ ?_
        refine bodyPost_ret (res1 rfl (rdv_tmp (v := .bool true) (by rfl))) rfl ?_
        exact ⟨rfl, C0.out⟩
      · have HSZ := Lib.hid h
        have D35 := Lib.hid (show ¬ (300 : Int) < (o.s.size : Int) by have := HSZ.out; omega)
        clear h
        obtain ⟨E2, hE2⟩ : ∃ E2, E2 = actS E o := ⟨_, rfl⟩
        have HE2 := Lib.hid hE2
        clear hE2
        have HF2 := Lib.hid (show Few E2 (k + 1) by rw [HE2.out]; exact few_act hfew.out o)
        refine s_ (fun K34 hK34 => ?_)
        refine pu_ (v := .slice (some a) L.length z) (y_move rfl (by rfl) (by rfl)) ?_
        (try simp only [zP, zN, zA, zB, zC])
        refine pu_ (v := .int .i64 k) (y_move rfl (by rfl) (by rfl)) ?_
        (try simp only [zP, zN, zA, zB, zC])
        refine pu_ (v := .pointer (some (a.add (k * 6)))) (y_run (by rfl) (fun W => by have d := D22.out; go_simp)) ?_
        (try simp only [zP, zN, zA, zB, zC])
        refine pu_ (v := .pointer (some ((a.add (k * 6)).add 5))) (y_run (by rfl) (fun W => by go_simp)) ?_
        (try simp only [zP, zN, zA, zB, zC])
        refine ld_ (v := .string o.s) rfl (by rfl) (by rfl) (run_load_one (src_at actC_len SL.out ho.out 5 (.string o.s) rfl) Tryd.underlying9 rfl) ?_
        (try simp only [zP, zN, zA, zB, zC])
        refine pu_ (v := .int .i64 o.s.size) (y_run (by rfl) (fun W => by go_simp)) ?_
        (try simp only [zP, zN, zA, zB, zC])
        refine pu_ (v := .bool false) (y_run (by rfl) (fun W => by have d := D35.out; go_simp)) ?_
        (try simp only [zP, zN, zA, zB, zC])
        refine nl_ (hK34 _ _ ?_); clear hK34 K34
        refine wp_cond_false rfl ?_
        refine wp_skip ?_
        refine th_norm (hK28 _ _ ?_); try clear hK28 K28
        refine sq_ (fun K35 hK35 => ?_)
        refine startk_ (S := fun W => Blk W gq (#[.slice qa E.L.length zq, .int .i64 E.last]) 44 ∧ SrcIs W (.slice (some a) L.length z) (L.length) (L.flatMap actC) 6 ∧ True) (ds := []) #[false, false, false, false, false, false, false, false, false, false, false, false, false] (by kernel_rfl) rfl rfl (fun W c => ⟨c.blk Fgq.out nin_nil, SL.out.chx c xnin_nil, trivial⟩) (fun w36 C37 hS38 => ?_)
        have C0' := Lib.hid (show Ch [] w w36 from C0.out.trans' C37 (fun x hx => absurd hx (by simp)))
        have EX' := Lib.hid (show ExIs w36 w.heap.size Bs x (64 * k) (E) from EX.out.ch C37 (fun _ _ h => absurd h (by simp)))
        have SQ' := Lib.hid (show SrcIs w36 (.slice qa E.L.length zq) (E.L.length) (E.L.flatMap sesC) 6 from SQ.out.chx C37 xnin_nil)
        have Fgq' := Lib.hid (show Blk w36 gq (#[.slice qa E.L.length zq, .int .i64 E.last]) 44 from C37.blk Fgq.out nin_nil)
        have SL' := Lib.hid (show SrcIs w36 (.slice (some a) L.length z) (L.length) (L.flatMap actC) 6 from SL.out.chx C37 xnin_nil)
        clear C0 EX SQ Fgq SL
        have C0 := C0'; clear C0'
        have EX := EX'; clear EX'
        have SQ := SQ'; clear SQ'
        have Fgq := Fgq'; clear Fgq'
        have SL := SL'; clear SL'
        clear C37
        refine pure_ (i := 0) (N := some 38) (v := .pointer (some ⟨x, 0, none⟩)) #[true, false, false, false, false, false, false, false, false, false, false, false, false] rfl rfl (by kernel_rfl) (fun c a w h => hP c a _ _ w h) (y_move rfl (by rfl) (by rfl)) rfl ?_
        (try simp only [zP, zN, zA, zB, zC])
        refine take_ (i := 1) (N := some 39) (v := .agg (#[.slice qa E.L.length zq, .int .i64 E.last])) #[true, true, false, false, false, false, false, false, false, false, false, false, false] rfl rfl (by kernel_rfl) (fun c a w h => hP c a _ _ w h) (y_load (p := ⟨gq, 0, none⟩) rfl (by rfl) (by rfl) (fun W hS => run_loadVar_row _ _ 44 44 (#[.slice qa E.L.length zq, .int .i64 E.last]) (0, 0) _ hS.1 Tryd.underlying44 rfl (by kernel_rfl))) hS38 rfl ?_
        (try simp only [zP, zN, zA, zB, zC])
        refine pure_ (i := 2) (N := some 40) (v := .slice (some a) L.length z) #[true, true, true, false, false, false, false, false, false, false, false, false, false] rfl rfl (by kernel_rfl) (fun c a w h => hP c a _ _ w h) (y_move rfl (by rfl) (by rfl)) rfl ?_
        (try simp only [zP, zN, zA, zB, zC])
        refine pure_ (i := 3) (N := some 41) (v := .int .i64 k) #[true, true, true, true, false, false, false, false, false, false, false, false, false] rfl rfl (by kernel_rfl) (fun c a w h => hP c a _ _ w h) (y_move rfl (by rfl) (by rfl)) rfl ?_
        (try simp only [zP, zN, zA, zB, zC])
        refine pure_ (i := 4) (N := some 42) (v := .pointer (some (a.add (k * 6)))) #[true, true, true, true, true, false, false, false, false, false, false, false, false] rfl rfl (by kernel_rfl) (fun c a w h => hP c a _ _ w h) (y_run (by rfl) (fun W => by have d := D22.out; go_simp)) rfl ?_
        (try simp only [zP, zN, zA, zB, zC])
        refine take_ (i := 5) (N := some 43) (v := .agg #[.int .i64 o.kind, .int .i64 o.id, .int .i64 o.box, .int .i64 o.ctr, .int .i64 o.n, .string o.s]) #[true, true, true, true, true, true, false, false, false, false, false, false, false] rfl rfl (by kernel_rfl) (fun c a w h => hP c a _ _ w h) (y_load (p := (a.add (k * 6))) rfl (by rfl) (by rfl) (fun W hS => run_loadVar_at (cs := actC o) (src_at actC_len hS.2.1 ho.out) Tryd.underlying28 rfl (by kernel_rfl))) hS38 rfl ?_
        (try simp only [zP, zN, zA, zB, zC])
        refine two_ (i := 6) (j := 10) (Ni := some 44) (Nj := some 8) #[true, true, true, true, true, true, true, false, false, false, false, false, false] #[true, true, true, true, true, true, false, false, false, false, true, false, false] rfl rfl rfl rfl (by kernel_rfl) (by simp) (by simp) (fun K39 hK39 => ?_) (fun K40 hK40 => ?_)
        · refine e_call Tryd.func17 (by kernel_rfl) rfl #[.pointer (some ⟨x, 0, none⟩), .agg (#[.slice qa E.L.length zq, .int .i64 E.last]), .agg #[.int .i64 o.kind, .int .i64 o.id, .int .i64 o.box, .int .i64 o.ctr, .int .i64 o.n, .string o.s]] (by rfl) rfl rfl (by first | rfl | (simp only [List.map_toArray, List.map_cons, List.map_nil]; first | done | rfl)) ((by have h9 := does_l (c := 64 * k) (o := o) (w0 := w) (Lib.hid hfew.out.1) (Lib.hid (by have := hlt.out; omega)) (Lib.hid (by have := hfew.out.2; have := hlt.out; omega)) hok HSZ HTB (Lib.hid rfl) (Lib.hid C0.out.below0) hqs ⟨SQ.out, hz.out⟩ EX.out; rw [← HE2.out] at h9; exact h9)) ?_
          rintro en w44 ⟨A41, z42, Bs43, rfl, ⟨⟨h1, h2⟩, h4⟩, bk, cc, bel, hqb⟩
          refine ⟨_, rfl, ?_⟩
          have nx45 := Lib.hid (show gq ∉ xb (.slice A41 E2.L.length z42) from fun hk => (h4 _ hk).elim hgq.out (fun h8 => by have := Fgq.out.lt; omega))
          have hs46 := Lib.hid (show gq ∉ Bs43 from fun h9 => (bel _ h9).elim hgs.out (fun h8 => by have := Fgq.out.lt; omega))
          have xs47 := Lib.hid (show ∀ k_, k_ ∈ xb (.slice (some a) L.length z) → k_ ∉ Bs43 from fun k_ hk_ hB_ => (bel k_ hB_).elim (hxs.out k_ hk_) (fun h8 => by have := SL.out.lt (by decide) k_ hk_; omega))
          have HQB := Lib.hid hqb
          have HZ2 := Lib.hid h2
          clear hqb h2 h4
          have C0' := Lib.hid (show Ch [] w w44 from C0.out.trans' cc (fun x hx => .inr (EX.out.lt x hx).1))
          have Fgq' := Lib.hid (show Blk w44 gq (#[.slice qa E.L.length zq, .int .i64 E.last]) 44 from cc.blk Fgq.out hgs.out)
          have SL' := Lib.hid (show SrcIs w44 (.slice (some a) L.length z) (L.length) (L.flatMap actC) 6 from SL.out.chx cc hxs.out)
          clear C0 Fgq SL
          have C0 := C0'; clear C0'
          have Fgq := Fgq'; clear Fgq'
          have SL := SL'; clear SL'
          clear EX SQ cc bel
          have EX := Lib.hid (show ExIs w44 w.heap.size Bs43 x (64 * k + 64) (E2) from bk)
          clear bk
          have SQ := Lib.hid h1
          clear h1
          refine hK39.out _ _ ⟨Fgq.out, SL.out, trivial⟩ (fun hS48 => ?_); clear hK39 K39
          (try simp only [zP, zN, zA, zB, zC])
          refine pure_ (i := 7) (N := some 37) (v := .tuple #[.agg #[.slice A41 E2.L.length z42, .int .i64 E2.last], .bool true]) #[true, true, true, true, true, true, true, true, false, false, false, false, false] rfl rfl (by kernel_rfl) (fun c a w h => hP c a _ _ w h) (y_move rfl (by rfl) (by rfl)) rfl ?_
          (try simp only [zP, zN, zA, zB, zC])
          refine pure_ (i := 8) (N := some 45) (v := .agg #[.slice A41 E2.L.length z42, .int .i64 E2.last]) #[true, true, true, true, true, true, true, true, true, false, false, false, false] rfl rfl (by kernel_rfl) (fun c a w h => hP c a _ _ w h) (y_run (by rfl) (fun W => by go_simp)) rfl ?_
          (try simp only [zP, zN, zA, zB, zC])
          refine pure_ (i := 9) (N := some 46) (v := .bool true) #[true, true, true, true, true, true, true, true, true, true, false, false, false] rfl rfl (by kernel_rfl) (fun c a w h => hP c a _ _ w h) (y_run (by rfl) (fun W => by go_simp)) rfl ?_
          (try simp only [zP, zN, zA, zB, zC])
          refine one_ (i := 10) (N := some 8) #[true, true, true, true, true, true, true, true, true, true, true, false, false] rfl rfl (by kernel_rfl) (by simp) (fun K49 hK49 => ?_)
          refine e_alloc (by rfl) rfl rfl (cs := #[.slice none 0 0, .int .i64 0]) (by kernel_rfl) ?_
          rintro g50 w51 HG52 B53 C54
          have nw55 := Lib.hid (show w.heap.size ≤ g50 by have := C0.out.size; have := HG52.out; omega)
          have hs56 := Lib.hid (show g50 ∉ Bs43 from fun hk => by have h8 := (EX.out.lt _ hk).2; have := HG52.out; omega)
          have ne57 := Lib.hid (Fgq.out.ne_new HG52)
          have nx58 := Lib.hid (SL.out.ne_new (by decide) HG52)
          have nx59 := Lib.hid (SQ.out.ne_new (by decide) HG52)
          have C0' := Lib.hid (show Ch [] w w51 from C0.out.trans' C54 (fun x hx => absurd hx (by simp)))
          have EX' := Lib.hid (show ExIs w51 w.heap.size Bs43 x (64 * k + 64) (E2) from EX.out.ch C54 (fun _ _ h => absurd h (by simp)))
          have Fgq' := Lib.hid (show Blk w51 gq (#[.slice qa E.L.length zq, .int .i64 E.last]) 44 from C54.blk Fgq.out nin_nil)
          have SL' := Lib.hid (show SrcIs w51 (.slice (some a) L.length z) (L.length) (L.flatMap actC) 6 from SL.out.chx C54 xnin_nil)
          have SQ' := Lib.hid (show SrcIs w51 (.slice A41 E2.L.length z42) (E2.L.length) (E2.L.flatMap sesC) 6 from SQ.out.chx C54 xnin_nil)
          clear C0 EX Fgq SL SQ
          have C0 := C0'; clear C0'
          have EX := EX'; clear EX'
          have Fgq := Fgq'; clear Fgq'
          have SL := SL'; clear SL'
          have SQ := SQ'; clear SQ'
          have Fg50 := Lib.hid (show Blk w51 g50 (#[.slice none 0 0, .int .i64 0]) 44 from B53); clear B53 C54
          refine hK49.out _ _ ⟨Fgq.out, SL.out, trivial⟩ (fun hS60 => ?_); clear hK49 K49
          (try simp only [zP, zN, zA, zB, zC])
          refine one_ (i := 11) (N := none) #[true, true, true, true, true, true, true, true, true, true, true, true, false] rfl rfl (by kernel_rfl) (by simp) (fun K61 hK61 => ?_)
          refine e_storeN (cells := #[.slice A41 E2.L.length z42, .int .i64 E2.last]) (by rfl) rfl rfl (by rfl) (by rfl) Fg50.out (by kernel_rfl) (by rfl) (ones_cons rfl (ones_cons rfl ones_nil)) ?_
          rintro w62 B63 C64
          have C0' := Lib.hid (show Ch [] w w62 from C0.out.trans' C64 (inw_cons (.inr nw55.out) inw_nil))
          have EX' := Lib.hid (show ExIs w62 w.heap.size Bs43 x (64 * k + 64) (E2) from EX.out.ch C64 (fun k hk hm => (List.mem_cons.1 hm).elim (fun e => hs56.out (e ▸ hk)) (fun h => (fun _ _ h => absurd h (by simp)) k hk h)))
          have Fgq' := Lib.hid (show Blk w62 gq (#[.slice qa E.L.length zq, .int .i64 E.last]) 44 from C64.blk Fgq.out (nin_cons ne57.out nin_nil))
          have SL' := Lib.hid (show SrcIs w62 (.slice (some a) L.length z) (L.length) (L.flatMap actC) 6 from SL.out.chx C64 (xnin_cons nx58.out xnin_nil))
          have SQ' := Lib.hid (show SrcIs w62 (.slice A41 E2.L.length z42) (E2.L.length) (E2.L.flatMap sesC) 6 from SQ.out.chx C64 (xnin_cons nx59.out xnin_nil))
          clear C0 EX Fgq SL SQ
          have C0 := C0'; clear C0'
          have EX := EX'; clear EX'
          have Fgq := Fgq'; clear Fgq'
          have SL := SL'; clear SL'
          have SQ := SQ'; clear SQ'
          clear Fg50; have Fg50 := Lib.hid (show Blk w62 g50 (#[.slice A41 E2.L.length z42, .int .i64 E2.last]) 44 from B63); clear B63 C64
          refine hK61.out _ _ ⟨Fgq.out, SL.out, trivial⟩ (fun hS65 => ?_); clear hK61 K61
          (try simp only [zP, zN, zA, zB, zC])
          refine pure_ (i := 12) (N := some 9) (v := .bool true) #[true, true, true, true, true, true, true, true, true, true, true, true, true] rfl rfl (by kernel_rfl) (fun c a w h => hP c a _ _ w h) (y_assign rfl (by rfl) (by rfl)) rfl ?_
          (try simp only [zP, zN, zA, zB, zC])
          refine done_ (by kernel_rfl) (th_norm (hK35 _ _ ?_)); clear hK35 K35
          refine s_ (fun K66 hK66 => ?_)
          refine ld_ (v := .agg (#[.slice A41 E2.L.length z42, .int .i64 E2.last])) rfl (by rfl) (by rfl) (run_loadVar_row _ _ 44 44 (#[.slice A41 E2.L.length z42, .int .i64 E2.last]) (0, 0) _ Fg50.out Tryd.underlying44 rfl (by kernel_rfl)) ?_
          (try simp only [zP, zN, zA, zB, zC])
          refine ef_ (fun K67 hK67 => ?_)
          refine e_storeN (cells := (#[.slice A41 E2.L.length z42, .int .i64 E2.last])) (by rfl) rfl rfl (by rfl) (by rfl) Fgq.out (by kernel_rfl) (by rfl) (ones_cons rfl (ones_cons rfl ones_nil)) ?_
          rintro w68 B69 C70
          have C0' := Lib.hid (show Ch [] w w68 from C0.out.trans' C70 (inw_cons (.inr hgN.out) inw_nil))
          have EX' := Lib.hid (show ExIs w68 w.heap.size Bs43 x (64 * k + 64) (E2) from EX.out.ch C70 (fun k hk hm => (List.mem_cons.1 hm).elim (fun e => hs46.out (e ▸ hk)) (fun h => (fun _ _ h => absurd h (by simp)) k hk h)))
          have SL' := Lib.hid (show SrcIs w68 (.slice (some a) L.length z) (L.length) (L.flatMap actC) 6 from SL.out.chx C70 (xnin_cons hgx.out xnin_nil))
          have SQ' := Lib.hid (show SrcIs w68 (.slice A41 E2.L.length z42) (E2.L.length) (E2.L.flatMap sesC) 6 from SQ.out.chx C70 (xnin_cons nx45.out xnin_nil))
          have Fg50' := Lib.hid (show Blk w68 g50 (#[.slice A41 E2.L.length z42, .int .i64 E2.last]) 44 from C70.blk Fg50.out (nin_cons (Ne.symm ne57.out) nin_nil))
          clear C0 EX SL SQ Fg50
          have C0 := C0'; clear C0'
          have EX := EX'; clear EX'
          have SL := SL'; clear SL'
          have SQ := SQ'; clear SQ'
          have Fg50 := Fg50'; clear Fg50'
          clear Fgq; have Fgq := Lib.hid (show Blk w68 gq ((#[.slice A41 E2.L.length z42, .int .i64 E2.last])) 44 from B69); clear B69 C70
          refine hK67 _ _ ?_; clear hK67 K67
          (try simp only [zP, zN, zA, zB, zC])
          refine nl_ (hK66 _ _ ?_); clear hK66 K66
          rcases fx_ways ask E2.L with h | ⟨j, s, h, hs, hj⟩
          · have HOF := Lib.hid (ofR_none h)
            have HFX := Lib.hid (show fxI ask E2.L = -1 by unfold fxI; rw [h])
            have D60 := Lib.hid (show ¬ (0 : Int) ≤ -1 by omega)
            clear h
            refine s_ (fun K71 hK71 => ?_)
            refine pu_ (v := .pointer (some ⟨x, 0, none⟩)) (y_move rfl (by rfl) (by rfl)) ?_
            (try simp only [zP, zN, zA, zB, zC])
            refine pu_ (v := .int .i64 ask) (y_move rfl (by rfl) (by rfl)) ?_
            (try simp only [zP, zN, zA, zB, zC])
            refine ef_ (fun K72 hK72 => ?_)
            refine e_call Tryd.func15 (by kernel_rfl) rfl #[.pointer (some ⟨x, 0, none⟩), .int .i64 ask] (by rfl) rfl rfl (by first | rfl | (simp only [List.map_toArray, List.map_cons, List.map_nil]; first | done | rfl)) ((by have h9 := of_l (id := ask) EX.out (by have := HF2.out.1; omega); rw [HOF.out] at h9; exact h9)) ?_
            rintro en w74 ⟨rfl, Bs73, bk, cc, bel⟩
            refine ⟨_, rfl, ?_⟩
            have hs75 := Lib.hid (show gq ∉ Bs73 from fun h9 => (bel _ h9).elim hs46.out (fun h8 => by have := Fgq.out.lt; omega))
            have hs76 := Lib.hid (show g50 ∉ Bs73 from fun h9 => (bel _ h9).elim hs56.out (fun h8 => by have := Fg50.out.lt; omega))
            have hr77 := Lib.hid (show ∀ k_, k_ ∈ xb (.slice (some a) L.length z) → k_ ∉ Bs73 from fun k_ hk_ hB_ => (bel k_ hB_).elim (xs47.out k_ hk_) (fun h8 => by have := SL.out.lt (by decide) k_ hk_; omega))
            have hr78 := Lib.hid (show ∀ k_, k_ ∈ xb (.slice A41 E2.L.length z42) → k_ ∉ Bs73 from fun k_ hk_ hB_ => (bel k_ hB_).elim (HQB.out k_ hk_) (fun h8 => by have := SQ.out.lt (by decide) k_ hk_; omega))
            have C0' := Lib.hid (show Ch [] w w74 from C0.out.trans' cc (fun x hx => .inr (EX.out.lt x hx).1))
            have Fgq' := Lib.hid (show Blk w74 gq ((#[.slice A41 E2.L.length z42, .int .i64 E2.last])) 44 from cc.blk Fgq.out hs46.out)
            have SL' := Lib.hid (show SrcIs w74 (.slice (some a) L.length z) (L.length) (L.flatMap actC) 6 from SL.out.chx cc xs47.out)
            have SQ' := Lib.hid (show SrcIs w74 (.slice A41 E2.L.length z42) (E2.L.length) (E2.L.flatMap sesC) 6 from SQ.out.chx cc HQB.out)
            have Fg50' := Lib.hid (show Blk w74 g50 (#[.slice A41 E2.L.length z42, .int .i64 E2.last]) 44 from cc.blk Fg50.out hs56.out)
            clear C0 Fgq SL SQ Fg50
            have C0 := C0'; clear C0'
            have Fgq := Fgq'; clear Fgq'
            have SL := SL'; clear SL'
            have SQ := SQ'; clear SQ'
            have Fg50 := Fg50'; clear Fg50'
            clear EX cc bel
            have EX := Lib.hid (show ExIs w74 w.heap.size Bs73 x (64 * k + 64) (E2) from bk)
            clear bk
            refine hK72 _ _ ?_; clear hK72 K72
            (try simp only [zP, zN, zA, zB, zC])
            refine pu_ (v := .tuple #[.int .i64 0, .int .i64 0, .bool false]) (y_move rfl (by rfl) (by rfl)) ?_
            (try simp only [zP, zN, zA, zB, zC])
            refine pu_ (v := .int .i64 0) (y_run (by rfl) (fun W => by go_simp)) ?_
            (try simp only [zP, zN, zA, zB, zC])
            refine pu_ (v := .int .i64 0) (y_run (by rfl) (fun W => by go_simp)) ?_
            (try simp only [zP, zN, zA, zB, zC])
            refine pu_ (v := .bool false) (y_run (by rfl) (fun W => by go_simp)) ?_
            (try simp only [zP, zN, zA, zB, zC])
            refine pu_ (v := .int .i64 0) (y_assign rfl (by rfl) (by rfl)) ?_
            (try simp only [zP, zN, zA, zB, zC])
            refine pu_ (v := .int .i64 0) (y_assign rfl (by rfl) (by rfl)) ?_
            (try simp only [zP, zN, zA, zB, zC])
            refine pu_ (v := .bool false) (y_assign rfl (by rfl) (by rfl)) ?_
            (try simp only [zP, zN, zA, zB, zC])
            refine nl_ (hK71 _ _ ?_); clear hK71 K71
            refine s_ (fun K79 hK79 => ?_)
            refine ld_ (v := .agg ((#[.slice A41 E2.L.length z42, .int .i64 E2.last]))) rfl (by rfl) (by rfl) (run_loadVar_row _ _ 44 44 ((#[.slice A41 E2.L.length z42, .int .i64 E2.last])) (0, 0) _ Fgq.out Tryd.underlying44 rfl (by kernel_rfl)) ?_
            (try simp only [zP, zN, zA, zB, zC])
            refine pu_ (v := .int .i64 ask) (y_move rfl (by rfl) (by rfl)) ?_
            (try simp only [zP, zN, zA, zB, zC])
            refine ef_ (fun K80 hK80 => ?_)
            refine e_call Tryd.func18 (by kernel_rfl) rfl #[.agg ((#[.slice A41 E2.L.length z42, .int .i64 E2.last])), .int .i64 ask] (by rfl) rfl rfl (by first | rfl | (simp only [List.map_toArray, List.map_cons, List.map_nil]; first | done | rfl)) ((by have h9 := rindex_l (id := ask) (E := E2) ⟨SQ.out, HZ2.out⟩ (by have := HF2.out.1; omega); rw [HFX.out] at h9; exact h9)) ?_
            rintro en w82 ⟨rfl, cc81⟩
            refine ⟨_, rfl, ?_⟩
            have C0' := Lib.hid (show Ch [] w w82 from C0.out.trans' cc81 (fun x hx => absurd hx (by simp)))
            have EX' := Lib.hid (show ExIs w82 w.heap.size Bs73 x (64 * k + 64) (E2) from EX.out.ch cc81 (fun _ _ h => absurd h (by simp)))
            have Fgq' := Lib.hid (show Blk w82 gq ((#[.slice A41 E2.L.length z42, .int .i64 E2.last])) 44 from cc81.blk Fgq.out nin_nil)
            have SL' := Lib.hid (show SrcIs w82 (.slice (some a) L.length z) (L.length) (L.flatMap actC) 6 from SL.out.chx cc81 xnin_nil)
            have SQ' := Lib.hid (show SrcIs w82 (.slice A41 E2.L.length z42) (E2.L.length) (E2.L.flatMap sesC) 6 from SQ.out.chx cc81 xnin_nil)
            have Fg50' := Lib.hid (show Blk w82 g50 (#[.slice A41 E2.L.length z42, .int .i64 E2.last]) 44 from cc81.blk Fg50.out nin_nil)
            clear C0 EX Fgq SL SQ Fg50
            have C0 := C0'; clear C0'
            have EX := EX'; clear EX'
            have Fgq := Fgq'; clear Fgq'
            have SL := SL'; clear SL'
            have SQ := SQ'; clear SQ'
            have Fg50 := Fg50'; clear Fg50'
            clear cc81
            refine hK80 _ _ ?_; clear hK80 K80
            (try simp only [zP, zN, zA, zB, zC])
            refine pu_ (v := .int .i64 (-1)) (y_assign rfl (by rfl) (by rfl)) ?_
            (try simp only [zP, zN, zA, zB, zC])
            refine nl_ (hK79 _ _ ?_); clear hK79 K79
            refine s_ (fun K83 hK83 => ?_)
            refine pu_ (v := .agg #[.int .i64 0, .int .i64 0, .int .i64 0, .bool false, .string ⟨#[]⟩, .string ⟨#[]⟩]) (y_build (vs := #[]) (by rfl) rfl (by first | rfl | (simp only [List.map_toArray, List.map_cons, List.map_nil]; first | done | rfl)) (by kernel_rfl)) ?_
            (try simp only [zP, zN, zA, zB, zC])
            refine ef_ (fun K84 hK84 => ?_)
            refine e_alloc (by rfl) rfl rfl (cs := #[.int .i64 0, .int .i64 0, .int .i64 0, .bool false, .string ⟨#[]⟩, .string ⟨#[]⟩]) (by kernel_rfl) ?_
            rintro g85 w86 HG87 B88 C89
            have nw90 := Lib.hid (show w.heap.size ≤ g85 by have := C0.out.size; have := HG87.out; omega)
            have hs91 := Lib.hid (show g85 ∉ Bs73 from fun hk => by have h8 := (EX.out.lt _ hk).2; have := HG87.out; omega)
            have nx92 := Lib.hid (SL.out.ne_new (by decide) HG87)
            have nx93 := Lib.hid (SQ.out.ne_new (by decide) HG87)
            have C0' := Lib.hid (show Ch [] w w86 from C0.out.trans' C89 (fun x hx => absurd hx (by simp)))
            have EX' := Lib.hid (show ExIs w86 w.heap.size Bs73 x (64 * k + 64) (E2) from EX.out.ch C89 (fun _ _ h => absurd h (by simp)))
            have Fgq' := Lib.hid (show Blk w86 gq ((#[.slice A41 E2.L.length z42, .int .i64 E2.last])) 44 from C89.blk Fgq.out nin_nil)
            have SL' := Lib.hid (show SrcIs w86 (.slice (some a) L.length z) (L.length) (L.flatMap actC) 6 from SL.out.chx C89 xnin_nil)
            have SQ' := Lib.hid (show SrcIs w86 (.slice A41 E2.L.length z42) (E2.L.length) (E2.L.flatMap sesC) 6 from SQ.out.chx C89 xnin_nil)
            have Fg50' := Lib.hid (show Blk w86 g50 (#[.slice A41 E2.L.length z42, .int .i64 E2.last]) 44 from C89.blk Fg50.out nin_nil)
            clear C0 EX Fgq SL SQ Fg50
            have C0 := C0'; clear C0'
            have EX := EX'; clear EX'
            have Fgq := Fgq'; clear Fgq'
            have SL := SL'; clear SL'
            have SQ := SQ'; clear SQ'
            have Fg50 := Fg50'; clear Fg50'
            have Fg85 := Lib.hid (show Blk w86 g85 (#[.int .i64 0, .int .i64 0, .int .i64 0, .bool false, .string ⟨#[]⟩, .string ⟨#[]⟩]) 49 from B88); clear B88 C89
            refine hK84 _ _ ?_; clear hK84 K84
            (try simp only [zP, zN, zA, zB, zC])
            refine ef_ (fun K94 hK94 => ?_)
            refine e_storeN (cells := #[.int .i64 0, .int .i64 0, .int .i64 0, .bool false, .string ⟨#[]⟩, .string ⟨#[]⟩]) (by rfl) rfl rfl (by rfl) (by rfl) Fg85.out (by kernel_rfl) (by rfl) (ones_cons rfl (ones_cons rfl (ones_cons rfl (ones_cons rfl (ones_cons rfl (ones_cons rfl ones_nil)))))) ?_
            rintro w95 B96 C97
            have C0' := Lib.hid (show Ch [] w w95 from C0.out.trans' C97 (inw_cons (.inr nw90.out) inw_nil))
            have EX' := Lib.hid (show ExIs w95 w.heap.size Bs73 x (64 * k + 64) (E2) from EX.out.ch C97 (fun k hk hm => (List.mem_cons.1 hm).elim (fun e => hs91.out (e ▸ hk)) (fun h => (fun _ _ h => absurd h (by simp)) k hk h)))
            have Fgq' := Lib.hid (show Blk w95 gq ((#[.slice A41 E2.L.length z42, .int .i64 E2.last])) 44 from C97.blk Fgq.out (nin_cons (Blk.ne_type Fgq.out Fg85.out (by decide)) nin_nil))
            have SL' := Lib.hid (show SrcIs w95 (.slice (some a) L.length z) (L.length) (L.flatMap actC) 6 from SL.out.chx C97 (xnin_cons nx92.out xnin_nil))
            have SQ' := Lib.hid (show SrcIs w95 (.slice A41 E2.L.length z42) (E2.L.length) (E2.L.flatMap sesC) 6 from SQ.out.chx C97 (xnin_cons nx93.out xnin_nil))
            have Fg50' := Lib.hid (show Blk w95 g50 (#[.slice A41 E2.L.length z42, .int .i64 E2.last]) 44 from C97.blk Fg50.out (nin_cons (Blk.ne_type Fg50.out Fg85.out (by decide)) nin_nil))
            clear C0 EX Fgq SL SQ Fg50
            have C0 := C0'; clear C0'
            have EX := EX'; clear EX'
            have Fgq := Fgq'; clear Fgq'
            have SL := SL'; clear SL'
            have SQ := SQ'; clear SQ'
            have Fg50 := Fg50'; clear Fg50'
            clear Fg85; have Fg85 := Lib.hid (show Blk w95 g85 (#[.int .i64 0, .int .i64 0, .int .i64 0, .bool false, .string ⟨#[]⟩, .string ⟨#[]⟩]) 49 from B96); clear B96 C97
            refine hK94 _ _ ?_; clear hK94 K94
            (try simp only [zP, zN, zA, zB, zC])
            refine nl_ (hK83 _ _ ?_); clear hK83 K83
            refine sq_ (fun K98 hK98 => ?_)
            refine s_ (fun K99 hK99 => ?_)
            refine pu_ (v := .int .i64 (-1)) (y_move rfl (by rfl) (by rfl)) ?_
            (try simp only [zP, zN, zA, zB, zC])
            refine pu_ (v := .bool false) (y_run (by rfl) (fun W => by have d := D60.out; go_simp)) ?_
            (try simp only [zP, zN, zA, zB, zC])
            refine nl_ (hK99 _ _ ?_); clear hK99 K99
            refine wp_cond_false rfl ?_
            refine wp_skip ?_
            refine th_norm (hK98 _ _ ?_); try clear hK98 K98
            refine sq_ (fun K100 hK100 => ?_)
            refine startk_ (S := fun W => Blk W gq ((#[.slice A41 E2.L.length z42, .int .i64 E2.last])) 44 ∧ Blk W g85 (#[.int .i64 0, .int .i64 0, .int .i64 0, .bool false, .string ⟨#[]⟩, .string ⟨#[]⟩]) 49 ∧ True) (ds := []) #[false, false, false, false, false, false, false, false, false, false, false, false, false, false, false, false, false, false, false, false, false, false, false, false, false, false, false, false, false, false, false, false, false, false, false, false] (by kernel_rfl) rfl rfl (fun W c => ⟨c.blk Fgq.out nin_nil, c.blk Fg85.out nin_nil, trivial⟩) (fun w101 C102 hS103 => ?_)
            have C0' := Lib.hid (show Ch [] w w101 from C0.out.trans' C102 (fun x hx => absurd hx (by simp)))
            have EX' := Lib.hid (show ExIs w101 w.heap.size Bs73 x (64 * k + 64) (E2) from EX.out.ch C102 (fun _ _ h => absurd h (by simp)))
            have Fgq' := Lib.hid (show Blk w101 gq ((#[.slice A41 E2.L.length z42, .int .i64 E2.last])) 44 from C102.blk Fgq.out nin_nil)
            have SL' := Lib.hid (show SrcIs w101 (.slice (some a) L.length z) (L.length) (L.flatMap actC) 6 from SL.out.chx C102 xnin_nil)
            have SQ' := Lib.hid (show SrcIs w101 (.slice A41 E2.L.length z42) (E2.L.length) (E2.L.flatMap sesC) 6 from SQ.out.chx C102 xnin_nil)
            have Fg50' := Lib.hid (show Blk w101 g50 (#[.slice A41 E2.L.length z42, .int .i64 E2.last]) 44 from C102.blk Fg50.out nin_nil)
            have Fg85' := Lib.hid (show Blk w101 g85 (#[.int .i64 0, .int .i64 0, .int .i64 0, .bool false, .string ⟨#[]⟩, .string ⟨#[]⟩]) 49 from C102.blk Fg85.out nin_nil)
            clear C0 EX Fgq SL SQ Fg50 Fg85
            have C0 := C0'; clear C0'
            have EX := EX'; clear EX'
            have Fgq := Fgq'; clear Fgq'
            have SL := SL'; clear SL'
            have SQ := SQ'; clear SQ'
            have Fg50 := Fg50'; clear Fg50'
            have Fg85 := Fg85'; clear Fg85'
            clear C102
            refine pure_ (i := 0) (N := some 66) (v := .bool true) #[true, false, false, false, false, false, false, false, false, false, false, false, false, false, false, false, false, false, false, false, false, false, false, false, false, false, false, false, false, false, false, false, false, false, false, false] rfl rfl (by kernel_rfl) (fun c a w h => hP c a _ _ w h) (y_move rfl (by rfl) (by rfl)) rfl ?_
            (try simp only [zP, zN, zA, zB, zC])
            refine pure_ (i := 1) (N := some 67) (v := .bool false) #[true, true, false, false, false, false, false, false, false, false, false, false, false, false, false, false, false, false, false, false, false, false, false, false, false, false, false, false, false, false, false, false, false, false, false, false] rfl rfl (by kernel_rfl) (fun c a w h => hP c a _ _ w h) (y_run (by rfl) (fun W => by go_simp)) rfl ?_
            (try simp only [zP, zN, zA, zB, zC])
            refine pure_ (i := 2) (N := some 68) (v := .bool false) #[true, true, true, false, false, false, false, false, false, false, false, false, false, false, false, false, false, false, false, false, false, false, false, false, false, false, false, false, false, false, false, false, false, false, false, false] rfl rfl (by kernel_rfl) (fun c a w h => hP c a _ _ w h) (y_move rfl (by rfl) (by rfl)) rfl ?_
            (try simp only [zP, zN, zA, zB, zC])
            refine pure_ (i := 3) (N := some 69) (v := .pointer (some ⟨x, 0, none⟩)) #[true, true, true, true, false, false, false, false, false, false, false, false, false, false, false, false, false, false, false, false, false, false, false, false, false, false, false, false, false, false, false, false, false, false, false, false] rfl rfl (by kernel_rfl) (fun c a w h => hP c a _ _ w h) (y_move rfl (by rfl) (by rfl)) rfl ?_
            (try simp only [zP, zN, zA, zB, zC])
            refine pure_ (i := 5) (N := some 71) (v := .pointer (some ⟨gq, 0, none⟩)) #[true, true, true, true, false, true, false, false, false, false, false, false, false, false, false, false, false, false, false, false, false, false, false, false, false, false, false, false, false, false, false, false, false, false, false, false] rfl rfl (by kernel_rfl) (fun c a w h => hP c a _ _ w h) (y_run (by rfl) (fun W => by go_simp)) rfl ?_
            (try simp only [zP, zN, zA, zB, zC])
            refine take_ (i := 6) (N := some 72) (v := .slice A41 E2.L.length z42) #[true, true, true, true, false, true, true, false, false, false, false, false, false, false, false, false, false, false, false, false, false, false, false, false, false, false, false, false, false, false, false, false, false, false, false, false] rfl rfl (by kernel_rfl) (fun c a w h => hP c a _ _ w h) (y_load (p := ⟨gq, 0, none⟩) rfl (by rfl) (by rfl) (fun W hS => run_load_one ((hS.1.cell 0).trans rfl) Tryd.underlying42 rfl)) hS103 rfl ?_
            (try simp only [zP, zN, zA, zB, zC])
            refine pure_ (i := 7) (N := some 73) (v := .int .i64 E2.L.length) #[true, true, true, true, false, true, true, true, false, false, false, false, false, false, false, false, false, false, false, false, false, false, false, false, false, false, false, false, false, false, false, false, false, false, false, false] rfl rfl (by kernel_rfl) (fun c a w h => hP c a _ _ w h) (y_run (by rfl) (fun W => by go_simp)) rfl ?_
            (try simp only [zP, zN, zA, zB, zC])
            refine one_ (i := 4) (N := some 70) #[true, true, true, true, true, true, true, true, false, false, false, false, false, false, false, false, false, false, false, false, false, false, false, false, false, false, false, false, false, false, false, false, false, false, false, false] rfl rfl (by kernel_rfl) (by simp) (fun K104 hK104 => ?_)
            refine e_call Tryd.func19 (by kernel_rfl) rfl #[.pointer (some ⟨x, 0, none⟩)] (by rfl) rfl rfl (by first | rfl | (simp only [List.map_toArray, List.map_cons, List.map_nil]; first | done | rfl)) ((len_l EX.out (by have := HF2.out.1; omega))) ?_
            rintro en w106 ⟨rfl, Bs105, bk, cc, bel⟩
            refine ⟨_, rfl, ?_⟩
            have hs107 := Lib.hid (show gq ∉ Bs105 from fun h9 => (bel _ h9).elim hs75.out (fun h8 => by have := Fgq.out.lt; omega))
            have hs108 := Lib.hid (show g50 ∉ Bs105 from fun h9 => (bel _ h9).elim hs76.out (fun h8 => by have := Fg50.out.lt; omega))
            have hs109 := Lib.hid (show g85 ∉ Bs105 from fun h9 => (bel _ h9).elim hs91.out (fun h8 => by have := Fg85.out.lt; omega))
            have hr110 := Lib.hid (show ∀ k_, k_ ∈ xb (.slice (some a) L.length z) → k_ ∉ Bs105 from fun k_ hk_ hB_ => (bel k_ hB_).elim (hr77.out k_ hk_) (fun h8 => by have := SL.out.lt (by decide) k_ hk_; omega))
            have hr111 := Lib.hid (show ∀ k_, k_ ∈ xb (.slice A41 E2.L.length z42) → k_ ∉ Bs105 from fun k_ hk_ hB_ => (bel k_ hB_).elim (hr78.out k_ hk_) (fun h8 => by have := SQ.out.lt (by decide) k_ hk_; omega))
            have C0' := Lib.hid (show Ch [] w w106 from C0.out.trans' cc (fun x hx => .inr (EX.out.lt x hx).1))
            have Fgq' := Lib.hid (show Blk w106 gq ((#[.slice A41 E2.L.length z42, .int .i64 E2.last])) 44 from cc.blk Fgq.out hs75.out)
            have SL' := Lib.hid (show SrcIs w106 (.slice (some a) L.length z) (L.length) (L.flatMap actC) 6 from SL.out.chx cc hr77.out)
            have SQ' := Lib.hid (show SrcIs w106 (.slice A41 E2.L.length z42) (E2.L.length) (E2.L.flatMap sesC) 6 from SQ.out.chx cc hr78.out)
            have Fg50' := Lib.hid (show Blk w106 g50 (#[.slice A41 E2.L.length z42, .int .i64 E2.last]) 44 from cc.blk Fg50.out hs76.out)
            have Fg85' := Lib.hid (show Blk w106 g85 (#[.int .i64 0, .int .i64 0, .int .i64 0, .bool false, .string ⟨#[]⟩, .string ⟨#[]⟩]) 49 from cc.blk Fg85.out hs91.out)
            clear C0 Fgq SL SQ Fg50 Fg85
            have C0 := C0'; clear C0'
            have Fgq := Fgq'; clear Fgq'
            have SL := SL'; clear SL'
            have SQ := SQ'; clear SQ'
            have Fg50 := Fg50'; clear Fg50'
            have Fg85 := Fg85'; clear Fg85'
            clear EX cc bel
            have EX := Lib.hid (show ExIs w106 w.heap.size Bs105 x (64 * k + 64) (E2) from bk)
            clear bk
            refine hK104.out _ _ ⟨Fgq.out, Fg85.out, trivial⟩ (fun hS112 => ?_); clear hK104 K104
            (try simp only [zP, zN, zA, zB, zC])
            refine pure_ (i := 8) (N := some 74) (v := .bool false) #[true, true, true, true, true, true, true, true, true, false, false, false, false, false, false, false, false, false, false, false, false, false, false, false, false, false, false, false, false, false, false, false, false, false, false, false] rfl rfl (by kernel_rfl) (fun c a w h => hP c a _ _ w h) (y_run (by rfl) (fun W => by first | (go_simp; done) | (go_simp; rfl) | (go_simp; decide))) rfl ?_
            (try simp only [zP, zN, zA, zB, zC])
            refine pure_ (i := 9) (N := some 75) (v := .bool false) #[true, true, true, true, true, true, true, true, true, true, false, false, false, false, false, false, false, false, false, false, false, false, false, false, false, false, false, false, false, false, false, false, false, false, false, false] rfl rfl (by kernel_rfl) (fun c a w h => hP c a _ _ w h) (y_pick (t := false) (by rfl) rfl (by rfl) (by rfl)) rfl ?_
            (try simp only [zP, zN, zA, zB, zC])
            refine pure_ (i := 10) (N := some 76) (v := .bool false) #[true, true, true, true, true, true, true, true, true, true, true, false, false, false, false, false, false, false, false, false, false, false, false, false, false, false, false, false, false, false, false, false, false, false, false, false] rfl rfl (by kernel_rfl) (fun c a w h => hP c a _ _ w h) (y_move rfl (by rfl) (by rfl)) rfl ?_
            (try simp only [zP, zN, zA, zB, zC])
            refine pure_ (i := 11) (N := some 77) (v := .int .i64 0) #[true, true, true, true, true, true, true, true, true, true, true, true, false, false, false, false, false, false, false, false, false, false, false, false, false, false, false, false, false, false, false, false, false, false, false, false] rfl rfl (by kernel_rfl) (fun c a w h => hP c a _ _ w h) (y_move rfl (by rfl) (by rfl)) rfl ?_
            (try simp only [zP, zN, zA, zB, zC])
            refine pure_ (i := 12) (N := some 78) (v := .pointer (some ⟨g85, 1, none⟩)) #[true, true, true, true, true, true, true, true, true, true, true, true, true, false, false, false, false, false, false, false, false, false, false, false, false, false, false, false, false, false, false, false, false, false, false, false] rfl rfl (by kernel_rfl) (fun c a w h => hP c a _ _ w h) (y_run (by rfl) (fun W => by go_simp)) rfl ?_
            (try simp only [zP, zN, zA, zB, zC])
            refine take_ (i := 13) (N := some 79) (v := .int .i64 0) #[true, true, true, true, true, true, true, true, true, true, true, true, true, true, false, false, false, false, false, false, false, false, false, false, false, false, false, false, false, false, false, false, false, false, false, false] rfl rfl (by kernel_rfl) (fun c a w h => hP c a _ _ w h) (y_load (p := ⟨g85, 1, none⟩) rfl (by rfl) (by rfl) (fun W hS => run_load_one ((hS.2.1.cell 1).trans rfl) Tryd.underlying3 rfl)) hS112 rfl ?_
            (try simp only [zP, zN, zA, zB, zC])
            refine pure_ (i := 14) (N := some 80) (v := .bool false) #[true, true, true, true, true, true, true, true, true, true, true, true, true, true, true, false, false, false, false, false, false, false, false, false, false, false, false, false, false, false, false, false, false, false, false, false] rfl rfl (by kernel_rfl) (fun c a w h => hP c a _ _ w h) (y_run (by rfl) (fun W => by first | (go_simp; done) | (go_simp; rfl) | (go_simp; decide))) rfl ?_
            (try simp only [zP, zN, zA, zB, zC])
            refine pure_ (i := 15) (N := some 81) (v := .bool false) #[true, true, true, true, true, true, true, true, true, true, true, true, true, true, true, true, false, false, false, false, false, false, false, false, false, false, false, false, false, false, false, false, false, false, false, false] rfl rfl (by kernel_rfl) (fun c a w h => hP c a _ _ w h) (y_pick (t := false) (by rfl) rfl (by rfl) (by rfl)) rfl ?_
            (try simp only [zP, zN, zA, zB, zC])
            refine pure_ (i := 16) (N := some 82) (v := .bool false) #[true, true, true, true, true, true, true, true, true, true, true, true, true, true, true, true, true, false, false, false, false, false, false, false, false, false, false, false, false, false, false, false, false, false, false, false] rfl rfl (by kernel_rfl) (fun c a w h => hP c a _ _ w h) (y_move rfl (by rfl) (by rfl)) rfl ?_
            (try simp only [zP, zN, zA, zB, zC])
            refine pure_ (i := 17) (N := some 83) (v := .int .i64 0) #[true, true, true, true, true, true, true, true, true, true, true, true, true, true, true, true, true, true, false, false, false, false, false, false, false, false, false, false, false, false, false, false, false, false, false, false] rfl rfl (by kernel_rfl) (fun c a w h => hP c a _ _ w h) (y_move rfl (by rfl) (by rfl)) rfl ?_
            (try simp only [zP, zN, zA, zB, zC])
            refine pure_ (i := 18) (N := some 84) (v := .pointer (some ⟨g85, 2, none⟩)) #[true, true, true, true, true, true, true, true, true, true, true, true, true, true, true, true, true, true, true, false, false, false, false, false, false, false, false, false, false, false, false, false, false, false, false, false] rfl rfl (by kernel_rfl) (fun c a w h => hP c a _ _ w h) (y_run (by rfl) (fun W => by go_simp)) rfl ?_
            (try simp only [zP, zN, zA, zB, zC])
            refine take_ (i := 19) (N := some 85) (v := .int .i64 0) #[true, true, true, true, true, true, true, true, true, true, true, true, true, true, true, true, true, true, true, true, false, false, false, false, false, false, false, false, false, false, false, false, false, false, false, false] rfl rfl (by kernel_rfl) (fun c a w h => hP c a _ _ w h) (y_load (p := ⟨g85, 2, none⟩) rfl (by rfl) (by rfl) (fun W hS => run_load_one ((hS.2.1.cell 2).trans rfl) Tryd.underlying3 rfl)) hS112 rfl ?_
            (try simp only [zP, zN, zA, zB, zC])
            refine pure_ (i := 20) (N := some 86) (v := .bool false) #[true, true, true, true, true, true, true, true, true, true, true, true, true, true, true, true, true, true, true, true, true, false, false, false, false, false, false, false, false, false, false, false, false, false, false, false] rfl rfl (by kernel_rfl) (fun c a w h => hP c a _ _ w h) (y_run (by rfl) (fun W => by first | (go_simp; done) | (go_simp; rfl) | (go_simp; decide))) rfl ?_
            (try simp only [zP, zN, zA, zB, zC])
            refine pure_ (i := 21) (N := some 87) (v := .bool false) #[true, true, true, true, true, true, true, true, true, true, true, true, true, true, true, true, true, true, true, true, true, true, false, false, false, false, false, false, false, false, false, false, false, false, false, false] rfl rfl (by kernel_rfl) (fun c a w h => hP c a _ _ w h) (y_pick (t := false) (by rfl) rfl (by rfl) (by rfl)) rfl ?_
            (try simp only [zP, zN, zA, zB, zC])
            refine pure_ (i := 22) (N := some 88) (v := .bool false) #[true, true, true, true, true, true, true, true, true, true, true, true, true, true, true, true, true, true, true, true, true, true, true, false, false, false, false, false, false, false, false, false, false, false, false, false] rfl rfl (by kernel_rfl) (fun c a w h => hP c a _ _ w h) (y_move rfl (by rfl) (by rfl)) rfl ?_
            (try simp only [zP, zN, zA, zB, zC])
            refine pure_ (i := 23) (N := some 89) (v := .bool false) #[true, true, true, true, true, true, true, true, true, true, true, true, true, true, true, true, true, true, true, true, true, true, true, true, false, false, false, false, false, false, false, false, false, false, false, false] rfl rfl (by kernel_rfl) (fun c a w h => hP c a _ _ w h) (y_move rfl (by rfl) (by rfl)) rfl ?_
            (try simp only [zP, zN, zA, zB, zC])
            refine pure_ (i := 24) (N := some 90) (v := .pointer (some ⟨g85, 3, none⟩)) #[true, true, true, true, true, true, true, true, true, true, true, true, true, true, true, true, true, true, true, true, true, true, true, true, true, false, false, false, false, false, false, false, false, false, false, false] rfl rfl (by kernel_rfl) (fun c a w h => hP c a _ _ w h) (y_run (by rfl) (fun W => by go_simp)) rfl ?_
            (try simp only [zP, zN, zA, zB, zC])
            refine take_ (i := 25) (N := some 91) (v := .bool false) #[true, true, true, true, true, true, true, true, true, true, true, true, true, true, true, true, true, true, true, true, true, true, true, true, true, true, false, false, false, false, false, false, false, false, false, false] rfl rfl (by kernel_rfl) (fun c a w h => hP c a _ _ w h) (y_load (p := ⟨g85, 3, none⟩) rfl (by rfl) (by rfl) (fun W hS => run_load_one ((hS.2.1.cell 3).trans rfl) Tryd.underlying4 rfl)) hS112 rfl ?_
            (try simp only [zP, zN, zA, zB, zC])
            refine pure_ (i := 26) (N := some 92) (v := .bool false) #[true, true, true, true, true, true, true, true, true, true, true, true, true, true, true, true, true, true, true, true, true, true, true, true, true, true, true, false, false, false, false, false, false, false, false, false] rfl rfl (by kernel_rfl) (fun c a w h => hP c a _ _ w h) (y_run (by rfl) (fun W => by first | (go_simp; done) | (go_simp; rfl) | (go_simp; decide))) rfl ?_
            (try simp only [zP, zN, zA, zB, zC])
            refine pure_ (i := 27) (N := some 93) (v := .bool false) #[true, true, true, true, true, true, true, true, true, true, true, true, true, true, true, true, true, true, true, true, true, true, true, true, true, true, true, true, false, false, false, false, false, false, false, false] rfl rfl (by kernel_rfl) (fun c a w h => hP c a _ _ w h) (y_pick (t := false) (by rfl) rfl (by rfl) (by rfl)) rfl ?_
            (try simp only [zP, zN, zA, zB, zC])
            refine pure_ (i := 28) (N := some 94) (v := .bool false) #[true, true, true, true, true, true, true, true, true, true, true, true, true, true, true, true, true, true, true, true, true, true, true, true, true, true, true, true, true, false, false, false, false, false, false, false] rfl rfl (by kernel_rfl) (fun c a w h => hP c a _ _ w h) (y_move rfl (by rfl) (by rfl)) rfl ?_
            (try simp only [zP, zN, zA, zB, zC])
            refine pure_ (i := 29) (N := some 95) (v := .pointer (some ⟨x, 0, none⟩)) #[true, true, true, true, true, true, true, true, true, true, true, true, true, true, true, true, true, true, true, true, true, true, true, true, true, true, true, true, true, true, false, false, false, false, false, false] rfl rfl (by kernel_rfl) (fun c a w h => hP c a _ _ w h) (y_move rfl (by rfl) (by rfl)) rfl ?_
            (try simp only [zP, zN, zA, zB, zC])
            refine take_ (i := 31) (N := some 97) (v := .agg ((#[.slice A41 E2.L.length z42, .int .i64 E2.last]))) #[true, true, true, true, true, true, true, true, true, true, true, true, true, true, true, true, true, true, true, true, true, true, true, true, true, true, true, true, true, true, false, true, false, false, false, false] rfl rfl (by kernel_rfl) (fun c a w h => hP c a _ _ w h) (y_load (p := ⟨gq, 0, none⟩) rfl (by rfl) (by rfl) (fun W hS => run_loadVar_row _ _ 44 44 ((#[.slice A41 E2.L.length z42, .int .i64 E2.last])) (0, 0) _ hS.1 Tryd.underlying44 rfl (by kernel_rfl))) hS112 rfl ?_
            (try simp only [zP, zN, zA, zB, zC])
            refine one_ (i := 30) (N := some 96) #[true, true, true, true, true, true, true, true, true, true, true, true, true, true, true, true, true, true, true, true, true, true, true, true, true, true, true, true, true, true, true, true, false, false, false, false] rfl rfl (by kernel_rfl) (by simp) (fun K113 hK113 => ?_)
            refine e_call Tryd.func21 (by kernel_rfl) rfl #[.pointer (some ⟨x, 0, none⟩)] (by rfl) rfl rfl (by first | rfl | (simp only [List.map_toArray, List.map_cons, List.map_nil]; first | done | rfl)) ((busy_l EX.out (by have := HF2.out.1; omega) (by have := hlt.out; omega))) ?_
            rintro en w116 ⟨vOB, rfl, OB0, cc115⟩
            refine ⟨_, rfl, ?_⟩
            have hr114 := OB0.lt
            have rw117 := Lib.hid (show ∀ z_, z_ ∈ rl vOB → z_ ∈ [] ∨ w.heap.size ≤ z_ from fun x hx => .inr (by have := (fun k hk => (hr114 k hk).1) x hx; have := C0.out.size; omega))
            have xr118 := Lib.hid (show ∀ k, k ∈ xb (.slice (some a) L.length z) → k ∉ rl vOB from fun k hk hm => by have := (fun k hk => (hr114 k hk).1) k hm; have := SL.out.lt (by decide) k hk; omega)
            have xr119 := Lib.hid (show ∀ k, k ∈ xb (.slice A41 E2.L.length z42) → k ∉ rl vOB from fun k hk hm => by have := (fun k hk => (hr114 k hk).1) k hm; have := SQ.out.lt (by decide) k hk; omega)
            have C0' := Lib.hid (show Ch [] w w116 from C0.out.trans' cc115 (fun x hx => absurd hx (by simp)))
            have EX' := Lib.hid (show ExIs w116 w.heap.size Bs105 x (64 * k + 64) (E2) from EX.out.ch cc115 (fun _ _ h => absurd h (by simp)))
            have Fgq' := Lib.hid (show Blk w116 gq ((#[.slice A41 E2.L.length z42, .int .i64 E2.last])) 44 from cc115.blk Fgq.out nin_nil)
            have SL' := Lib.hid (show SrcIs w116 (.slice (some a) L.length z) (L.length) (L.flatMap actC) 6 from SL.out.chx cc115 xnin_nil)
            have SQ' := Lib.hid (show SrcIs w116 (.slice A41 E2.L.length z42) (E2.L.length) (E2.L.flatMap sesC) 6 from SQ.out.chx cc115 xnin_nil)
            have Fg50' := Lib.hid (show Blk w116 g50 (#[.slice A41 E2.L.length z42, .int .i64 E2.last]) 44 from cc115.blk Fg50.out nin_nil)
            have Fg85' := Lib.hid (show Blk w116 g85 (#[.int .i64 0, .int .i64 0, .int .i64 0, .bool false, .string ⟨#[]⟩, .string ⟨#[]⟩]) 49 from cc115.blk Fg85.out nin_nil)
            clear C0 EX Fgq SL SQ Fg50 Fg85
            have C0 := C0'; clear C0'
            have EX := EX'; clear EX'
            have Fgq := Fgq'; clear Fgq'
            have SL := SL'; clear SL'
            have SQ := SQ'; clear SQ'
            have Fg50 := Fg50'; clear Fg50'
            have Fg85 := Fg85'; clear Fg85'
            clear cc115
            have OB := Lib.hid (show OwnS w116 w106.heap.size 3 1 (vOB) ((busyL E2).length) ((busyL E2).flatMap intC) from OB0)
            obtain ⟨Ab, zb, hv_, -, -⟩ := OB.out.slice
            subst hv_
            refine hK113.out _ _ ⟨Fgq.out, Fg85.out, trivial⟩ (fun hS120 => ?_); clear hK113 K113
            (try simp only [zP, zN, zA, zB, zC])
            refine one_ (i := 32) (N := some 98) #[true, true, true, true, true, true, true, true, true, true, true, true, true, true, true, true, true, true, true, true, true, true, true, true, true, true, true, true, true, true, true, true, true, false, false, false] rfl rfl (by kernel_rfl) (by simp) (fun K121 hK121 => ?_)
            refine e_call Tryd.func22 (by kernel_rfl) rfl #[.agg ((#[.slice A41 E2.L.length z42, .int .i64 E2.last]))] (by rfl) rfl rfl (by first | rfl | (simp only [List.map_toArray, List.map_cons, List.map_nil]; first | done | rfl)) ((rbusy_l (E := E2) ⟨SQ.out, HZ2.out⟩ (by have := HF2.out.1; omega))) ?_
            rintro en w124 ⟨vOC, rfl, OC0, cc123⟩
            refine ⟨_, rfl, ?_⟩
            have hr122 := OC0.lt
            have rw125 := Lib.hid (show ∀ z_, z_ ∈ rl vOC → z_ ∈ [] ∨ w.heap.size ≤ z_ from fun x hx => .inr (by have := (fun k hk => (hr122 k hk).1) x hx; have := C0.out.size; omega))
            have xr126 := Lib.hid (show ∀ k, k ∈ xb (.slice (some a) L.length z) → k ∉ rl vOC from fun k hk hm => by have := (fun k hk => (hr122 k hk).1) k hm; have := SL.out.lt (by decide) k hk; omega)
            have xr127 := Lib.hid (show ∀ k, k ∈ xb (.slice A41 E2.L.length z42) → k ∉ rl vOC from fun k hk hm => by have := (fun k hk => (hr122 k hk).1) k hm; have := SQ.out.lt (by decide) k hk; omega)
            have rr128 := Lib.hid (show ∀ k, k ∈ rl (.slice Ab (busyL E2).length zb) → k ∉ rl vOC from fun k hk hm => by have := (fun k hk => (hr122 k hk).1) k hm; have := (OB.out.lt k hk).2; omega)
            have C0' := Lib.hid (show Ch [] w w124 from C0.out.trans' cc123 (fun x hx => absurd hx (by simp)))
            have EX' := Lib.hid (show ExIs w124 w.heap.size Bs105 x (64 * k + 64) (E2) from EX.out.ch cc123 (fun _ _ h => absurd h (by simp)))
            have Fgq' := Lib.hid (show Blk w124 gq ((#[.slice A41 E2.L.length z42, .int .i64 E2.last])) 44 from cc123.blk Fgq.out nin_nil)
            have SL' := Lib.hid (show SrcIs w124 (.slice (some a) L.length z) (L.length) (L.flatMap actC) 6 from SL.out.chx cc123 xnin_nil)
            have SQ' := Lib.hid (show SrcIs w124 (.slice A41 E2.L.length z42) (E2.L.length) (E2.L.flatMap sesC) 6 from SQ.out.chx cc123 xnin_nil)
            have Fg50' := Lib.hid (show Blk w124 g50 (#[.slice A41 E2.L.length z42, .int .i64 E2.last]) 44 from cc123.blk Fg50.out nin_nil)
            have Fg85' := Lib.hid (show Blk w124 g85 (#[.int .i64 0, .int .i64 0, .int .i64 0, .bool false, .string ⟨#[]⟩, .string ⟨#[]⟩]) 49 from cc123.blk Fg85.out nin_nil)
            have OB' := Lib.hid (show OwnS w124 w106.heap.size 3 1 (.slice Ab (busyL E2).length zb) ((busyL E2).length) ((busyL E2).flatMap intC) from OB.out.ch cc123 rnin_nil)
            clear C0 EX Fgq SL SQ Fg50 Fg85 OB
            have C0 := C0'; clear C0'
            have EX := EX'; clear EX'
            have Fgq := Fgq'; clear Fgq'
            have SL := SL'; clear SL'
            have SQ := SQ'; clear SQ'
            have Fg50 := Fg50'; clear Fg50'
            have Fg85 := Fg85'; clear Fg85'
            have OB := OB'; clear OB'
            clear cc123
            have OC := Lib.hid (show OwnS w124 w116.heap.size 3 1 (vOC) ((busyL E2).length) ((busyL E2).flatMap intC) from OC0)
            obtain ⟨Ac, zc, hv_, -, -⟩ := OC.out.slice
            subst hv_
            refine hK121.out _ _ ⟨Fgq.out, Fg85.out, trivial⟩ (fun hS129 => ?_); clear hK121 K121
            (try simp only [zP, zN, zA, zB, zC])
            refine one_ (i := 33) (N := some 99) #[true, true, true, true, true, true, true, true, true, true, true, true, true, true, true, true, true, true, true, true, true, true, true, true, true, true, true, true, true, true, true, true, true, true, false, false] rfl rfl (by kernel_rfl) (by simp) (fun K130 hK130 => ?_)
            refine e_call Tryd.func20 (by kernel_rfl) rfl #[.slice Ab (busyL E2).length zb, .slice Ac (busyL E2).length zc] (by rfl) rfl rfl (by first | rfl | (simp only [List.map_toArray, List.map_cons, List.map_nil]; first | done | rfl)) ((same_ints (X := busyL E2) (Lib.hid rfl) (Lib.hid (by have := busyL_le E2; have := HF2.out.1; omega)) (Lib.hid OB.out.src) (Lib.hid OC.out.src))) ?_
            rintro en w132 ⟨rfl, cc131⟩
            refine ⟨_, rfl, ?_⟩
            have C0' := Lib.hid (show Ch [] w w132 from C0.out.trans' cc131 (fun x hx => absurd hx (by simp)))
            have EX' := Lib.hid (show ExIs w132 w.heap.size Bs105 x (64 * k + 64) (E2) from EX.out.ch cc131 (fun _ _ h => absurd h (by simp)))
            have Fgq' := Lib.hid (show Blk w132 gq ((#[.slice A41 E2.L.length z42, .int .i64 E2.last])) 44 from cc131.blk Fgq.out nin_nil)
            have SL' := Lib.hid (show SrcIs w132 (.slice (some a) L.length z) (L.length) (L.flatMap actC) 6 from SL.out.chx cc131 xnin_nil)
            have SQ' := Lib.hid (show SrcIs w132 (.slice A41 E2.L.length z42) (E2.L.length) (E2.L.flatMap sesC) 6 from SQ.out.chx cc131 xnin_nil)
            have Fg50' := Lib.hid (show Blk w132 g50 (#[.slice A41 E2.L.length z42, .int .i64 E2.last]) 44 from cc131.blk Fg50.out nin_nil)
            have Fg85' := Lib.hid (show Blk w132 g85 (#[.int .i64 0, .int .i64 0, .int .i64 0, .bool false, .string ⟨#[]⟩, .string ⟨#[]⟩]) 49 from cc131.blk Fg85.out nin_nil)
            have OB' := Lib.hid (show OwnS w132 w106.heap.size 3 1 (.slice Ab (busyL E2).length zb) ((busyL E2).length) ((busyL E2).flatMap intC) from OB.out.ch cc131 rnin_nil)
            have OC' := Lib.hid (show OwnS w132 w116.heap.size 3 1 (.slice Ac (busyL E2).length zc) ((busyL E2).length) ((busyL E2).flatMap intC) from OC.out.ch cc131 rnin_nil)
            clear C0 EX Fgq SL SQ Fg50 Fg85 OB OC
            have C0 := C0'; clear C0'
            have EX := EX'; clear EX'
            have Fgq := Fgq'; clear Fgq'
            have SL := SL'; clear SL'
            have SQ := SQ'; clear SQ'
            have Fg50 := Fg50'; clear Fg50'
            have Fg85 := Fg85'; clear Fg85'
            have OB := OB'; clear OB'
            have OC := OC'; clear OC'
            clear cc131
            refine hK130.out _ _ ⟨Fgq.out, Fg85.out, trivial⟩ (fun hS133 => ?_); clear hK130 K130
            (try simp only [zP, zN, zA, zB, zC])
            refine pure_ (i := 34) (N := some 100) (v := .bool false) #[true, true, true, true, true, true, true, true, true, true, true, true, true, true, true, true, true, true, true, true, true, true, true, true, true, true, true, true, true, true, true, true, true, true, true, false] rfl rfl (by kernel_rfl) (fun c a w h => hP c a _ _ w h) (y_run (by rfl) (fun W => by go_simp)) rfl ?_
            (try simp only [zP, zN, zA, zB, zC])
            refine pure_ (i := 35) (N := some 101) (v := .bool false) #[true, true, true, true, true, true, true, true, true, true, true, true, true, true, true, true, true, true, true, true, true, true, true, true, true, true, true, true, true, true, true, true, true, true, true, true] rfl rfl (by kernel_rfl) (fun c a w h => hP c a _ _ w h) (y_pick (t := false) (by rfl) rfl (by rfl) (by rfl)) rfl ?_
            (try simp only [zP, zN, zA, zB, zC])
            refine done_ (by kernel_rfl) (th_norm (hK100 _ _ ?_)); clear hK100 K100
            refine wp_cond_false rfl ?_
            refine wp_skip ?_
            refine ib_norm ?_
            refine th_norm (hK27 _ _ ?_); try clear hK27 K27
            refine r_ ?_
            refine pu_ (v := .int .i64 k) (y_move rfl (by rfl) (by rfl)) ?_
            (try simp only [zP, zN, zA, zB, zC])
            refine pu_ (v := .int .i64 (k + 1 : Nat)) (y_run (by rfl) (fun W => by have d := Wk.out; go_simp)) ?_
            (try simp only [zP, zN, zA, zB, zC])
            refine pu_ (v := .int .i64 (k + 1 : Nat)) (y_assign rfl (by rfl) (by rfl)) ?_
            (try simp only [zP, zN, zA, zB, zC])
            refine nl_ ?_
            exact th_norm (hK24 (kq - 1) _ _ (by have := hlt.out; have := hk.out; omega) ⟨k + 1, Bs105, E2, A41, z42, fun us_ => (#[.slice (some a) L.length z, .int .i64 ask, us 2, us 3, .bool false, .pointer (some ⟨x, 0, none⟩), .pointer (some ⟨gq, 0, none⟩), .int .i64 (k + 1 : Nat), .pointer (some ⟨g50, 0, none⟩), .bool true, .int .i64 0, .int .i64 0, .bool false, .int .i64 (-1), .pointer (some ⟨g85, 0, none⟩), us 15, us 16, us 17, us 18, .int .i64 k, .slice (some a) L.length z, .int .i64 L.length, .bool true, .bool true, .int .i64 k, .bool true, .bool true, .int .i64 k, .int .i64 (k + 1 : Nat), .slice (some a) L.length z, .int .i64 k, .pointer (some (a.add (k * 6))), .pointer (some ((a.add (k * 6)).add 5)), .string o.s, .int .i64 o.s.size, .bool false, us 36, .tuple #[.agg #[.slice A41 E2.L.length z42, .int .i64 E2.last], .bool true], .pointer (some ⟨x, 0, none⟩), .agg (#[.slice qa E.L.length zq, .int .i64 E.last]), .slice (some a) L.length z, .int .i64 k, .pointer (some (a.add (k * 6))), .agg #[.int .i64 o.kind, .int .i64 o.id, .int .i64 o.box, .int .i64 o.ctr, .int .i64 o.n, .string o.s], .tuple #[.agg #[.slice A41 E2.L.length z42, .int .i64 E2.last], .bool true], .agg #[.slice A41 E2.L.length z42, .int .i64 E2.last], .bool true, .agg (#[.slice A41 E2.L.length z42, .int .i64 E2.last]), .tuple #[.int .i64 0, .int .i64 0, .bool false], .pointer (some ⟨x, 0, none⟩), .int .i64 ask, .tuple #[.int .i64 0, .int .i64 0, .bool false], .int .i64 0, .int .i64 0, .bool false, .agg ((#[.slice A41 E2.L.length z42, .int .i64 E2.last])), .int .i64 ask, .int .i64 (-1), .agg #[.int .i64 0, .int .i64 0, .int .i64 0, .bool false, .string ⟨#[]⟩, .string ⟨#[]⟩], .int .i64 (-1), .bool false, us 61, us 62, us 63, us 64, us 65, .bool true, .bool false, .bool false, .pointer (some ⟨x, 0, none⟩), .int .i64 E2.L.length, .pointer (some ⟨gq, 0, none⟩), .slice A41 E2.L.length z42, .int .i64 E2.L.length, .bool false, .bool false, .bool false, .int .i64 0, .pointer (some ⟨g85, 1, none⟩), .int .i64 0, .bool false, .bool false, .bool false, .int .i64 0, .pointer (some ⟨g85, 2, none⟩), .int .i64 0, .bool false, .bool false, .bool false, .bool false, .pointer (some ⟨g85, 3, none⟩), .bool false, .bool false, .bool false, .bool false, .pointer (some ⟨x, 0, none⟩), .slice Ab (busyL E2).length zb, .agg ((#[.slice A41 E2.L.length z42, .int .i64 E2.last])), .slice Ac (busyL E2).length zc, .bool true, .bool false, .bool false, us 102, us 103, us 104, us 105, us 106, us 107, us 108, us 109, us 110] : Array Value).getD us_ undef, rfl, C0, Lib.hid (EX.out.up (by omega)), SQ, Fgq, SL, Lib.hid ⟨by have := hlt.out; omega, by have := hlt.out; omega, by have := hlt.out; have := hk.out; omega⟩, Lib.hid (by rw [HE2.out]; exact few_act hfew.out o), Lib.hid (by rw [HE2.out]; exact hlaw.out.act o), HZ2, hr111, hs107, nx45, hr110, hgx⟩)
          · have HS_ := Lib.hid hs
            have HJ := Lib.hid hj
            have HOF := Lib.hid (ofR_some h hs)
            have HFX := Lib.hid (show fxI ask E2.L = j by unfold fxI; rw [h])
            have D60 := Lib.hid (show (0 : Int) ≤ (j : Int) by omega)
            have D64 := Lib.hid (show (j : Int) < (E2.L.length : Int) by omega)
            clear h hs hj
            refine s_ (fun K134 hK134 => ?_)
            refine pu_ (v := .pointer (some ⟨x, 0, none⟩)) (y_move rfl (by rfl) (by rfl)) ?_
            (try simp only [zP, zN, zA, zB, zC])
            refine pu_ (v := .int .i64 ask) (y_move rfl (by rfl) (by rfl)) ?_
            (try simp only [zP, zN, zA, zB, zC])
            refine ef_ (fun K135 hK135 => ?_)
            refine e_call Tryd.func15 (by kernel_rfl) rfl #[.pointer (some ⟨x, 0, none⟩), .int .i64 ask] (by rfl) rfl rfl (by first | rfl | (simp only [List.map_toArray, List.map_cons, List.map_nil]; first | done | rfl)) ((by have h9 := of_l (id := ask) EX.out (by have := HF2.out.1; omega); rw [HOF.out] at h9; exact h9)) ?_
            rintro en w137 ⟨rfl, Bs136, bk, cc, bel⟩
            refine ⟨_, rfl, ?_⟩
            have hs138 := Lib.hid (show gq ∉ Bs136 from fun h9 => (bel _ h9).elim hs46.out (fun h8 => by have := Fgq.out.lt; omega))
            have hs139 := Lib.hid (show g50 ∉ Bs136 from fun h9 => (bel _ h9).elim hs56.out (fun h8 => by have := Fg50.out.lt; omega))
            have hr140 := Lib.hid (show ∀ k_, k_ ∈ xb (.slice (some a) L.length z) → k_ ∉ Bs136 from fun k_ hk_ hB_ => (bel k_ hB_).elim (xs47.out k_ hk_) (fun h8 => by have := SL.out.lt (by decide) k_ hk_; omega))
            have hr141 := Lib.hid (show ∀ k_, k_ ∈ xb (.slice A41 E2.L.length z42) → k_ ∉ Bs136 from fun k_ hk_ hB_ => (bel k_ hB_).elim (HQB.out k_ hk_) (fun h8 => by have := SQ.out.lt (by decide) k_ hk_; omega))
            have C0' := Lib.hid (show Ch [] w w137 from C0.out.trans' cc (fun x hx => .inr (EX.out.lt x hx).1))
            have Fgq' := Lib.hid (show Blk w137 gq ((#[.slice A41 E2.L.length z42, .int .i64 E2.last])) 44 from cc.blk Fgq.out hs46.out)
            have SL' := Lib.hid (show SrcIs w137 (.slice (some a) L.length z) (L.length) (L.flatMap actC) 6 from SL.out.chx cc xs47.out)
            have SQ' := Lib.hid (show SrcIs w137 (.slice A41 E2.L.length z42) (E2.L.length) (E2.L.flatMap sesC) 6 from SQ.out.chx cc HQB.out)
            have Fg50' := Lib.hid (show Blk w137 g50 (#[.slice A41 E2.L.length z42, .int .i64 E2.last]) 44 from cc.blk Fg50.out hs56.out)
            clear C0 Fgq SL SQ Fg50
            have C0 := C0'; clear C0'
            have Fgq := Fgq'; clear Fgq'
            have SL := SL'; clear SL'
            have SQ := SQ'; clear SQ'
            have Fg50 := Fg50'; clear Fg50'
            clear EX cc bel
            have EX := Lib.hid (show ExIs w137 w.heap.size Bs136 x (64 * k + 64) (E2) from bk)
            clear bk
            refine hK135 _ _ ?_; clear hK135 K135
            (try simp only [zP, zN, zA, zB, zC])
            refine pu_ (v := .tuple #[.int .i64 s.box, .int .i64 s.ctr, .bool s.op]) (y_move rfl (by rfl) (by rfl)) ?_
            (try simp only [zP, zN, zA, zB, zC])
            refine pu_ (v := .int .i64 s.box) (y_run (by rfl) (fun W => by go_simp)) ?_
            (try simp only [zP, zN, zA, zB, zC])
            refine pu_ (v := .int .i64 s.ctr) (y_run (by rfl) (fun W => by go_simp)) ?_
            (try simp only [zP, zN, zA, zB, zC])
            refine pu_ (v := .bool s.op) (y_run (by rfl) (fun W => by go_simp)) ?_
            (try simp only [zP, zN, zA, zB, zC])
            refine pu_ (v := .int .i64 s.box) (y_assign rfl (by rfl) (by rfl)) ?_
            (try simp only [zP, zN, zA, zB, zC])
            refine pu_ (v := .int .i64 s.ctr) (y_assign rfl (by rfl) (by rfl)) ?_
            (try simp only [zP, zN, zA, zB, zC])
            refine pu_ (v := .bool s.op) (y_assign rfl (by rfl) (by rfl)) ?_
            (try simp only [zP, zN, zA, zB, zC])
            refine nl_ (hK134 _ _ ?_); clear hK134 K134
            refine s_ (fun K142 hK142 => ?_)
            refine ld_ (v := .agg ((#[.slice A41 E2.L.length z42, .int .i64 E2.last]))) rfl (by rfl) (by rfl) (run_loadVar_row _ _ 44 44 ((#[.slice A41 E2.L.length z42, .int .i64 E2.last])) (0, 0) _ Fgq.out Tryd.underlying44 rfl (by kernel_rfl)) ?_
            (try simp only [zP, zN, zA, zB, zC])
            refine pu_ (v := .int .i64 ask) (y_move rfl (by rfl) (by rfl)) ?_
            (try simp only [zP, zN, zA, zB, zC])
            refine ef_ (fun K143 hK143 => ?_)
            refine e_call Tryd.func18 (by kernel_rfl) rfl #[.agg ((#[.slice A41 E2.L.length z42, .int .i64 E2.last])), .int .i64 ask] (by rfl) rfl rfl (by first | rfl | (simp only [List.map_toArray, List.map_cons, List.map_nil]; first | done | rfl)) ((by have h9 := rindex_l (id := ask) (E := E2) ⟨SQ.out, HZ2.out⟩ (by have := HF2.out.1; omega); rw [HFX.out] at h9; exact h9)) ?_
            rintro en w145 ⟨rfl, cc144⟩
            refine ⟨_, rfl, ?_⟩
            have C0' := Lib.hid (show Ch [] w w145 from C0.out.trans' cc144 (fun x hx => absurd hx (by simp)))
            have EX' := Lib.hid (show ExIs w145 w.heap.size Bs136 x (64 * k + 64) (E2) from EX.out.ch cc144 (fun _ _ h => absurd h (by simp)))
            have Fgq' := Lib.hid (show Blk w145 gq ((#[.slice A41 E2.L.length z42, .int .i64 E2.last])) 44 from cc144.blk Fgq.out nin_nil)
            have SL' := Lib.hid (show SrcIs w145 (.slice (some a) L.length z) (L.length) (L.flatMap actC) 6 from SL.out.chx cc144 xnin_nil)
            have SQ' := Lib.hid (show SrcIs w145 (.slice A41 E2.L.length z42) (E2.L.length) (E2.L.flatMap sesC) 6 from SQ.out.chx cc144 xnin_nil)
            have Fg50' := Lib.hid (show Blk w145 g50 (#[.slice A41 E2.L.length z42, .int .i64 E2.last]) 44 from cc144.blk Fg50.out nin_nil)
            clear C0 EX Fgq SL SQ Fg50
            have C0 := C0'; clear C0'
            have EX := EX'; clear EX'
            have Fgq := Fgq'; clear Fgq'
            have SL := SL'; clear SL'
            have SQ := SQ'; clear SQ'
            have Fg50 := Fg50'; clear Fg50'
            clear cc144
            refine hK143 _ _ ?_; clear hK143 K143
            (try simp only [zP, zN, zA, zB, zC])
            refine pu_ (v := .int .i64 j) (y_assign rfl (by rfl) (by rfl)) ?_
            (try simp only [zP, zN, zA, zB, zC])
            refine nl_ (hK142 _ _ ?_); clear hK142 K142
            refine s_ (fun K146 hK146 => ?_)
            refine pu_ (v := .agg #[.int .i64 0, .int .i64 0, .int .i64 0, .bool false, .string ⟨#[]⟩, .string ⟨#[]⟩]) (y_build (vs := #[]) (by rfl) rfl (by first | rfl | (simp only [List.map_toArray, List.map_cons, List.map_nil]; first | done | rfl)) (by kernel_rfl)) ?_
            (try simp only [zP, zN, zA, zB, zC])
            refine ef_ (fun K147 hK147 => ?_)
            refine e_alloc (by rfl) rfl rfl (cs := #[.int .i64 0, .int .i64 0, .int .i64 0, .bool false, .string ⟨#[]⟩, .string ⟨#[]⟩]) (by kernel_rfl) ?_
            rintro g148 w149 HG150 B151 C152
            have nw153 := Lib.hid (show w.heap.size ≤ g148 by have := C0.out.size; have := HG150.out; omega)
            have hs154 := Lib.hid (show g148 ∉ Bs136 from fun hk => by have h8 := (EX.out.lt _ hk).2; have := HG150.out; omega)
            have nx155 := Lib.hid (SL.out.ne_new (by decide) HG150)
            have nx156 := Lib.hid (SQ.out.ne_new (by decide) HG150)
            have C0' := Lib.hid (show Ch [] w w149 from C0.out.trans' C152 (fun x hx => absurd hx (by simp)))
            have EX' := Lib.hid (show ExIs w149 w.heap.size Bs136 x (64 * k + 64) (E2) from EX.out.ch C152 (fun _ _ h => absurd h (by simp)))
            have Fgq' := Lib.hid (show Blk w149 gq ((#[.slice A41 E2.L.length z42, .int .i64 E2.last])) 44 from C152.blk Fgq.out nin_nil)
            have SL' := Lib.hid (show SrcIs w149 (.slice (some a) L.length z) (L.length) (L.flatMap actC) 6 from SL.out.chx C152 xnin_nil)
            have SQ' := Lib.hid (show SrcIs w149 (.slice A41 E2.L.length z42) (E2.L.length) (E2.L.flatMap sesC) 6 from SQ.out.chx C152 xnin_nil)
            have Fg50' := Lib.hid (show Blk w149 g50 (#[.slice A41 E2.L.length z42, .int .i64 E2.last]) 44 from C152.blk Fg50.out nin_nil)
            clear C0 EX Fgq SL SQ Fg50
            have C0 := C0'; clear C0'
            have EX := EX'; clear EX'
            have Fgq := Fgq'; clear Fgq'
            have SL := SL'; clear SL'
            have SQ := SQ'; clear SQ'
            have Fg50 := Fg50'; clear Fg50'
            have Fg148 := Lib.hid (show Blk w149 g148 (#[.int .i64 0, .int .i64 0, .int .i64 0, .bool false, .string ⟨#[]⟩, .string ⟨#[]⟩]) 49 from B151); clear B151 C152
            refine hK147 _ _ ?_; clear hK147 K147
            (try simp only [zP, zN, zA, zB, zC])
            refine ef_ (fun K157 hK157 => ?_)
            refine e_storeN (cells := #[.int .i64 0, .int .i64 0, .int .i64 0, .bool false, .string ⟨#[]⟩, .string ⟨#[]⟩]) (by rfl) rfl rfl (by rfl) (by rfl) Fg148.out (by kernel_rfl) (by rfl) (ones_cons rfl (ones_cons rfl (ones_cons rfl (ones_cons rfl (ones_cons rfl (ones_cons rfl ones_nil)))))) ?_
            rintro w158 B159 C160
            have C0' := Lib.hid (show Ch [] w w158 from C0.out.trans' C160 (inw_cons (.inr nw153.out) inw_nil))
            have EX' := Lib.hid (show ExIs w158 w.heap.size Bs136 x (64 * k + 64) (E2) from EX.out.ch C160 (fun k hk hm => (List.mem_cons.1 hm).elim (fun e => hs154.out (e ▸ hk)) (fun h => (fun _ _ h => absurd h (by simp)) k hk h)))
            have Fgq' := Lib.hid (show Blk w158 gq ((#[.slice A41 E2.L.length z42, .int .i64 E2.last])) 44 from C160.blk Fgq.out (nin_cons (Blk.ne_type Fgq.out Fg148.out (by decide)) nin_nil))
            have SL' := Lib.hid (show SrcIs w158 (.slice (some a) L.length z) (L.length) (L.flatMap actC) 6 from SL.out.chx C160 (xnin_cons nx155.out xnin_nil))
            have SQ' := Lib.hid (show SrcIs w158 (.slice A41 E2.L.length z42) (E2.L.length) (E2.L.flatMap sesC) 6 from SQ.out.chx C160 (xnin_cons nx156.out xnin_nil))
            have Fg50' := Lib.hid (show Blk w158 g50 (#[.slice A41 E2.L.length z42, .int .i64 E2.last]) 44 from C160.blk Fg50.out (nin_cons (Blk.ne_type Fg50.out Fg148.out (by decide)) nin_nil))
            clear C0 EX Fgq SL SQ Fg50
            have C0 := C0'; clear C0'
            have EX := EX'; clear EX'
            have Fgq := Fgq'; clear Fgq'
            have SL := SL'; clear SL'
            have SQ := SQ'; clear SQ'
            have Fg50 := Fg50'; clear Fg50'
            clear Fg148; have Fg148 := Lib.hid (show Blk w158 g148 (#[.int .i64 0, .int .i64 0, .int .i64 0, .bool false, .string ⟨#[]⟩, .string ⟨#[]⟩]) 49 from B159); clear B159 C160
            refine hK157 _ _ ?_; clear hK157 K157
            (try simp only [zP, zN, zA, zB, zC])
            refine nl_ (hK146 _ _ ?_); clear hK146 K146
            refine sq_ (fun K161 hK161 => ?_)
            refine s_ (fun K162 hK162 => ?_)
            refine pu_ (v := .int .i64 j) (y_move rfl (by rfl) (by rfl)) ?_
            (try simp only [zP, zN, zA, zB, zC])
            refine pu_ (v := .bool true) (y_run (by rfl) (fun W => by have d := D60.out; go_simp)) ?_
            (try simp only [zP, zN, zA, zB, zC])
            refine nl_ (hK162 _ _ ?_); clear hK162 K162
            refine wp_cond_true rfl ?_
            skip
            · obtain ⟨b, hsm_b⟩ := src_some SQ.out (by have := HJ.out; omega)
              subst hsm_b
              refine r_ ?_
              refine pu_ (v := .pointer (some ⟨gq, 0, none⟩)) (y_run (by rfl) (fun W => by go_simp)) ?_
              (try simp only [zP, zN, zA, zB, zC])
              refine ld_ (v := .slice (some b) E2.L.length z42) rfl (by rfl) (by rfl) (run_load_one ((Fgq.out.cell 0).trans rfl) Tryd.underlying42 rfl) ?_
              (try simp only [zP, zN, zA, zB, zC])
              refine pu_ (v := .int .i64 j) (y_move rfl (by rfl) (by rfl)) ?_
              (try simp only [zP, zN, zA, zB, zC])
              refine pu_ (v := .pointer (some (b.add (j * 6)))) (y_run (by rfl) (fun W => by have d := D64.out; go_simp)) ?_
              (try simp only [zP, zN, zA, zB, zC])
              refine ld_ (v := .agg #[.int .i64 s.id, .int .i64 s.box, .int .i64 s.ctr, .bool s.op, .string (str s.qi), .string (str s.qo)]) rfl (by rfl) (by rfl) (run_loadVar_at (cs := sesC s) (src_at sesC_len SQ.out HS_.out) Tryd.underlying49 rfl (by kernel_rfl)) ?_
              (try simp only [zP, zN, zA, zB, zC])
              refine ef_ (fun K163 hK163 => ?_)
              refine e_storeN (cells := #[.int .i64 s.id, .int .i64 s.box, .int .i64 s.ctr, .bool s.op, .string (str s.qi), .string (str s.qo)]) (by rfl) rfl rfl (by rfl) (by rfl) Fg148.out (by kernel_rfl) (by rfl) (ones_cons rfl (ones_cons rfl (ones_cons rfl (ones_cons rfl (ones_cons rfl (ones_cons rfl ones_nil)))))) ?_
              rintro w164 B165 C166
              have C0' := Lib.hid (show Ch [] w w164 from C0.out.trans' C166 (inw_cons (.inr nw153.out) inw_nil))
              have EX' := Lib.hid (show ExIs w164 w.heap.size Bs136 x (64 * k + 64) (E2) from EX.out.ch C166 (fun k hk hm => (List.mem_cons.1 hm).elim (fun e => hs154.out (e ▸ hk)) (fun h => (fun _ _ h => absurd h (by simp)) k hk h)))
              have Fgq' := Lib.hid (show Blk w164 gq ((#[.slice (some b) E2.L.length z42, .int .i64 E2.last])) 44 from C166.blk Fgq.out (nin_cons (Blk.ne_type Fgq.out Fg148.out (by decide)) nin_nil))
              have SL' := Lib.hid (show SrcIs w164 (.slice (some a) L.length z) (L.length) (L.flatMap actC) 6 from SL.out.chx C166 (xnin_cons nx155.out xnin_nil))
              have SQ' := Lib.hid (show SrcIs w164 (.slice (some b) E2.L.length z42) (E2.L.length) (E2.L.flatMap sesC) 6 from SQ.out.chx C166 (xnin_cons nx156.out xnin_nil))
              have Fg50' := Lib.hid (show Blk w164 g50 (#[.slice (some b) E2.L.length z42, .int .i64 E2.last]) 44 from C166.blk Fg50.out (nin_cons (Blk.ne_type Fg50.out Fg148.out (by decide)) nin_nil))
              clear C0 EX Fgq SL SQ Fg50
              have C0 := C0'; clear C0'
              have EX := EX'; clear EX'
              have Fgq := Fgq'; clear Fgq'
              have SL := SL'; clear SL'
              have SQ := SQ'; clear SQ'
              have Fg50 := Fg50'; clear Fg50'
              clear Fg148; have Fg148 := Lib.hid (show Blk w164 g148 (#[.int .i64 s.id, .int .i64 s.box, .int .i64 s.ctr, .bool s.op, .string (str s.qi), .string (str s.qo)]) 49 from B165); clear B165 C166
              refine hK163 _ _ ?_; clear hK163 K163
              (try simp only [zP, zN, zA, zB, zC])
              refine nl_ ?_
              refine th_norm (hK161 _ _ ?_); try clear hK161 K161
              refine sq_ (fun K167 hK167 => ?_)
              refine startk_ (S := fun W => Blk W gq ((#[.slice (some b) E2.L.length z42, .int .i64 E2.last])) 44 ∧ Blk W g148 (#[.int .i64 s.id, .int .i64 s.box, .int .i64 s.ctr, .bool s.op, .string (str s.qi), .string (str s.qo)]) 49 ∧ True) (ds := []) #[false, false, false, false, false, false, false, false, false, false, false, false, false, false, false, false, false, false, false, false, false, false, false, false, false, false, false, false, false, false, false, false, false, false, false, false] (by kernel_rfl) rfl rfl (fun W c => ⟨c.blk Fgq.out nin_nil, c.blk Fg148.out nin_nil, trivial⟩) (fun w168 C169 hS170 => ?_)
              have C0' := Lib.hid (show Ch [] w w168 from C0.out.trans' C169 (fun x hx => absurd hx (by simp)))
              have EX' := Lib.hid (show ExIs w168 w.heap.size Bs136 x (64 * k + 64) (E2) from EX.out.ch C169 (fun _ _ h => absurd h (by simp)))
              have Fgq' := Lib.hid (show Blk w168 gq ((#[.slice (some b) E2.L.length z42, .int .i64 E2.last])) 44 from C169.blk Fgq.out nin_nil)
              have SL' := Lib.hid (show SrcIs w168 (.slice (some a) L.length z) (L.length) (L.flatMap actC) 6 from SL.out.chx C169 xnin_nil)
              have SQ' := Lib.hid (show SrcIs w168 (.slice (some b) E2.L.length z42) (E2.L.length) (E2.L.flatMap sesC) 6 from SQ.out.chx C169 xnin_nil)
              have Fg50' := Lib.hid (show Blk w168 g50 (#[.slice (some b) E2.L.length z42, .int .i64 E2.last]) 44 from C169.blk Fg50.out nin_nil)
              have Fg148' := Lib.hid (show Blk w168 g148 (#[.int .i64 s.id, .int .i64 s.box, .int .i64 s.ctr, .bool s.op, .string (str s.qi), .string (str s.qo)]) 49 from C169.blk Fg148.out nin_nil)
              clear C0 EX Fgq SL SQ Fg50 Fg148
              have C0 := C0'; clear C0'
              have EX := EX'; clear EX'
              have Fgq := Fgq'; clear Fgq'
              have SL := SL'; clear SL'
              have SQ := SQ'; clear SQ'
              have Fg50 := Fg50'; clear Fg50'
              have Fg148 := Fg148'; clear Fg148'
              clear C169
              refine pure_ (i := 0) (N := some 66) (v := .bool true) #[true, false, false, false, false, false, false, false, false, false, false, false, false, false, false, false, false, false, false, false, false, false, false, false, false, false, false, false, false, false, false, false, false, false, false, false] rfl rfl (by kernel_rfl) (fun c a w h => hP c a _ _ w h) (y_move rfl (by rfl) (by rfl)) rfl ?_
              (try simp only [zP, zN, zA, zB, zC])
              refine pure_ (i := 1) (N := some 67) (v := .bool false) #[true, true, false, false, false, false, false, false, false, false, false, false, false, false, false, false, false, false, false, false, false, false, false, false, false, false, false, false, false, false, false, false, false, false, false, false] rfl rfl (by kernel_rfl) (fun c a w h => hP c a _ _ w h) (y_run (by rfl) (fun W => by go_simp)) rfl ?_
              (try simp only [zP, zN, zA, zB, zC])
              refine pure_ (i := 2) (N := some 68) (v := .bool false) #[true, true, true, false, false, false, false, false, false, false, false, false, false, false, false, false, false, false, false, false, false, false, false, false, false, false, false, false, false, false, false, false, false, false, false, false] rfl rfl (by kernel_rfl) (fun c a w h => hP c a _ _ w h) (y_move rfl (by rfl) (by rfl)) rfl ?_
              (try simp only [zP, zN, zA, zB, zC])
              refine pure_ (i := 3) (N := some 69) (v := .pointer (some ⟨x, 0, none⟩)) #[true, true, true, true, false, false, false, false, false, false, false, false, false, false, false, false, false, false, false, false, false, false, false, false, false, false, false, false, false, false, false, false, false, false, false, false] rfl rfl (by kernel_rfl) (fun c a w h => hP c a _ _ w h) (y_move rfl (by rfl) (by rfl)) rfl ?_
              (try simp only [zP, zN, zA, zB, zC])
              refine pure_ (i := 5) (N := some 71) (v := .pointer (some ⟨gq, 0, none⟩)) #[true, true, true, true, false, true, false, false, false, false, false, false, false, false, false, false, false, false, false, false, false, false, false, false, false, false, false, false, false, false, false, false, false, false, false, false] rfl rfl (by kernel_rfl) (fun c a w h => hP c a _ _ w h) (y_run (by rfl) (fun W => by go_simp)) rfl ?_
              (try simp only [zP, zN, zA, zB, zC])
              refine take_ (i := 6) (N := some 72) (v := .slice (some b) E2.L.length z42) #[true, true, true, true, false, true, true, false, false, false, false, false, false, false, false, false, false, false, false, false, false, false, false, false, false, false, false, false, false, false, false, false, false, false, false, false] rfl rfl (by kernel_rfl) (fun c a w h => hP c a _ _ w h) (y_load (p := ⟨gq, 0, none⟩) rfl (by rfl) (by rfl) (fun W hS => run_load_one ((hS.1.cell 0).trans rfl) Tryd.underlying42 rfl)) hS170 rfl ?_
              (try simp only [zP, zN, zA, zB, zC])
              refine pure_ (i := 7) (N := some 73) (v := .int .i64 E2.L.length) #[true, true, true, true, false, true, true, true, false, false, false, false, false, false, false, false, false, false, false, false, false, false, false, false, false, false, false, false, false, false, false, false, false, false, false, false] rfl rfl (by kernel_rfl) (fun c a w h => hP c a _ _ w h) (y_run (by rfl) (fun W => by go_simp)) rfl ?_
              (try simp only [zP, zN, zA, zB, zC])
              refine one_ (i := 4) (N := some 70) #[true, true, true, true, true, true, true, true, false, false, false, false, false, false, false, false, false, false, false, false, false, false, false, false, false, false, false, false, false, false, false, false, false, false, false, false] rfl rfl (by kernel_rfl) (by simp) (fun K171 hK171 => ?_)
              refine e_call Tryd.func19 (by kernel_rfl) rfl #[.pointer (some ⟨x, 0, none⟩)] (by rfl) rfl rfl (by first | rfl | (simp only [List.map_toArray, List.map_cons, List.map_nil]; first | done | rfl)) ((len_l EX.out (by have := HF2.out.1; omega))) ?_
              rintro en w173 ⟨rfl, Bs172, bk, cc, bel⟩
              refine ⟨_, rfl, ?_⟩
              have hs174 := Lib.hid (show gq ∉ Bs172 from fun h9 => (bel _ h9).elim hs138.out (fun h8 => by have := Fgq.out.lt; omega))
              have hs175 := Lib.hid (show g50 ∉ Bs172 from fun h9 => (bel _ h9).elim hs139.out (fun h8 => by have := Fg50.out.lt; omega))
              have hs176 := Lib.hid (show g148 ∉ Bs172 from fun h9 => (bel _ h9).elim hs154.out (fun h8 => by have := Fg148.out.lt; omega))
              have hr177 := Lib.hid (show ∀ k_, k_ ∈ xb (.slice (some a) L.length z) → k_ ∉ Bs172 from fun k_ hk_ hB_ => (bel k_ hB_).elim (hr140.out k_ hk_) (fun h8 => by have := SL.out.lt (by decide) k_ hk_; omega))
              have hr178 := Lib.hid (show ∀ k_, k_ ∈ xb (.slice (some b) E2.L.length z42) → k_ ∉ Bs172 from fun k_ hk_ hB_ => (bel k_ hB_).elim (hr141.out k_ hk_) (fun h8 => by have := SQ.out.lt (by decide) k_ hk_; omega))
              have C0' := Lib.hid (show Ch [] w w173 from C0.out.trans' cc (fun x hx => .inr (EX.out.lt x hx).1))
              have Fgq' := Lib.hid (show Blk w173 gq ((#[.slice (some b) E2.L.length z42, .int .i64 E2.last])) 44 from cc.blk Fgq.out hs138.out)
              have SL' := Lib.hid (show SrcIs w173 (.slice (some a) L.length z) (L.length) (L.flatMap actC) 6 from SL.out.chx cc hr140.out)
              have SQ' := Lib.hid (show SrcIs w173 (.slice (some b) E2.L.length z42) (E2.L.length) (E2.L.flatMap sesC) 6 from SQ.out.chx cc hr141.out)
              have Fg50' := Lib.hid (show Blk w173 g50 (#[.slice (some b) E2.L.length z42, .int .i64 E2.last]) 44 from cc.blk Fg50.out hs139.out)
              have Fg148' := Lib.hid (show Blk w173 g148 (#[.int .i64 s.id, .int .i64 s.box, .int .i64 s.ctr, .bool s.op, .string (str s.qi), .string (str s.qo)]) 49 from cc.blk Fg148.out hs154.out)
              clear C0 Fgq SL SQ Fg50 Fg148
              have C0 := C0'; clear C0'
              have Fgq := Fgq'; clear Fgq'
              have SL := SL'; clear SL'
              have SQ := SQ'; clear SQ'
              have Fg50 := Fg50'; clear Fg50'
              have Fg148 := Fg148'; clear Fg148'
              clear EX cc bel
              have EX := Lib.hid (show ExIs w173 w.heap.size Bs172 x (64 * k + 64) (E2) from bk)
              clear bk
              refine hK171.out _ _ ⟨Fgq.out, Fg148.out, trivial⟩ (fun hS179 => ?_); clear hK171 K171
              (try simp only [zP, zN, zA, zB, zC])
              refine pure_ (i := 8) (N := some 74) (v := .bool false) #[true, true, true, true, true, true, true, true, true, false, false, false, false, false, false, false, false, false, false, false, false, false, false, false, false, false, false, false, false, false, false, false, false, false, false, false] rfl rfl (by kernel_rfl) (fun c a w h => hP c a _ _ w h) (y_run (by rfl) (fun W => by first | (go_simp; done) | (go_simp; rfl) | (go_simp; decide))) rfl ?_
              (try simp only [zP, zN, zA, zB, zC])
              refine pure_ (i := 9) (N := some 75) (v := .bool false) #[true, true, true, true, true, true, true, true, true, true, false, false, false, false, false, false, false, false, false, false, false, false, false, false, false, false, false, false, false, false, false, false, false, false, false, false] rfl rfl (by kernel_rfl) (fun c a w h => hP c a _ _ w h) (y_pick (t := false) (by rfl) rfl (by rfl) (by rfl)) rfl ?_
              (try simp only [zP, zN, zA, zB, zC])
              refine pure_ (i := 10) (N := some 76) (v := .bool false) #[true, true, true, true, true, true, true, true, true, true, true, false, false, false, false, false, false, false, false, false, false, false, false, false, false, false, false, false, false, false, false, false, false, false, false, false] rfl rfl (by kernel_rfl) (fun c a w h => hP c a _ _ w h) (y_move rfl (by rfl) (by rfl)) rfl ?_
              (try simp only [zP, zN, zA, zB, zC])
              refine pure_ (i := 11) (N := some 77) (v := .int .i64 s.box) #[true, true, true, true, true, true, true, true, true, true, true, true, false, false, false, false, false, false, false, false, false, false, false, false, false, false, false, false, false, false, false, false, false, false, false, false] rfl rfl (by kernel_rfl) (fun c a w h => hP c a _ _ w h) (y_move rfl (by rfl) (by rfl)) rfl ?_
              (try simp only [zP, zN, zA, zB, zC])
              refine pure_ (i := 12) (N := some 78) (v := .pointer (some ⟨g148, 1, none⟩)) #[true, true, true, true, true, true, true, true, true, true, true, true, true, false, false, false, false, false, false, false, false, false, false, false, false, false, false, false, false, false, false, false, false, false, false, false] rfl rfl (by kernel_rfl) (fun c a w h => hP c a _ _ w h) (y_run (by rfl) (fun W => by go_simp)) rfl ?_
              (try simp only [zP, zN, zA, zB, zC])
              refine take_ (i := 13) (N := some 79) (v := .int .i64 s.box) #[true, true, true, true, true, true, true, true, true, true, true, true, true, true, false, false, false, false, false, false, false, false, false, false, false, false, false, false, false, false, false, false, false, false, false, false] rfl rfl (by kernel_rfl) (fun c a w h => hP c a _ _ w h) (y_load (p := ⟨g148, 1, none⟩) rfl (by rfl) (by rfl) (fun W hS => run_load_one ((hS.2.1.cell 1).trans rfl) Tryd.underlying3 rfl)) hS179 rfl ?_
              (try simp only [zP, zN, zA, zB, zC])
              refine pure_ (i := 14) (N := some 80) (v := .bool false) #[true, true, true, true, true, true, true, true, true, true, true, true, true, true, true, false, false, false, false, false, false, false, false, false, false, false, false, false, false, false, false, false, false, false, false, false] rfl rfl (by kernel_rfl) (fun c a w h => hP c a _ _ w h) (y_run (by rfl) (fun W => by first | (go_simp; done) | (go_simp; rfl) | (go_simp; decide))) rfl ?_
              (try simp only [zP, zN, zA, zB, zC])
              refine pure_ (i := 15) (N := some 81) (v := .bool false) #[true, true, true, true, true, true, true, true, true, true, true, true, true, true, true, true, false, false, false, false, false, false, false, false, false, false, false, false, false, false, false, false, false, false, false, false] rfl rfl (by kernel_rfl) (fun c a w h => hP c a _ _ w h) (y_pick (t := false) (by rfl) rfl (by rfl) (by rfl)) rfl ?_
              (try simp only [zP, zN, zA, zB, zC])
              refine pure_ (i := 16) (N := some 82) (v := .bool false) #[true, true, true, true, true, true, true, true, true, true, true, true, true, true, true, true, true, false, false, false, false, false, false, false, false, false, false, false, false, false, false, false, false, false, false, false] rfl rfl (by kernel_rfl) (fun c a w h => hP c a _ _ w h) (y_move rfl (by rfl) (by rfl)) rfl ?_
              (try simp only [zP, zN, zA, zB, zC])
              refine pure_ (i := 17) (N := some 83) (v := .int .i64 s.ctr) #[true, true, true, true, true, true, true, true, true, true, true, true, true, true, true, true, true, true, false, false, false, false, false, false, false, false, false, false, false, false, false, false, false, false, false, false] rfl rfl (by kernel_rfl) (fun c a w h => hP c a _ _ w h) (y_move rfl (by rfl) (by rfl)) rfl ?_
              (try simp only [zP, zN, zA, zB, zC])
              refine pure_ (i := 18) (N := some 84) (v := .pointer (some ⟨g148, 2, none⟩)) #[true, true, true, true, true, true, true, true, true, true, true, true, true, true, true, true, true, true, true, false, false, false, false, false, false, false, false, false, false, false, false, false, false, false, false, false] rfl rfl (by kernel_rfl) (fun c a w h => hP c a _ _ w h) (y_run (by rfl) (fun W => by go_simp)) rfl ?_
              (try simp only [zP, zN, zA, zB, zC])
              refine take_ (i := 19) (N := some 85) (v := .int .i64 s.ctr) #[true, true, true, true, true, true, true, true, true, true, true, true, true, true, true, true, true, true, true, true, false, false, false, false, false, false, false, false, false, false, false, false, false, false, false, false] rfl rfl (by kernel_rfl) (fun c a w h => hP c a _ _ w h) (y_load (p := ⟨g148, 2, none⟩) rfl (by rfl) (by rfl) (fun W hS => run_load_one ((hS.2.1.cell 2).trans rfl) Tryd.underlying3 rfl)) hS179 rfl ?_
              (try simp only [zP, zN, zA, zB, zC])
              refine pure_ (i := 20) (N := some 86) (v := .bool false) #[true, true, true, true, true, true, true, true, true, true, true, true, true, true, true, true, true, true, true, true, true, false, false, false, false, false, false, false, false, false, false, false, false, false, false, false] rfl rfl (by kernel_rfl) (fun c a w h => hP c a _ _ w h) (y_run (by rfl) (fun W => by first | (go_simp; done) | (go_simp; rfl) | (go_simp; decide))) rfl ?_
              (try simp only [zP, zN, zA, zB, zC])
              refine pure_ (i := 21) (N := some 87) (v := .bool false) #[true, true, true, true, true, true, true, true, true, true, true, true, true, true, true, true, true, true, true, true, true, true, false, false, false, false, false, false, false, false, false, false, false, false, false, false] rfl rfl (by kernel_rfl) (fun c a w h => hP c a _ _ w h) (y_pick (t := false) (by rfl) rfl (by rfl) (by rfl)) rfl ?_
              (try simp only [zP, zN, zA, zB, zC])
              refine pure_ (i := 22) (N := some 88) (v := .bool false) #[true, true, true, true, true, true, true, true, true, true, true, true, true, true, true, true, true, true, true, true, true, true, true, false, false, false, false, false, false, false, false, false, false, false, false, false] rfl rfl (by kernel_rfl) (fun c a w h => hP c a _ _ w h) (y_move rfl (by rfl) (by rfl)) rfl ?_
              (try simp only [zP, zN, zA, zB, zC])
              refine pure_ (i := 23) (N := some 89) (v := .bool s.op) #[true, true, true, true, true, true, true, true, true, true, true, true, true, true, true, true, true, true, true, true, true, true, true, true, false, false, false, false, false, false, false, false, false, false, false, false] rfl rfl (by kernel_rfl) (fun c a w h => hP c a _ _ w h) (y_move rfl (by rfl) (by rfl)) rfl ?_
              (try simp only [zP, zN, zA, zB, zC])
              refine pure_ (i := 24) (N := some 90) (v := .pointer (some ⟨g148, 3, none⟩)) #[true, true, true, true, true, true, true, true, true, true, true, true, true, true, true, true, true, true, true, true, true, true, true, true, true, false, false, false, false, false, false, false, false, false, false, false] rfl rfl (by kernel_rfl) (fun c a w h => hP c a _ _ w h) (y_run (by rfl) (fun W => by go_simp)) rfl ?_
              (try simp only [zP, zN, zA, zB, zC])
              refine take_ (i := 25) (N := some 91) (v := .bool s.op) #[true, true, true, true, true, true, true, true, true, true, true, true, true, true, true, true, true, true, true, true, true, true, true, true, true, true, false, false, false, false, false, false, false, false, false, false] rfl rfl (by kernel_rfl) (fun c a w h => hP c a _ _ w h) (y_load (p := ⟨g148, 3, none⟩) rfl (by rfl) (by rfl) (fun W hS => run_load_one ((hS.2.1.cell 3).trans rfl) Tryd.underlying4 rfl)) hS179 rfl ?_
              (try simp only [zP, zN, zA, zB, zC])
              refine pure_ (i := 26) (N := some 92) (v := .bool false) #[true, true, true, true, true, true, true, true, true, true, true, true, true, true, true, true, true, true, true, true, true, true, true, true, true, true, true, false, false, false, false, false, false, false, false, false] rfl rfl (by kernel_rfl) (fun c a w h => hP c a _ _ w h) (y_run (by rfl) (fun W => by first | (go_simp; done) | (go_simp; rfl) | (go_simp; decide))) rfl ?_
              (try simp only [zP, zN, zA, zB, zC])
              refine pure_ (i := 27) (N := some 93) (v := .bool false) #[true, true, true, true, true, true, true, true, true, true, true, true, true, true, true, true, true, true, true, true, true, true, true, true, true, true, true, true, false, false, false, false, false, false, false, false] rfl rfl (by kernel_rfl) (fun c a w h => hP c a _ _ w h) (y_pick (t := false) (by rfl) rfl (by rfl) (by rfl)) rfl ?_
              (try simp only [zP, zN, zA, zB, zC])
              refine pure_ (i := 28) (N := some 94) (v := .bool false) #[true, true, true, true, true, true, true, true, true, true, true, true, true, true, true, true, true, true, true, true, true, true, true, true, true, true, true, true, true, false, false, false, false, false, false, false] rfl rfl (by kernel_rfl) (fun c a w h => hP c a _ _ w h) (y_move rfl (by rfl) (by rfl)) rfl ?_
              (try simp only [zP, zN, zA, zB, zC])
              refine pure_ (i := 29) (N := some 95) (v := .pointer (some ⟨x, 0, none⟩)) #[true, true, true, true, true, true, true, true, true, true, true, true, true, true, true, true, true, true, true, true, true, true, true, true, true, true, true, true, true, true, false, false, false, false, false, false] rfl rfl (by kernel_rfl) (fun c a w h => hP c a _ _ w h) (y_move rfl (by rfl) (by rfl)) rfl ?_
              (try simp only [zP, zN, zA, zB, zC])
              refine take_ (i := 31) (N := some 97) (v := .agg ((#[.slice (some b) E2.L.length z42, .int .i64 E2.last]))) #[true, true, true, true, true, true, true, true, true, true, true, true, true, true, true, true, true, true, true, true, true, true, true, true, true, true, true, true, true, true, false, true, false, false, false, false] rfl rfl (by kernel_rfl) (fun c a w h => hP c a _ _ w h) (y_load (p := ⟨gq, 0, none⟩) rfl (by rfl) (by rfl) (fun W hS => run_loadVar_row _ _ 44 44 ((#[.slice (some b) E2.L.length z42, .int .i64 E2.last])) (0, 0) _ hS.1 Tryd.underlying44 rfl (by kernel_rfl))) hS179 rfl ?_
              (try simp only [zP, zN, zA, zB, zC])
              refine one_ (i := 30) (N := some 96) #[true, true, true, true, true, true, true, true, true, true, true, true, true, true, true, true, true, true, true, true, true, true, true, true, true, true, true, true, true, true, true, true, false, false, false, false] rfl rfl (by kernel_rfl) (by simp) (fun K180 hK180 => ?_)
              refine e_call Tryd.func21 (by kernel_rfl) rfl #[.pointer (some ⟨x, 0, none⟩)] (by rfl) rfl rfl (by first | rfl | (simp only [List.map_toArray, List.map_cons, List.map_nil]; first | done | rfl)) ((busy_l EX.out (by have := HF2.out.1; omega) (by have := hlt.out; omega))) ?_
              rintro en w183 ⟨vOB, rfl, OB0, cc182⟩
              refine ⟨_, rfl, ?_⟩
              have hr181 := OB0.lt
              have rw184 := Lib.hid (show ∀ z_, z_ ∈ rl vOB → z_ ∈ [] ∨ w.heap.size ≤ z_ from fun x hx => .inr (by have := (fun k hk => (hr181 k hk).1) x hx; have := C0.out.size; omega))
              have xr185 := Lib.hid (show ∀ k, k ∈ xb (.slice (some a) L.length z) → k ∉ rl vOB from fun k hk hm => by have := (fun k hk => (hr181 k hk).1) k hm; have := SL.out.lt (by decide) k hk; omega)
              have xr186 := Lib.hid (show ∀ k, k ∈ xb (.slice (some b) E2.L.length z42) → k ∉ rl vOB from fun k hk hm => by have := (fun k hk => (hr181 k hk).1) k hm; have := SQ.out.lt (by decide) k hk; omega)
              have C0' := Lib.hid (show Ch [] w w183 from C0.out.trans' cc182 (fun x hx => absurd hx (by simp)))
              have EX' := Lib.hid (show ExIs w183 w.heap.size Bs172 x (64 * k + 64) (E2) from EX.out.ch cc182 (fun _ _ h => absurd h (by simp)))
              have Fgq' := Lib.hid (show Blk w183 gq ((#[.slice (some b) E2.L.length z42, .int .i64 E2.last])) 44 from cc182.blk Fgq.out nin_nil)
              have SL' := Lib.hid (show SrcIs w183 (.slice (some a) L.length z) (L.length) (L.flatMap actC) 6 from SL.out.chx cc182 xnin_nil)
              have SQ' := Lib.hid (show SrcIs w183 (.slice (some b) E2.L.length z42) (E2.L.length) (E2.L.flatMap sesC) 6 from SQ.out.chx cc182 xnin_nil)
              have Fg50' := Lib.hid (show Blk w183 g50 (#[.slice (some b) E2.L.length z42, .int .i64 E2.last]) 44 from cc182.blk Fg50.out nin_nil)
              have Fg148' := Lib.hid (show Blk w183 g148 (#[.int .i64 s.id, .int .i64 s.box, .int .i64 s.ctr, .bool s.op, .string (str s.qi), .string (str s.qo)]) 49 from cc182.blk Fg148.out nin_nil)
              clear C0 EX Fgq SL SQ Fg50 Fg148
              have C0 := C0'; clear C0'
              have EX := EX'; clear EX'
              have Fgq := Fgq'; clear Fgq'
              have SL := SL'; clear SL'
              have SQ := SQ'; clear SQ'
              have Fg50 := Fg50'; clear Fg50'
              have Fg148 := Fg148'; clear Fg148'
              clear cc182
              have OB := Lib.hid (show OwnS w183 w173.heap.size 3 1 (vOB) ((busyL E2).length) ((busyL E2).flatMap intC) from OB0)
              obtain ⟨Ab, zb, hv_, -, -⟩ := OB.out.slice
              subst hv_
              refine hK180.out _ _ ⟨Fgq.out, Fg148.out, trivial⟩ (fun hS187 => ?_); clear hK180 K180
              (try simp only [zP, zN, zA, zB, zC])
              refine one_ (i := 32) (N := some 98) #[true, true, true, true, true, true, true, true, true, true, true, true, true, true, true, true, true, true, true, true, true, true, true, true, true, true, true, true, true, true, true, true, true, false, false, false] rfl rfl (by kernel_rfl) (by simp) (fun K188 hK188 => ?_)
              refine e_call Tryd.func22 (by kernel_rfl) rfl #[.agg ((#[.slice (some b) E2.L.length z42, .int .i64 E2.last]))] (by rfl) rfl rfl (by first | rfl | (simp only [List.map_toArray, List.map_cons, List.map_nil]; first | done | rfl)) ((rbusy_l (E := E2) ⟨SQ.out, HZ2.out⟩ (by have := HF2.out.1; omega))) ?_
              rintro en w191 ⟨vOC, rfl, OC0, cc190⟩
              refine ⟨_, rfl, ?_⟩
              have hr189 := OC0.lt
              have rw192 := Lib.hid (show ∀ z_, z_ ∈ rl vOC → z_ ∈ [] ∨ w.heap.size ≤ z_ from fun x hx => .inr (by have := (fun k hk => (hr189 k hk).1) x hx; have := C0.out.size; omega))
              have xr193 := Lib.hid (show ∀ k, k ∈ xb (.slice (some a) L.length z) → k ∉ rl vOC from fun k hk hm => by have := (fun k hk => (hr189 k hk).1) k hm; have := SL.out.lt (by decide) k hk; omega)
              have xr194 := Lib.hid (show ∀ k, k ∈ xb (.slice (some b) E2.L.length z42) → k ∉ rl vOC from fun k hk hm => by have := (fun k hk => (hr189 k hk).1) k hm; have := SQ.out.lt (by decide) k hk; omega)
              have rr195 := Lib.hid (show ∀ k, k ∈ rl (.slice Ab (busyL E2).length zb) → k ∉ rl vOC from fun k hk hm => by have := (fun k hk => (hr189 k hk).1) k hm; have := (OB.out.lt k hk).2; omega)
              have C0' := Lib.hid (show Ch [] w w191 from C0.out.trans' cc190 (fun x hx => absurd hx (by simp)))
              have EX' := Lib.hid (show ExIs w191 w.heap.size Bs172 x (64 * k + 64) (E2) from EX.out.ch cc190 (fun _ _ h => absurd h (by simp)))
              have Fgq' := Lib.hid (show Blk w191 gq ((#[.slice (some b) E2.L.length z42, .int .i64 E2.last])) 44 from cc190.blk Fgq.out nin_nil)
              have SL' := Lib.hid (show SrcIs w191 (.slice (some a) L.length z) (L.length) (L.flatMap actC) 6 from SL.out.chx cc190 xnin_nil)
              have SQ' := Lib.hid (show SrcIs w191 (.slice (some b) E2.L.length z42) (E2.L.length) (E2.L.flatMap sesC) 6 from SQ.out.chx cc190 xnin_nil)
              have Fg50' := Lib.hid (show Blk w191 g50 (#[.slice (some b) E2.L.length z42, .int .i64 E2.last]) 44 from cc190.blk Fg50.out nin_nil)
              have Fg148' := Lib.hid (show Blk w191 g148 (#[.int .i64 s.id, .int .i64 s.box, .int .i64 s.ctr, .bool s.op, .string (str s.qi), .string (str s.qo)]) 49 from cc190.blk Fg148.out nin_nil)
              have OB' := Lib.hid (show OwnS w191 w173.heap.size 3 1 (.slice Ab (busyL E2).length zb) ((busyL E2).length) ((busyL E2).flatMap intC) from OB.out.ch cc190 rnin_nil)
              clear C0 EX Fgq SL SQ Fg50 Fg148 OB
              have C0 := C0'; clear C0'
              have EX := EX'; clear EX'
              have Fgq := Fgq'; clear Fgq'
              have SL := SL'; clear SL'
              have SQ := SQ'; clear SQ'
              have Fg50 := Fg50'; clear Fg50'
              have Fg148 := Fg148'; clear Fg148'
              have OB := OB'; clear OB'
              clear cc190
              have OC := Lib.hid (show OwnS w191 w183.heap.size 3 1 (vOC) ((busyL E2).length) ((busyL E2).flatMap intC) from OC0)
              obtain ⟨Ac, zc, hv_, -, -⟩ := OC.out.slice
              subst hv_
              refine hK188.out _ _ ⟨Fgq.out, Fg148.out, trivial⟩ (fun hS196 => ?_); clear hK188 K188
              (try simp only [zP, zN, zA, zB, zC])
              refine one_ (i := 33) (N := some 99) #[true, true, true, true, true, true, true, true, true, true, true, true, true, true, true, true, true, true, true, true, true, true, true, true, true, true, true, true, true, true, true, true, true, true, false, false] rfl rfl (by kernel_rfl) (by simp) (fun K197 hK197 => ?_)
              refine e_call Tryd.func20 (by kernel_rfl) rfl #[.slice Ab (busyL E2).length zb, .slice Ac (busyL E2).length zc] (by rfl) rfl rfl (by first | rfl | (simp only [List.map_toArray, List.map_cons, List.map_nil]; first | done | rfl)) ((same_ints (X := busyL E2) (Lib.hid rfl) (Lib.hid (by have := busyL_le E2; have := HF2.out.1; omega)) (Lib.hid OB.out.src) (Lib.hid OC.out.src))) ?_
              rintro en w199 ⟨rfl, cc198⟩
              refine ⟨_, rfl, ?_⟩
              have C0' := Lib.hid (show Ch [] w w199 from C0.out.trans' cc198 (fun x hx => absurd hx (by simp)))
              have EX' := Lib.hid (show ExIs w199 w.heap.size Bs172 x (64 * k + 64) (E2) from EX.out.ch cc198 (fun _ _ h => absurd h (by simp)))
              have Fgq' := Lib.hid (show Blk w199 gq ((#[.slice (some b) E2.L.length z42, .int .i64 E2.last])) 44 from cc198.blk Fgq.out nin_nil)
              have SL' := Lib.hid (show SrcIs w199 (.slice (some a) L.length z) (L.length) (L.flatMap actC) 6 from SL.out.chx cc198 xnin_nil)
              have SQ' := Lib.hid (show SrcIs w199 (.slice (some b) E2.L.length z42) (E2.L.length) (E2.L.flatMap sesC) 6 from SQ.out.chx cc198 xnin_nil)
              have Fg50' := Lib.hid (show Blk w199 g50 (#[.slice (some b) E2.L.length z42, .int .i64 E2.last]) 44 from cc198.blk Fg50.out nin_nil)
              have Fg148' := Lib.hid (show Blk w199 g148 (#[.int .i64 s.id, .int .i64 s.box, .int .i64 s.ctr, .bool s.op, .string (str s.qi), .string (str s.qo)]) 49 from cc198.blk Fg148.out nin_nil)
              have OB' := Lib.hid (show OwnS w199 w173.heap.size 3 1 (.slice Ab (busyL E2).length zb) ((busyL E2).length) ((busyL E2).flatMap intC) from OB.out.ch cc198 rnin_nil)
              have OC' := Lib.hid (show OwnS w199 w183.heap.size 3 1 (.slice Ac (busyL E2).length zc) ((busyL E2).length) ((busyL E2).flatMap intC) from OC.out.ch cc198 rnin_nil)
              clear C0 EX Fgq SL SQ Fg50 Fg148 OB OC
              have C0 := C0'; clear C0'
              have EX := EX'; clear EX'
              have Fgq := Fgq'; clear Fgq'
              have SL := SL'; clear SL'
              have SQ := SQ'; clear SQ'
              have Fg50 := Fg50'; clear Fg50'
              have Fg148 := Fg148'; clear Fg148'
              have OB := OB'; clear OB'
              have OC := OC'; clear OC'
              clear cc198
              refine hK197.out _ _ ⟨Fgq.out, Fg148.out, trivial⟩ (fun hS200 => ?_); clear hK197 K197
              (try simp only [zP, zN, zA, zB, zC])
              refine pure_ (i := 34) (N := some 100) (v := .bool false) #[true, true, true, true, true, true, true, true, true, true, true, true, true, true, true, true, true, true, true, true, true, true, true, true, true, true, true, true, true, true, true, true, true, true, true, false] rfl rfl (by kernel_rfl) (fun c a w h => hP c a _ _ w h) (y_run (by rfl) (fun W => by go_simp)) rfl ?_
              (try simp only [zP, zN, zA, zB, zC])
              refine pure_ (i := 35) (N := some 101) (v := .bool false) #[true, true, true, true, true, true, true, true, true, true, true, true, true, true, true, true, true, true, true, true, true, true, true, true, true, true, true, true, true, true, true, true, true, true, true, true] rfl rfl (by kernel_rfl) (fun c a w h => hP c a _ _ w h) (y_pick (t := false) (by rfl) rfl (by rfl) (by rfl)) rfl ?_
              (try simp only [zP, zN, zA, zB, zC])
              refine done_ (by kernel_rfl) (th_norm (hK167 _ _ ?_)); clear hK167 K167
              refine wp_cond_false rfl ?_
              refine wp_skip ?_
              refine ib_norm ?_
              refine th_norm (hK27 _ _ ?_); try clear hK27 K27
              refine r_ ?_
              refine pu_ (v := .int .i64 k) (y_move rfl (by rfl) (by rfl)) ?_
              (try simp only [zP, zN, zA, zB, zC])
              refine pu_ (v := .int .i64 (k + 1 : Nat)) (y_run (by rfl) (fun W => by have d := Wk.out; go_simp)) ?_
              (try simp only [zP, zN, zA, zB, zC])
              refine pu_ (v := .int .i64 (k + 1 : Nat)) (y_assign rfl (by rfl) (by rfl)) ?_
              (try simp only [zP, zN, zA, zB, zC])
              refine nl_ ?_
              exact th_norm (hK24 (kq - 1) _ _ (by have := hlt.out; have := hk.out; omega) ⟨k + 1, Bs172, E2, some b, z42, fun us_ => (#[.slice (some a) L.length z, .int .i64 ask, us 2, us 3, .bool false, .pointer (some ⟨x, 0, none⟩), .pointer (some ⟨gq, 0, none⟩), .int .i64 (k + 1 : Nat), .pointer (some ⟨g50, 0, none⟩), .bool true, .int .i64 s.box, .int .i64 s.ctr, .bool s.op, .int .i64 j, .pointer (some ⟨g148, 0, none⟩), us 15, us 16, us 17, us 18, .int .i64 k, .slice (some a) L.length z, .int .i64 L.length, .bool true, .bool true, .int .i64 k, .bool true, .bool true, .int .i64 k, .int .i64 (k + 1 : Nat), .slice (some a) L.length z, .int .i64 k, .pointer (some (a.add (k * 6))), .pointer (some ((a.add (k * 6)).add 5)), .string o.s, .int .i64 o.s.size, .bool false, us 36, .tuple #[.agg #[.slice (some b) E2.L.length z42, .int .i64 E2.last], .bool true], .pointer (some ⟨x, 0, none⟩), .agg (#[.slice qa E.L.length zq, .int .i64 E.last]), .slice (some a) L.length z, .int .i64 k, .pointer (some (a.add (k * 6))), .agg #[.int .i64 o.kind, .int .i64 o.id, .int .i64 o.box, .int .i64 o.ctr, .int .i64 o.n, .string o.s], .tuple #[.agg #[.slice (some b) E2.L.length z42, .int .i64 E2.last], .bool true], .agg #[.slice (some b) E2.L.length z42, .int .i64 E2.last], .bool true, .agg (#[.slice (some b) E2.L.length z42, .int .i64 E2.last]), .tuple #[.int .i64 s.box, .int .i64 s.ctr, .bool s.op], .pointer (some ⟨x, 0, none⟩), .int .i64 ask, .tuple #[.int .i64 s.box, .int .i64 s.ctr, .bool s.op], .int .i64 s.box, .int .i64 s.ctr, .bool s.op, .agg ((#[.slice (some b) E2.L.length z42, .int .i64 E2.last])), .int .i64 ask, .int .i64 j, .agg #[.int .i64 0, .int .i64 0, .int .i64 0, .bool false, .string ⟨#[]⟩, .string ⟨#[]⟩], .int .i64 j, .bool true, .pointer (some ⟨gq, 0, none⟩), .slice (some b) E2.L.length z42, .int .i64 j, .pointer (some (b.add (j * 6))), .agg #[.int .i64 s.id, .int .i64 s.box, .int .i64 s.ctr, .bool s.op, .string (str s.qi), .string (str s.qo)], .bool true, .bool false, .bool false, .pointer (some ⟨x, 0, none⟩), .int .i64 E2.L.length, .pointer (some ⟨gq, 0, none⟩), .slice (some b) E2.L.length z42, .int .i64 E2.L.length, .bool false, .bool false, .bool false, .int .i64 s.box, .pointer (some ⟨g148, 1, none⟩), .int .i64 s.box, .bool false, .bool false, .bool false, .int .i64 s.ctr, .pointer (some ⟨g148, 2, none⟩), .int .i64 s.ctr, .bool false, .bool false, .bool false, .bool s.op, .pointer (some ⟨g148, 3, none⟩), .bool s.op, .bool false, .bool false, .bool false, .pointer (some ⟨x, 0, none⟩), .slice Ab (busyL E2).length zb, .agg ((#[.slice (some b) E2.L.length z42, .int .i64 E2.last])), .slice Ac (busyL E2).length zc, .bool true, .bool false, .bool false, us 102, us 103, us 104, us 105, us 106, us 107, us 108, us 109, us 110] : Array Value).getD us_ undef, rfl, C0, Lib.hid (EX.out.up (by omega)), SQ, Fgq, SL, Lib.hid ⟨by have := hlt.out; omega, by have := hlt.out; omega, by have := hlt.out; have := hk.out; omega⟩, Lib.hid (by rw [HE2.out]; exact few_act hfew.out o), Lib.hid (by rw [HE2.out]; exact hlaw.out.act o), HZ2, hr178, hs174, nx45, hr177, hgx⟩)
        · refine e_alloc (by rfl) rfl rfl (cs := #[.slice none 0 0, .int .i64 0]) (by kernel_rfl) ?_
          rintro g201 w202 HG203 B204 C205
          have nw206 := Lib.hid (show w.heap.size ≤ g201 by have := C0.out.size; have := HG203.out; omega)
          have hs207 := Lib.hid (show g201 ∉ Bs from fun hk => by have h8 := (EX.out.lt _ hk).2; have := HG203.out; omega)
          have nx208 := Lib.hid (SQ.out.ne_new (by decide) HG203)
          have ne209 := Lib.hid (Fgq.out.ne_new HG203)
          have nx210 := Lib.hid (SL.out.ne_new (by decide) HG203)
          have C0' := Lib.hid (show Ch [] w w202 from C0.out.trans' C205 (fun x hx => absurd hx (by simp)))
          have EX' := Lib.hid (show ExIs w202 w.heap.size Bs x (64 * k) (E) from EX.out.ch C205 (fun _ _ h => absurd h (by simp)))
          have SQ' := Lib.hid (show SrcIs w202 (.slice qa E.L.length zq) (E.L.length) (E.L.flatMap sesC) 6 from SQ.out.chx C205 xnin_nil)
          have Fgq' := Lib.hid (show Blk w202 gq (#[.slice qa E.L.length zq, .int .i64 E.last]) 44 from C205.blk Fgq.out nin_nil)
          have SL' := Lib.hid (show SrcIs w202 (.slice (some a) L.length z) (L.length) (L.flatMap actC) 6 from SL.out.chx C205 xnin_nil)
          clear C0 EX SQ Fgq SL
          have C0 := C0'; clear C0'
          have EX := EX'; clear EX'
          have SQ := SQ'; clear SQ'
          have Fgq := Fgq'; clear Fgq'
          have SL := SL'; clear SL'
          have Fg201 := Lib.hid (show Blk w202 g201 (#[.slice none 0 0, .int .i64 0]) 44 from B204); clear B204 C205
          refine hK40.out _ _ ⟨Fgq.out, SL.out, trivial⟩ (fun hS211 => ?_); clear hK40 K40
          (try simp only [zP, zN, zA, zB, zC])
          refine one_ (i := 6) (N := some 44) #[true, true, true, true, true, true, true, false, false, false, true, false, false] rfl rfl (by kernel_rfl) (by simp) (fun K212 hK212 => ?_)
          refine e_call Tryd.func17 (by kernel_rfl) rfl #[.pointer (some ⟨x, 0, none⟩), .agg (#[.slice qa E.L.length zq, .int .i64 E.last]), .agg #[.int .i64 o.kind, .int .i64 o.id, .int .i64 o.box, .int .i64 o.ctr, .int .i64 o.n, .string o.s]] (by rfl) rfl rfl (by first | rfl | (simp only [List.map_toArray, List.map_cons, List.map_nil]; first | done | rfl)) ((by have h9 := does_l (c := 64 * k) (o := o) (w0 := w) (Lib.hid hfew.out.1) (Lib.hid (by have := hlt.out; omega)) (Lib.hid (by have := hfew.out.2; have := hlt.out; omega)) hok HSZ HTB (Lib.hid rfl) (Lib.hid C0.out.below0) hqs ⟨SQ.out, hz.out⟩ EX.out; rw [← HE2.out] at h9; exact h9)) ?_
          rintro en w216 ⟨A213, z214, Bs215, rfl, ⟨⟨h1, h2⟩, h4⟩, bk, cc, bel, hqb⟩
          refine ⟨_, rfl, ?_⟩
          have nx217 := Lib.hid (show gq ∉ xb (.slice A213 E2.L.length z214) from fun hk => (h4 _ hk).elim hgq.out (fun h8 => by have := Fgq.out.lt; omega))
          have hs218 := Lib.hid (show gq ∉ Bs215 from fun h9 => (bel _ h9).elim hgs.out (fun h8 => by have := Fgq.out.lt; omega))
          have xs219 := Lib.hid (show ∀ k_, k_ ∈ xb (.slice (some a) L.length z) → k_ ∉ Bs215 from fun k_ hk_ hB_ => (bel k_ hB_).elim (hxs.out k_ hk_) (fun h8 => by have := SL.out.lt (by decide) k_ hk_; omega))
          have nx220 := Lib.hid (show g201 ∉ xb (.slice A213 E2.L.length z214) from fun hk => (h4 _ hk).elim nx208.out (fun h8 => by have := Fg201.out.lt; omega))
          have hs221 := Lib.hid (show g201 ∉ Bs215 from fun h9 => (bel _ h9).elim hs207.out (fun h8 => by have := Fg201.out.lt; omega))
          have HQB := Lib.hid hqb
          have HZ2 := Lib.hid h2
          clear hqb h2 h4
          have C0' := Lib.hid (show Ch [] w w216 from C0.out.trans' cc (fun x hx => .inr (EX.out.lt x hx).1))
          have Fgq' := Lib.hid (show Blk w216 gq (#[.slice qa E.L.length zq, .int .i64 E.last]) 44 from cc.blk Fgq.out hgs.out)
          have SL' := Lib.hid (show SrcIs w216 (.slice (some a) L.length z) (L.length) (L.flatMap actC) 6 from SL.out.chx cc hxs.out)
          have Fg201' := Lib.hid (show Blk w216 g201 (#[.slice none 0 0, .int .i64 0]) 44 from cc.blk Fg201.out hs207.out)
          clear C0 Fgq SL Fg201
          have C0 := C0'; clear C0'
          have Fgq := Fgq'; clear Fgq'
          have SL := SL'; clear SL'
          have Fg201 := Fg201'; clear Fg201'
          clear EX SQ cc bel
          have EX := Lib.hid (show ExIs w216 w.heap.size Bs215 x (64 * k + 64) (E2) from bk)
          clear bk
          have SQ := Lib.hid h1
          clear h1
          refine hK212.out _ _ ⟨Fgq.out, SL.out, trivial⟩ (fun hS222 => ?_); clear hK212 K212
          (try simp only [zP, zN, zA, zB, zC])
          refine pure_ (i := 7) (N := some 37) (v := .tuple #[.agg #[.slice A213 E2.L.length z214, .int .i64 E2.last], .bool true]) #[true, true, true, true, true, true, true, true, false, false, true, false, false] rfl rfl (by kernel_rfl) (fun c a w h => hP c a _ _ w h) (y_move rfl (by rfl) (by rfl)) rfl ?_
          (try simp only [zP, zN, zA, zB, zC])
          refine pure_ (i := 8) (N := some 45) (v := .agg #[.slice A213 E2.L.length z214, .int .i64 E2.last]) #[true, true, true, true, true, true, true, true, true, false, true, false, false] rfl rfl (by kernel_rfl) (fun c a w h => hP c a _ _ w h) (y_run (by rfl) (fun W => by go_simp)) rfl ?_
          (try simp only [zP, zN, zA, zB, zC])
          refine pure_ (i := 9) (N := some 46) (v := .bool true) #[true, true, true, true, true, true, true, true, true, true, true, false, false] rfl rfl (by kernel_rfl) (fun c a w h => hP c a _ _ w h) (y_run (by rfl) (fun W => by go_simp)) rfl ?_
          (try simp only [zP, zN, zA, zB, zC])
          refine one_ (i := 11) (N := none) #[true, true, true, true, true, true, true, true, true, true, true, true, false] rfl rfl (by kernel_rfl) (by simp) (fun K223 hK223 => ?_)
          refine e_storeN (cells := #[.slice A213 E2.L.length z214, .int .i64 E2.last]) (by rfl) rfl rfl (by rfl) (by rfl) Fg201.out (by kernel_rfl) (by rfl) (ones_cons rfl (ones_cons rfl ones_nil)) ?_
          rintro w224 B225 C226
          have C0' := Lib.hid (show Ch [] w w224 from C0.out.trans' C226 (inw_cons (.inr nw206.out) inw_nil))
          have EX' := Lib.hid (show ExIs w224 w.heap.size Bs215 x (64 * k + 64) (E2) from EX.out.ch C226 (fun k hk hm => (List.mem_cons.1 hm).elim (fun e => hs221.out (e ▸ hk)) (fun h => (fun _ _ h => absurd h (by simp)) k hk h)))
          have Fgq' := Lib.hid (show Blk w224 gq (#[.slice qa E.L.length zq, .int .i64 E.last]) 44 from C226.blk Fgq.out (nin_cons ne209.out nin_nil))
          have SL' := Lib.hid (show SrcIs w224 (.slice (some a) L.length z) (L.length) (L.flatMap actC) 6 from SL.out.chx C226 (xnin_cons nx210.out xnin_nil))
          have SQ' := Lib.hid (show SrcIs w224 (.slice A213 E2.L.length z214) (E2.L.length) (E2.L.flatMap sesC) 6 from SQ.out.chx C226 (xnin_cons nx220.out xnin_nil))
          clear C0 EX Fgq SL SQ
          have C0 := C0'; clear C0'
          have EX := EX'; clear EX'
          have Fgq := Fgq'; clear Fgq'
          have SL := SL'; clear SL'
          have SQ := SQ'; clear SQ'
          clear Fg201; have Fg201 := Lib.hid (show Blk w224 g201 (#[.slice A213 E2.L.length z214, .int .i64 E2.last]) 44 from B225); clear B225 C226
          refine hK223.out _ _ ⟨Fgq.out, SL.out, trivial⟩ (fun hS227 => ?_); clear hK223 K223
          (try simp only [zP, zN, zA, zB, zC])
          refine pure_ (i := 12) (N := some 9) (v := .bool true) #[true, true, true, true, true, true, true, true, true, true, true, true, true] rfl rfl (by kernel_rfl) (fun c a w h => hP c a _ _ w h) (y_assign rfl (by rfl) (by rfl)) rfl ?_
          (try simp only [zP, zN, zA, zB, zC])
          refine done_ (by kernel_rfl) (th_norm (hK35 _ _ ?_)); clear hK35 K35
          refine s_ (fun K228 hK228 => ?_)
          refine ld_ (v := .agg (#[.slice A213 E2.L.length z214, .int .i64 E2.last])) rfl (by rfl) (by rfl) (run_loadVar_row _ _ 44 44 (#[.slice A213 E2.L.length z214, .int .i64 E2.last]) (0, 0) _ Fg201.out Tryd.underlying44 rfl (by kernel_rfl)) ?_
          (try simp only [zP, zN, zA, zB, zC])
          refine ef_ (fun K229 hK229 => ?_)
          refine e_storeN (cells := (#[.slice A213 E2.L.length z214, .int .i64 E2.last])) (by rfl) rfl rfl (by rfl) (by rfl) Fgq.out (by kernel_rfl) (by rfl) (ones_cons rfl (ones_cons rfl ones_nil)) ?_
          rintro w230 B231 C232
          have C0' := Lib.hid (show Ch [] w w230 from C0.out.trans' C232 (inw_cons (.inr hgN.out) inw_nil))
          have EX' := Lib.hid (show ExIs w230 w.heap.size Bs215 x (64 * k + 64) (E2) from EX.out.ch C232 (fun k hk hm => (List.mem_cons.1 hm).elim (fun e => hs218.out (e ▸ hk)) (fun h => (fun _ _ h => absurd h (by simp)) k hk h)))
          have SL' := Lib.hid (show SrcIs w230 (.slice (some a) L.length z) (L.length) (L.flatMap actC) 6 from SL.out.chx C232 (xnin_cons hgx.out xnin_nil))
          have Fg201' := Lib.hid (show Blk w230 g201 (#[.slice A213 E2.L.length z214, .int .i64 E2.last]) 44 from C232.blk Fg201.out (nin_cons (Ne.symm ne209.out) nin_nil))
          have SQ' := Lib.hid (show SrcIs w230 (.slice A213 E2.L.length z214) (E2.L.length) (E2.L.flatMap sesC) 6 from SQ.out.chx C232 (xnin_cons nx217.out xnin_nil))
          clear C0 EX SL Fg201 SQ
          have C0 := C0'; clear C0'
          have EX := EX'; clear EX'
          have SL := SL'; clear SL'
          have Fg201 := Fg201'; clear Fg201'
          have SQ := SQ'; clear SQ'
          clear Fgq; have Fgq := Lib.hid (show Blk w230 gq ((#[.slice A213 E2.L.length z214, .int .i64 E2.last])) 44 from B231); clear B231 C232
          refine hK229 _ _ ?_; clear hK229 K229
          (try simp only [zP, zN, zA, zB, zC])
          refine nl_ (hK228 _ _ ?_); clear hK228 K228
          rcases fx_ways ask E2.L with h | ⟨j, s, h, hs, hj⟩
          · have HOF := Lib.hid (ofR_none h)
            have HFX := Lib.hid (show fxI ask E2.L = -1 by unfold fxI; rw [h])
            have D60 := Lib.hid (show ¬ (0 : Int) ≤ -1 by omega)
            clear h
            refine s_ (fun K233 hK233 => ?_)
            refine pu_ (v := .pointer (some ⟨x, 0, none⟩)) (y_move rfl (by rfl) (by rfl)) ?_
            (try simp only [zP, zN, zA, zB, zC])
            refine pu_ (v := .int .i64 ask) (y_move rfl (by rfl) (by rfl)) ?_
            (try simp only [zP, zN, zA, zB, zC])
            refine ef_ (fun K234 hK234 => ?_)
            refine e_call Tryd.func15 (by kernel_rfl) rfl #[.pointer (some ⟨x, 0, none⟩), .int .i64 ask] (by rfl) rfl rfl (by first | rfl | (simp only [List.map_toArray, List.map_cons, List.map_nil]; first | done | rfl)) ((by have h9 := of_l (id := ask) EX.out (by have := HF2.out.1; omega); rw [HOF.out] at h9; exact h9)) ?_
            rintro en w236 ⟨rfl, Bs235, bk, cc, bel⟩
            refine ⟨_, rfl, ?_⟩
            have hs237 := Lib.hid (show gq ∉ Bs235 from fun h9 => (bel _ h9).elim hs218.out (fun h8 => by have := Fgq.out.lt; omega))
            have hs238 := Lib.hid (show g201 ∉ Bs235 from fun h9 => (bel _ h9).elim hs221.out (fun h8 => by have := Fg201.out.lt; omega))
            have hr239 := Lib.hid (show ∀ k_, k_ ∈ xb (.slice (some a) L.length z) → k_ ∉ Bs235 from fun k_ hk_ hB_ => (bel k_ hB_).elim (xs219.out k_ hk_) (fun h8 => by have := SL.out.lt (by decide) k_ hk_; omega))
            have hr240 := Lib.hid (show ∀ k_, k_ ∈ xb (.slice A213 E2.L.length z214) → k_ ∉ Bs235 from fun k_ hk_ hB_ => (bel k_ hB_).elim (HQB.out k_ hk_) (fun h8 => by have := SQ.out.lt (by decide) k_ hk_; omega))
            have C0' := Lib.hid (show Ch [] w w236 from C0.out.trans' cc (fun x hx => .inr (EX.out.lt x hx).1))
            have Fgq' := Lib.hid (show Blk w236 gq ((#[.slice A213 E2.L.length z214, .int .i64 E2.last])) 44 from cc.blk Fgq.out hs218.out)
            have SL' := Lib.hid (show SrcIs w236 (.slice (some a) L.length z) (L.length) (L.flatMap actC) 6 from SL.out.chx cc xs219.out)
            have Fg201' := Lib.hid (show Blk w236 g201 (#[.slice A213 E2.L.length z214, .int .i64 E2.last]) 44 from cc.blk Fg201.out hs221.out)
            have SQ' := Lib.hid (show SrcIs w236 (.slice A213 E2.L.length z214) (E2.L.length) (E2.L.flatMap sesC) 6 from SQ.out.chx cc HQB.out)
            clear C0 Fgq SL Fg201 SQ
            have C0 := C0'; clear C0'
            have Fgq := Fgq'; clear Fgq'
            have SL := SL'; clear SL'
            have Fg201 := Fg201'; clear Fg201'
            have SQ := SQ'; clear SQ'
            clear EX cc bel
            have EX := Lib.hid (show ExIs w236 w.heap.size Bs235 x (64 * k + 64) (E2) from bk)
            clear bk
            refine hK234 _ _ ?_; clear hK234 K234
            (try simp only [zP, zN, zA, zB, zC])
            refine pu_ (v := .tuple #[.int .i64 0, .int .i64 0, .bool false]) (y_move rfl (by rfl) (by rfl)) ?_
            (try simp only [zP, zN, zA, zB, zC])
            refine pu_ (v := .int .i64 0) (y_run (by rfl) (fun W => by go_simp)) ?_
            (try simp only [zP, zN, zA, zB, zC])
            refine pu_ (v := .int .i64 0) (y_run (by rfl) (fun W => by go_simp)) ?_
            (try simp only [zP, zN, zA, zB, zC])
            refine pu_ (v := .bool false) (y_run (by rfl) (fun W => by go_simp)) ?_
            (try simp only [zP, zN, zA, zB, zC])
            refine pu_ (v := .int .i64 0) (y_assign rfl (by rfl) (by rfl)) ?_
            (try simp only [zP, zN, zA, zB, zC])
            refine pu_ (v := .int .i64 0) (y_assign rfl (by rfl) (by rfl)) ?_
            (try simp only [zP, zN, zA, zB, zC])
            refine pu_ (v := .bool false) (y_assign rfl (by rfl) (by rfl)) ?_
            (try simp only [zP, zN, zA, zB, zC])
            refine nl_ (hK233 _ _ ?_); clear hK233 K233
            refine s_ (fun K241 hK241 => ?_)
            refine ld_ (v := .agg ((#[.slice A213 E2.L.length z214, .int .i64 E2.last]))) rfl (by rfl) (by rfl) (run_loadVar_row _ _ 44 44 ((#[.slice A213 E2.L.length z214, .int .i64 E2.last])) (0, 0) _ Fgq.out Tryd.underlying44 rfl (by kernel_rfl)) ?_
            (try simp only [zP, zN, zA, zB, zC])
            refine pu_ (v := .int .i64 ask) (y_move rfl (by rfl) (by rfl)) ?_
            (try simp only [zP, zN, zA, zB, zC])
            refine ef_ (fun K242 hK242 => ?_)
            refine e_call Tryd.func18 (by kernel_rfl) rfl #[.agg ((#[.slice A213 E2.L.length z214, .int .i64 E2.last])), .int .i64 ask] (by rfl) rfl rfl (by first | rfl | (simp only [List.map_toArray, List.map_cons, List.map_nil]; first | done | rfl)) ((by have h9 := rindex_l (id := ask) (E := E2) ⟨SQ.out, HZ2.out⟩ (by have := HF2.out.1; omega); rw [HFX.out] at h9; exact h9)) ?_
            rintro en w244 ⟨rfl, cc243⟩
            refine ⟨_, rfl, ?_⟩
            have C0' := Lib.hid (show Ch [] w w244 from C0.out.trans' cc243 (fun x hx => absurd hx (by simp)))
            have EX' := Lib.hid (show ExIs w244 w.heap.size Bs235 x (64 * k + 64) (E2) from EX.out.ch cc243 (fun _ _ h => absurd h (by simp)))
            have Fgq' := Lib.hid (show Blk w244 gq ((#[.slice A213 E2.L.length z214, .int .i64 E2.last])) 44 from cc243.blk Fgq.out nin_nil)
            have SL' := Lib.hid (show SrcIs w244 (.slice (some a) L.length z) (L.length) (L.flatMap actC) 6 from SL.out.chx cc243 xnin_nil)
            have Fg201' := Lib.hid (show Blk w244 g201 (#[.slice A213 E2.L.length z214, .int .i64 E2.last]) 44 from cc243.blk Fg201.out nin_nil)
            have SQ' := Lib.hid (show SrcIs w244 (.slice A213 E2.L.length z214) (E2.L.length) (E2.L.flatMap sesC) 6 from SQ.out.chx cc243 xnin_nil)
            clear C0 EX Fgq SL Fg201 SQ
            have C0 := C0'; clear C0'
            have EX := EX'; clear EX'
            have Fgq := Fgq'; clear Fgq'
            have SL := SL'; clear SL'
            have Fg201 := Fg201'; clear Fg201'
            have SQ := SQ'; clear SQ'
            clear cc243
            refine hK242 _ _ ?_; clear hK242 K242
            (try simp only [zP, zN, zA, zB, zC])
            refine pu_ (v := .int .i64 (-1)) (y_assign rfl (by rfl) (by rfl)) ?_
            (try simp only [zP, zN, zA, zB, zC])
            refine nl_ (hK241 _ _ ?_); clear hK241 K241
            refine s_ (fun K245 hK245 => ?_)
            refine pu_ (v := .agg #[.int .i64 0, .int .i64 0, .int .i64 0, .bool false, .string ⟨#[]⟩, .string ⟨#[]⟩]) (y_build (vs := #[]) (by rfl) rfl (by first | rfl | (simp only [List.map_toArray, List.map_cons, List.map_nil]; first | done | rfl)) (by kernel_rfl)) ?_
            (try simp only [zP, zN, zA, zB, zC])
            refine ef_ (fun K246 hK246 => ?_)
            refine e_alloc (by rfl) rfl rfl (cs := #[.int .i64 0, .int .i64 0, .int .i64 0, .bool false, .string ⟨#[]⟩, .string ⟨#[]⟩]) (by kernel_rfl) ?_
            rintro g247 w248 HG249 B250 C251
            have nw252 := Lib.hid (show w.heap.size ≤ g247 by have := C0.out.size; have := HG249.out; omega)
            have hs253 := Lib.hid (show g247 ∉ Bs235 from fun hk => by have h8 := (EX.out.lt _ hk).2; have := HG249.out; omega)
            have nx254 := Lib.hid (SL.out.ne_new (by decide) HG249)
            have nx255 := Lib.hid (SQ.out.ne_new (by decide) HG249)
            have C0' := Lib.hid (show Ch [] w w248 from C0.out.trans' C251 (fun x hx => absurd hx (by simp)))
            have EX' := Lib.hid (show ExIs w248 w.heap.size Bs235 x (64 * k + 64) (E2) from EX.out.ch C251 (fun _ _ h => absurd h (by simp)))
            have Fgq' := Lib.hid (show Blk w248 gq ((#[.slice A213 E2.L.length z214, .int .i64 E2.last])) 44 from C251.blk Fgq.out nin_nil)
            have SL' := Lib.hid (show SrcIs w248 (.slice (some a) L.length z) (L.length) (L.flatMap actC) 6 from SL.out.chx C251 xnin_nil)
            have Fg201' := Lib.hid (show Blk w248 g201 (#[.slice A213 E2.L.length z214, .int .i64 E2.last]) 44 from C251.blk Fg201.out nin_nil)
            have SQ' := Lib.hid (show SrcIs w248 (.slice A213 E2.L.length z214) (E2.L.length) (E2.L.flatMap sesC) 6 from SQ.out.chx C251 xnin_nil)
            clear C0 EX Fgq SL Fg201 SQ
            have C0 := C0'; clear C0'
            have EX := EX'; clear EX'
            have Fgq := Fgq'; clear Fgq'
            have SL := SL'; clear SL'
            have Fg201 := Fg201'; clear Fg201'
            have SQ := SQ'; clear SQ'
            have Fg247 := Lib.hid (show Blk w248 g247 (#[.int .i64 0, .int .i64 0, .int .i64 0, .bool false, .string ⟨#[]⟩, .string ⟨#[]⟩]) 49 from B250); clear B250 C251
            refine hK246 _ _ ?_; clear hK246 K246
            (try simp only [zP, zN, zA, zB, zC])
            refine ef_ (fun K256 hK256 => ?_)
            refine e_storeN (cells := #[.int .i64 0, .int .i64 0, .int .i64 0, .bool false, .string ⟨#[]⟩, .string ⟨#[]⟩]) (by rfl) rfl rfl (by rfl) (by rfl) Fg247.out (by kernel_rfl) (by rfl) (ones_cons rfl (ones_cons rfl (ones_cons rfl (ones_cons rfl (ones_cons rfl (ones_cons rfl ones_nil)))))) ?_
            rintro w257 B258 C259
            have C0' := Lib.hid (show Ch [] w w257 from C0.out.trans' C259 (inw_cons (.inr nw252.out) inw_nil))
            have EX' := Lib.hid (show ExIs w257 w.heap.size Bs235 x (64 * k + 64) (E2) from EX.out.ch C259 (fun k hk hm => (List.mem_cons.1 hm).elim (fun e => hs253.out (e ▸ hk)) (fun h => (fun _ _ h => absurd h (by simp)) k hk h)))
            have Fgq' := Lib.hid (show Blk w257 gq ((#[.slice A213 E2.L.length z214, .int .i64 E2.last])) 44 from C259.blk Fgq.out (nin_cons (Blk.ne_type Fgq.out Fg247.out (by decide)) nin_nil))
            have SL' := Lib.hid (show SrcIs w257 (.slice (some a) L.length z) (L.length) (L.flatMap actC) 6 from SL.out.chx C259 (xnin_cons nx254.out xnin_nil))
            have Fg201' := Lib.hid (show Blk w257 g201 (#[.slice A213 E2.L.length z214, .int .i64 E2.last]) 44 from C259.blk Fg201.out (nin_cons (Blk.ne_type Fg201.out Fg247.out (by decide)) nin_nil))
            have SQ' := Lib.hid (show SrcIs w257 (.slice A213 E2.L.length z214) (E2.L.length) (E2.L.flatMap sesC) 6 from SQ.out.chx C259 (xnin_cons nx255.out xnin_nil))
            clear C0 EX Fgq SL Fg201 SQ
            have C0 := C0'; clear C0'
            have EX := EX'; clear EX'
            have Fgq := Fgq'; clear Fgq'
            have SL := SL'; clear SL'
            have Fg201 := Fg201'; clear Fg201'
            have SQ := SQ'; clear SQ'
            clear Fg247; have Fg247 := Lib.hid (show Blk w257 g247 (#[.int .i64 0, .int .i64 0, .int .i64 0, .bool false, .string ⟨#[]⟩, .string ⟨#[]⟩]) 49 from B258); clear B258 C259
            refine hK256 _ _ ?_; clear hK256 K256
            (try simp only [zP, zN, zA, zB, zC])
            refine nl_ (hK245 _ _ ?_); clear hK245 K245
            refine sq_ (fun K260 hK260 => ?_)
            refine s_ (fun K261 hK261 => ?_)
            refine pu_ (v := .int .i64 (-1)) (y_move rfl (by rfl) (by rfl)) ?_
            (try simp only [zP, zN, zA, zB, zC])
            refine pu_ (v := .bool false) (y_run (by rfl) (fun W => by have d := D60.out; go_simp)) ?_
            (try simp only [zP, zN, zA, zB, zC])
            refine nl_ (hK261 _ _ ?_); clear hK261 K261
            refine wp_cond_false rfl ?_
            refine wp_skip ?_
            refine th_norm (hK260 _ _ ?_); try clear hK260 K260
            refine sq_ (fun K262 hK262 => ?_)
            refine startk_ (S := fun W => Blk W gq ((#[.slice A213 E2.L.length z214, .int .i64 E2.last])) 44 ∧ Blk W g247 (#[.int .i64 0, .int .i64 0, .int .i64 0, .bool false, .string ⟨#[]⟩, .string ⟨#[]⟩]) 49 ∧ True) (ds := []) #[false, false, false, false, false, false, false, false, false, false, false, false, false, false, false, false, false, false, false, false, false, false, false, false, false, false, false, false, false, false, false, false, false, false, false, false] (by kernel_rfl) rfl rfl (fun W c => ⟨c.blk Fgq.out nin_nil, c.blk Fg247.out nin_nil, trivial⟩) (fun w263 C264 hS265 => ?_)
            have C0' := Lib.hid (show Ch [] w w263 from C0.out.trans' C264 (fun x hx => absurd hx (by simp)))
            have EX' := Lib.hid (show ExIs w263 w.heap.size Bs235 x (64 * k + 64) (E2) from EX.out.ch C264 (fun _ _ h => absurd h (by simp)))
            have Fgq' := Lib.hid (show Blk w263 gq ((#[.slice A213 E2.L.length z214, .int .i64 E2.last])) 44 from C264.blk Fgq.out nin_nil)
            have SL' := Lib.hid (show SrcIs w263 (.slice (some a) L.length z) (L.length) (L.flatMap actC) 6 from SL.out.chx C264 xnin_nil)
            have Fg201' := Lib.hid (show Blk w263 g201 (#[.slice A213 E2.L.length z214, .int .i64 E2.last]) 44 from C264.blk Fg201.out nin_nil)
            have SQ' := Lib.hid (show SrcIs w263 (.slice A213 E2.L.length z214) (E2.L.length) (E2.L.flatMap sesC) 6 from SQ.out.chx C264 xnin_nil)
            have Fg247' := Lib.hid (show Blk w263 g247 (#[.int .i64 0, .int .i64 0, .int .i64 0, .bool false, .string ⟨#[]⟩, .string ⟨#[]⟩]) 49 from C264.blk Fg247.out nin_nil)
            clear C0 EX Fgq SL Fg201 SQ Fg247
            have C0 := C0'; clear C0'
            have EX := EX'; clear EX'
            have Fgq := Fgq'; clear Fgq'
            have SL := SL'; clear SL'
            have Fg201 := Fg201'; clear Fg201'
            have SQ := SQ'; clear SQ'
            have Fg247 := Fg247'; clear Fg247'
            clear C264
            refine pure_ (i := 0) (N := some 66) (v := .bool true) #[true, false, false, false, false, false, false, false, false, false, false, false, false, false, false, false, false, false, false, false, false, false, false, false, false, false, false, false, false, false, false, false, false, false, false, false] rfl rfl (by kernel_rfl) (fun c a w h => hP c a _ _ w h) (y_move rfl (by rfl) (by rfl)) rfl ?_
            (try simp only [zP, zN, zA, zB, zC])
            refine pure_ (i := 1) (N := some 67) (v := .bool false) #[true, true, false, false, false, false, false, false, false, false, false, false, false, false, false, false, false, false, false, false, false, false, false, false, false, false, false, false, false, false, false, false, false, false, false, false] rfl rfl (by kernel_rfl) (fun c a w h => hP c a _ _ w h) (y_run (by rfl) (fun W => by go_simp)) rfl ?_
            (try simp only [zP, zN, zA, zB, zC])
            refine pure_ (i := 2) (N := some 68) (v := .bool false) #[true, true, true, false, false, false, false, false, false, false, false, false, false, false, false, false, false, false, false, false, false, false, false, false, false, false, false, false, false, false, false, false, false, false, false, false] rfl rfl (by kernel_rfl) (fun c a w h => hP c a _ _ w h) (y_move rfl (by rfl) (by rfl)) rfl ?_
            (try simp only [zP, zN, zA, zB, zC])
            refine pure_ (i := 3) (N := some 69) (v := .pointer (some ⟨x, 0, none⟩)) #[true, true, true, true, false, false, false, false, false, false, false, false, false, false, false, false, false, false, false, false, false, false, false, false, false, false, false, false, false, false, false, false, false, false, false, false] rfl rfl (by kernel_rfl) (fun c a w h => hP c a _ _ w h) (y_move rfl (by rfl) (by rfl)) rfl ?_
            (try simp only [zP, zN, zA, zB, zC])
            refine pure_ (i := 5) (N := some 71) (v := .pointer (some ⟨gq, 0, none⟩)) #[true, true, true, true, false, true, false, false, false, false, false, false, false, false, false, false, false, false, false, false, false, false, false, false, false, false, false, false, false, false, false, false, false, false, false, false] rfl rfl (by kernel_rfl) (fun c a w h => hP c a _ _ w h) (y_run (by rfl) (fun W => by go_simp)) rfl ?_
            (try simp only [zP, zN, zA, zB, zC])
            refine take_ (i := 6) (N := some 72) (v := .slice A213 E2.L.length z214) #[true, true, true, true, false, true, true, false, false, false, false, false, false, false, false, false, false, false, false, false, false, false, false, false, false, false, false, false, false, false, false, false, false, false, false, false] rfl rfl (by kernel_rfl) (fun c a w h => hP c a _ _ w h) (y_load (p := ⟨gq, 0, none⟩) rfl (by rfl) (by rfl) (fun W hS => run_load_one ((hS.1.cell 0).trans rfl) Tryd.underlying42 rfl)) hS265 rfl ?_
            (try simp only [zP, zN, zA, zB, zC])
            refine pure_ (i := 7) (N := some 73) (v := .int .i64 E2.L.length) #[true, true, true, true, false, true, true, true, false, false, false, false, false, false, false, false, false, false, false, false, false, false, false, false, false, false, false, false, false, false, false, false, false, false, false, false] rfl rfl (by kernel_rfl) (fun c a w h => hP c a _ _ w h) (y_run (by rfl) (fun W => by go_simp)) rfl ?_
            (try simp only [zP, zN, zA, zB, zC])
            refine one_ (i := 4) (N := some 70) #[true, true, true, true, true, true, true, true, false, false, false, false, false, false, false, false, false, false, false, false, false, false, false, false, false, false, false, false, false, false, false, false, false, false, false, false] rfl rfl (by kernel_rfl) (by simp) (fun K266 hK266 => ?_)
            refine e_call Tryd.func19 (by kernel_rfl) rfl #[.pointer (some ⟨x, 0, none⟩)] (by rfl) rfl rfl (by first | rfl | (simp only [List.map_toArray, List.map_cons, List.map_nil]; first | done | rfl)) ((len_l EX.out (by have := HF2.out.1; omega))) ?_
            rintro en w268 ⟨rfl, Bs267, bk, cc, bel⟩
            refine ⟨_, rfl, ?_⟩
            have hs269 := Lib.hid (show gq ∉ Bs267 from fun h9 => (bel _ h9).elim hs237.out (fun h8 => by have := Fgq.out.lt; omega))
            have hs270 := Lib.hid (show g201 ∉ Bs267 from fun h9 => (bel _ h9).elim hs238.out (fun h8 => by have := Fg201.out.lt; omega))
            have hs271 := Lib.hid (show g247 ∉ Bs267 from fun h9 => (bel _ h9).elim hs253.out (fun h8 => by have := Fg247.out.lt; omega))
            have hr272 := Lib.hid (show ∀ k_, k_ ∈ xb (.slice (some a) L.length z) → k_ ∉ Bs267 from fun k_ hk_ hB_ => (bel k_ hB_).elim (hr239.out k_ hk_) (fun h8 => by have := SL.out.lt (by decide) k_ hk_; omega))
            have hr273 := Lib.hid (show ∀ k_, k_ ∈ xb (.slice A213 E2.L.length z214) → k_ ∉ Bs267 from fun k_ hk_ hB_ => (bel k_ hB_).elim (hr240.out k_ hk_) (fun h8 => by have := SQ.out.lt (by decide) k_ hk_; omega))
            have C0' := Lib.hid (show Ch [] w w268 from C0.out.trans' cc (fun x hx => .inr (EX.out.lt x hx).1))
            have Fgq' := Lib.hid (show Blk w268 gq ((#[.slice A213 E2.L.length z214, .int .i64 E2.last])) 44 from cc.blk Fgq.out hs237.out)
            have SL' := Lib.hid (show SrcIs w268 (.slice (some a) L.length z) (L.length) (L.flatMap actC) 6 from SL.out.chx cc hr239.out)
            have Fg201' := Lib.hid (show Blk w268 g201 (#[.slice A213 E2.L.length z214, .int .i64 E2.last]) 44 from cc.blk Fg201.out hs238.out)
            have SQ' := Lib.hid (show SrcIs w268 (.slice A213 E2.L.length z214) (E2.L.length) (E2.L.flatMap sesC) 6 from SQ.out.chx cc hr240.out)
            have Fg247' := Lib.hid (show Blk w268 g247 (#[.int .i64 0, .int .i64 0, .int .i64 0, .bool false, .string ⟨#[]⟩, .string ⟨#[]⟩]) 49 from cc.blk Fg247.out hs253.out)
            clear C0 Fgq SL Fg201 SQ Fg247
            have C0 := C0'; clear C0'
            have Fgq := Fgq'; clear Fgq'
            have SL := SL'; clear SL'
            have Fg201 := Fg201'; clear Fg201'
            have SQ := SQ'; clear SQ'
            have Fg247 := Fg247'; clear Fg247'
            clear EX cc bel
            have EX := Lib.hid (show ExIs w268 w.heap.size Bs267 x (64 * k + 64) (E2) from bk)
            clear bk
            refine hK266.out _ _ ⟨Fgq.out, Fg247.out, trivial⟩ (fun hS274 => ?_); clear hK266 K266
            (try simp only [zP, zN, zA, zB, zC])
            refine pure_ (i := 8) (N := some 74) (v := .bool false) #[true, true, true, true, true, true, true, true, true, false, false, false, false, false, false, false, false, false, false, false, false, false, false, false, false, false, false, false, false, false, false, false, false, false, false, false] rfl rfl (by kernel_rfl) (fun c a w h => hP c a _ _ w h) (y_run (by rfl) (fun W => by first | (go_simp; done) | (go_simp; rfl) | (go_simp; decide))) rfl ?_
            (try simp only [zP, zN, zA, zB, zC])
            refine pure_ (i := 9) (N := some 75) (v := .bool false) #[true, true, true, true, true, true, true, true, true, true, false, false, false, false, false, false, false, false, false, false, false, false, false, false, false, false, false, false, false, false, false, false, false, false, false, false] rfl rfl (by kernel_rfl) (fun c a w h => hP c a _ _ w h) (y_pick (t := false) (by rfl) rfl (by rfl) (by rfl)) rfl ?_
            (try simp only [zP, zN, zA, zB, zC])
            refine pure_ (i := 10) (N := some 76) (v := .bool false) #[true, true, true, true, true, true, true, true, true, true, true, false, false, false, false, false, false, false, false, false, false, false, false, false, false, false, false, false, false, false, false, false, false, false, false, false] rfl rfl (by kernel_rfl) (fun c a w h => hP c a _ _ w h) (y_move rfl (by rfl) (by rfl)) rfl ?_
            (try simp only [zP, zN, zA, zB, zC])
            refine pure_ (i := 11) (N := some 77) (v := .int .i64 0) #[true, true, true, true, true, true, true, true, true, true, true, true, false, false, false, false, false, false, false, false, false, false, false, false, false, false, false, false, false, false, false, false, false, false, false, false] rfl rfl (by kernel_rfl) (fun c a w h => hP c a _ _ w h) (y_move rfl (by rfl) (by rfl)) rfl ?_
            (try simp only [zP, zN, zA, zB, zC])
            refine pure_ (i := 12) (N := some 78) (v := .pointer (some ⟨g247, 1, none⟩)) #[true, true, true, true, true, true, true, true, true, true, true, true, true, false, false, false, false, false, false, false, false, false, false, false, false, false, false, false, false, false, false, false, false, false, false, false] rfl rfl (by kernel_rfl) (fun c a w h => hP c a _ _ w h) (y_run (by rfl) (fun W => by go_simp)) rfl ?_
            (try simp only [zP, zN, zA, zB, zC])
            refine take_ (i := 13) (N := some 79) (v := .int .i64 0) #[true, true, true, true, true, true, true, true, true, true, true, true, true, true, false, false, false, false, false, false, false, false, false, false, false, false, false, false, false, false, false, false, false, false, false, false] rfl rfl (by kernel_rfl) (fun c a w h => hP c a _ _ w h) (y_load (p := ⟨g247, 1, none⟩) rfl (by rfl) (by rfl) (fun W hS => run_load_one ((hS.2.1.cell 1).trans rfl) Tryd.underlying3 rfl)) hS274 rfl ?_
            (try simp only [zP, zN, zA, zB, zC])
            refine pure_ (i := 14) (N := some 80) (v := .bool false) #[true, true, true, true, true, true, true, true, true, true, true, true, true, true, true, false, false, false, false, false, false, false, false, false, false, false, false, false, false, false, false, false, false, false, false, false] rfl rfl (by kernel_rfl) (fun c a w h => hP c a _ _ w h) (y_run (by rfl) (fun W => by first | (go_simp; done) | (go_simp; rfl) | (go_simp; decide))) rfl ?_
            (try simp only [zP, zN, zA, zB, zC])
            refine pure_ (i := 15) (N := some 81) (v := .bool false) #[true, true, true, true, true, true, true, true, true, true, true, true, true, true, true, true, false, false, false, false, false, false, false, false, false, false, false, false, false, false, false, false, false, false, false, false] rfl rfl (by kernel_rfl) (fun c a w h => hP c a _ _ w h) (y_pick (t := false) (by rfl) rfl (by rfl) (by rfl)) rfl ?_
            (try simp only [zP, zN, zA, zB, zC])
            refine pure_ (i := 16) (N := some 82) (v := .bool false) #[true, true, true, true, true, true, true, true, true, true, true, true, true, true, true, true, true, false, false, false, false, false, false, false, false, false, false, false, false, false, false, false, false, false, false, false] rfl rfl (by kernel_rfl) (fun c a w h => hP c a _ _ w h) (y_move rfl (by rfl) (by rfl)) rfl ?_
            (try simp only [zP, zN, zA, zB, zC])
            refine pure_ (i := 17) (N := some 83) (v := .int .i64 0) #[true, true, true, true, true, true, true, true, true, true, true, true, true, true, true, true, true, true, false, false, false, false, false, false, false, false, false, false, false, false, false, false, false, false, false, false] rfl rfl (by kernel_rfl) (fun c a w h => hP c a _ _ w h) (y_move rfl (by rfl) (by rfl)) rfl ?_
            (try simp only [zP, zN, zA, zB, zC])
            refine pure_ (i := 18) (N := some 84) (v := .pointer (some ⟨g247, 2, none⟩)) #[true, true, true, true, true, true, true, true, true, true, true, true, true, true, true, true, true, true, true, false, false, false, false, false, false, false, false, false, false, false, false, false, false, false, false, false] rfl rfl (by kernel_rfl) (fun c a w h => hP c a _ _ w h) (y_run (by rfl) (fun W => by go_simp)) rfl ?_
            (try simp only [zP, zN, zA, zB, zC])
            refine take_ (i := 19) (N := some 85) (v := .int .i64 0) #[true, true, true, true, true, true, true, true, true, true, true, true, true, true, true, true, true, true, true, true, false, false, false, false, false, false, false, false, false, false, false, false, false, false, false, false] rfl rfl (by kernel_rfl) (fun c a w h => hP c a _ _ w h) (y_load (p := ⟨g247, 2, none⟩) rfl (by rfl) (by rfl) (fun W hS => run_load_one ((hS.2.1.cell 2).trans rfl) Tryd.underlying3 rfl)) hS274 rfl ?_
            (try simp only [zP, zN, zA, zB, zC])
            refine pure_ (i := 20) (N := some 86) (v := .bool false) #[true, true, true, true, true, true, true, true, true, true, true, true, true, true, true, true, true, true, true, true, true, false, false, false, false, false, false, false, false, false, false, false, false, false, false, false] rfl rfl (by kernel_rfl) (fun c a w h => hP c a _ _ w h) (y_run (by rfl) (fun W => by first | (go_simp; done) | (go_simp; rfl) | (go_simp; decide))) rfl ?_
            (try simp only [zP, zN, zA, zB, zC])
            refine pure_ (i := 21) (N := some 87) (v := .bool false) #[true, true, true, true, true, true, true, true, true, true, true, true, true, true, true, true, true, true, true, true, true, true, false, false, false, false, false, false, false, false, false, false, false, false, false, false] rfl rfl (by kernel_rfl) (fun c a w h => hP c a _ _ w h) (y_pick (t := false) (by rfl) rfl (by rfl) (by rfl)) rfl ?_
            (try simp only [zP, zN, zA, zB, zC])
            refine pure_ (i := 22) (N := some 88) (v := .bool false) #[true, true, true, true, true, true, true, true, true, true, true, true, true, true, true, true, true, true, true, true, true, true, true, false, false, false, false, false, false, false, false, false, false, false, false, false] rfl rfl (by kernel_rfl) (fun c a w h => hP c a _ _ w h) (y_move rfl (by rfl) (by rfl)) rfl ?_
            (try simp only [zP, zN, zA, zB, zC])
            refine pure_ (i := 23) (N := some 89) (v := .bool false) #[true, true, true, true, true, true, true, true, true, true, true, true, true, true, true, true, true, true, true, true, true, true, true, true, false, false, false, false, false, false, false, false, false, false, false, false] rfl rfl (by kernel_rfl) (fun c a w h => hP c a _ _ w h) (y_move rfl (by rfl) (by rfl)) rfl ?_
            (try simp only [zP, zN, zA, zB, zC])
            refine pure_ (i := 24) (N := some 90) (v := .pointer (some ⟨g247, 3, none⟩)) #[true, true, true, true, true, true, true, true, true, true, true, true, true, true, true, true, true, true, true, true, true, true, true, true, true, false, false, false, false, false, false, false, false, false, false, false] rfl rfl (by kernel_rfl) (fun c a w h => hP c a _ _ w h) (y_run (by rfl) (fun W => by go_simp)) rfl ?_
            (try simp only [zP, zN, zA, zB, zC])
            refine take_ (i := 25) (N := some 91) (v := .bool false) #[true, true, true, true, true, true, true, true, true, true, true, true, true, true, true, true, true, true, true, true, true, true, true, true, true, true, false, false, false, false, false, false, false, false, false, false] rfl rfl (by kernel_rfl) (fun c a w h => hP c a _ _ w h) (y_load (p := ⟨g247, 3, none⟩) rfl (by rfl) (by rfl) (fun W hS => run_load_one ((hS.2.1.cell 3).trans rfl) Tryd.underlying4 rfl)) hS274 rfl ?_
            (try simp only [zP, zN, zA, zB, zC])
            refine pure_ (i := 26) (N := some 92) (v := .bool false) #[true, true, true, true, true, true, true, true, true, true, true, true, true, true, true, true, true, true, true, true, true, true, true, true, true, true, true, false, false, false, false, false, false, false, false, false] rfl rfl (by kernel_rfl) (fun c a w h => hP c a _ _ w h) (y_run (by rfl) (fun W => by first | (go_simp; done) | (go_simp; rfl) | (go_simp; decide))) rfl ?_
            (try simp only [zP, zN, zA, zB, zC])
            refine pure_ (i := 27) (N := some 93) (v := .bool false) #[true, true, true, true, true, true, true, true, true, true, true, true, true, true, true, true, true, true, true, true, true, true, true, true, true, true, true, true, false, false, false, false, false, false, false, false] rfl rfl (by kernel_rfl) (fun c a w h => hP c a _ _ w h) (y_pick (t := false) (by rfl) rfl (by rfl) (by rfl)) rfl ?_
            (try simp only [zP, zN, zA, zB, zC])
            refine pure_ (i := 28) (N := some 94) (v := .bool false) #[true, true, true, true, true, true, true, true, true, true, true, true, true, true, true, true, true, true, true, true, true, true, true, true, true, true, true, true, true, false, false, false, false, false, false, false] rfl rfl (by kernel_rfl) (fun c a w h => hP c a _ _ w h) (y_move rfl (by rfl) (by rfl)) rfl ?_
            (try simp only [zP, zN, zA, zB, zC])
            refine pure_ (i := 29) (N := some 95) (v := .pointer (some ⟨x, 0, none⟩)) #[true, true, true, true, true, true, true, true, true, true, true, true, true, true, true, true, true, true, true, true, true, true, true, true, true, true, true, true, true, true, false, false, false, false, false, false] rfl rfl (by kernel_rfl) (fun c a w h => hP c a _ _ w h) (y_move rfl (by rfl) (by rfl)) rfl ?_
            (try simp only [zP, zN, zA, zB, zC])
            refine take_ (i := 31) (N := some 97) (v := .agg ((#[.slice A213 E2.L.length z214, .int .i64 E2.last]))) #[true, true, true, true, true, true, true, true, true, true, true, true, true, true, true, true, true, true, true, true, true, true, true, true, true, true, true, true, true, true, false, true, false, false, false, false] rfl rfl (by kernel_rfl) (fun c a w h => hP c a _ _ w h) (y_load (p := ⟨gq, 0, none⟩) rfl (by rfl) (by rfl) (fun W hS => run_loadVar_row _ _ 44 44 ((#[.slice A213 E2.L.length z214, .int .i64 E2.last])) (0, 0) _ hS.1 Tryd.underlying44 rfl (by kernel_rfl))) hS274 rfl ?_
            (try simp only [zP, zN, zA, zB, zC])
            refine one_ (i := 30) (N := some 96) #[true, true, true, true, true, true, true, true, true, true, true, true, true, true, true, true, true, true, true, true, true, true, true, true, true, true, true, true, true, true, true, true, false, false, false, false] rfl rfl (by kernel_rfl) (by simp) (fun K275 hK275 => ?_)
            refine e_call Tryd.func21 (by kernel_rfl) rfl #[.pointer (some ⟨x, 0, none⟩)] (by rfl) rfl rfl (by first | rfl | (simp only [List.map_toArray, List.map_cons, List.map_nil]; first | done | rfl)) ((busy_l EX.out (by have := HF2.out.1; omega) (by have := hlt.out; omega))) ?_
            rintro en w278 ⟨vOB, rfl, OB0, cc277⟩
            refine ⟨_, rfl, ?_⟩
            have hr276 := OB0.lt
            have rw279 := Lib.hid (show ∀ z_, z_ ∈ rl vOB → z_ ∈ [] ∨ w.heap.size ≤ z_ from fun x hx => .inr (by have := (fun k hk => (hr276 k hk).1) x hx; have := C0.out.size; omega))
            have xr280 := Lib.hid (show ∀ k, k ∈ xb (.slice (some a) L.length z) → k ∉ rl vOB from fun k hk hm => by have := (fun k hk => (hr276 k hk).1) k hm; have := SL.out.lt (by decide) k hk; omega)
            have xr281 := Lib.hid (show ∀ k, k ∈ xb (.slice A213 E2.L.length z214) → k ∉ rl vOB from fun k hk hm => by have := (fun k hk => (hr276 k hk).1) k hm; have := SQ.out.lt (by decide) k hk; omega)
            have C0' := Lib.hid (show Ch [] w w278 from C0.out.trans' cc277 (fun x hx => absurd hx (by simp)))
            have EX' := Lib.hid (show ExIs w278 w.heap.size Bs267 x (64 * k + 64) (E2) from EX.out.ch cc277 (fun _ _ h => absurd h (by simp)))
            have Fgq' := Lib.hid (show Blk w278 gq ((#[.slice A213 E2.L.length z214, .int .i64 E2.last])) 44 from cc277.blk Fgq.out nin_nil)
            have SL' := Lib.hid (show SrcIs w278 (.slice (some a) L.length z) (L.length) (L.flatMap actC) 6 from SL.out.chx cc277 xnin_nil)
            have Fg201' := Lib.hid (show Blk w278 g201 (#[.slice A213 E2.L.length z214, .int .i64 E2.last]) 44 from cc277.blk Fg201.out nin_nil)
            have SQ' := Lib.hid (show SrcIs w278 (.slice A213 E2.L.length z214) (E2.L.length) (E2.L.flatMap sesC) 6 from SQ.out.chx cc277 xnin_nil)
            have Fg247' := Lib.hid (show Blk w278 g247 (#[.int .i64 0, .int .i64 0, .int .i64 0, .bool false, .string ⟨#[]⟩, .string ⟨#[]⟩]) 49 from cc277.blk Fg247.out nin_nil)
            clear C0 EX Fgq SL Fg201 SQ Fg247
            have C0 := C0'; clear C0'
            have EX := EX'; clear EX'
            have Fgq := Fgq'; clear Fgq'
            have SL := SL'; clear SL'
            have Fg201 := Fg201'; clear Fg201'
            have SQ := SQ'; clear SQ'
            have Fg247 := Fg247'; clear Fg247'
            clear cc277
            have OB := Lib.hid (show OwnS w278 w268.heap.size 3 1 (vOB) ((busyL E2).length) ((busyL E2).flatMap intC) from OB0)
            obtain ⟨Ab, zb, hv_, -, -⟩ := OB.out.slice
            subst hv_
            refine hK275.out _ _ ⟨Fgq.out, Fg247.out, trivial⟩ (fun hS282 => ?_); clear hK275 K275
            (try simp only [zP, zN, zA, zB, zC])
            refine one_ (i := 32) (N := some 98) #[true, true, true, true, true, true, true, true, true, true, true, true, true, true, true, true, true, true, true, true, true, true, true, true, true, true, true, true, true, true, true, true, true, false, false, false] rfl rfl (by kernel_rfl) (by simp) (fun K283 hK283 => ?_)
            refine e_call Tryd.func22 (by kernel_rfl) rfl #[.agg ((#[.slice A213 E2.L.length z214, .int .i64 E2.last]))] (by rfl) rfl rfl (by first | rfl | (simp only [List.map_toArray, List.map_cons, List.map_nil]; first | done | rfl)) ((rbusy_l (E := E2) ⟨SQ.out, HZ2.out⟩ (by have := HF2.out.1; omega))) ?_
            rintro en w286 ⟨vOC, rfl, OC0, cc285⟩
            refine ⟨_, rfl, ?_⟩
            have hr284 := OC0.lt
            have rw287 := Lib.hid (show ∀ z_, z_ ∈ rl vOC → z_ ∈ [] ∨ w.heap.size ≤ z_ from fun x hx => .inr (by have := (fun k hk => (hr284 k hk).1) x hx; have := C0.out.size; omega))
            have xr288 := Lib.hid (show ∀ k, k ∈ xb (.slice (some a) L.length z) → k ∉ rl vOC from fun k hk hm => by have := (fun k hk => (hr284 k hk).1) k hm; have := SL.out.lt (by decide) k hk; omega)
            have xr289 := Lib.hid (show ∀ k, k ∈ xb (.slice A213 E2.L.length z214) → k ∉ rl vOC from fun k hk hm => by have := (fun k hk => (hr284 k hk).1) k hm; have := SQ.out.lt (by decide) k hk; omega)
            have rr290 := Lib.hid (show ∀ k, k ∈ rl (.slice Ab (busyL E2).length zb) → k ∉ rl vOC from fun k hk hm => by have := (fun k hk => (hr284 k hk).1) k hm; have := (OB.out.lt k hk).2; omega)
            have C0' := Lib.hid (show Ch [] w w286 from C0.out.trans' cc285 (fun x hx => absurd hx (by simp)))
            have EX' := Lib.hid (show ExIs w286 w.heap.size Bs267 x (64 * k + 64) (E2) from EX.out.ch cc285 (fun _ _ h => absurd h (by simp)))
            have Fgq' := Lib.hid (show Blk w286 gq ((#[.slice A213 E2.L.length z214, .int .i64 E2.last])) 44 from cc285.blk Fgq.out nin_nil)
            have SL' := Lib.hid (show SrcIs w286 (.slice (some a) L.length z) (L.length) (L.flatMap actC) 6 from SL.out.chx cc285 xnin_nil)
            have Fg201' := Lib.hid (show Blk w286 g201 (#[.slice A213 E2.L.length z214, .int .i64 E2.last]) 44 from cc285.blk Fg201.out nin_nil)
            have SQ' := Lib.hid (show SrcIs w286 (.slice A213 E2.L.length z214) (E2.L.length) (E2.L.flatMap sesC) 6 from SQ.out.chx cc285 xnin_nil)
            have Fg247' := Lib.hid (show Blk w286 g247 (#[.int .i64 0, .int .i64 0, .int .i64 0, .bool false, .string ⟨#[]⟩, .string ⟨#[]⟩]) 49 from cc285.blk Fg247.out nin_nil)
            have OB' := Lib.hid (show OwnS w286 w268.heap.size 3 1 (.slice Ab (busyL E2).length zb) ((busyL E2).length) ((busyL E2).flatMap intC) from OB.out.ch cc285 rnin_nil)
            clear C0 EX Fgq SL Fg201 SQ Fg247 OB
            have C0 := C0'; clear C0'
            have EX := EX'; clear EX'
            have Fgq := Fgq'; clear Fgq'
            have SL := SL'; clear SL'
            have Fg201 := Fg201'; clear Fg201'
            have SQ := SQ'; clear SQ'
            have Fg247 := Fg247'; clear Fg247'
            have OB := OB'; clear OB'
            clear cc285
            have OC := Lib.hid (show OwnS w286 w278.heap.size 3 1 (vOC) ((busyL E2).length) ((busyL E2).flatMap intC) from OC0)
            obtain ⟨Ac, zc, hv_, -, -⟩ := OC.out.slice
            subst hv_
            refine hK283.out _ _ ⟨Fgq.out, Fg247.out, trivial⟩ (fun hS291 => ?_); clear hK283 K283
            (try simp only [zP, zN, zA, zB, zC])
            refine one_ (i := 33) (N := some 99) #[true, true, true, true, true, true, true, true, true, true, true, true, true, true, true, true, true, true, true, true, true, true, true, true, true, true, true, true, true, true, true, true, true, true, false, false] rfl rfl (by kernel_rfl) (by simp) (fun K292 hK292 => ?_)
            refine e_call Tryd.func20 (by kernel_rfl) rfl #[.slice Ab (busyL E2).length zb, .slice Ac (busyL E2).length zc] (by rfl) rfl rfl (by first | rfl | (simp only [List.map_toArray, List.map_cons, List.map_nil]; first | done | rfl)) ((same_ints (X := busyL E2) (Lib.hid rfl) (Lib.hid (by have := busyL_le E2; have := HF2.out.1; omega)) (Lib.hid OB.out.src) (Lib.hid OC.out.src))) ?_
            rintro en w294 ⟨rfl, cc293⟩
            refine ⟨_, rfl, ?_⟩
            have C0' := Lib.hid (show Ch [] w w294 from C0.out.trans' cc293 (fun x hx => absurd hx (by simp)))
            have EX' := Lib.hid (show ExIs w294 w.heap.size Bs267 x (64 * k + 64) (E2) from EX.out.ch cc293 (fun _ _ h => absurd h (by simp)))
            have Fgq' := Lib.hid (show Blk w294 gq ((#[.slice A213 E2.L.length z214, .int .i64 E2.last])) 44 from cc293.blk Fgq.out nin_nil)
            have SL' := Lib.hid (show SrcIs w294 (.slice (some a) L.length z) (L.length) (L.flatMap actC) 6 from SL.out.chx cc293 xnin_nil)
            have Fg201' := Lib.hid (show Blk w294 g201 (#[.slice A213 E2.L.length z214, .int .i64 E2.last]) 44 from cc293.blk Fg201.out nin_nil)
            have SQ' := Lib.hid (show SrcIs w294 (.slice A213 E2.L.length z214) (E2.L.length) (E2.L.flatMap sesC) 6 from SQ.out.chx cc293 xnin_nil)
            have Fg247' := Lib.hid (show Blk w294 g247 (#[.int .i64 0, .int .i64 0, .int .i64 0, .bool false, .string ⟨#[]⟩, .string ⟨#[]⟩]) 49 from cc293.blk Fg247.out nin_nil)
            have OB' := Lib.hid (show OwnS w294 w268.heap.size 3 1 (.slice Ab (busyL E2).length zb) ((busyL E2).length) ((busyL E2).flatMap intC) from OB.out.ch cc293 rnin_nil)
            have OC' := Lib.hid (show OwnS w294 w278.heap.size 3 1 (.slice Ac (busyL E2).length zc) ((busyL E2).length) ((busyL E2).flatMap intC) from OC.out.ch cc293 rnin_nil)
            clear C0 EX Fgq SL Fg201 SQ Fg247 OB OC
            have C0 := C0'; clear C0'
            have EX := EX'; clear EX'
            have Fgq := Fgq'; clear Fgq'
            have SL := SL'; clear SL'
            have Fg201 := Fg201'; clear Fg201'
            have SQ := SQ'; clear SQ'
            have Fg247 := Fg247'; clear Fg247'
            have OB := OB'; clear OB'
            have OC := OC'; clear OC'
            clear cc293
            refine hK292.out _ _ ⟨Fgq.out, Fg247.out, trivial⟩ (fun hS295 => ?_); clear hK292 K292
            (try simp only [zP, zN, zA, zB, zC])
            refine pure_ (i := 34) (N := some 100) (v := .bool false) #[true, true, true, true, true, true, true, true, true, true, true, true, true, true, true, true, true, true, true, true, true, true, true, true, true, true, true, true, true, true, true, true, true, true, true, false] rfl rfl (by kernel_rfl) (fun c a w h => hP c a _ _ w h) (y_run (by rfl) (fun W => by go_simp)) rfl ?_
            (try simp only [zP, zN, zA, zB, zC])
            refine pure_ (i := 35) (N := some 101) (v := .bool false) #[true, true, true, true, true, true, true, true, true, true, true, true, true, true, true, true, true, true, true, true, true, true, true, true, true, true, true, true, true, true, true, true, true, true, true, true] rfl rfl (by kernel_rfl) (fun c a w h => hP c a _ _ w h) (y_pick (t := false) (by rfl) rfl (by rfl) (by rfl)) rfl ?_
            (try simp only [zP, zN, zA, zB, zC])
            refine done_ (by kernel_rfl) (th_norm (hK262 _ _ ?_)); clear hK262 K262
            refine wp_cond_false rfl ?_
            refine wp_skip ?_
            refine ib_norm ?_
            refine th_norm (hK27 _ _ ?_); try clear hK27 K27
            refine r_ ?_
            refine pu_ (v := .int .i64 k) (y_move rfl (by rfl) (by rfl)) ?_
            (try simp only [zP, zN, zA, zB, zC])
            refine pu_ (v := .int .i64 (k + 1 : Nat)) (y_run (by rfl) (fun W => by have d := Wk.out; go_simp)) ?_
            (try simp only [zP, zN, zA, zB, zC])
            refine pu_ (v := .int .i64 (k + 1 : Nat)) (y_assign rfl (by rfl) (by rfl)) ?_
            (try simp only [zP, zN, zA, zB, zC])
            refine nl_ ?_
            exact th_norm (hK24 (kq - 1) _ _ (by have := hlt.out; have := hk.out; omega) ⟨k + 1, Bs267, E2, A213, z214, fun us_ => (#[.slice (some a) L.length z, .int .i64 ask, us 2, us 3, .bool false, .pointer (some ⟨x, 0, none⟩), .pointer (some ⟨gq, 0, none⟩), .int .i64 (k + 1 : Nat), .pointer (some ⟨g201, 0, none⟩), .bool true, .int .i64 0, .int .i64 0, .bool false, .int .i64 (-1), .pointer (some ⟨g247, 0, none⟩), us 15, us 16, us 17, us 18, .int .i64 k, .slice (some a) L.length z, .int .i64 L.length, .bool true, .bool true, .int .i64 k, .bool true, .bool true, .int .i64 k, .int .i64 (k + 1 : Nat), .slice (some a) L.length z, .int .i64 k, .pointer (some (a.add (k * 6))), .pointer (some ((a.add (k * 6)).add 5)), .string o.s, .int .i64 o.s.size, .bool false, us 36, .tuple #[.agg #[.slice A213 E2.L.length z214, .int .i64 E2.last], .bool true], .pointer (some ⟨x, 0, none⟩), .agg (#[.slice qa E.L.length zq, .int .i64 E.last]), .slice (some a) L.length z, .int .i64 k, .pointer (some (a.add (k * 6))), .agg #[.int .i64 o.kind, .int .i64 o.id, .int .i64 o.box, .int .i64 o.ctr, .int .i64 o.n, .string o.s], .tuple #[.agg #[.slice A213 E2.L.length z214, .int .i64 E2.last], .bool true], .agg #[.slice A213 E2.L.length z214, .int .i64 E2.last], .bool true, .agg (#[.slice A213 E2.L.length z214, .int .i64 E2.last]), .tuple #[.int .i64 0, .int .i64 0, .bool false], .pointer (some ⟨x, 0, none⟩), .int .i64 ask, .tuple #[.int .i64 0, .int .i64 0, .bool false], .int .i64 0, .int .i64 0, .bool false, .agg ((#[.slice A213 E2.L.length z214, .int .i64 E2.last])), .int .i64 ask, .int .i64 (-1), .agg #[.int .i64 0, .int .i64 0, .int .i64 0, .bool false, .string ⟨#[]⟩, .string ⟨#[]⟩], .int .i64 (-1), .bool false, us 61, us 62, us 63, us 64, us 65, .bool true, .bool false, .bool false, .pointer (some ⟨x, 0, none⟩), .int .i64 E2.L.length, .pointer (some ⟨gq, 0, none⟩), .slice A213 E2.L.length z214, .int .i64 E2.L.length, .bool false, .bool false, .bool false, .int .i64 0, .pointer (some ⟨g247, 1, none⟩), .int .i64 0, .bool false, .bool false, .bool false, .int .i64 0, .pointer (some ⟨g247, 2, none⟩), .int .i64 0, .bool false, .bool false, .bool false, .bool false, .pointer (some ⟨g247, 3, none⟩), .bool false, .bool false, .bool false, .bool false, .pointer (some ⟨x, 0, none⟩), .slice Ab (busyL E2).length zb, .agg ((#[.slice A213 E2.L.length z214, .int .i64 E2.last])), .slice Ac (busyL E2).length zc, .bool true, .bool false, .bool false, us 102, us 103, us 104, us 105, us 106, us 107, us 108, us 109, us 110] : Array Value).getD us_ undef, rfl, C0, Lib.hid (EX.out.up (by omega)), SQ, Fgq, SL, Lib.hid ⟨by have := hlt.out; omega, by have := hlt.out; omega, by have := hlt.out; have := hk.out; omega⟩, Lib.hid (by rw [HE2.out]; exact few_act hfew.out o), Lib.hid (by rw [HE2.out]; exact hlaw.out.act o), HZ2, hr273, hs269, nx217, hr272, hgx⟩)
          · have HS_ := Lib.hid hs
            have HJ := Lib.hid hj
            have HOF := Lib.hid (ofR_some h hs)
            have HFX := Lib.hid (show fxI ask E2.L = j by unfold fxI; rw [h])
            have D60 := Lib.hid (show (0 : Int) ≤ (j : Int) by omega)
            have D64 := Lib.hid (show (j : Int) < (E2.L.length : Int) by omega)
            clear h hs hj
            refine s_ (fun K296 hK296 => ?_)
            refine pu_ (v := .pointer (some ⟨x, 0, none⟩)) (y_move rfl (by rfl) (by rfl)) ?_
            (try simp only [zP, zN, zA, zB, zC])
            refine pu_ (v := .int .i64 ask) (y_move rfl (by rfl) (by rfl)) ?_
            (try simp only [zP, zN, zA, zB, zC])
            refine ef_ (fun K297 hK297 => ?_)
            refine e_call Tryd.func15 (by kernel_rfl) rfl #[.pointer (some ⟨x, 0, none⟩), .int .i64 ask] (by rfl) rfl rfl (by first | rfl | (simp only [List.map_toArray, List.map_cons, List.map_nil]; first | done | rfl)) ((by have h9 := of_l (id := ask) EX.out (by have := HF2.out.1; omega); rw [HOF.out] at h9; exact h9)) ?_
            rintro en w299 ⟨rfl, Bs298, bk, cc, bel⟩
            refine ⟨_, rfl, ?_⟩
            have hs300 := Lib.hid (show gq ∉ Bs298 from fun h9 => (bel _ h9).elim hs218.out (fun h8 => by have := Fgq.out.lt; omega))
            have hs301 := Lib.hid (show g201 ∉ Bs298 from fun h9 => (bel _ h9).elim hs221.out (fun h8 => by have := Fg201.out.lt; omega))
            have hr302 := Lib.hid (show ∀ k_, k_ ∈ xb (.slice (some a) L.length z) → k_ ∉ Bs298 from fun k_ hk_ hB_ => (bel k_ hB_).elim (xs219.out k_ hk_) (fun h8 => by have := SL.out.lt (by decide) k_ hk_; omega))
            have hr303 := Lib.hid (show ∀ k_, k_ ∈ xb (.slice A213 E2.L.length z214) → k_ ∉ Bs298 from fun k_ hk_ hB_ => (bel k_ hB_).elim (HQB.out k_ hk_) (fun h8 => by have := SQ.out.lt (by decide) k_ hk_; omega))
            have C0' := Lib.hid (show Ch [] w w299 from C0.out.trans' cc (fun x hx => .inr (EX.out.lt x hx).1))
            have Fgq' := Lib.hid (show Blk w299 gq ((#[.slice A213 E2.L.length z214, .int .i64 E2.last])) 44 from cc.blk Fgq.out hs218.out)
            have SL' := Lib.hid (show SrcIs w299 (.slice (some a) L.length z) (L.length) (L.flatMap actC) 6 from SL.out.chx cc xs219.out)
            have Fg201' := Lib.hid (show Blk w299 g201 (#[.slice A213 E2.L.length z214, .int .i64 E2.last]) 44 from cc.blk Fg201.out hs221.out)
            have SQ' := Lib.hid (show SrcIs w299 (.slice A213 E2.L.length z214) (E2.L.length) (E2.L.flatMap sesC) 6 from SQ.out.chx cc HQB.out)
            clear C0 Fgq SL Fg201 SQ
            have C0 := C0'; clear C0'
            have Fgq := Fgq'; clear Fgq'
            have SL := SL'; clear SL'
            have Fg201 := Fg201'; clear Fg201'
            have SQ := SQ'; clear SQ'
            clear EX cc bel
            have EX := Lib.hid (show ExIs w299 w.heap.size Bs298 x (64 * k + 64) (E2) from bk)
            clear bk
            refine hK297 _ _ ?_; clear hK297 K297
            (try simp only [zP, zN, zA, zB, zC])
            refine pu_ (v := .tuple #[.int .i64 s.box, .int .i64 s.ctr, .bool s.op]) (y_move rfl (by rfl) (by rfl)) ?_
            (try simp only [zP, zN, zA, zB, zC])
            refine pu_ (v := .int .i64 s.box) (y_run (by rfl) (fun W => by go_simp)) ?_
            (try simp only [zP, zN, zA, zB, zC])
            refine pu_ (v := .int .i64 s.ctr) (y_run (by rfl) (fun W => by go_simp)) ?_
            (try simp only [zP, zN, zA, zB, zC])
            refine pu_ (v := .bool s.op) (y_run (by rfl) (fun W => by go_simp)) ?_
            (try simp only [zP, zN, zA, zB, zC])
            refine pu_ (v := .int .i64 s.box) (y_assign rfl (by rfl) (by rfl)) ?_
            (try simp only [zP, zN, zA, zB, zC])
            refine pu_ (v := .int .i64 s.ctr) (y_assign rfl (by rfl) (by rfl)) ?_
            (try simp only [zP, zN, zA, zB, zC])
            refine pu_ (v := .bool s.op) (y_assign rfl (by rfl) (by rfl)) ?_
            (try simp only [zP, zN, zA, zB, zC])
            refine nl_ (hK296 _ _ ?_); clear hK296 K296
            refine s_ (fun K304 hK304 => ?_)
            refine ld_ (v := .agg ((#[.slice A213 E2.L.length z214, .int .i64 E2.last]))) rfl (by rfl) (by rfl) (run_loadVar_row _ _ 44 44 ((#[.slice A213 E2.L.length z214, .int .i64 E2.last])) (0, 0) _ Fgq.out Tryd.underlying44 rfl (by kernel_rfl)) ?_
            (try simp only [zP, zN, zA, zB, zC])
            refine pu_ (v := .int .i64 ask) (y_move rfl (by rfl) (by rfl)) ?_
            (try simp only [zP, zN, zA, zB, zC])
            refine ef_ (fun K305 hK305 => ?_)
            refine e_call Tryd.func18 (by kernel_rfl) rfl #[.agg ((#[.slice A213 E2.L.length z214, .int .i64 E2.last])), .int .i64 ask] (by rfl) rfl rfl (by first | rfl | (simp only [List.map_toArray, List.map_cons, List.map_nil]; first | done | rfl)) ((by have h9 := rindex_l (id := ask) (E := E2) ⟨SQ.out, HZ2.out⟩ (by have := HF2.out.1; omega); rw [HFX.out] at h9; exact h9)) ?_
            rintro en w307 ⟨rfl, cc306⟩
            refine ⟨_, rfl, ?_⟩
            have C0' := Lib.hid (show Ch [] w w307 from C0.out.trans' cc306 (fun x hx => absurd hx (by simp)))
            have EX' := Lib.hid (show ExIs w307 w.heap.size Bs298 x (64 * k + 64) (E2) from EX.out.ch cc306 (fun _ _ h => absurd h (by simp)))
            have Fgq' := Lib.hid (show Blk w307 gq ((#[.slice A213 E2.L.length z214, .int .i64 E2.last])) 44 from cc306.blk Fgq.out nin_nil)
            have SL' := Lib.hid (show SrcIs w307 (.slice (some a) L.length z) (L.length) (L.flatMap actC) 6 from SL.out.chx cc306 xnin_nil)
            have Fg201' := Lib.hid (show Blk w307 g201 (#[.slice A213 E2.L.length z214, .int .i64 E2.last]) 44 from cc306.blk Fg201.out nin_nil)
            have SQ' := Lib.hid (show SrcIs w307 (.slice A213 E2.L.length z214) (E2.L.length) (E2.L.flatMap sesC) 6 from SQ.out.chx cc306 xnin_nil)
            clear C0 EX Fgq SL Fg201 SQ
            have C0 := C0'; clear C0'
            have EX := EX'; clear EX'
            have Fgq := Fgq'; clear Fgq'
            have SL := SL'; clear SL'
            have Fg201 := Fg201'; clear Fg201'
            have SQ := SQ'; clear SQ'
            clear cc306
            refine hK305 _ _ ?_; clear hK305 K305
            (try simp only [zP, zN, zA, zB, zC])
            refine pu_ (v := .int .i64 j) (y_assign rfl (by rfl) (by rfl)) ?_
            (try simp only [zP, zN, zA, zB, zC])
            refine nl_ (hK304 _ _ ?_); clear hK304 K304
            refine s_ (fun K308 hK308 => ?_)
            refine pu_ (v := .agg #[.int .i64 0, .int .i64 0, .int .i64 0, .bool false, .string ⟨#[]⟩, .string ⟨#[]⟩]) (y_build (vs := #[]) (by rfl) rfl (by first | rfl | (simp only [List.map_toArray, List.map_cons, List.map_nil]; first | done | rfl)) (by kernel_rfl)) ?_
            (try simp only [zP, zN, zA, zB, zC])
            refine ef_ (fun K309 hK309 => ?_)
            refine e_alloc (by rfl) rfl rfl (cs := #[.int .i64 0, .int .i64 0, .int .i64 0, .bool false, .string ⟨#[]⟩, .string ⟨#[]⟩]) (by kernel_rfl) ?_
            rintro g310 w311 HG312 B313 C314
            have nw315 := Lib.hid (show w.heap.size ≤ g310 by have := C0.out.size; have := HG312.out; omega)
            have hs316 := Lib.hid (show g310 ∉ Bs298 from fun hk => by have h8 := (EX.out.lt _ hk).2; have := HG312.out; omega)
            have nx317 := Lib.hid (SL.out.ne_new (by decide) HG312)
            have nx318 := Lib.hid (SQ.out.ne_new (by decide) HG312)
            have C0' := Lib.hid (show Ch [] w w311 from C0.out.trans' C314 (fun x hx => absurd hx (by simp)))
            have EX' := Lib.hid (show ExIs w311 w.heap.size Bs298 x (64 * k + 64) (E2) from EX.out.ch C314 (fun _ _ h => absurd h (by simp)))
            have Fgq' := Lib.hid (show Blk w311 gq ((#[.slice A213 E2.L.length z214, .int .i64 E2.last])) 44 from C314.blk Fgq.out nin_nil)
            have SL' := Lib.hid (show SrcIs w311 (.slice (some a) L.length z) (L.length) (L.flatMap actC) 6 from SL.out.chx C314 xnin_nil)
            have Fg201' := Lib.hid (show Blk w311 g201 (#[.slice A213 E2.L.length z214, .int .i64 E2.last]) 44 from C314.blk Fg201.out nin_nil)
            have SQ' := Lib.hid (show SrcIs w311 (.slice A213 E2.L.length z214) (E2.L.length) (E2.L.flatMap sesC) 6 from SQ.out.chx C314 xnin_nil)
            clear C0 EX Fgq SL Fg201 SQ
            have C0 := C0'; clear C0'
            have EX := EX'; clear EX'
            have Fgq := Fgq'; clear Fgq'
            have SL := SL'; clear SL'
            have Fg201 := Fg201'; clear Fg201'
            have SQ := SQ'; clear SQ'
            have Fg310 := Lib.hid (show Blk w311 g310 (#[.int .i64 0, .int .i64 0, .int .i64 0, .bool false, .string ⟨#[]⟩, .string ⟨#[]⟩]) 49 from B313); clear B313 C314
            refine hK309 _ _ ?_; clear hK309 K309
            (try simp only [zP, zN, zA, zB, zC])
            refine ef_ (fun K319 hK319 => ?_)
            refine e_storeN (cells := #[.int .i64 0, .int .i64 0, .int .i64 0, .bool false, .string ⟨#[]⟩, .string ⟨#[]⟩]) (by rfl) rfl rfl (by rfl) (by rfl) Fg310.out (by kernel_rfl) (by rfl) (ones_cons rfl (ones_cons rfl (ones_cons rfl (ones_cons rfl (ones_cons rfl (ones_cons rfl ones_nil)))))) ?_
            rintro w320 B321 C322
            have C0' := Lib.hid (show Ch [] w w320 from C0.out.trans' C322 (inw_cons (.inr nw315.out) inw_nil))
            have EX' := Lib.hid (show ExIs w320 w.heap.size Bs298 x (64 * k + 64) (E2) from EX.out.ch C322 (fun k hk hm => (List.mem_cons.1 hm).elim (fun e => hs316.out (e ▸ hk)) (fun h => (fun _ _ h => absurd h (by simp)) k hk h)))
            have Fgq' := Lib.hid (show Blk w320 gq ((#[.slice A213 E2.L.length z214, .int .i64 E2.last])) 44 from C322.blk Fgq.out (nin_cons (Blk.ne_type Fgq.out Fg310.out (by decide)) nin_nil))
            have SL' := Lib.hid (show SrcIs w320 (.slice (some a) L.length z) (L.length) (L.flatMap actC) 6 from SL.out.chx C322 (xnin_cons nx317.out xnin_nil))
            have Fg201' := Lib.hid (show Blk w320 g201 (#[.slice A213 E2.L.length z214, .int .i64 E2.last]) 44 from C322.blk Fg201.out (nin_cons (Blk.ne_type Fg201.out Fg310.out (by decide)) nin_nil))
            have SQ' := Lib.hid (show SrcIs w320 (.slice A213 E2.L.length z214) (E2.L.length) (E2.L.flatMap sesC) 6 from SQ.out.chx C322 (xnin_cons nx318.out xnin_nil))
            clear C0 EX Fgq SL Fg201 SQ
            have C0 := C0'; clear C0'
            have EX := EX'; clear EX'
            have Fgq := Fgq'; clear Fgq'
            have SL := SL'; clear SL'
            have Fg201 := Fg201'; clear Fg201'
            have SQ := SQ'; clear SQ'
            clear Fg310; have Fg310 := Lib.hid (show Blk w320 g310 (#[.int .i64 0, .int .i64 0, .int .i64 0, .bool false, .string ⟨#[]⟩, .string ⟨#[]⟩]) 49 from B321); clear B321 C322
            refine hK319 _ _ ?_; clear hK319 K319
            (try simp only [zP, zN, zA, zB, zC])
            refine nl_ (hK308 _ _ ?_); clear hK308 K308
            refine sq_ (fun K323 hK323 => ?_)
            refine s_ (fun K324 hK324 => ?_)
            refine pu_ (v := .int .i64 j) (y_move rfl (by rfl) (by rfl)) ?_
            (try simp only [zP, zN, zA, zB, zC])
            refine pu_ (v := .bool true) (y_run (by rfl) (fun W => by have d := D60.out; go_simp)) ?_
            (try simp only [zP, zN, zA, zB, zC])
            refine nl_ (hK324 _ _ ?_); clear hK324 K324
            refine wp_cond_true rfl ?_
            skip
            · obtain ⟨b, hsm_b⟩ := src_some SQ.out (by have := HJ.out; omega)
              subst hsm_b
              refine r_ ?_
              refine pu_ (v := .pointer (some ⟨gq, 0, none⟩)) (y_run (by rfl) (fun W => by go_simp)) ?_
              (try simp only [zP, zN, zA, zB, zC])
              refine ld_ (v := .slice (some b) E2.L.length z214) rfl (by rfl) (by rfl) (run_load_one ((Fgq.out.cell 0).trans rfl) Tryd.underlying42 rfl) ?_
              (try simp only [zP, zN, zA, zB, zC])
              refine pu_ (v := .int .i64 j) (y_move rfl (by rfl) (by rfl)) ?_
              (try simp only [zP, zN, zA, zB, zC])
              refine pu_ (v := .pointer (some (b.add (j * 6)))) (y_run (by rfl) (fun W => by have d := D64.out; go_simp)) ?_
              (try simp only [zP, zN, zA, zB, zC])
              refine ld_ (v := .agg #[.int .i64 s.id, .int .i64 s.box, .int .i64 s.ctr, .bool s.op, .string (str s.qi), .string (str s.qo)]) rfl (by rfl) (by rfl) (run_loadVar_at (cs := sesC s) (src_at sesC_len SQ.out HS_.out) Tryd.underlying49 rfl (by kernel_rfl)) ?_
              (try simp only [zP, zN, zA, zB, zC])
              refine ef_ (fun K325 hK325 => ?_)
              refine e_storeN (cells := #[.int .i64 s.id, .int .i64 s.box, .int .i64 s.ctr, .bool s.op, .string (str s.qi), .string (str s.qo)]) (by rfl) rfl rfl (by rfl) (by rfl) Fg310.out (by kernel_rfl) (by rfl) (ones_cons rfl (ones_cons rfl (ones_cons rfl (ones_cons rfl (ones_cons rfl (ones_cons rfl ones_nil)))))) ?_
              rintro w326 B327 C328
              have C0' := Lib.hid (show Ch [] w w326 from C0.out.trans' C328 (inw_cons (.inr nw315.out) inw_nil))
              have EX' := Lib.hid (show ExIs w326 w.heap.size Bs298 x (64 * k + 64) (E2) from EX.out.ch C328 (fun k hk hm => (List.mem_cons.1 hm).elim (fun e => hs316.out (e ▸ hk)) (fun h => (fun _ _ h => absurd h (by simp)) k hk h)))
              have Fgq' := Lib.hid (show Blk w326 gq ((#[.slice (some b) E2.L.length z214, .int .i64 E2.last])) 44 from C328.blk Fgq.out (nin_cons (Blk.ne_type Fgq.out Fg310.out (by decide)) nin_nil))
              have SL' := Lib.hid (show SrcIs w326 (.slice (some a) L.length z) (L.length) (L.flatMap actC) 6 from SL.out.chx C328 (xnin_cons nx317.out xnin_nil))
              have Fg201' := Lib.hid (show Blk w326 g201 (#[.slice (some b) E2.L.length z214, .int .i64 E2.last]) 44 from C328.blk Fg201.out (nin_cons (Blk.ne_type Fg201.out Fg310.out (by decide)) nin_nil))
              have SQ' := Lib.hid (show SrcIs w326 (.slice (some b) E2.L.length z214) (E2.L.length) (E2.L.flatMap sesC) 6 from SQ.out.chx C328 (xnin_cons nx318.out xnin_nil))
              clear C0 EX Fgq SL Fg201 SQ
              have C0 := C0'; clear C0'
              have EX := EX'; clear EX'
              have Fgq := Fgq'; clear Fgq'
              have SL := SL'; clear SL'
              have Fg201 := Fg201'; clear Fg201'
              have SQ := SQ'; clear SQ'
              clear Fg310; have Fg310 := Lib.hid (show Blk w326 g310 (#[.int .i64 s.id, .int .i64 s.box, .int .i64 s.ctr, .bool s.op, .string (str s.qi), .string (str s.qo)]) 49 from B327); clear B327 C328
              refine hK325 _ _ ?_; clear hK325 K325
              (try simp only [zP, zN, zA, zB, zC])
              refine nl_ ?_
              refine th_norm (hK323 _ _ ?_); try clear hK323 K323
              refine sq_ (fun K329 hK329 => ?_)
              refine startk_ (S := fun W => Blk W gq ((#[.slice (some b) E2.L.length z214, .int .i64 E2.last])) 44 ∧ Blk W g310 (#[.int .i64 s.id, .int .i64 s.box, .int .i64 s.ctr, .bool s.op, .string (str s.qi), .string (str s.qo)]) 49 ∧ True) (ds := []) #[false, false, false, false, false, false, false, false, false, false, false, false, false, false, false, false, false, false, false, false, false, false, false, false, false, false, false, false, false, false, false, false, false, false, false, false] (by kernel_rfl) rfl rfl (fun W c => ⟨c.blk Fgq.out nin_nil, c.blk Fg310.out nin_nil, trivial⟩) (fun w330 C331 hS332 => ?_)
              have C0' := Lib.hid (show Ch [] w w330 from C0.out.trans' C331 (fun x hx => absurd hx (by simp)))
              have EX' := Lib.hid (show ExIs w330 w.heap.size Bs298 x (64 * k + 64) (E2) from EX.out.ch C331 (fun _ _ h => absurd h (by simp)))
              have Fgq' := Lib.hid (show Blk w330 gq ((#[.slice (some b) E2.L.length z214, .int .i64 E2.last])) 44 from C331.blk Fgq.out nin_nil)
              have SL' := Lib.hid (show SrcIs w330 (.slice (some a) L.length z) (L.length) (L.flatMap actC) 6 from SL.out.chx C331 xnin_nil)
              have Fg201' := Lib.hid (show Blk w330 g201 (#[.slice (some b) E2.L.length z214, .int .i64 E2.last]) 44 from C331.blk Fg201.out nin_nil)
              have SQ' := Lib.hid (show SrcIs w330 (.slice (some b) E2.L.length z214) (E2.L.length) (E2.L.flatMap sesC) 6 from SQ.out.chx C331 xnin_nil)
              have Fg310' := Lib.hid (show Blk w330 g310 (#[.int .i64 s.id, .int .i64 s.box, .int .i64 s.ctr, .bool s.op, .string (str s.qi), .string (str s.qo)]) 49 from C331.blk Fg310.out nin_nil)
              clear C0 EX Fgq SL Fg201 SQ Fg310
              have C0 := C0'; clear C0'
              have EX := EX'; clear EX'
              have Fgq := Fgq'; clear Fgq'
              have SL := SL'; clear SL'
              have Fg201 := Fg201'; clear Fg201'
              have SQ := SQ'; clear SQ'
              have Fg310 := Fg310'; clear Fg310'
              clear C331
              refine pure_ (i := 0) (N := some 66) (v := .bool true) #[true, false, false, false, false, false, false, false, false, false, false, false, false, false, false, false, false, false, false, false, false, false, false, false, false, false, false, false, false, false, false, false, false, false, false, false] rfl rfl (by kernel_rfl) (fun c a w h => hP c a _ _ w h) (y_move rfl (by rfl) (by rfl)) rfl ?_
              (try simp only [zP, zN, zA, zB, zC])
              refine pure_ (i := 1) (N := some 67) (v := .bool false) #[true, true, false, false, false, false, false, false, false, false, false, false, false, false, false, false, false, false, false, false, false, false, false, false, false, false, false, false, false, false, false, false, false, false, false, false] rfl rfl (by kernel_rfl) (fun c a w h => hP c a _ _ w h) (y_run (by rfl) (fun W => by go_simp)) rfl ?_
              (try simp only [zP, zN, zA, zB, zC])
              refine pure_ (i := 2) (N := some 68) (v := .bool false) #[true, true, true, false, false, false, false, false, false, false, false, false, false, false, false, false, false, false, false, false, false, false, false, false, false, false, false, false, false, false, false, false, false, false, false, false] rfl rfl (by kernel_rfl) (fun c a w h => hP c a _ _ w h) (y_move rfl (by rfl) (by rfl)) rfl ?_
              (try simp only [zP, zN, zA, zB, zC])
              refine pure_ (i := 3) (N := some 69) (v := .pointer (some ⟨x, 0, none⟩)) #[true, true, true, true, false, false, false, false, false, false, false, false, false, false, false, false, false, false, false, false, false, false, false, false, false, false, false, false, false, false, false, false, false, false, false, false] rfl rfl (by kernel_rfl) (fun c a w h => hP c a _ _ w h) (y_move rfl (by rfl) (by rfl)) rfl ?_
              (try simp only [zP, zN, zA, zB, zC])
              refine pure_ (i := 5) (N := some 71) (v := .pointer (some ⟨gq, 0, none⟩)) #[true, true, true, true, false, true, false, false, false, false, false, false, false, false, false, false, false, false, false, false, false, false, false, false, false, false, false, false, false, false, false, false, false, false, false, false] rfl rfl (by kernel_rfl) (fun c a w h => hP c a _ _ w h) (y_run (by rfl) (fun W => by go_simp)) rfl ?_
              (try simp only [zP, zN, zA, zB, zC])
              refine take_ (i := 6) (N := some 72) (v := .slice (some b) E2.L.length z214) #[true, true, true, true, false, true, true, false, false, false, false, false, false, false, false, false, false, false, false, false, false, false, false, false, false, false, false, false, false, false, false, false, false, false, false, false] rfl rfl (by kernel_rfl) (fun c a w h => hP c a _ _ w h) (y_load (p := ⟨gq, 0, none⟩) rfl (by rfl) (by rfl) (fun W hS => run_load_one ((hS.1.cell 0).trans rfl) Tryd.underlying42 rfl)) hS332 rfl ?_
              (try simp only [zP, zN, zA, zB, zC])
              refine pure_ (i := 7) (N := some 73) (v := .int .i64 E2.L.length) #[true, true, true, true, false, true, true, true, false, false, false, false, false, false, false, false, false, false, false, false, false, false, false, false, false, false, false, false, false, false, false, false, false, false, false, false] rfl rfl (by kernel_rfl) (fun c a w h => hP c a _ _ w h) (y_run (by rfl) (fun W => by go_simp)) rfl ?_
              (try simp only [zP, zN, zA, zB, zC])
              refine one_ (i := 4) (N := some 70) #[true, true, true, true, true, true, true, true, false, false, false, false, false, false, false, false, false, false, false, false, false, false, false, false, false, false, false, false, false, false, false, false, false, false, false, false] rfl rfl (by kernel_rfl) (by simp) (fun K333 hK333 => ?_)
              refine e_call Tryd.func19 (by kernel_rfl) rfl #[.pointer (some ⟨x, 0, none⟩)] (by rfl) rfl rfl (by first | rfl | (simp only [List.map_toArray, List.map_cons, List.map_nil]; first | done | rfl)) ((len_l EX.out (by have := HF2.out.1; omega))) ?_
              rintro en w335 ⟨rfl, Bs334, bk, cc, bel⟩
              refine ⟨_, rfl, ?_⟩
              have hs336 := Lib.hid (show gq ∉ Bs334 from fun h9 => (bel _ h9).elim hs300.out (fun h8 => by have := Fgq.out.lt; omega))
              have hs337 := Lib.hid (show g201 ∉ Bs334 from fun h9 => (bel _ h9).elim hs301.out (fun h8 => by have := Fg201.out.lt; omega))
              have hs338 := Lib.hid (show g310 ∉ Bs334 from fun h9 => (bel _ h9).elim hs316.out (fun h8 => by have := Fg310.out.lt; omega))
              have hr339 := Lib.hid (show ∀ k_, k_ ∈ xb (.slice (some a) L.length z) → k_ ∉ Bs334 from fun k_ hk_ hB_ => (bel k_ hB_).elim (hr302.out k_ hk_) (fun h8 => by have := SL.out.lt (by decide) k_ hk_; omega))
              have hr340 := Lib.hid (show ∀ k_, k_ ∈ xb (.slice (some b) E2.L.length z214) → k_ ∉ Bs334 from fun k_ hk_ hB_ => (bel k_ hB_).elim (hr303.out k_ hk_) (fun h8 => by have := SQ.out.lt (by decide) k_ hk_; omega))
              have C0' := Lib.hid (show Ch [] w w335 from C0.out.trans' cc (fun x hx => .inr (EX.out.lt x hx).1))
              have Fgq' := Lib.hid (show Blk w335 gq ((#[.slice (some b) E2.L.length z214, .int .i64 E2.last])) 44 from cc.blk Fgq.out hs300.out)
              have SL' := Lib.hid (show SrcIs w335 (.slice (some a) L.length z) (L.length) (L.flatMap actC) 6 from SL.out.chx cc hr302.out)
              have Fg201' := Lib.hid (show Blk w335 g201 (#[.slice (some b) E2.L.length z214, .int .i64 E2.last]) 44 from cc.blk Fg201.out hs301.out)
              have SQ' := Lib.hid (show SrcIs w335 (.slice (some b) E2.L.length z214) (E2.L.length) (E2.L.flatMap sesC) 6 from SQ.out.chx cc hr303.out)
              have Fg310' := Lib.hid (show Blk w335 g310 (#[.int .i64 s.id, .int .i64 s.box, .int .i64 s.ctr, .bool s.op, .string (str s.qi), .string (str s.qo)]) 49 from cc.blk Fg310.out hs316.out)
              clear C0 Fgq SL Fg201 SQ Fg310
              have C0 := C0'; clear C0'
              have Fgq := Fgq'; clear Fgq'
              have SL := SL'; clear SL'
              have Fg201 := Fg201'; clear Fg201'
              have SQ := SQ'; clear SQ'
              have Fg310 := Fg310'; clear Fg310'
              clear EX cc bel
              have EX := Lib.hid (show ExIs w335 w.heap.size Bs334 x (64 * k + 64) (E2) from bk)
              clear bk
              refine hK333.out _ _ ⟨Fgq.out, Fg310.out, trivial⟩ (fun hS341 => ?_); clear hK333 K333
              (try simp only [zP, zN, zA, zB, zC])
              refine pure_ (i := 8) (N := some 74) (v := .bool false) #[true, true, true, true, true, true, true, true, true, false, false, false, false, false, false, false, false, false, false, false, false, false, false, false, false, false, false, false, false, false, false, false, false, false, false, false] rfl rfl (by kernel_rfl) (fun c a w h => hP c a _ _ w h) (y_run (by rfl) (fun W => by first | (go_simp; done) | (go_simp; rfl) | (go_simp; decide))) rfl ?_
              (try simp only [zP, zN, zA, zB, zC])
              refine pure_ (i := 9) (N := some 75) (v := .bool false) #[true, true, true, true, true, true, true, true, true, true, false, false, false, false, false, false, false, false, false, false, false, false, false, false, false, false, false, false, false, false, false, false, false, false, false, false] rfl rfl (by kernel_rfl) (fun c a w h => hP c a _ _ w h) (y_pick (t := false) (by rfl) rfl (by rfl) (by rfl)) rfl ?_
              (try simp only [zP, zN, zA, zB, zC])
              refine pure_ (i := 10) (N := some 76) (v := .bool false) #[true, true, true, true, true, true, true, true, true, true, true, false, false, false, false, false, false, false, false, false, false, false, false, false, false, false, false, false, false, false, false, false, false, false, false, false] rfl rfl (by kernel_rfl) (fun c a w h => hP c a _ _ w h) (y_move rfl (by rfl) (by rfl)) rfl ?_
              (try simp only [zP, zN, zA, zB, zC])
              refine pure_ (i := 11) (N := some 77) (v := .int .i64 s.box) #[true, true, true, true, true, true, true, true, true, true, true, true, false, false, false, false, false, false, false, false, false, false, false, false, false, false, false, false, false, false, false, false, false, false, false, false] rfl rfl (by kernel_rfl) (fun c a w h => hP c a _ _ w h) (y_move rfl (by rfl) (by rfl)) rfl ?_
              (try simp only [zP, zN, zA, zB, zC])
              refine pure_ (i := 12) (N := some 78) (v := .pointer (some ⟨g310, 1, none⟩)) #[true, true, true, true, true, true, true, true, true, true, true, true, true, false, false, false, false, false, false, false, false, false, false, false, false, false, false, false, false, false, false, false, false, false, false, false] rfl rfl (by kernel_rfl) (fun c a w h => hP c a _ _ w h) (y_run (by rfl) (fun W => by go_simp)) rfl ?_
              (try simp only [zP, zN, zA, zB, zC])
              refine take_ (i := 13) (N := some 79) (v := .int .i64 s.box) #[true, true, true, true, true, true, true, true, true, true, true, true, true, true, false, false, false, false, false, false, false, false, false, false, false, false, false, false, false, false, false, false, false, false, false, false] rfl rfl (by kernel_rfl) (fun c a w h => hP c a _ _ w h) (y_load (p := ⟨g310, 1, none⟩) rfl (by rfl) (by rfl) (fun W hS => run_load_one ((hS.2.1.cell 1).trans rfl) Tryd.underlying3 rfl)) hS341 rfl ?_
              (try simp only [zP, zN, zA, zB, zC])
              refine pure_ (i := 14) (N := some 80) (v := .bool false) #[true, true, true, true, true, true, true, true, true, true, true, true, true, true, true, false, false, false, false, false, false, false, false, false, false, false, false, false, false, false, false, false, false, false, false, false] rfl rfl (by kernel_rfl) (fun c a w h => hP c a _ _ w h) (y_run (by rfl) (fun W => by first | (go_simp; done) | (go_simp; rfl) | (go_simp; decide))) rfl ?_
              (try simp only [zP, zN, zA, zB, zC])
              refine pure_ (i := 15) (N := some 81) (v := .bool false) #[true, true, true, true, true, true, true, true, true, true, true, true, true, true, true, true, false, false, false, false, false, false, false, false, false, false, false, false, false, false, false, false, false, false, false, false] rfl rfl (by kernel_rfl) (fun c a w h => hP c a _ _ w h) (y_pick (t := false) (by rfl) rfl (by rfl) (by rfl)) rfl ?_
              (try simp only [zP, zN, zA, zB, zC])
              refine pure_ (i := 16) (N := some 82) (v := .bool false) #[true, true, true, true, true, true, true, true, true, true, true, true, true, true, true, true, true, false, false, false, false, false, false, false, false, false, false, false, false, false, false, false, false, false, false, false] rfl rfl (by kernel_rfl) (fun c a w h => hP c a _ _ w h) (y_move rfl (by rfl) (by rfl)) rfl ?_
              (try simp only [zP, zN, zA, zB, zC])
              refine pure_ (i := 17) (N := some 83) (v := .int .i64 s.ctr) #[true, true, true, true, true, true, true, true, true, true, true, true, true, true, true, true, true, true, false, false, false, false, false, false, false, false, false, false, false, false, false, false, false, false, false, false] rfl rfl (by kernel_rfl) (fun c a w h => hP c a _ _ w h) (y_move rfl (by rfl) (by rfl)) rfl ?_
              (try simp only [zP, zN, zA, zB, zC])
              refine pure_ (i := 18) (N := some 84) (v := .pointer (some ⟨g310, 2, none⟩)) #[true, true, true, true, true, true, true, true, true, true, true, true, true, true, true, true, true, true, true, false, false, false, false, false, false, false, false, false, false, false, false, false, false, false, false, false] rfl rfl (by kernel_rfl) (fun c a w h => hP c a _ _ w h) (y_run (by rfl) (fun W => by go_simp)) rfl ?_
              (try simp only [zP, zN, zA, zB, zC])
              refine take_ (i := 19) (N := some 85) (v := .int .i64 s.ctr) #[true, true, true, true, true, true, true, true, true, true, true, true, true, true, true, true, true, true, true, true, false, false, false, false, false, false, false, false, false, false, false, false, false, false, false, false] rfl rfl (by kernel_rfl) (fun c a w h => hP c a _ _ w h) (y_load (p := ⟨g310, 2, none⟩) rfl (by rfl) (by rfl) (fun W hS => run_load_one ((hS.2.1.cell 2).trans rfl) Tryd.underlying3 rfl)) hS341 rfl ?_
              (try simp only [zP, zN, zA, zB, zC])
              refine pure_ (i := 20) (N := some 86) (v := .bool false) #[true, true, true, true, true, true, true, true, true, true, true, true, true, true, true, true, true, true, true, true, true, false, false, false, false, false, false, false, false, false, false, false, false, false, false, false] rfl rfl (by kernel_rfl) (fun c a w h => hP c a _ _ w h) (y_run (by rfl) (fun W => by first | (go_simp; done) | (go_simp; rfl) | (go_simp; decide))) rfl ?_
              (try simp only [zP, zN, zA, zB, zC])
              refine pure_ (i := 21) (N := some 87) (v := .bool false) #[true, true, true, true, true, true, true, true, true, true, true, true, true, true, true, true, true, true, true, true, true, true, false, false, false, false, false, false, false, false, false, false, false, false, false, false] rfl rfl (by kernel_rfl) (fun c a w h => hP c a _ _ w h) (y_pick (t := false) (by rfl) rfl (by rfl) (by rfl)) rfl ?_
              (try simp only [zP, zN, zA, zB, zC])
              refine pure_ (i := 22) (N := some 88) (v := .bool false) #[true, true, true, true, true, true, true, true, true, true, true, true, true, true, true, true, true, true, true, true, true, true, true, false, false, false, false, false, false, false, false, false, false, false, false, false] rfl rfl (by kernel_rfl) (fun c a w h => hP c a _ _ w h) (y_move rfl (by rfl) (by rfl)) rfl ?_
              (try simp only [zP, zN, zA, zB, zC])
              refine pure_ (i := 23) (N := some 89) (v := .bool s.op) #[true, true, true, true, true, true, true, true, true, true, true, true, true, true, true, true, true, true, true, true, true, true, true, true, false, false, false, false, false, false, false, false, false, false, false, false] rfl rfl (by kernel_rfl) (fun c a w h => hP c a _ _ w h) (y_move rfl (by rfl) (by rfl)) rfl ?_
              (try simp only [zP, zN, zA, zB, zC])
              refine pure_ (i := 24) (N := some 90) (v := .pointer (some ⟨g310, 3, none⟩)) #[true, true, true, true, true, true, true, true, true, true, true, true, true, true, true, true, true, true, true, true, true, true, true, true, true, false, false, false, false, false, false, false, false, false, false, false] rfl rfl (by kernel_rfl) (fun c a w h => hP c a _ _ w h) (y_run (by rfl) (fun W => by go_simp)) rfl ?_
              (try simp only [zP, zN, zA, zB, zC])
              refine take_ (i := 25) (N := some 91) (v := .bool s.op) #[true, true, true, true, true, true, true, true, true, true, true, true, true, true, true, true, true, true, true, true, true, true, true, true, true, true, false, false, false, false, false, false, false, false, false, false] rfl rfl (by kernel_rfl) (fun c a w h => hP c a _ _ w h) (y_load (p := ⟨g310, 3, none⟩) rfl (by rfl) (by rfl) (fun W hS => run_load_one ((hS.2.1.cell 3).trans rfl) Tryd.underlying4 rfl)) hS341 rfl ?_
              (try simp only [zP, zN, zA, zB, zC])
              refine pure_ (i := 26) (N := some 92) (v := .bool false) #[true, true, true, true, true, true, true, true, true, true, true, true, true, true, true, true, true, true, true, true, true, true, true, true, true, true, true, false, false, false, false, false, false, false, false, false] rfl rfl (by kernel_rfl) (fun c a w h => hP c a _ _ w h) (y_run (by rfl) (fun W => by first | (go_simp; done) | (go_simp; rfl) | (go_simp; decide))) rfl ?_
              (try simp only [zP, zN, zA, zB, zC])
              refine pure_ (i := 27) (N := some 93) (v := .bool false) #[true, true, true, true, true, true, true, true, true, true, true, true, true, true, true, true, true, true, true, true, true, true, true, true, true, true, true, true, false, false, false, false, false, false, false, false] rfl rfl (by kernel_rfl) (fun c a w h => hP c a _ _ w h) (y_pick (t := false) (by rfl) rfl (by rfl) (by rfl)) rfl ?_
              (try simp only [zP, zN, zA, zB, zC])
              refine pure_ (i := 28) (N := some 94) (v := .bool false) #[true, true, true, true, true, true, true, true, true, true, true, true, true, true, true, true, true, true, true, true, true, true, true, true, true, true, true, true, true, false, false, false, false, false, false, false] rfl rfl (by kernel_rfl) (fun c a w h => hP c a _ _ w h) (y_move rfl (by rfl) (by rfl)) rfl ?_
              (try simp only [zP, zN, zA, zB, zC])
              refine pure_ (i := 29) (N := some 95) (v := .pointer (some ⟨x, 0, none⟩)) #[true, true, true, true, true, true, true, true, true, true, true, true, true, true, true, true, true, true, true, true, true, true, true, true, true, true, true, true, true, true, false, false, false, false, false, false] rfl rfl (by kernel_rfl) (fun c a w h => hP c a _ _ w h) (y_move rfl (by rfl) (by rfl)) rfl ?_
              (try simp only [zP, zN, zA, zB, zC])
              refine take_ (i := 31) (N := some 97) (v := .agg ((#[.slice (some b) E2.L.length z214, .int .i64 E2.last]))) #[true, true, true, true, true, true, true, true, true, true, true, true, true, true, true, true, true, true, true, true, true, true, true, true, true, true, true, true, true, true, false, true, false, false, false, false] rfl rfl (by kernel_rfl) (fun c a w h => hP c a _ _ w h) (y_load (p := ⟨gq, 0, none⟩) rfl (by rfl) (by rfl) (fun W hS => run_loadVar_row _ _ 44 44 ((#[.slice (some b) E2.L.length z214, .int .i64 E2.last])) (0, 0) _ hS.1 Tryd.underlying44 rfl (by kernel_rfl))) hS341 rfl ?_
              (try simp only [zP, zN, zA, zB, zC])
              refine one_ (i := 30) (N := some 96) #[true, true, true, true, true, true, true, true, true, true, true, true, true, true, true, true, true, true, true, true, true, true, true, true, true, true, true, true, true, true, true, true, false, false, false, false] rfl rfl (by kernel_rfl) (by simp) (fun K342 hK342 => ?_)
              refine e_call Tryd.func21 (by kernel_rfl) rfl #[.pointer (some ⟨x, 0, none⟩)] (by rfl) rfl rfl (by first | rfl | (simp only [List.map_toArray, List.map_cons, List.map_nil]; first | done | rfl)) ((busy_l EX.out (by have := HF2.out.1; omega) (by have := hlt.out; omega))) ?_
              rintro en w345 ⟨vOB, rfl, OB0, cc344⟩
              refine ⟨_, rfl, ?_⟩
              have hr343 := OB0.lt
              have rw346 := Lib.hid (show ∀ z_, z_ ∈ rl vOB → z_ ∈ [] ∨ w.heap.size ≤ z_ from fun x hx => .inr (by have := (fun k hk => (hr343 k hk).1) x hx; have := C0.out.size; omega))
              have xr347 := Lib.hid (show ∀ k, k ∈ xb (.slice (some a) L.length z) → k ∉ rl vOB from fun k hk hm => by have := (fun k hk => (hr343 k hk).1) k hm; have := SL.out.lt (by decide) k hk; omega)
              have xr348 := Lib.hid (show ∀ k, k ∈ xb (.slice (some b) E2.L.length z214) → k ∉ rl vOB from fun k hk hm => by have := (fun k hk => (hr343 k hk).1) k hm; have := SQ.out.lt (by decide) k hk; omega)
              have C0' := Lib.hid (show Ch [] w w345 from C0.out.trans' cc344 (fun x hx => absurd hx (by simp)))
              have EX' := Lib.hid (show ExIs w345 w.heap.size Bs334 x (64 * k + 64) (E2) from EX.out.ch cc344 (fun _ _ h => absurd h (by simp)))
              have Fgq' := Lib.hid (show Blk w345 gq ((#[.slice (some b) E2.L.length z214, .int .i64 E2.last])) 44 from cc344.blk Fgq.out nin_nil)
              have SL' := Lib.hid (show SrcIs w345 (.slice (some a) L.length z) (L.length) (L.flatMap actC) 6 from SL.out.chx cc344 xnin_nil)
              have Fg201' := Lib.hid (show Blk w345 g201 (#[.slice (some b) E2.L.length z214, .int .i64 E2.last]) 44 from cc344.blk Fg201.out nin_nil)
              have SQ' := Lib.hid (show SrcIs w345 (.slice (some b) E2.L.length z214) (E2.L.length) (E2.L.flatMap sesC) 6 from SQ.out.chx cc344 xnin_nil)
              have Fg310' := Lib.hid (show Blk w345 g310 (#[.int .i64 s.id, .int .i64 s.box, .int .i64 s.ctr, .bool s.op, .string (str s.qi), .string (str s.qo)]) 49 from cc344.blk Fg310.out nin_nil)
              clear C0 EX Fgq SL Fg201 SQ Fg310
              have C0 := C0'; clear C0'
              have EX := EX'; clear EX'
              have Fgq := Fgq'; clear Fgq'
              have SL := SL'; clear SL'
              have Fg201 := Fg201'; clear Fg201'
              have SQ := SQ'; clear SQ'
              have Fg310 := Fg310'; clear Fg310'
              clear cc344
              have OB := Lib.hid (show OwnS w345 w335.heap.size 3 1 (vOB) ((busyL E2).length) ((busyL E2).flatMap intC) from OB0)
              obtain ⟨Ab, zb, hv_, -, -⟩ := OB.out.slice
              subst hv_
              refine hK342.out _ _ ⟨Fgq.out, Fg310.out, trivial⟩ (fun hS349 => ?_); clear hK342 K342
              (try simp only [zP, zN, zA, zB, zC])
              refine one_ (i := 32) (N := some 98) #[true, true, true, true, true, true, true, true, true, true, true, true, true, true, true, true, true, true, true, true, true, true, true, true, true, true, true, true, true, true, true, true, true, false, false, false] rfl rfl (by kernel_rfl) (by simp) (fun K350 hK350 => ?_)
              refine e_call Tryd.func22 (by kernel_rfl) rfl #[.agg ((#[.slice (some b) E2.L.length z214, .int .i64 E2.last]))] (by rfl) rfl rfl (by first | rfl | (simp only [List.map_toArray, List.map_cons, List.map_nil]; first | done | rfl)) ((rbusy_l (E := E2) ⟨SQ.out, HZ2.out⟩ (by have := HF2.out.1; omega))) ?_
              rintro en w353 ⟨vOC, rfl, OC0, cc352⟩
              refine ⟨_, rfl, ?_⟩
              have hr351 := OC0.lt
              have rw354 := Lib.hid (show ∀ z_, z_ ∈ rl vOC → z_ ∈ [] ∨ w.heap.size ≤ z_ from fun x hx => .inr (by have := (fun k hk => (hr351 k hk).1) x hx; have := C0.out.size; omega))
              have xr355 := Lib.hid (show ∀ k, k ∈ xb (.slice (some a) L.length z) → k ∉ rl vOC from fun k hk hm => by have := (fun k hk => (hr351 k hk).1) k hm; have := SL.out.lt (by decide) k hk; omega)
              have xr356 := Lib.hid (show ∀ k, k ∈ xb (.slice (some b) E2.L.length z214) → k ∉ rl vOC from fun k hk hm => by have := (fun k hk => (hr351 k hk).1) k hm; have := SQ.out.lt (by decide) k hk; omega)
              have rr357 := Lib.hid (show ∀ k, k ∈ rl (.slice Ab (busyL E2).length zb) → k ∉ rl vOC from fun k hk hm => by have := (fun k hk => (hr351 k hk).1) k hm; have := (OB.out.lt k hk).2; omega)
              have C0' := Lib.hid (show Ch [] w w353 from C0.out.trans' cc352 (fun x hx => absurd hx (by simp)))
              have EX' := Lib.hid (show ExIs w353 w.heap.size Bs334 x (64 * k + 64) (E2) from EX.out.ch cc352 (fun _ _ h => absurd h (by simp)))
              have Fgq' := Lib.hid (show Blk w353 gq ((#[.slice (some b) E2.L.length z214, .int .i64 E2.last])) 44 from cc352.blk Fgq.out nin_nil)
              have SL' := Lib.hid (show SrcIs w353 (.slice (some a) L.length z) (L.length) (L.flatMap actC) 6 from SL.out.chx cc352 xnin_nil)
              have Fg201' := Lib.hid (show Blk w353 g201 (#[.slice (some b) E2.L.length z214, .int .i64 E2.last]) 44 from cc352.blk Fg201.out nin_nil)
              have SQ' := Lib.hid (show SrcIs w353 (.slice (some b) E2.L.length z214) (E2.L.length) (E2.L.flatMap sesC) 6 from SQ.out.chx cc352 xnin_nil)
              have Fg310' := Lib.hid (show Blk w353 g310 (#[.int .i64 s.id, .int .i64 s.box, .int .i64 s.ctr, .bool s.op, .string (str s.qi), .string (str s.qo)]) 49 from cc352.blk Fg310.out nin_nil)
              have OB' := Lib.hid (show OwnS w353 w335.heap.size 3 1 (.slice Ab (busyL E2).length zb) ((busyL E2).length) ((busyL E2).flatMap intC) from OB.out.ch cc352 rnin_nil)
              clear C0 EX Fgq SL Fg201 SQ Fg310 OB
              have C0 := C0'; clear C0'
              have EX := EX'; clear EX'
              have Fgq := Fgq'; clear Fgq'
              have SL := SL'; clear SL'
              have Fg201 := Fg201'; clear Fg201'
              have SQ := SQ'; clear SQ'
              have Fg310 := Fg310'; clear Fg310'
              have OB := OB'; clear OB'
              clear cc352
              have OC := Lib.hid (show OwnS w353 w345.heap.size 3 1 (vOC) ((busyL E2).length) ((busyL E2).flatMap intC) from OC0)
              obtain ⟨Ac, zc, hv_, -, -⟩ := OC.out.slice
              subst hv_
              refine hK350.out _ _ ⟨Fgq.out, Fg310.out, trivial⟩ (fun hS358 => ?_); clear hK350 K350
              (try simp only [zP, zN, zA, zB, zC])
              refine one_ (i := 33) (N := some 99) #[true, true, true, true, true, true, true, true, true, true, true, true, true, true, true, true, true, true, true, true, true, true, true, true, true, true, true, true, true, true, true, true, true, true, false, false] rfl rfl (by kernel_rfl) (by simp) (fun K359 hK359 => ?_)
              refine e_call Tryd.func20 (by kernel_rfl) rfl #[.slice Ab (busyL E2).length zb, .slice Ac (busyL E2).length zc] (by rfl) rfl rfl (by first | rfl | (simp only [List.map_toArray, List.map_cons, List.map_nil]; first | done | rfl)) ((same_ints (X := busyL E2) (Lib.hid rfl) (Lib.hid (by have := busyL_le E2; have := HF2.out.1; omega)) (Lib.hid OB.out.src) (Lib.hid OC.out.src))) ?_
              rintro en w361 ⟨rfl, cc360⟩
              refine ⟨_, rfl, ?_⟩
              have C0' := Lib.hid (show Ch [] w w361 from C0.out.trans' cc360 (fun x hx => absurd hx (by simp)))
              have EX' := Lib.hid (show ExIs w361 w.heap.size Bs334 x (64 * k + 64) (E2) from EX.out.ch cc360 (fun _ _ h => absurd h (by simp)))
              have Fgq' := Lib.hid (show Blk w361 gq ((#[.slice (some b) E2.L.length z214, .int .i64 E2.last])) 44 from cc360.blk Fgq.out nin_nil)
              have SL' := Lib.hid (show SrcIs w361 (.slice (some a) L.length z) (L.length) (L.flatMap actC) 6 from SL.out.chx cc360 xnin_nil)
              have Fg201' := Lib.hid (show Blk w361 g201 (#[.slice (some b) E2.L.length z214, .int .i64 E2.last]) 44 from cc360.blk Fg201.out nin_nil)
              have SQ' := Lib.hid (show SrcIs w361 (.slice (some b) E2.L.length z214) (E2.L.length) (E2.L.flatMap sesC) 6 from SQ.out.chx cc360 xnin_nil)
              have Fg310' := Lib.hid (show Blk w361 g310 (#[.int .i64 s.id, .int .i64 s.box, .int .i64 s.ctr, .bool s.op, .string (str s.qi), .string (str s.qo)]) 49 from cc360.blk Fg310.out nin_nil)
              have OB' := Lib.hid (show OwnS w361 w335.heap.size 3 1 (.slice Ab (busyL E2).length zb) ((busyL E2).length) ((busyL E2).flatMap intC) from OB.out.ch cc360 rnin_nil)
              have OC' := Lib.hid (show OwnS w361 w345.heap.size 3 1 (.slice Ac (busyL E2).length zc) ((busyL E2).length) ((busyL E2).flatMap intC) from OC.out.ch cc360 rnin_nil)
              clear C0 EX Fgq SL Fg201 SQ Fg310 OB OC
              have C0 := C0'; clear C0'
              have EX := EX'; clear EX'
              have Fgq := Fgq'; clear Fgq'
              have SL := SL'; clear SL'
              have Fg201 := Fg201'; clear Fg201'
              have SQ := SQ'; clear SQ'
              have Fg310 := Fg310'; clear Fg310'
              have OB := OB'; clear OB'
              have OC := OC'; clear OC'
              clear cc360
              refine hK359.out _ _ ⟨Fgq.out, Fg310.out, trivial⟩ (fun hS362 => ?_); clear hK359 K359
              (try simp only [zP, zN, zA, zB, zC])
              refine pure_ (i := 34) (N := some 100) (v := .bool false) #[true, true, true, true, true, true, true, true, true, true, true, true, true, true, true, true, true, true, true, true, true, true, true, true, true, true, true, true, true, true, true, true, true, true, true, false] rfl rfl (by kernel_rfl) (fun c a w h => hP c a _ _ w h) (y_run (by rfl) (fun W => by go_simp)) rfl ?_
              (try simp only [zP, zN, zA, zB, zC])
              refine pure_ (i := 35) (N := some 101) (v := .bool false) #[true, true, true, true, true, true, true, true, true, true, true, true, true, true, true, true, true, true, true, true, true, true, true, true, true, true, true, true, true, true, true, true, true, true, true, true] rfl rfl (by kernel_rfl) (fun c a w h => hP c a _ _ w h) (y_pick (t := false) (by rfl) rfl (by rfl) (by rfl)) rfl ?_
              (try simp only [zP, zN, zA, zB, zC])
              refine done_ (by kernel_rfl) (th_norm (hK329 _ _ ?_)); clear hK329 K329
              refine wp_cond_false rfl ?_
              refine wp_skip ?_
              refine ib_norm ?_
              refine th_norm (hK27 _ _ ?_); try clear hK27 K27
              refine r_ ?_
              refine pu_ (v := .int .i64 k) (y_move rfl (by rfl) (by rfl)) ?_
              (try simp only [zP, zN, zA, zB, zC])
              refine pu_ (v := .int .i64 (k + 1 : Nat)) (y_run (by rfl) (fun W => by have d := Wk.out; go_simp)) ?_
              (try simp only [zP, zN, zA, zB, zC])
              refine pu_ (v := .int .i64 (k + 1 : Nat)) (y_assign rfl (by rfl) (by rfl)) ?_
              (try simp only [zP, zN, zA, zB, zC])
              refine nl_ ?_
              exact th_norm (hK24 (kq - 1) _ _ (by have := hlt.out; have := hk.out; omega) ⟨k + 1, Bs334, E2, some b, z214, fun us_ => (#[.slice (some a) L.length z, .int .i64 ask, us 2, us 3, .bool false, .pointer (some ⟨x, 0, none⟩), .pointer (some ⟨gq, 0, none⟩), .int .i64 (k + 1 : Nat), .pointer (some ⟨g201, 0, none⟩), .bool true, .int .i64 s.box, .int .i64 s.ctr, .bool s.op, .int .i64 j, .pointer (some ⟨g310, 0, none⟩), us 15, us 16, us 17, us 18, .int .i64 k, .slice (some a) L.length z, .int .i64 L.length, .bool true, .bool true, .int .i64 k, .bool true, .bool true, .int .i64 k, .int .i64 (k + 1 : Nat), .slice (some a) L.length z, .int .i64 k, .pointer (some (a.add (k * 6))), .pointer (some ((a.add (k * 6)).add 5)), .string o.s, .int .i64 o.s.size, .bool false, us 36, .tuple #[.agg #[.slice (some b) E2.L.length z214, .int .i64 E2.last], .bool true], .pointer (some ⟨x, 0, none⟩), .agg (#[.slice qa E.L.length zq, .int .i64 E.last]), .slice (some a) L.length z, .int .i64 k, .pointer (some (a.add (k * 6))), .agg #[.int .i64 o.kind, .int .i64 o.id, .int .i64 o.box, .int .i64 o.ctr, .int .i64 o.n, .string o.s], .tuple #[.agg #[.slice (some b) E2.L.length z214, .int .i64 E2.last], .bool true], .agg #[.slice (some b) E2.L.length z214, .int .i64 E2.last], .bool true, .agg (#[.slice (some b) E2.L.length z214, .int .i64 E2.last]), .tuple #[.int .i64 s.box, .int .i64 s.ctr, .bool s.op], .pointer (some ⟨x, 0, none⟩), .int .i64 ask, .tuple #[.int .i64 s.box, .int .i64 s.ctr, .bool s.op], .int .i64 s.box, .int .i64 s.ctr, .bool s.op, .agg ((#[.slice (some b) E2.L.length z214, .int .i64 E2.last])), .int .i64 ask, .int .i64 j, .agg #[.int .i64 0, .int .i64 0, .int .i64 0, .bool false, .string ⟨#[]⟩, .string ⟨#[]⟩], .int .i64 j, .bool true, .pointer (some ⟨gq, 0, none⟩), .slice (some b) E2.L.length z214, .int .i64 j, .pointer (some (b.add (j * 6))), .agg #[.int .i64 s.id, .int .i64 s.box, .int .i64 s.ctr, .bool s.op, .string (str s.qi), .string (str s.qo)], .bool true, .bool false, .bool false, .pointer (some ⟨x, 0, none⟩), .int .i64 E2.L.length, .pointer (some ⟨gq, 0, none⟩), .slice (some b) E2.L.length z214, .int .i64 E2.L.length, .bool false, .bool false, .bool false, .int .i64 s.box, .pointer (some ⟨g310, 1, none⟩), .int .i64 s.box, .bool false, .bool false, .bool false, .int .i64 s.ctr, .pointer (some ⟨g310, 2, none⟩), .int .i64 s.ctr, .bool false, .bool false, .bool false, .bool s.op, .pointer (some ⟨g310, 3, none⟩), .bool s.op, .bool false, .bool false, .bool false, .pointer (some ⟨x, 0, none⟩), .slice Ab (busyL E2).length zb, .agg ((#[.slice (some b) E2.L.length z214, .int .i64 E2.last])), .slice Ac (busyL E2).length zc, .bool true, .bool false, .bool false, us 102, us 103, us 104, us 105, us 106, us 107, us 108, us 109, us 110] : Array Value).getD us_ undef, rfl, C0, Lib.hid (EX.out.up (by omega)), SQ, Fgq, SL, Lib.hid ⟨by have := hlt.out; omega, by have := hlt.out; omega, by have := hlt.out; have := hk.out; omega⟩, Lib.hid (by rw [HE2.out]; exact few_act hfew.out o), Lib.hid (by rw [HE2.out]; exact hlaw.out.act o), HZ2, hr340, hs336, nx217, hr339, hgx⟩)
    · have hg := Lib.hid h1
      clear h1
      have D22 := Lib.hid (show (k : Int) < (L.length : Int) by have := hl_; omega)
      have D25 := Lib.hid (show ¬ (k : Int) < 100 by have := hg.out; omega)
      clear hl_
      refine s_ (fun K363 hK363 => ?_)
      refine pu_ (v := .int .i64 k) (y_move rfl (by rfl) (by rfl)) ?_
      (try simp only [zP, zN, zA, zB, zC])
      refine pu_ (v := .slice A L.length z) (y_move rfl (by rfl) (by rfl)) ?_
      (try simp only [zP, zN, zA, zB, zC])
      refine pu_ (v := .int .i64 L.length) (y_run (by rfl) (fun W => by go_simp)) ?_
      (try simp only [zP, zN, zA, zB, zC])
      refine pu_ (v := .bool true) (y_run (by rfl) (fun W => by have d := D22.out; go_simp)) ?_
      (try simp only [zP, zN, zA, zB, zC])
      refine pu_ (v := .bool true) (y_move rfl (by rfl) (by rfl)) ?_
      (try simp only [zP, zN, zA, zB, zC])
      refine pu_ (v := .int .i64 k) (y_move rfl (by rfl) (by rfl)) ?_
      (try simp only [zP, zN, zA, zB, zC])
      refine pu_ (v := .bool false) (y_run (by rfl) (fun W => by have d := D25.out; go_simp)) ?_
      (try simp only [zP, zN, zA, zB, zC])
      refine pu_ (v := .bool false) (y_pick (t := true) (by rfl) rfl (by rfl) (by rfl)) ?_
      (try simp only [zP, zN, zA, zB, zC])
      refine nl_ (hK363 _ _ ?_); clear hK363 K363
      refine wp_cond_false rfl ?_
      refine wp_exit ?_
      refine th_exit ?_
      refine th_exit ?_
      refine ib_exit ?_
      exact th_norm (hK20 _ _ ⟨k, Bs, E, qa, zq, fun us_ => (#[.slice A L.length z, .int .i64 ask, us 2, us 3, .bool false, .pointer (some ⟨x, 0, none⟩), .pointer (some ⟨gq, 0, none⟩), .int .i64 k, us 8, us 9, us 10, us 11, us 12, us 13, us 14, us 15, us 16, us 17, us 18, .int .i64 k, .slice A L.length z, .int .i64 L.length, .bool true, .bool true, .int .i64 k, .bool false, .bool false, us 27, us 28, us 29, us 30, us 31, us 32, us 33, us 34, us 35, us 36, us 37, us 38, us 39, us 40, us 41, us 42, us 43, us 44, us 45, us 46, us 47, us 48, us 49, us 50, us 51, us 52, us 53, us 54, us 55, us 56, us 57, us 58, us 59, us 60, us 61, us 62, us 63, us 64, us 65, us 66, us 67, us 68, us 69, us 70, us 71, us 72, us 73, us 74, us 75, us 76, us 77, us 78, us 79, us 80, us 81, us 82, us 83, us 84, us 85, us 86, us 87, us 88, us 89, us 90, us 91, us 92, us 93, us 94, us 95, us 96, us 97, us 98, us 99, us 100, us 101, us 102, us 103, us 104, us 105, us 106, us 107, us 108, us 109, us 110] : Array Value).getD us_ undef, rfl, C0, EX, SQ, Fgq, Lib.hid hk.out.2.1, hfew, hlaw, hz, hqs, hgs, hgq⟩)
    · have D22 := Lib.hid (show ¬ k < L.length by have := h; omega)
      clear h
      refine s_ (fun K364 hK364 => ?_)
      refine pu_ (v := .int .i64 k) (y_move rfl (by rfl) (by rfl)) ?_
      (try simp only [zP, zN, zA, zB, zC])
      refine pu_ (v := .slice A L.length z) (y_move rfl (by rfl) (by rfl)) ?_
      (try simp only [zP, zN, zA, zB, zC])
      refine pu_ (v := .int .i64 L.length) (y_run (by rfl) (fun W => by go_simp)) ?_
      (try simp only [zP, zN, zA, zB, zC])
      refine pu_ (v := .bool false) (y_run (by rfl) (fun W => by have d := D22.out; go_simp)) ?_
      (try simp only [zP, zN, zA, zB, zC])
      refine pu_ (v := .bool false) (y_move rfl (by rfl) (by rfl)) ?_
      (try simp only [zP, zN, zA, zB, zC])
      refine pu_ (y_off (by rfl)) ?_
      (try simp only [zP, zN, zA, zB, zC])
      refine pu_ (y_off (by rfl)) ?_
      (try simp only [zP, zN, zA, zB, zC])
      refine pu_ (v := .bool false) (y_pick (t := false) (by rfl) rfl (by rfl) (by rfl)) ?_
      (try simp only [zP, zN, zA, zB, zC])
      refine nl_ (hK364 _ _ ?_); clear hK364 K364
      refine wp_cond_false rfl ?_
      refine wp_exit ?_
      refine th_exit ?_
      refine th_exit ?_
      refine ib_exit ?_
      exact th_norm (hK20 _ _ ⟨k, Bs, E, qa, zq, fun us_ => (#[.slice A L.length z, .int .i64 ask, us 2, us 3, .bool false, .pointer (some ⟨x, 0, none⟩), .pointer (some ⟨gq, 0, none⟩), .int .i64 k, us 8, us 9, us 10, us 11, us 12, us 13, us 14, us 15, us 16, us 17, us 18, .int .i64 k, .slice A L.length z, .int .i64 L.length, .bool false, .bool false, undef, undef, .bool false, us 27, us 28, us 29, us 30, us 31, us 32, us 33, us 34, us 35, us 36, us 37, us 38, us 39, us 40, us 41, us 42, us 43, us 44, us 45, us 46, us 47, us 48, us 49, us 50, us 51, us 52, us 53, us 54, us 55, us 56, us 57, us 58, us 59, us 60, us 61, us 62, us 63, us 64, us 65, us 66, us 67, us 68, us 69, us 70, us 71, us 72, us 73, us 74, us 75, us 76, us 77, us 78, us 79, us 80, us 81, us 82, us 83, us 84, us 85, us 86, us 87, us 88, us 89, us 90, us 91, us 92, us 93, us 94, us 95, us 96, us 97, us 98, us 99, us 100, us 101, us 102, us 103, us 104, us 105, us 106, us 107, us 108, us 109, us 110] : Array Value).getD us_ undef, rfl, C0, EX, SQ, Fgq, Lib.hid hk.out.2.1, hfew, hlaw, hz, hqs, hgs, hgq⟩)
  rintro _ w21 ⟨k, Bs, E, qa, zq, us, rfl, C0, EX, SQ, Fgq, hk, hfew, hlaw, hz, hqs, hgs, hgq⟩
  refine sq_ (fun K365 hK365 => ?_)
  refine startk_ (S := fun W => Blk W gq (#[.slice qa E.L.length zq, .int .i64 E.last]) 44 ∧ True) (ds := []) #[false, false, false, false, false, false, false, false, false, false] (by kernel_rfl) rfl rfl (fun W c => ⟨c.blk Fgq.out nin_nil, trivial⟩) (fun w366 C367 hS368 => ?_)
  have C0' := Lib.hid (show Ch [] w w366 from C0.out.trans' C367 (fun x hx => absurd hx (by simp)))
  have EX' := Lib.hid (show ExIs w366 w.heap.size Bs x (64 * k) (E) from EX.out.ch C367 (fun _ _ h => absurd h (by simp)))
  have SQ' := Lib.hid (show SrcIs w366 (.slice qa E.L.length zq) (E.L.length) (E.L.flatMap sesC) 6 from SQ.out.chx C367 xnin_nil)
  have Fgq' := Lib.hid (show Blk w366 gq (#[.slice qa E.L.length zq, .int .i64 E.last]) 44 from C367.blk Fgq.out nin_nil)
  clear C0 EX SQ Fgq
  have C0 := C0'; clear C0'
  have EX := EX'; clear EX'
  have SQ := SQ'; clear SQ'
  have Fgq := Fgq'; clear Fgq'
  clear C367
  refine pure_ (i := 0) (N := some 102) (v := .pointer (some ⟨x, 0, none⟩)) #[true, false, false, false, false, false, false, false, false, false] rfl rfl (by kernel_rfl) (fun c a w h => hP c a _ _ w h) (y_move rfl (by rfl) (by rfl)) rfl ?_
  (try simp only [zP, zN, zA, zB, zC])
  refine pure_ (i := 2) (N := some 104) (v := .pointer (some ⟨gq, 0, none⟩)) #[true, false, true, false, false, false, false, false, false, false] rfl rfl (by kernel_rfl) (fun c a w h => hP c a _ _ w h) (y_run (by rfl) (fun W => by go_simp)) rfl ?_
  (try simp only [zP, zN, zA, zB, zC])
  refine take_ (i := 3) (N := some 105) (v := .slice qa E.L.length zq) #[true, false, true, true, false, false, false, false, false, false] rfl rfl (by kernel_rfl) (fun c a w h => hP c a _ _ w h) (y_load (p := ⟨gq, 0, none⟩) rfl (by rfl) (by rfl) (fun W hS => run_load_one ((hS.1.cell 0).trans rfl) Tryd.underlying42 rfl)) hS368 rfl ?_
  (try simp only [zP, zN, zA, zB, zC])
  refine pure_ (i := 4) (N := some 106) (v := .int .i64 E.L.length) #[true, false, true, true, true, false, false, false, false, false] rfl rfl (by kernel_rfl) (fun c a w h => hP c a _ _ w h) (y_run (by rfl) (fun W => by go_simp)) rfl ?_
  (try simp only [zP, zN, zA, zB, zC])
  refine one_ (i := 1) (N := some 103) #[true, true, true, true, true, false, false, false, false, false] rfl rfl (by kernel_rfl) (by simp) (fun K369 hK369 => ?_)
  refine e_call Tryd.func19 (by kernel_rfl) rfl #[.pointer (some ⟨x, 0, none⟩)] (by rfl) rfl rfl (by first | rfl | (simp only [List.map_toArray, List.map_cons, List.map_nil]; first | done | rfl)) ((len_l EX.out (by have := hfew.out.1; omega))) ?_
  rintro en w371 ⟨rfl, Bs370, bk, cc, bel⟩
  refine ⟨_, rfl, ?_⟩
  have hs372 := Lib.hid (show gq ∉ Bs370 from fun h9 => (bel _ h9).elim hgs.out (fun h8 => by have := Fgq.out.lt; omega))
  have hr373 := Lib.hid (show ∀ k_, k_ ∈ xb (.slice qa E.L.length zq) → k_ ∉ Bs370 from fun k_ hk_ hB_ => (bel k_ hB_).elim (hqs.out k_ hk_) (fun h8 => by have := SQ.out.lt (by decide) k_ hk_; omega))
  have C0' := Lib.hid (show Ch [] w w371 from C0.out.trans' cc (fun x hx => .inr (EX.out.lt x hx).1))
  have SQ' := Lib.hid (show SrcIs w371 (.slice qa E.L.length zq) (E.L.length) (E.L.flatMap sesC) 6 from SQ.out.chx cc hqs.out)
  have Fgq' := Lib.hid (show Blk w371 gq (#[.slice qa E.L.length zq, .int .i64 E.last]) 44 from cc.blk Fgq.out hgs.out)
  clear C0 SQ Fgq
  have C0 := C0'; clear C0'
  have SQ := SQ'; clear SQ'
  have Fgq := Fgq'; clear Fgq'
  clear EX cc bel
  have EX := Lib.hid (show ExIs w371 w.heap.size Bs370 x (64 * k) (E) from bk)
  clear bk
  refine hK369.out _ _ ⟨Fgq.out, trivial⟩ (fun hS374 => ?_); clear hK369 K369
  (try simp only [zP, zN, zA, zB, zC])
  refine pure_ (i := 5) (N := some 107) (v := .bool true) #[true, true, true, true, true, true, false, false, false, false] rfl rfl (by kernel_rfl) (fun c a w h => hP c a _ _ w h) (y_run (by rfl) (fun W => by first | (go_simp; done) | (go_simp; rfl) | (go_simp; decide))) rfl ?_
  (try simp only [zP, zN, zA, zB, zC])
  refine pure_ (i := 6) (N := some 108) (v := .bool true) #[true, true, true, true, true, true, true, false, false, false] rfl rfl (by kernel_rfl) (fun c a w h => hP c a _ _ w h) (y_move rfl (by rfl) (by rfl)) rfl ?_
  (try simp only [zP, zN, zA, zB, zC])
  refine one_ (i := 7) (N := some 109) #[true, true, true, true, true, true, true, true, false, false] rfl rfl (by kernel_rfl) (by simp) (fun K375 hK375 => ?_)
  refine e_call Tryd.func6 (by kernel_rfl) rfl #[] (by rfl) rfl rfl (by first | rfl | (simp only [List.map_toArray, List.map_cons, List.map_nil]; first | done | rfl)) ((works_ (Lib.hid (tabs_ch HTB.out C0.out.below0)))) ?_
  rintro en w377 ⟨rfl, cc376⟩
  refine ⟨_, rfl, ?_⟩
  have C0' := Lib.hid (show Ch [] w w377 from C0.out.trans' cc376 (fun x hx => absurd hx (by simp)))
  have EX' := Lib.hid (show ExIs w377 w.heap.size Bs370 x (64 * k) (E) from EX.out.ch cc376 (fun _ _ h => absurd h (by simp)))
  have SQ' := Lib.hid (show SrcIs w377 (.slice qa E.L.length zq) (E.L.length) (E.L.flatMap sesC) 6 from SQ.out.chx cc376 xnin_nil)
  have Fgq' := Lib.hid (show Blk w377 gq (#[.slice qa E.L.length zq, .int .i64 E.last]) 44 from cc376.blk Fgq.out nin_nil)
  clear C0 EX SQ Fgq
  have C0 := C0'; clear C0'
  have EX := EX'; clear EX'
  have SQ := SQ'; clear SQ'
  have Fgq := Fgq'; clear Fgq'
  clear cc376
  refine hK375.out _ _ ⟨Fgq.out, trivial⟩ (fun hS378 => ?_); clear hK375 K375
  (try simp only [zP, zN, zA, zB, zC])
  refine pure_ (i := 8) (N := some 110) (v := .bool true) #[true, true, true, true, true, true, true, true, true, false] rfl rfl (by kernel_rfl) (fun c a w h => hP c a _ _ w h) (y_pick (t := true) (by rfl) rfl (by rfl) (by rfl)) rfl ?_
  (try simp only [zP, zN, zA, zB, zC])
  refine pure_ (i := 9) (N := some 4) (v := .bool true) #[true, true, true, true, true, true, true, true, true, true] rfl rfl (by kernel_rfl) (fun c a w h => hP c a _ _ w h) (y_assign rfl (by rfl) (by rfl)) rfl ?_
  (try simp only [zP, zN, zA, zB, zC])
  refine done_ (by kernel_rfl) (th_norm (hK365 _ _ ?_)); clear hK365 K365
  refine wp_ret ?_
  refine hQ _ _ _ ?_
  refine bodyPost_ret (res1 rfl (rdv_tmp (v := .bool true) (by rfl))) rfl ?_
  exact ⟨rfl, C0.out⟩
end
end Go.Proofs.YtcfkdglaedpnjaaDoor.V
