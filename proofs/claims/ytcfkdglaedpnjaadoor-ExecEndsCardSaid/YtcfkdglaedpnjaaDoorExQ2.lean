/- The walk of the law ExecEnds. -/
import Derived.Test.YtcfkdglaedpnjaaDoorExO
namespace Go.Proofs.YtcfkdglaedpnjaaDoor.V
open Go Go.RowKit Go.Proofs.YtcfkdglaedpnjaaDoor.K Go.Proofs.YtcfkdglaedpnjaaDoor.R Go.Proofs.YtcfkdglaedpnjaaDoorW.PrintLast
set_option linter.unusedVariables false
set_option linter.unusedSimpArgs false
set_option maxRecDepth 100000
set_option maxHeartbeats 6000000
section
variable {w : World}
theorem ends_ {A : Option Addr} {z : Nat} {L : List HA} {box ctr : Int} (HTB : Hid (Tabs w)) (HOK : Hid (∀ o ∈ L, IntOk o.n)) (SL : Hid (SrcIs w (.slice A L.length z) (L.length) (L.flatMap actC) 6)) :
    Calls Tryd.prog 4 #[.slice A L.length z, .int .i64 box, .int .i64 ctr] w fun en w' => en = .returned (.bool true) ∧ Ch [] w w' := by
  have C0 := Lib.hid (Ch.refl [] w)
  obtain ⟨i4, I4⟩ := Info.of info4
  go_enter Tryd.func4, Tryd.ntmps4
  refine q_ (fun Q hQ hP => ?_)
  refine s_ (fun K1 hK1 => ?_)
  refine pu_ (v := .bool false) (y_assign rfl (by rfl) (by rfl)) ?_
  (try simp only [zP, zN, zA, zB, zC])
  refine nl_ (hK1 _ _ ?_); clear hK1 K1
  refine sq_ (fun K2 hK2 => ?_)
  refine s_ (fun K3 hK3 => ?_)
  refine ef_ (fun K4 hK4 => ?_)
  refine e_call Tryd.func6 (by kernel_rfl) rfl #[] (by rfl) rfl rfl (by first | rfl | (simp only [List.map_toArray, List.map_cons, List.map_nil]; first | done | rfl)) ((works_ (Lib.hid (tabs_ch HTB.out C0.out.below0)))) ?_
  rintro en w6 ⟨rfl, cc5⟩
  refine ⟨_, rfl, ?_⟩
  have C0' := Lib.hid (show Ch [] w w6 from C0.out.trans' cc5 (fun x hx => absurd hx (by simp)))
  have SL' := Lib.hid (show SrcIs w6 (.slice A L.length z) (L.length) (L.flatMap actC) 6 from SL.out.chx cc5 xnin_nil)
  clear C0 SL
  have C0 := C0'; clear C0'
  have SL := SL'; clear SL'
  clear cc5
  refine hK4 _ _ ?_; clear hK4 K4
  (try simp only [zP, zN, zA, zB, zC])
  refine pu_ (v := .bool false) (y_run (by rfl) (fun W => by go_simp)) ?_
  (try simp only [zP, zN, zA, zB, zC])
  refine nl_ (hK3 _ _ ?_); clear hK3 K3
  refine wp_cond_false rfl ?_
  refine wp_skip ?_
  refine th_norm (hK2 _ _ ?_); try clear hK2 K2
  refine s_ (fun K7 hK7 => ?_)
  refine ef_ (fun K8 hK8 => ?_)
  refine e_call Tryd.func7 (by kernel_rfl) rfl #[] (by rfl) rfl rfl (by first | rfl | (simp only [List.map_toArray, List.map_cons, List.map_nil]; first | done | rfl)) ((new_l (lo := w.heap.size) C0.out.size)) ?_
  rintro en w9 ⟨x, rfl, bk, hge, cc⟩
  refine ⟨_, rfl, ?_⟩
  have hxsN := Lib.hid (show ∀ k_, k_ ∈ xb (.slice A L.length z) → k_ ∉ [x] from fun k_ hk_ hm_ => by have h8 := SL.out.lt (by decide) k_ hk_; rw [List.mem_singleton.1 hm_] at h8; omega)
  have C0' := Lib.hid (show Ch [] w w9 from C0.out.trans' cc (fun x hx => absurd hx (by simp)))
  have SL' := Lib.hid (show SrcIs w9 (.slice A L.length z) (L.length) (L.flatMap actC) 6 from SL.out.chx cc xnin_nil)
  clear C0 SL
  have C0 := C0'; clear C0'
  have SL := SL'; clear SL'
  have EX := Lib.hid (show ExIs w9 w.heap.size [x] x (64 * 0) (⟨[], 0⟩) from bk)
  clear bk cc
  refine hK8 _ _ ?_; clear hK8 K8
  (try simp only [zP, zN, zA, zB, zC])
  refine pu_ (v := .pointer (some ⟨x, 0, none⟩)) (y_assign rfl (by rfl) (by rfl)) ?_
  (try simp only [zP, zN, zA, zB, zC])
  refine nl_ (hK7 _ _ ?_); clear hK7 K7
  refine sq_ (fun K10 hK10 => ?_)
  refine s_ (fun K11 hK11 => ?_)
  refine pu_ (v := .pointer (some ⟨x, 0, none⟩)) (y_move rfl (by rfl) (by rfl)) ?_
  (try simp only [zP, zN, zA, zB, zC])
  refine pu_ (v := .bool false) (y_run (by rfl) (fun W => by first | (go_simp; done) | (go_simp; rfl) | (go_simp; decide))) ?_
  (try simp only [zP, zN, zA, zB, zC])
  refine nl_ (hK11 _ _ ?_); clear hK11 K11
  refine wp_cond_false rfl ?_
  refine wp_skip ?_
  refine th_norm (hK10 _ _ ?_); try clear hK10 K10
  refine s_ (fun K12 hK12 => ?_)
  refine pu_ (v := .agg #[.slice none 0 0, .int .i64 0]) (y_build (vs := #[]) (by rfl) rfl (by first | rfl | (simp only [List.map_toArray, List.map_cons, List.map_nil]; first | done | rfl)) (by kernel_rfl)) ?_
  (try simp only [zP, zN, zA, zB, zC])
  refine ef_ (fun K13 hK13 => ?_)
  refine e_alloc (by rfl) rfl rfl (cs := #[.slice none 0 0, .int .i64 0]) (by kernel_rfl) ?_
  rintro gq w14 HG15 B16 C17
  have nw18 := Lib.hid (show w.heap.size ≤ gq by have := C0.out.size; have := HG15.out; omega)
  have nx19 := Lib.hid (SL.out.ne_new (by decide) HG15)
  have hs20 := Lib.hid (show gq ∉ [x] from fun hk => by have h8 := (EX.out.lt _ hk).2; have := HG15.out; omega)
  have C0' := Lib.hid (show Ch [] w w14 from C0.out.trans' C17 (fun x hx => absurd hx (by simp)))
  have SL' := Lib.hid (show SrcIs w14 (.slice A L.length z) (L.length) (L.flatMap actC) 6 from SL.out.chx C17 xnin_nil)
  have EX' := Lib.hid (show ExIs w14 w.heap.size [x] x (64 * 0) (⟨[], 0⟩) from EX.out.ch C17 (fun _ _ h => absurd h (by simp)))
  clear C0 SL EX
  have C0 := C0'; clear C0'
  have SL := SL'; clear SL'
  have EX := EX'; clear EX'
  have Fgq := Lib.hid (show Blk w14 gq (#[.slice none 0 0, .int .i64 0]) 44 from B16); clear B16 C17
  refine hK13 _ _ ?_; clear hK13 K13
  (try simp only [zP, zN, zA, zB, zC])
  refine ef_ (fun K21 hK21 => ?_)
  refine e_storeN (cells := #[.slice none 0 0, .int .i64 0]) (by rfl) rfl rfl (by rfl) (by rfl) Fgq.out (by kernel_rfl) (by rfl) (ones_cons rfl (ones_cons rfl ones_nil)) ?_
  rintro w22 B23 C24
  have C0' := Lib.hid (show Ch [] w w22 from C0.out.trans' C24 (inw_cons (.inr nw18.out) inw_nil))
  have SL' := Lib.hid (show SrcIs w22 (.slice A L.length z) (L.length) (L.flatMap actC) 6 from SL.out.chx C24 (xnin_cons nx19.out xnin_nil))
  have EX' := Lib.hid (show ExIs w22 w.heap.size [x] x (64 * 0) (⟨[], 0⟩) from EX.out.ch C24 (fun k hk hm => (List.mem_cons.1 hm).elim (fun e => hs20.out (e ▸ hk)) (fun h => (fun _ _ h => absurd h (by simp)) k hk h)))
  clear C0 SL EX
  have C0 := C0'; clear C0'
  have SL := SL'; clear SL'
  have EX := EX'; clear EX'
  clear Fgq; have Fgq := Lib.hid (show Blk w22 gq (#[.slice none 0 0, .int .i64 0]) 44 from B23); clear B23 C24
  refine hK21 _ _ ?_; clear hK21 K21
  (try simp only [zP, zN, zA, zB, zC])
  refine nl_ (hK12 _ _ ?_); clear hK12 K12
  refine cutk_ (fun (a' : Act) (w' : World) => ∃ (k : Nat), ∃ (Bs : List Nat), ∃ (E : HX), ∃ (qa : Option Addr), ∃ (zq : Nat), ∃ (us : Nat → Value), a' = ⟨#[us 0, .int .i64 box, .int .i64 ctr, us 3, us 4, us 5, .bool false, .pointer (some ⟨x, 0, none⟩), .pointer (some ⟨gq, 0, none⟩), us 9, us 10, us 11, us 12, us 13, us 14, us 15, us 16, us 17, us 18, us 19, us 20, us 21, us 22, us 23, us 24, us 25, us 26, us 27, us 28, us 29, us 30, us 31, us 32, us 33, us 34, us 35, us 36, us 37, us 38, us 39, us 40, us 41, us 42, us 43, us 44, us 45, us 46, us 47, us 48, us 49, us 50, us 51, us 52, us 53, us 54, us 55, us 56, us 57, us 58, us 59, us 60, us 61, us 62, us 63, us 64, us 65, us 66, us 67, us 68, us 69, us 70, us 71, us 72, us 73, us 74, us 75, us 76, us 77, us 78, us 79, us 80, us 81, us 82, us 83, us 84, us 85, us 86, us 87, us 88, us 89, us 90, us 91, us 92, us 93, us 94, us 95, us 96, us 97, us 98, us 99, us 100, us 101, us 102, us 103, us 104, us 105, us 106, us 107, us 108, us 109, us 110, us 111, us 112, us 113, us 114, us 115, us 116, us 117, us 118, us 119, us 120, us 121, us 122, us 123, us 124, us 125, us 126, us 127, us 128, us 129, us 130, us 131, us 132, us 133, us 134, us 135, us 136, us 137, us 138, us 139, us 140, us 141, us 142, us 143, us 144, us 145, us 146, us 147, us 148, us 149, us 150, us 151, us 152, us 153, us 154, us 155, us 156, us 157, us 158, us 159, us 160, us 161, us 162, us 163, us 164, us 165, us 166, us 167, us 168, us 169, us 170, us 171, us 172, us 173, us 174, us 175, us 176, us 177, us 178, us 179, us 180, us 181, us 182, us 183, us 184, us 185, us 186, us 187, us 188, us 189, us 190, us 191, us 192, us 193, us 194, us 195, us 196, us 197, us 198, us 199, us 200], []⟩ ∧ Hid (Ch [] w w') ∧ Hid (ExIs w' w.heap.size Bs x (64 * k) (E)) ∧ Hid (SrcIs w' (.slice qa E.L.length zq) (E.L.length) (E.L.flatMap sesC) 6) ∧ Hid (Blk w' gq (#[.slice qa E.L.length zq, .int .i64 E.last]) 44) ∧ Hid (k ≤ 100) ∧ Hid (Few E k) ∧ Hid (Lawful E) ∧ Hid (E.L.length ≤ zq ∧ zq ≤ maxLen) ∧ Hid (∀ k_, k_ ∈ xb (.slice qa E.L.length zq) → k_ ∉ Bs) ∧ Hid (gq ∉ Bs) ∧ Hid (gq ∉ xb (.slice qa E.L.length zq))) (fun K25 hK25 => ?_) ?_
  · refine s_ (fun K27 hK27 => ?_)
    refine pu_ (v := .int .i64 0) (y_assign rfl (by rfl) (by rfl)) ?_
    (try simp only [zP, zN, zA, zB, zC])
    refine nl_ (hK27 _ _ ?_); clear hK27 K27
    refine wp_block ?_
    have hgN := nw18
    have SQ := Lib.hid (show SrcIs w22 (.slice none (⟨[], 0⟩ : HX).L.length 0) ((⟨[], 0⟩ : HX).L.length) ((⟨[], 0⟩ : HX).L.flatMap sesC) 6 from (RefIs.new w22).1)
    refine loopk_ (fun (kq : Nat) (a' : Act) (w' : World) => ∃ (k : Nat), ∃ (Bs : List Nat), ∃ (E : HX), ∃ (qa : Option Addr), ∃ (zq : Nat), ∃ (us : Nat → Value), a' = ⟨#[.slice A L.length z, .int .i64 box, .int .i64 ctr, us 3, us 4, us 5, .bool false, .pointer (some ⟨x, 0, none⟩), .pointer (some ⟨gq, 0, none⟩), .int .i64 k, us 10, us 11, us 12, us 13, us 14, us 15, us 16, us 17, us 18, us 19, us 20, us 21, us 22, us 23, us 24, us 25, us 26, us 27, us 28, us 29, us 30, us 31, us 32, us 33, us 34, us 35, us 36, us 37, us 38, us 39, us 40, us 41, us 42, us 43, us 44, us 45, us 46, us 47, us 48, us 49, us 50, us 51, us 52, us 53, us 54, us 55, us 56, us 57, us 58, us 59, us 60, us 61, us 62, us 63, us 64, us 65, us 66, us 67, us 68, us 69, us 70, us 71, us 72, us 73, us 74, us 75, us 76, us 77, us 78, us 79, us 80, us 81, us 82, us 83, us 84, us 85, us 86, us 87, us 88, us 89, us 90, us 91, us 92, us 93, us 94, us 95, us 96, us 97, us 98, us 99, us 100, us 101, us 102, us 103, us 104, us 105, us 106, us 107, us 108, us 109, us 110, us 111, us 112, us 113, us 114, us 115, us 116, us 117, us 118, us 119, us 120, us 121, us 122, us 123, us 124, us 125, us 126, us 127, us 128, us 129, us 130, us 131, us 132, us 133, us 134, us 135, us 136, us 137, us 138, us 139, us 140, us 141, us 142, us 143, us 144, us 145, us 146, us 147, us 148, us 149, us 150, us 151, us 152, us 153, us 154, us 155, us 156, us 157, us 158, us 159, us 160, us 161, us 162, us 163, us 164, us 165, us 166, us 167, us 168, us 169, us 170, us 171, us 172, us 173, us 174, us 175, us 176, us 177, us 178, us 179, us 180, us 181, us 182, us 183, us 184, us 185, us 186, us 187, us 188, us 189, us 190, us 191, us 192, us 193, us 194, us 195, us 196, us 197, us 198, us 199, us 200], []⟩ ∧ Hid (Ch [] w w') ∧ Hid (ExIs w' w.heap.size Bs x (64 * k) (E)) ∧ Hid (SrcIs w' (.slice qa E.L.length zq) (E.L.length) (E.L.flatMap sesC) 6) ∧ Hid (Blk w' gq (#[.slice qa E.L.length zq, .int .i64 E.last]) 44) ∧ Hid (SrcIs w' (.slice A L.length z) (L.length) (L.flatMap actC) 6) ∧ Hid (k ≤ L.length ∧ k ≤ 100 ∧ kq + k = L.length) ∧ Hid (Few E k) ∧ Hid (Lawful E) ∧ Hid (E.L.length ≤ zq ∧ zq ≤ maxLen) ∧ Hid (∀ k_, k_ ∈ xb (.slice qa E.L.length zq) → k_ ∉ Bs) ∧ Hid (gq ∉ Bs) ∧ Hid (gq ∉ xb (.slice qa E.L.length zq)) ∧ Hid (∀ k_, k_ ∈ xb (.slice A L.length z) → k_ ∉ Bs) ∧ Hid (gq ∉ xb (.slice A L.length z))) (L.length) (⟨0, [x], (⟨[], 0⟩ : HX), none, 0, fun us_ => (#[.slice A L.length z, .int .i64 box, .int .i64 ctr, undef, undef, undef, .bool false, .pointer (some ⟨x, 0, none⟩), .pointer (some ⟨gq, 0, none⟩), .int .i64 0, undef, undef, undef, undef, undef, undef, undef, undef, undef, undef, undef, undef, undef, undef, undef, undef, undef, .bool true, .bool false, .pointer (some ⟨x, 0, none⟩), .pointer (some ⟨x, 0, none⟩), .bool false, .agg #[.slice none 0 0, .int .i64 0], undef, undef, undef, undef, undef, undef, undef, undef, undef, undef, undef, undef, undef, undef, undef, undef, undef, undef, undef, undef, undef, undef, undef, undef, undef, undef, undef, undef, undef, undef, undef, undef, undef, undef, undef, undef, undef, undef, undef, undef, undef, undef, undef, undef, undef, undef, undef, undef, undef, undef, undef, undef, undef, undef, undef, undef, undef, undef, undef, undef, undef, undef, undef, undef, undef, undef, undef, undef, undef, undef, undef, undef, undef, undef, undef, undef, undef, undef, undef, undef, undef, undef, undef, undef, undef, undef, undef, undef, undef, undef, undef, undef, undef, undef, undef, undef, undef, undef, undef, undef, undef, undef, undef, undef, undef, undef, undef, undef, undef, undef, undef, undef, undef, undef, undef, undef, undef, undef, undef, undef, undef, undef, undef, undef, undef, undef, undef, undef, undef, undef, undef, undef, undef, undef, undef, undef, undef, undef, undef, undef, undef, undef, undef, undef, undef, undef, undef, undef, undef, undef, undef, undef, undef, undef, undef, undef, undef, undef, undef, undef, undef, undef, undef, undef, undef, undef, undef, undef] : Array Value).getD us_ undef, rfl, C0, EX, SQ, Fgq, SL, Lib.hid ⟨by omega, by omega, by omega⟩, Lib.hid ⟨by show 0 ≤ 8; omega, Nat.le_refl _⟩, Lib.hid Lawful.new, Lib.hid (RefIs.new w).2, Lib.hid (fun k_ hk_ => absurd hk_ (by simp [xb])), hs20, Lib.hid (fun hk_ => absurd hk_ (by simp [xb])), hxsN, nx19⟩) ?_
    rintro kq _ w28 ⟨k, Bs, E, qa, zq, us, rfl, C0, EX, SQ, Fgq, SL, hk, hfew, hlaw, hz, hqs, hgs, hgq, hxs, hgx⟩ K29 hK29
    refine sq_ (fun K30 hK30 => ?_)
    rcases (show (∃ o, L[k]? = some o ∧ k < L.length ∧ k < 100) ∨ (k < L.length ∧ 100 ≤ k) ∨ k = L.length by rcases at_ways' hk.out.1 with ⟨o, ho0, hlt0⟩ | h; rcases (show k < 100 ∨ 100 ≤ k by omega) with h1 | h1; exact .inl ⟨o, ho0, hlt0, h1⟩; exact .inr (.inl ⟨hlt0, h1⟩); exact .inr (.inr h)) with ⟨o, ho0, hlt0, h1⟩ | ⟨hl_, h1⟩ | h
    · have hlt := Lib.hid (And.intro hlt0 h1)
      have ho := Lib.hid ho0
      clear hlt0 ho0 h1
      obtain ⟨a, hsm_a⟩ := src_some SL.out (by have := hlt.out; omega)
      subst hsm_a
      have D36 := Lib.hid (show (k : Int) < (L.length : Int) by have := hlt.out; omega)
      have D39 := Lib.hid (show (k : Int) < (100 : Int) by have := hlt.out; omega)
      have Wk := Lib.hid (show IntKind.i64.wrap ((k : Int) + 1) = ((k + 1 : Nat) : Int) by rw [wr64 (by have := hlt.out; omega)]; omega)
      have hok := Lib.hid (HOK.out o (List.mem_of_getElem? ho.out))
      refine s_ (fun K31 hK31 => ?_)
      refine pu_ (v := .int .i64 k) (y_move rfl (by rfl) (by rfl)) ?_
      (try simp only [zP, zN, zA, zB, zC])
      refine pu_ (v := .slice (some a) L.length z) (y_move rfl (by rfl) (by rfl)) ?_
      (try simp only [zP, zN, zA, zB, zC])
      refine pu_ (v := .int .i64 L.length) (y_run (by rfl) (fun W => by go_simp)) ?_
      (try simp only [zP, zN, zA, zB, zC])
      refine pu_ (v := .bool true) (y_run (by rfl) (fun W => by have d := D36.out; go_simp)) ?_
      (try simp only [zP, zN, zA, zB, zC])
      refine pu_ (v := .bool true) (y_move rfl (by rfl) (by rfl)) ?_
      (try simp only [zP, zN, zA, zB, zC])
      refine pu_ (v := .int .i64 k) (y_move rfl (by rfl) (by rfl)) ?_
      (try simp only [zP, zN, zA, zB, zC])
      refine pu_ (v := .bool true) (y_run (by rfl) (fun W => by have d := D39.out; go_simp)) ?_
      (try simp only [zP, zN, zA, zB, zC])
      refine pu_ (v := .bool true) (y_pick (t := true) (by rfl) rfl (by rfl) (by rfl)) ?_
      (try simp only [zP, zN, zA, zB, zC])
      refine nl_ (hK31 _ _ ?_); clear hK31 K31
      refine wp_cond_true rfl ?_
      refine wp_skip ?_
      refine th_norm (hK30 _ _ ?_); try clear hK30 K30
      refine sq_ (fun K32 hK32 => ?_)
      refine wp_block ?_
      refine sq_ (fun K33 hK33 => ?_)
      rcases (show 300 < o.s.size ∨ o.s.size ≤ 300 by omega) with h | h
      · have HSZ := Lib.hid h
        have D49 := Lib.hid (show  (300 : Int) < (o.s.size : Int) by have := HSZ.out; omega)
        clear h
        refine s_ (fun K34 hK34 => ?_)
        refine pu_ (v := .slice (some a) L.length z) (y_move rfl (by rfl) (by rfl)) ?_
        (try simp only [zP, zN, zA, zB, zC])
        refine pu_ (v := .int .i64 k) (y_move rfl (by rfl) (by rfl)) ?_
        (try simp only [zP, zN, zA, zB, zC])
        refine pu_ (v := .pointer (some (a.add (k * 6)))) (y_run (by rfl) (fun W => by have d := D36.out; go_simp)) ?_
        (try simp only [zP, zN, zA, zB, zC])
        refine pu_ (v := .pointer (some ((a.add (k * 6)).add 5))) (y_run (by rfl) (fun W => by go_simp)) ?_
        (try simp only [zP, zN, zA, zB, zC])
        refine ld_ (v := .string o.s) rfl (by rfl) (by rfl) (run_load_one (src_at actC_len SL.out ho.out 5 (.string o.s) rfl) Tryd.underlying9 rfl) ?_
        (try simp only [zP, zN, zA, zB, zC])
        refine pu_ (v := .int .i64 o.s.size) (y_run (by rfl) (fun W => by go_simp)) ?_
        (try simp only [zP, zN, zA, zB, zC])
        refine pu_ (v := .bool true) (y_run (by rfl) (fun W => by have d := D49.out; go_simp)) ?_
        (try simp only [zP, zN, zA, zB, zC])
        refine nl_ (hK34 _ _ ?_); clear hK34 K34
        refine wp_cond_true rfl ?_
        refine s_ (fun K35 hK35 => ?_)
        refine pu_ (v := .bool true) (y_assign rfl (by rfl) (by rfl)) ?_
        (try simp only [zP, zN, zA, zB, zC])
        refine nl_ (hK35 _ _ ?_); clear hK35 K35
        refine wp_ret ?_
        refine th_ret ?_
        refine ib_ret ?_
        refine th_ret ?_
        refine th_ret ?_
        refine ib_ret ?_
        refine th_ret ?_
        refine hQ _ _ _ ?_
        refine bodyPost_ret (res1 rfl (rdv_tmp (v := .bool true) (by rfl))) rfl ?_
        exact ⟨rfl, C0.out⟩
      · have HSZ := Lib.hid h
        have D49 := Lib.hid (show ¬ (300 : Int) < (o.s.size : Int) by have := HSZ.out; omega)
        clear h
        obtain ⟨E2, hE2⟩ : ∃ E2, E2 = actS E o := ⟨_, rfl⟩
        have HE2 := Lib.hid hE2
        clear hE2
        have HF2 := Lib.hid (show Few E2 (k + 1) by rw [HE2.out]; exact few_act hfew.out o)
        refine s_ (fun K36 hK36 => ?_)
        refine pu_ (v := .slice (some a) L.length z) (y_move rfl (by rfl) (by rfl)) ?_
        (try simp only [zP, zN, zA, zB, zC])
        refine pu_ (v := .int .i64 k) (y_move rfl (by rfl) (by rfl)) ?_
        (try simp only [zP, zN, zA, zB, zC])
        refine pu_ (v := .pointer (some (a.add (k * 6)))) (y_run (by rfl) (fun W => by have d := D36.out; go_simp)) ?_
        (try simp only [zP, zN, zA, zB, zC])
        refine pu_ (v := .pointer (some ((a.add (k * 6)).add 5))) (y_run (by rfl) (fun W => by go_simp)) ?_
        (try simp only [zP, zN, zA, zB, zC])
        refine ld_ (v := .string o.s) rfl (by rfl) (by rfl) (run_load_one (src_at actC_len SL.out ho.out 5 (.string o.s) rfl) Tryd.underlying9 rfl) ?_
        (try simp only [zP, zN, zA, zB, zC])
        refine pu_ (v := .int .i64 o.s.size) (y_run (by rfl) (fun W => by go_simp)) ?_
        (try simp only [zP, zN, zA, zB, zC])
        refine pu_ (v := .bool false) (y_run (by rfl) (fun W => by have d := D49.out; go_simp)) ?_
        (try simp only [zP, zN, zA, zB, zC])
        refine nl_ (hK36 _ _ ?_); clear hK36 K36
        refine wp_cond_false rfl ?_
        refine wp_skip ?_
        refine th_norm (hK33 _ _ ?_); try clear hK33 K33
        refine sq_ (fun K37 hK37 => ?_)
        refine startk_ (S := fun W => Blk W gq (#[.slice qa E.L.length zq, .int .i64 E.last]) 44 ∧ SrcIs W (.slice (some a) L.length z) (L.length) (L.flatMap actC) 6 ∧ True) (ds := []) #[false, false, false, false, false, false, false, false, false, false, false, false, false] (by kernel_rfl) rfl rfl (fun W c => ⟨c.blk Fgq.out nin_nil, SL.out.chx c xnin_nil, trivial⟩) (fun w38 C39 hS40 => ?_)
        have C0' := Lib.hid (show Ch [] w w38 from C0.out.trans' C39 (fun x hx => absurd hx (by simp)))
        have EX' := Lib.hid (show ExIs w38 w.heap.size Bs x (64 * k) (E) from EX.out.ch C39 (fun _ _ h => absurd h (by simp)))
        have SQ' := Lib.hid (show SrcIs w38 (.slice qa E.L.length zq) (E.L.length) (E.L.flatMap sesC) 6 from SQ.out.chx C39 xnin_nil)
        have Fgq' := Lib.hid (show Blk w38 gq (#[.slice qa E.L.length zq, .int .i64 E.last]) 44 from C39.blk Fgq.out nin_nil)
        have SL' := Lib.hid (show SrcIs w38 (.slice (some a) L.length z) (L.length) (L.flatMap actC) 6 from SL.out.chx C39 xnin_nil)
        clear C0 EX SQ Fgq SL
        have C0 := C0'; clear C0'
        have EX := EX'; clear EX'
        have SQ := SQ'; clear SQ'
        have Fgq := Fgq'; clear Fgq'
        have SL := SL'; clear SL'
        clear C39
        refine pure_ (i := 0) (N := some 51) (v := .pointer (some ⟨x, 0, none⟩)) #[true, false, false, false, false, false, false, false, false, false, false, false, false] rfl rfl (by kernel_rfl) (fun c a w h => hP c a _ _ w h) (y_move rfl (by rfl) (by rfl)) rfl ?_
        (try simp only [zP, zN, zA, zB, zC])
        refine take_ (i := 1) (N := some 52) (v := .agg (#[.slice qa E.L.length zq, .int .i64 E.last])) #[true, true, false, false, false, false, false, false, false, false, false, false, false] rfl rfl (by kernel_rfl) (fun c a w h => hP c a _ _ w h) (y_load (p := ⟨gq, 0, none⟩) rfl (by rfl) (by rfl) (fun W hS => run_loadVar_row _ _ 44 44 (#[.slice qa E.L.length zq, .int .i64 E.last]) (0, 0) _ hS.1 Tryd.underlying44 rfl (by kernel_rfl))) hS40 rfl ?_
        (try simp only [zP, zN, zA, zB, zC])
        refine pure_ (i := 2) (N := some 53) (v := .slice (some a) L.length z) #[true, true, true, false, false, false, false, false, false, false, false, false, false] rfl rfl (by kernel_rfl) (fun c a w h => hP c a _ _ w h) (y_move rfl (by rfl) (by rfl)) rfl ?_
        (try simp only [zP, zN, zA, zB, zC])
        refine pure_ (i := 3) (N := some 54) (v := .int .i64 k) #[true, true, true, true, false, false, false, false, false, false, false, false, false] rfl rfl (by kernel_rfl) (fun c a w h => hP c a _ _ w h) (y_move rfl (by rfl) (by rfl)) rfl ?_
        (try simp only [zP, zN, zA, zB, zC])
        refine pure_ (i := 4) (N := some 55) (v := .pointer (some (a.add (k * 6)))) #[true, true, true, true, true, false, false, false, false, false, false, false, false] rfl rfl (by kernel_rfl) (fun c a w h => hP c a _ _ w h) (y_run (by rfl) (fun W => by have d := D36.out; go_simp)) rfl ?_
        (try simp only [zP, zN, zA, zB, zC])
        refine take_ (i := 5) (N := some 56) (v := .agg #[.int .i64 o.kind, .int .i64 o.id, .int .i64 o.box, .int .i64 o.ctr, .int .i64 o.n, .string o.s]) #[true, true, true, true, true, true, false, false, false, false, false, false, false] rfl rfl (by kernel_rfl) (fun c a w h => hP c a _ _ w h) (y_load (p := (a.add (k * 6))) rfl (by rfl) (by rfl) (fun W hS => run_loadVar_at (cs := actC o) (src_at actC_len hS.2.1 ho.out) Tryd.underlying28 rfl (by kernel_rfl))) hS40 rfl ?_
        (try simp only [zP, zN, zA, zB, zC])
        refine two_ (i := 6) (j := 10) (Ni := some 57) (Nj := some 10) #[true, true, true, true, true, true, true, false, false, false, false, false, false] #[true, true, true, true, true, true, false, false, false, false, true, false, false] rfl rfl rfl rfl (by kernel_rfl) (by simp) (by simp) (fun K41 hK41 => ?_) (fun K42 hK42 => ?_)
        · refine e_call Tryd.func17 (by kernel_rfl) rfl #[.pointer (some ⟨x, 0, none⟩), .agg (#[.slice qa E.L.length zq, .int .i64 E.last]), .agg #[.int .i64 o.kind, .int .i64 o.id, .int .i64 o.box, .int .i64 o.ctr, .int .i64 o.n, .string o.s]] (by rfl) rfl rfl (by first | rfl | (simp only [List.map_toArray, List.map_cons, List.map_nil]; first | done | rfl)) ((by have h9 := does_l (c := 64 * k) (o := o) (w0 := w) (Lib.hid hfew.out.1) (Lib.hid (by have := hlt.out; omega)) (Lib.hid (by have := hfew.out.2; have := hlt.out; omega)) hok HSZ HTB (Lib.hid rfl) (Lib.hid C0.out.below0) hqs ⟨SQ.out, hz.out⟩ EX.out; rw [← HE2.out] at h9; exact h9)) ?_
          rintro en w46 ⟨A43, z44, Bs45, rfl, ⟨⟨h1, h2⟩, h4⟩, bk, cc, bel, hqb⟩
          refine ⟨_, rfl, ?_⟩
          have nx47 := Lib.hid (show gq ∉ xb (.slice A43 E2.L.length z44) from fun hk => (h4 _ hk).elim hgq.out (fun h8 => by have := Fgq.out.lt; omega))
          have hs48 := Lib.hid (show gq ∉ Bs45 from fun h9 => (bel _ h9).elim hgs.out (fun h8 => by have := Fgq.out.lt; omega))
          have xs49 := Lib.hid (show ∀ k_, k_ ∈ xb (.slice (some a) L.length z) → k_ ∉ Bs45 from fun k_ hk_ hB_ => (bel k_ hB_).elim (hxs.out k_ hk_) (fun h8 => by have := SL.out.lt (by decide) k_ hk_; omega))
          have HQB := Lib.hid hqb
          have HZ2 := Lib.hid h2
          clear hqb h2 h4
          have C0' := Lib.hid (show Ch [] w w46 from C0.out.trans' cc (fun x hx => .inr (EX.out.lt x hx).1))
          have Fgq' := Lib.hid (show Blk w46 gq (#[.slice qa E.L.length zq, .int .i64 E.last]) 44 from cc.blk Fgq.out hgs.out)
          have SL' := Lib.hid (show SrcIs w46 (.slice (some a) L.length z) (L.length) (L.flatMap actC) 6 from SL.out.chx cc hxs.out)
          clear C0 Fgq SL
          have C0 := C0'; clear C0'
          have Fgq := Fgq'; clear Fgq'
          have SL := SL'; clear SL'
          clear EX SQ cc bel
          have EX := Lib.hid (show ExIs w46 w.heap.size Bs45 x (64 * k + 64) (E2) from bk)
          clear bk
          have SQ := Lib.hid h1
          clear h1
          refine hK41.out _ _ ⟨Fgq.out, SL.out, trivial⟩ (fun hS50 => ?_); clear hK41 K41
          (try simp only [zP, zN, zA, zB, zC])
          refine pure_ (i := 7) (N := some 50) (v := .tuple #[.agg #[.slice A43 E2.L.length z44, .int .i64 E2.last], .bool true]) #[true, true, true, true, true, true, true, true, false, false, false, false, false] rfl rfl (by kernel_rfl) (fun c a w h => hP c a _ _ w h) (y_move rfl (by rfl) (by rfl)) rfl ?_
          (try simp only [zP, zN, zA, zB, zC])
          refine pure_ (i := 8) (N := some 58) (v := .agg #[.slice A43 E2.L.length z44, .int .i64 E2.last]) #[true, true, true, true, true, true, true, true, true, false, false, false, false] rfl rfl (by kernel_rfl) (fun c a w h => hP c a _ _ w h) (y_run (by rfl) (fun W => by go_simp)) rfl ?_
          (try simp only [zP, zN, zA, zB, zC])
          refine pure_ (i := 9) (N := some 59) (v := .bool true) #[true, true, true, true, true, true, true, true, true, true, false, false, false] rfl rfl (by kernel_rfl) (fun c a w h => hP c a _ _ w h) (y_run (by rfl) (fun W => by go_simp)) rfl ?_
          (try simp only [zP, zN, zA, zB, zC])
          refine one_ (i := 10) (N := some 10) #[true, true, true, true, true, true, true, true, true, true, true, false, false] rfl rfl (by kernel_rfl) (by simp) (fun K51 hK51 => ?_)
          refine e_alloc (by rfl) rfl rfl (cs := #[.slice none 0 0, .int .i64 0]) (by kernel_rfl) ?_
          rintro g52 w53 HG54 B55 C56
          have nw57 := Lib.hid (show w.heap.size ≤ g52 by have := C0.out.size; have := HG54.out; omega)
          have hs58 := Lib.hid (show g52 ∉ Bs45 from fun hk => by have h8 := (EX.out.lt _ hk).2; have := HG54.out; omega)
          have ne59 := Lib.hid (Fgq.out.ne_new HG54)
          have nx60 := Lib.hid (SL.out.ne_new (by decide) HG54)
          have nx61 := Lib.hid (SQ.out.ne_new (by decide) HG54)
          have C0' := Lib.hid (show Ch [] w w53 from C0.out.trans' C56 (fun x hx => absurd hx (by simp)))
          have EX' := Lib.hid (show ExIs w53 w.heap.size Bs45 x (64 * k + 64) (E2) from EX.out.ch C56 (fun _ _ h => absurd h (by simp)))
          have Fgq' := Lib.hid (show Blk w53 gq (#[.slice qa E.L.length zq, .int .i64 E.last]) 44 from C56.blk Fgq.out nin_nil)
          have SL' := Lib.hid (show SrcIs w53 (.slice (some a) L.length z) (L.length) (L.flatMap actC) 6 from SL.out.chx C56 xnin_nil)
          have SQ' := Lib.hid (show SrcIs w53 (.slice A43 E2.L.length z44) (E2.L.length) (E2.L.flatMap sesC) 6 from SQ.out.chx C56 xnin_nil)
          clear C0 EX Fgq SL SQ
          have C0 := C0'; clear C0'
          have EX := EX'; clear EX'
          have Fgq := Fgq'; clear Fgq'
          have SL := SL'; clear SL'
          have SQ := SQ'; clear SQ'
          have Fg52 := Lib.hid (show Blk w53 g52 (#[.slice none 0 0, .int .i64 0]) 44 from B55); clear B55 C56
          refine hK51.out _ _ ⟨Fgq.out, SL.out, trivial⟩ (fun hS62 => ?_); clear hK51 K51
          (try simp only [zP, zN, zA, zB, zC])
          refine one_ (i := 11) (N := none) #[true, true, true, true, true, true, true, true, true, true, true, true, false] rfl rfl (by kernel_rfl) (by simp) (fun K63 hK63 => ?_)
          refine e_storeN (cells := #[.slice A43 E2.L.length z44, .int .i64 E2.last]) (by rfl) rfl rfl (by rfl) (by rfl) Fg52.out (by kernel_rfl) (by rfl) (ones_cons rfl (ones_cons rfl ones_nil)) ?_
          rintro w64 B65 C66
          have C0' := Lib.hid (show Ch [] w w64 from C0.out.trans' C66 (inw_cons (.inr nw57.out) inw_nil))
          have EX' := Lib.hid (show ExIs w64 w.heap.size Bs45 x (64 * k + 64) (E2) from EX.out.ch C66 (fun k hk hm => (List.mem_cons.1 hm).elim (fun e => hs58.out (e ▸ hk)) (fun h => (fun _ _ h => absurd h (by simp)) k hk h)))
          have Fgq' := Lib.hid (show Blk w64 gq (#[.slice qa E.L.length zq, .int .i64 E.last]) 44 from C66.blk Fgq.out (nin_cons ne59.out nin_nil))
          have SL' := Lib.hid (show SrcIs w64 (.slice (some a) L.length z) (L.length) (L.flatMap actC) 6 from SL.out.chx C66 (xnin_cons nx60.out xnin_nil))
          have SQ' := Lib.hid (show SrcIs w64 (.slice A43 E2.L.length z44) (E2.L.length) (E2.L.flatMap sesC) 6 from SQ.out.chx C66 (xnin_cons nx61.out xnin_nil))
          clear C0 EX Fgq SL SQ
          have C0 := C0'; clear C0'
          have EX := EX'; clear EX'
          have Fgq := Fgq'; clear Fgq'
          have SL := SL'; clear SL'
          have SQ := SQ'; clear SQ'
          clear Fg52; have Fg52 := Lib.hid (show Blk w64 g52 (#[.slice A43 E2.L.length z44, .int .i64 E2.last]) 44 from B65); clear B65 C66
          refine hK63.out _ _ ⟨Fgq.out, SL.out, trivial⟩ (fun hS67 => ?_); clear hK63 K63
          (try simp only [zP, zN, zA, zB, zC])
          refine pure_ (i := 12) (N := some 11) (v := .bool true) #[true, true, true, true, true, true, true, true, true, true, true, true, true] rfl rfl (by kernel_rfl) (fun c a w h => hP c a _ _ w h) (y_assign rfl (by rfl) (by rfl)) rfl ?_
          (try simp only [zP, zN, zA, zB, zC])
          refine done_ (by kernel_rfl) (th_norm (hK37 _ _ ?_)); clear hK37 K37
          refine r_ ?_
          refine ld_ (v := .agg (#[.slice A43 E2.L.length z44, .int .i64 E2.last])) rfl (by rfl) (by rfl) (run_loadVar_row _ _ 44 44 (#[.slice A43 E2.L.length z44, .int .i64 E2.last]) (0, 0) _ Fg52.out Tryd.underlying44 rfl (by kernel_rfl)) ?_
          (try simp only [zP, zN, zA, zB, zC])
          refine ef_ (fun K68 hK68 => ?_)
          refine e_storeN (cells := (#[.slice A43 E2.L.length z44, .int .i64 E2.last])) (by rfl) rfl rfl (by rfl) (by rfl) Fgq.out (by kernel_rfl) (by rfl) (ones_cons rfl (ones_cons rfl ones_nil)) ?_
          rintro w69 B70 C71
          have C0' := Lib.hid (show Ch [] w w69 from C0.out.trans' C71 (inw_cons (.inr hgN.out) inw_nil))
          have EX' := Lib.hid (show ExIs w69 w.heap.size Bs45 x (64 * k + 64) (E2) from EX.out.ch C71 (fun k hk hm => (List.mem_cons.1 hm).elim (fun e => hs48.out (e ▸ hk)) (fun h => (fun _ _ h => absurd h (by simp)) k hk h)))
          have SL' := Lib.hid (show SrcIs w69 (.slice (some a) L.length z) (L.length) (L.flatMap actC) 6 from SL.out.chx C71 (xnin_cons hgx.out xnin_nil))
          have SQ' := Lib.hid (show SrcIs w69 (.slice A43 E2.L.length z44) (E2.L.length) (E2.L.flatMap sesC) 6 from SQ.out.chx C71 (xnin_cons nx47.out xnin_nil))
          have Fg52' := Lib.hid (show Blk w69 g52 (#[.slice A43 E2.L.length z44, .int .i64 E2.last]) 44 from C71.blk Fg52.out (nin_cons (Ne.symm ne59.out) nin_nil))
          clear C0 EX SL SQ Fg52
          have C0 := C0'; clear C0'
          have EX := EX'; clear EX'
          have SL := SL'; clear SL'
          have SQ := SQ'; clear SQ'
          have Fg52 := Fg52'; clear Fg52'
          clear Fgq; have Fgq := Lib.hid (show Blk w69 gq ((#[.slice A43 E2.L.length z44, .int .i64 E2.last])) 44 from B70); clear B70 C71
          refine hK68 _ _ ?_; clear hK68 K68
          (try simp only [zP, zN, zA, zB, zC])
          refine nl_ ?_
          refine ib_norm ?_
          refine th_norm (hK32 _ _ ?_); try clear hK32 K32
          refine r_ ?_
          refine pu_ (v := .int .i64 k) (y_move rfl (by rfl) (by rfl)) ?_
          (try simp only [zP, zN, zA, zB, zC])
          refine pu_ (v := .int .i64 (k + 1 : Nat)) (y_run (by rfl) (fun W => by have d := Wk.out; go_simp)) ?_
          (try simp only [zP, zN, zA, zB, zC])
          refine pu_ (v := .int .i64 (k + 1 : Nat)) (y_assign rfl (by rfl) (by rfl)) ?_
          (try simp only [zP, zN, zA, zB, zC])
          refine nl_ ?_
          exact th_norm (hK29 (kq - 1) _ _ (by have := hlt.out; have := hk.out; omega) ⟨k + 1, Bs45, E2, A43, z44, fun us_ => (#[.slice (some a) L.length z, .int .i64 box, .int .i64 ctr, us 3, us 4, us 5, .bool false, .pointer (some ⟨x, 0, none⟩), .pointer (some ⟨gq, 0, none⟩), .int .i64 (k + 1 : Nat), .pointer (some ⟨g52, 0, none⟩), .bool true, us 12, us 13, us 14, us 15, us 16, us 17, us 18, us 19, us 20, us 21, us 22, us 23, us 24, us 25, us 26, us 27, us 28, us 29, us 30, us 31, us 32, .int .i64 k, .slice (some a) L.length z, .int .i64 L.length, .bool true, .bool true, .int .i64 k, .bool true, .bool true, .int .i64 k, .int .i64 (k + 1 : Nat), .slice (some a) L.length z, .int .i64 k, .pointer (some (a.add (k * 6))), .pointer (some ((a.add (k * 6)).add 5)), .string o.s, .int .i64 o.s.size, .bool false, .tuple #[.agg #[.slice A43 E2.L.length z44, .int .i64 E2.last], .bool true], .pointer (some ⟨x, 0, none⟩), .agg (#[.slice qa E.L.length zq, .int .i64 E.last]), .slice (some a) L.length z, .int .i64 k, .pointer (some (a.add (k * 6))), .agg #[.int .i64 o.kind, .int .i64 o.id, .int .i64 o.box, .int .i64 o.ctr, .int .i64 o.n, .string o.s], .tuple #[.agg #[.slice A43 E2.L.length z44, .int .i64 E2.last], .bool true], .agg #[.slice A43 E2.L.length z44, .int .i64 E2.last], .bool true, .agg (#[.slice A43 E2.L.length z44, .int .i64 E2.last]), us 61, us 62, us 63, us 64, us 65, us 66, us 67, us 68, us 69, us 70, us 71, us 72, us 73, us 74, us 75, us 76, us 77, us 78, us 79, us 80, us 81, us 82, us 83, us 84, us 85, us 86, us 87, us 88, us 89, us 90, us 91, us 92, us 93, us 94, us 95, us 96, us 97, us 98, us 99, us 100, us 101, us 102, us 103, us 104, us 105, us 106, us 107, us 108, us 109, us 110, us 111, us 112, us 113, us 114, us 115, us 116, us 117, us 118, us 119, us 120, us 121, us 122, us 123, us 124, us 125, us 126, us 127, us 128, us 129, us 130, us 131, us 132, us 133, us 134, us 135, us 136, us 137, us 138, us 139, us 140, us 141, us 142, us 143, us 144, us 145, us 146, us 147, us 148, us 149, us 150, us 151, us 152, us 153, us 154, us 155, us 156, us 157, us 158, us 159, us 160, us 161, us 162, us 163, us 164, us 165, us 166, us 167, us 168, us 169, us 170, us 171, us 172, us 173, us 174, us 175, us 176, us 177, us 178, us 179, us 180, us 181, us 182, us 183, us 184, us 185, us 186, us 187, us 188, us 189, us 190, us 191, us 192, us 193, us 194, us 195, us 196, us 197, us 198, us 199, us 200] : Array Value).getD us_ undef, rfl, C0, Lib.hid (EX.out.up (by omega)), SQ, Fgq, SL, Lib.hid ⟨by have := hlt.out; omega, by have := hlt.out; omega, by have := hlt.out; have := hk.out; omega⟩, Lib.hid (by rw [HE2.out]; exact few_act hfew.out o), Lib.hid (by rw [HE2.out]; exact hlaw.out.act o), HZ2, HQB, hs48, nx47, xs49, hgx⟩)
        · refine e_alloc (by rfl) rfl rfl (cs := #[.slice none 0 0, .int .i64 0]) (by kernel_rfl) ?_
          rintro g72 w73 HG74 B75 C76
          have nw77 := Lib.hid (show w.heap.size ≤ g72 by have := C0.out.size; have := HG74.out; omega)
          have hs78 := Lib.hid (show g72 ∉ Bs from fun hk => by have h8 := (EX.out.lt _ hk).2; have := HG74.out; omega)
          have nx79 := Lib.hid (SQ.out.ne_new (by decide) HG74)
          have ne80 := Lib.hid (Fgq.out.ne_new HG74)
          have nx81 := Lib.hid (SL.out.ne_new (by decide) HG74)
          have C0' := Lib.hid (show Ch [] w w73 from C0.out.trans' C76 (fun x hx => absurd hx (by simp)))
          have EX' := Lib.hid (show ExIs w73 w.heap.size Bs x (64 * k) (E) from EX.out.ch C76 (fun _ _ h => absurd h (by simp)))
          have SQ' := Lib.hid (show SrcIs w73 (.slice qa E.L.length zq) (E.L.length) (E.L.flatMap sesC) 6 from SQ.out.chx C76 xnin_nil)
          have Fgq' := Lib.hid (show Blk w73 gq (#[.slice qa E.L.length zq, .int .i64 E.last]) 44 from C76.blk Fgq.out nin_nil)
          have SL' := Lib.hid (show SrcIs w73 (.slice (some a) L.length z) (L.length) (L.flatMap actC) 6 from SL.out.chx C76 xnin_nil)
          clear C0 EX SQ Fgq SL
          have C0 := C0'; clear C0'
          have EX := EX'; clear EX'
          have SQ := SQ'; clear SQ'
          have Fgq := Fgq'; clear Fgq'
          have SL := SL'; clear SL'
          have Fg72 := Lib.hid (show Blk w73 g72 (#[.slice none 0 0, .int .i64 0]) 44 from B75); clear B75 C76
          refine hK42.out _ _ ⟨Fgq.out, SL.out, trivial⟩ (fun hS82 => ?_); clear hK42 K42
          (try simp only [zP, zN, zA, zB, zC])
          refine one_ (i := 6) (N := some 57) #[true, true, true, true, true, true, true, false, false, false, true, false, false] rfl rfl (by kernel_rfl) (by simp) (fun K83 hK83 => ?_)
          refine e_call Tryd.func17 (by kernel_rfl) rfl #[.pointer (some ⟨x, 0, none⟩), .agg (#[.slice qa E.L.length zq, .int .i64 E.last]), .agg #[.int .i64 o.kind, .int .i64 o.id, .int .i64 o.box, .int .i64 o.ctr, .int .i64 o.n, .string o.s]] (by rfl) rfl rfl (by first | rfl | (simp only [List.map_toArray, List.map_cons, List.map_nil]; first | done | rfl)) ((by have h9 := does_l (c := 64 * k) (o := o) (w0 := w) (Lib.hid hfew.out.1) (Lib.hid (by have := hlt.out; omega)) (Lib.hid (by have := hfew.out.2; have := hlt.out; omega)) hok HSZ HTB (Lib.hid rfl) (Lib.hid C0.out.below0) hqs ⟨SQ.out, hz.out⟩ EX.out; rw [← HE2.out] at h9; exact h9)) ?_
          rintro en w87 ⟨A84, z85, Bs86, rfl, ⟨⟨h1, h2⟩, h4⟩, bk, cc, bel, hqb⟩
          refine ⟨_, rfl, ?_⟩
          have nx88 := Lib.hid (show gq ∉ xb (.slice A84 E2.L.length z85) from fun hk => (h4 _ hk).elim hgq.out (fun h8 => by have := Fgq.out.lt; omega))
          have hs89 := Lib.hid (show gq ∉ Bs86 from fun h9 => (bel _ h9).elim hgs.out (fun h8 => by have := Fgq.out.lt; omega))
          have xs90 := Lib.hid (show ∀ k_, k_ ∈ xb (.slice (some a) L.length z) → k_ ∉ Bs86 from fun k_ hk_ hB_ => (bel k_ hB_).elim (hxs.out k_ hk_) (fun h8 => by have := SL.out.lt (by decide) k_ hk_; omega))
          have nx91 := Lib.hid (show g72 ∉ xb (.slice A84 E2.L.length z85) from fun hk => (h4 _ hk).elim nx79.out (fun h8 => by have := Fg72.out.lt; omega))
          have hs92 := Lib.hid (show g72 ∉ Bs86 from fun h9 => (bel _ h9).elim hs78.out (fun h8 => by have := Fg72.out.lt; omega))
          have HQB := Lib.hid hqb
          have HZ2 := Lib.hid h2
          clear hqb h2 h4
          have C0' := Lib.hid (show Ch [] w w87 from C0.out.trans' cc (fun x hx => .inr (EX.out.lt x hx).1))
          have Fgq' := Lib.hid (show Blk w87 gq (#[.slice qa E.L.length zq, .int .i64 E.last]) 44 from cc.blk Fgq.out hgs.out)
          have SL' := Lib.hid (show SrcIs w87 (.slice (some a) L.length z) (L.length) (L.flatMap actC) 6 from SL.out.chx cc hxs.out)
          have Fg72' := Lib.hid (show Blk w87 g72 (#[.slice none 0 0, .int .i64 0]) 44 from cc.blk Fg72.out hs78.out)
          clear C0 Fgq SL Fg72
          have C0 := C0'; clear C0'
          have Fgq := Fgq'; clear Fgq'
          have SL := SL'; clear SL'
          have Fg72 := Fg72'; clear Fg72'
          clear EX SQ cc bel
          have EX := Lib.hid (show ExIs w87 w.heap.size Bs86 x (64 * k + 64) (E2) from bk)
          clear bk
          have SQ := Lib.hid h1
          clear h1
          refine hK83.out _ _ ⟨Fgq.out, SL.out, trivial⟩ (fun hS93 => ?_); clear hK83 K83
          (try simp only [zP, zN, zA, zB, zC])
          refine pure_ (i := 7) (N := some 50) (v := .tuple #[.agg #[.slice A84 E2.L.length z85, .int .i64 E2.last], .bool true]) #[true, true, true, true, true, true, true, true, false, false, true, false, false] rfl rfl (by kernel_rfl) (fun c a w h => hP c a _ _ w h) (y_move rfl (by rfl) (by rfl)) rfl ?_
          (try simp only [zP, zN, zA, zB, zC])
          refine pure_ (i := 8) (N := some 58) (v := .agg #[.slice A84 E2.L.length z85, .int .i64 E2.last]) #[true, true, true, true, true, true, true, true, true, false, true, false, false] rfl rfl (by kernel_rfl) (fun c a w h => hP c a _ _ w h) (y_run (by rfl) (fun W => by go_simp)) rfl ?_
          (try simp only [zP, zN, zA, zB, zC])
          refine pure_ (i := 9) (N := some 59) (v := .bool true) #[true, true, true, true, true, true, true, true, true, true, true, false, false] rfl rfl (by kernel_rfl) (fun c a w h => hP c a _ _ w h) (y_run (by rfl) (fun W => by go_simp)) rfl ?_
          (try simp only [zP, zN, zA, zB, zC])
          refine one_ (i := 11) (N := none) #[true, true, true, true, true, true, true, true, true, true, true, true, false] rfl rfl (by kernel_rfl) (by simp) (fun K94 hK94 => ?_)
          refine e_storeN (cells := #[.slice A84 E2.L.length z85, .int .i64 E2.last]) (by rfl) rfl rfl (by rfl) (by rfl) Fg72.out (by kernel_rfl) (by rfl) (ones_cons rfl (ones_cons rfl ones_nil)) ?_
          rintro w95 B96 C97
          have C0' := Lib.hid (show Ch [] w w95 from C0.out.trans' C97 (inw_cons (.inr nw77.out) inw_nil))
          have EX' := Lib.hid (show ExIs w95 w.heap.size Bs86 x (64 * k + 64) (E2) from EX.out.ch C97 (fun k hk hm => (List.mem_cons.1 hm).elim (fun e => hs92.out (e ▸ hk)) (fun h => (fun _ _ h => absurd h (by simp)) k hk h)))
          have Fgq' := Lib.hid (show Blk w95 gq (#[.slice qa E.L.length zq, .int .i64 E.last]) 44 from C97.blk Fgq.out (nin_cons ne80.out nin_nil))
          have SL' := Lib.hid (show SrcIs w95 (.slice (some a) L.length z) (L.length) (L.flatMap actC) 6 from SL.out.chx C97 (xnin_cons nx81.out xnin_nil))
          have SQ' := Lib.hid (show SrcIs w95 (.slice A84 E2.L.length z85) (E2.L.length) (E2.L.flatMap sesC) 6 from SQ.out.chx C97 (xnin_cons nx91.out xnin_nil))
          clear C0 EX Fgq SL SQ
          have C0 := C0'; clear C0'
          have EX := EX'; clear EX'
          have Fgq := Fgq'; clear Fgq'
          have SL := SL'; clear SL'
          have SQ := SQ'; clear SQ'
          clear Fg72; have Fg72 := Lib.hid (show Blk w95 g72 (#[.slice A84 E2.L.length z85, .int .i64 E2.last]) 44 from B96); clear B96 C97
          refine hK94.out _ _ ⟨Fgq.out, SL.out, trivial⟩ (fun hS98 => ?_); clear hK94 K94
          (try simp only [zP, zN, zA, zB, zC])
          refine pure_ (i := 12) (N := some 11) (v := .bool true) #[true, true, true, true, true, true, true, true, true, true, true, true, true] rfl rfl (by kernel_rfl) (fun c a w h => hP c a _ _ w h) (y_assign rfl (by rfl) (by rfl)) rfl ?_
          (try simp only [zP, zN, zA, zB, zC])
          refine done_ (by kernel_rfl) (th_norm (hK37 _ _ ?_)); clear hK37 K37
          refine r_ ?_
          refine ld_ (v := .agg (#[.slice A84 E2.L.length z85, .int .i64 E2.last])) rfl (by rfl) (by rfl) (run_loadVar_row _ _ 44 44 (#[.slice A84 E2.L.length z85, .int .i64 E2.last]) (0, 0) _ Fg72.out Tryd.underlying44 rfl (by kernel_rfl)) ?_
          (try simp only [zP, zN, zA, zB, zC])
          refine ef_ (fun K99 hK99 => ?_)
          refine e_storeN (cells := (#[.slice A84 E2.L.length z85, .int .i64 E2.last])) (by rfl) rfl rfl (by rfl) (by rfl) Fgq.out (by kernel_rfl) (by rfl) (ones_cons rfl (ones_cons rfl ones_nil)) ?_
          rintro w100 B101 C102
          have C0' := Lib.hid (show Ch [] w w100 from C0.out.trans' C102 (inw_cons (.inr hgN.out) inw_nil))
          have EX' := Lib.hid (show ExIs w100 w.heap.size Bs86 x (64 * k + 64) (E2) from EX.out.ch C102 (fun k hk hm => (List.mem_cons.1 hm).elim (fun e => hs89.out (e ▸ hk)) (fun h => (fun _ _ h => absurd h (by simp)) k hk h)))
          have SL' := Lib.hid (show SrcIs w100 (.slice (some a) L.length z) (L.length) (L.flatMap actC) 6 from SL.out.chx C102 (xnin_cons hgx.out xnin_nil))
          have Fg72' := Lib.hid (show Blk w100 g72 (#[.slice A84 E2.L.length z85, .int .i64 E2.last]) 44 from C102.blk Fg72.out (nin_cons (Ne.symm ne80.out) nin_nil))
          have SQ' := Lib.hid (show SrcIs w100 (.slice A84 E2.L.length z85) (E2.L.length) (E2.L.flatMap sesC) 6 from SQ.out.chx C102 (xnin_cons nx88.out xnin_nil))
          clear C0 EX SL Fg72 SQ
          have C0 := C0'; clear C0'
          have EX := EX'; clear EX'
          have SL := SL'; clear SL'
          have Fg72 := Fg72'; clear Fg72'
          have SQ := SQ'; clear SQ'
          clear Fgq; have Fgq := Lib.hid (show Blk w100 gq ((#[.slice A84 E2.L.length z85, .int .i64 E2.last])) 44 from B101); clear B101 C102
          refine hK99 _ _ ?_; clear hK99 K99
          (try simp only [zP, zN, zA, zB, zC])
          refine nl_ ?_
          refine ib_norm ?_
          refine th_norm (hK32 _ _ ?_); try clear hK32 K32
          refine r_ ?_
          refine pu_ (v := .int .i64 k) (y_move rfl (by rfl) (by rfl)) ?_
          (try simp only [zP, zN, zA, zB, zC])
          refine pu_ (v := .int .i64 (k + 1 : Nat)) (y_run (by rfl) (fun W => by have d := Wk.out; go_simp)) ?_
          (try simp only [zP, zN, zA, zB, zC])
          refine pu_ (v := .int .i64 (k + 1 : Nat)) (y_assign rfl (by rfl) (by rfl)) ?_
          (try simp only [zP, zN, zA, zB, zC])
          refine nl_ ?_
          exact th_norm (hK29 (kq - 1) _ _ (by have := hlt.out; have := hk.out; omega) ⟨k + 1, Bs86, E2, A84, z85, fun us_ => (#[.slice (some a) L.length z, .int .i64 box, .int .i64 ctr, us 3, us 4, us 5, .bool false, .pointer (some ⟨x, 0, none⟩), .pointer (some ⟨gq, 0, none⟩), .int .i64 (k + 1 : Nat), .pointer (some ⟨g72, 0, none⟩), .bool true, us 12, us 13, us 14, us 15, us 16, us 17, us 18, us 19, us 20, us 21, us 22, us 23, us 24, us 25, us 26, us 27, us 28, us 29, us 30, us 31, us 32, .int .i64 k, .slice (some a) L.length z, .int .i64 L.length, .bool true, .bool true, .int .i64 k, .bool true, .bool true, .int .i64 k, .int .i64 (k + 1 : Nat), .slice (some a) L.length z, .int .i64 k, .pointer (some (a.add (k * 6))), .pointer (some ((a.add (k * 6)).add 5)), .string o.s, .int .i64 o.s.size, .bool false, .tuple #[.agg #[.slice A84 E2.L.length z85, .int .i64 E2.last], .bool true], .pointer (some ⟨x, 0, none⟩), .agg (#[.slice qa E.L.length zq, .int .i64 E.last]), .slice (some a) L.length z, .int .i64 k, .pointer (some (a.add (k * 6))), .agg #[.int .i64 o.kind, .int .i64 o.id, .int .i64 o.box, .int .i64 o.ctr, .int .i64 o.n, .string o.s], .tuple #[.agg #[.slice A84 E2.L.length z85, .int .i64 E2.last], .bool true], .agg #[.slice A84 E2.L.length z85, .int .i64 E2.last], .bool true, .agg (#[.slice A84 E2.L.length z85, .int .i64 E2.last]), us 61, us 62, us 63, us 64, us 65, us 66, us 67, us 68, us 69, us 70, us 71, us 72, us 73, us 74, us 75, us 76, us 77, us 78, us 79, us 80, us 81, us 82, us 83, us 84, us 85, us 86, us 87, us 88, us 89, us 90, us 91, us 92, us 93, us 94, us 95, us 96, us 97, us 98, us 99, us 100, us 101, us 102, us 103, us 104, us 105, us 106, us 107, us 108, us 109, us 110, us 111, us 112, us 113, us 114, us 115, us 116, us 117, us 118, us 119, us 120, us 121, us 122, us 123, us 124, us 125, us 126, us 127, us 128, us 129, us 130, us 131, us 132, us 133, us 134, us 135, us 136, us 137, us 138, us 139, us 140, us 141, us 142, us 143, us 144, us 145, us 146, us 147, us 148, us 149, us 150, us 151, us 152, us 153, us 154, us 155, us 156, us 157, us 158, us 159, us 160, us 161, us 162, us 163, us 164, us 165, us 166, us 167, us 168, us 169, us 170, us 171, us 172, us 173, us 174, us 175, us 176, us 177, us 178, us 179, us 180, us 181, us 182, us 183, us 184, us 185, us 186, us 187, us 188, us 189, us 190, us 191, us 192, us 193, us 194, us 195, us 196, us 197, us 198, us 199, us 200] : Array Value).getD us_ undef, rfl, C0, Lib.hid (EX.out.up (by omega)), SQ, Fgq, SL, Lib.hid ⟨by have := hlt.out; omega, by have := hlt.out; omega, by have := hlt.out; have := hk.out; omega⟩, Lib.hid (by rw [HE2.out]; exact few_act hfew.out o), Lib.hid (by rw [HE2.out]; exact hlaw.out.act o), HZ2, HQB, hs89, nx88, xs90, hgx⟩)
    · have hg := Lib.hid h1
      clear h1
      have D36 := Lib.hid (show (k : Int) < (L.length : Int) by have := hl_; omega)
      have D39 := Lib.hid (show ¬ (k : Int) < 100 by have := hg.out; omega)
      clear hl_
      refine s_ (fun K103 hK103 => ?_)
      refine pu_ (v := .int .i64 k) (y_move rfl (by rfl) (by rfl)) ?_
      (try simp only [zP, zN, zA, zB, zC])
      refine pu_ (v := .slice A L.length z) (y_move rfl (by rfl) (by rfl)) ?_
      (try simp only [zP, zN, zA, zB, zC])
      refine pu_ (v := .int .i64 L.length) (y_run (by rfl) (fun W => by go_simp)) ?_
      (try simp only [zP, zN, zA, zB, zC])
      refine pu_ (v := .bool true) (y_run (by rfl) (fun W => by have d := D36.out; go_simp)) ?_
      (try simp only [zP, zN, zA, zB, zC])
      refine pu_ (v := .bool true) (y_move rfl (by rfl) (by rfl)) ?_
      (try simp only [zP, zN, zA, zB, zC])
      refine pu_ (v := .int .i64 k) (y_move rfl (by rfl) (by rfl)) ?_
      (try simp only [zP, zN, zA, zB, zC])
      refine pu_ (v := .bool false) (y_run (by rfl) (fun W => by have d := D39.out; go_simp)) ?_
      (try simp only [zP, zN, zA, zB, zC])
      refine pu_ (v := .bool false) (y_pick (t := true) (by rfl) rfl (by rfl) (by rfl)) ?_
      (try simp only [zP, zN, zA, zB, zC])
      refine nl_ (hK103 _ _ ?_); clear hK103 K103
      refine wp_cond_false rfl ?_
      refine wp_exit ?_
      refine th_exit ?_
      refine th_exit ?_
      refine ib_exit ?_
      exact th_norm (hK25 _ _ ⟨k, Bs, E, qa, zq, fun us_ => (#[.slice A L.length z, .int .i64 box, .int .i64 ctr, us 3, us 4, us 5, .bool false, .pointer (some ⟨x, 0, none⟩), .pointer (some ⟨gq, 0, none⟩), .int .i64 k, us 10, us 11, us 12, us 13, us 14, us 15, us 16, us 17, us 18, us 19, us 20, us 21, us 22, us 23, us 24, us 25, us 26, us 27, us 28, us 29, us 30, us 31, us 32, .int .i64 k, .slice A L.length z, .int .i64 L.length, .bool true, .bool true, .int .i64 k, .bool false, .bool false, us 41, us 42, us 43, us 44, us 45, us 46, us 47, us 48, us 49, us 50, us 51, us 52, us 53, us 54, us 55, us 56, us 57, us 58, us 59, us 60, us 61, us 62, us 63, us 64, us 65, us 66, us 67, us 68, us 69, us 70, us 71, us 72, us 73, us 74, us 75, us 76, us 77, us 78, us 79, us 80, us 81, us 82, us 83, us 84, us 85, us 86, us 87, us 88, us 89, us 90, us 91, us 92, us 93, us 94, us 95, us 96, us 97, us 98, us 99, us 100, us 101, us 102, us 103, us 104, us 105, us 106, us 107, us 108, us 109, us 110, us 111, us 112, us 113, us 114, us 115, us 116, us 117, us 118, us 119, us 120, us 121, us 122, us 123, us 124, us 125, us 126, us 127, us 128, us 129, us 130, us 131, us 132, us 133, us 134, us 135, us 136, us 137, us 138, us 139, us 140, us 141, us 142, us 143, us 144, us 145, us 146, us 147, us 148, us 149, us 150, us 151, us 152, us 153, us 154, us 155, us 156, us 157, us 158, us 159, us 160, us 161, us 162, us 163, us 164, us 165, us 166, us 167, us 168, us 169, us 170, us 171, us 172, us 173, us 174, us 175, us 176, us 177, us 178, us 179, us 180, us 181, us 182, us 183, us 184, us 185, us 186, us 187, us 188, us 189, us 190, us 191, us 192, us 193, us 194, us 195, us 196, us 197, us 198, us 199, us 200] : Array Value).getD us_ undef, rfl, C0, EX, SQ, Fgq, Lib.hid hk.out.2.1, hfew, hlaw, hz, hqs, hgs, hgq⟩)
    · have D36 := Lib.hid (show ¬ k < L.length by have := h; omega)
      clear h
      refine s_ (fun K104 hK104 => ?_)
      refine pu_ (v := .int .i64 k) (y_move rfl (by rfl) (by rfl)) ?_
      (try simp only [zP, zN, zA, zB, zC])
      refine pu_ (v := .slice A L.length z) (y_move rfl (by rfl) (by rfl)) ?_
      (try simp only [zP, zN, zA, zB, zC])
      refine pu_ (v := .int .i64 L.length) (y_run (by rfl) (fun W => by go_simp)) ?_
      (try simp only [zP, zN, zA, zB, zC])
      refine pu_ (v := .bool false) (y_run (by rfl) (fun W => by have d := D36.out; go_simp)) ?_
      (try simp only [zP, zN, zA, zB, zC])
      refine pu_ (v := .bool false) (y_move rfl (by rfl) (by rfl)) ?_
      (try simp only [zP, zN, zA, zB, zC])
      refine pu_ (y_off (by rfl)) ?_
      (try simp only [zP, zN, zA, zB, zC])
      refine pu_ (y_off (by rfl)) ?_
      (try simp only [zP, zN, zA, zB, zC])
      refine pu_ (v := .bool false) (y_pick (t := false) (by rfl) rfl (by rfl) (by rfl)) ?_
      (try simp only [zP, zN, zA, zB, zC])
      refine nl_ (hK104 _ _ ?_); clear hK104 K104
      refine wp_cond_false rfl ?_
      refine wp_exit ?_
      refine th_exit ?_
      refine th_exit ?_
      refine ib_exit ?_
      exact th_norm (hK25 _ _ ⟨k, Bs, E, qa, zq, fun us_ => (#[.slice A L.length z, .int .i64 box, .int .i64 ctr, us 3, us 4, us 5, .bool false, .pointer (some ⟨x, 0, none⟩), .pointer (some ⟨gq, 0, none⟩), .int .i64 k, us 10, us 11, us 12, us 13, us 14, us 15, us 16, us 17, us 18, us 19, us 20, us 21, us 22, us 23, us 24, us 25, us 26, us 27, us 28, us 29, us 30, us 31, us 32, .int .i64 k, .slice A L.length z, .int .i64 L.length, .bool false, .bool false, undef, undef, .bool false, us 41, us 42, us 43, us 44, us 45, us 46, us 47, us 48, us 49, us 50, us 51, us 52, us 53, us 54, us 55, us 56, us 57, us 58, us 59, us 60, us 61, us 62, us 63, us 64, us 65, us 66, us 67, us 68, us 69, us 70, us 71, us 72, us 73, us 74, us 75, us 76, us 77, us 78, us 79, us 80, us 81, us 82, us 83, us 84, us 85, us 86, us 87, us 88, us 89, us 90, us 91, us 92, us 93, us 94, us 95, us 96, us 97, us 98, us 99, us 100, us 101, us 102, us 103, us 104, us 105, us 106, us 107, us 108, us 109, us 110, us 111, us 112, us 113, us 114, us 115, us 116, us 117, us 118, us 119, us 120, us 121, us 122, us 123, us 124, us 125, us 126, us 127, us 128, us 129, us 130, us 131, us 132, us 133, us 134, us 135, us 136, us 137, us 138, us 139, us 140, us 141, us 142, us 143, us 144, us 145, us 146, us 147, us 148, us 149, us 150, us 151, us 152, us 153, us 154, us 155, us 156, us 157, us 158, us 159, us 160, us 161, us 162, us 163, us 164, us 165, us 166, us 167, us 168, us 169, us 170, us 171, us 172, us 173, us 174, us 175, us 176, us 177, us 178, us 179, us 180, us 181, us 182, us 183, us 184, us 185, us 186, us 187, us 188, us 189, us 190, us 191, us 192, us 193, us 194, us 195, us 196, us 197, us 198, us 199, us 200] : Array Value).getD us_ undef, rfl, C0, EX, SQ, Fgq, Lib.hid hk.out.2.1, hfew, hlaw, hz, hqs, hgs, hgq⟩)
  rintro _ w26 ⟨k, Bs, E, qa, zq, us, rfl, C0, EX, SQ, Fgq, hk, hfew, hlaw, hz, hqs, hgs, hgq⟩
  refine s_ (fun K105 hK105 => ?_)
  refine pu_ (v := .slice none 0 0) (y_assign rfl (by rfl) (by rfl)) ?_
  (try simp only [zP, zN, zA, zB, zC])
  refine nl_ (hK105 _ _ ?_); clear hK105 K105
  refine s_ (fun K106 hK106 => ?_)
  refine pu_ (v := .int .i64 0) (y_assign rfl (by rfl) (by rfl)) ?_
  (try simp only [zP, zN, zA, zB, zC])
  refine nl_ (hK106 _ _ ?_); clear hK106 K106
  refine sq_ (fun K107 hK107 => ?_)
  refine s_ (fun K108 hK108 => ?_)
  refine pu_ (v := .int .i64 0) (y_assign rfl (by rfl) (by rfl)) ?_
  (try simp only [zP, zN, zA, zB, zC])
  refine nl_ (hK108 _ _ ?_); clear hK108 K108
  refine wp_block ?_
  have OG0 := Lib.hid (show OwnS w26 w.heap.size 4 1 (.slice none 0 0) 0 (((E.L.take 0).map HS.op).flatMap boolC) from OwnS.nil _ _ _ _ _)
  refine loopk_ (fun (kq : Nat) (a' : Act) (w' : World) => ∃ (i : Nat), ∃ (vg : Value), ∃ (Bt : List Nat), ∃ (us : Nat → Value), a' = ⟨#[us 0, .int .i64 box, .int .i64 ctr, us 3, us 4, us 5, .bool false, .pointer (some ⟨x, 0, none⟩), .pointer (some ⟨gq, 0, none⟩), us 9, us 10, us 11, vg, .int .i64 ((E.L.take i).countP (hit box ctr) : Nat), .int .i64 i, us 15, us 16, us 17, us 18, us 19, us 20, us 21, us 22, us 23, us 24, us 25, us 26, us 27, us 28, us 29, us 30, us 31, us 32, us 33, us 34, us 35, us 36, us 37, us 38, us 39, us 40, us 41, us 42, us 43, us 44, us 45, us 46, us 47, us 48, us 49, us 50, us 51, us 52, us 53, us 54, us 55, us 56, us 57, us 58, us 59, us 60, us 61, us 62, us 63, us 64, us 65, us 66, us 67, us 68, us 69, us 70, us 71, us 72, us 73, us 74, us 75, us 76, us 77, us 78, us 79, us 80, us 81, us 82, us 83, us 84, us 85, us 86, us 87, us 88, us 89, us 90, us 91, us 92, us 93, us 94, us 95, us 96, us 97, us 98, us 99, us 100, us 101, us 102, us 103, us 104, us 105, us 106, us 107, us 108, us 109, us 110, us 111, us 112, us 113, us 114, us 115, us 116, us 117, us 118, us 119, us 120, us 121, us 122, us 123, us 124, us 125, us 126, us 127, us 128, us 129, us 130, us 131, us 132, us 133, us 134, us 135, us 136, us 137, us 138, us 139, us 140, us 141, us 142, us 143, us 144, us 145, us 146, us 147, us 148, us 149, us 150, us 151, us 152, us 153, us 154, us 155, us 156, us 157, us 158, us 159, us 160, us 161, us 162, us 163, us 164, us 165, us 166, us 167, us 168, us 169, us 170, us 171, us 172, us 173, us 174, us 175, us 176, us 177, us 178, us 179, us 180, us 181, us 182, us 183, us 184, us 185, us 186, us 187, us 188, us 189, us 190, us 191, us 192, us 193, us 194, us 195, us 196, us 197, us 198, us 199, us 200], []⟩ ∧ Hid (Ch [] w w') ∧ Hid (ExIs w' w.heap.size Bt x (64 * k) (E)) ∧ Hid (SrcIs w' (.slice qa E.L.length zq) (E.L.length) (E.L.flatMap sesC) 6) ∧ Hid (Blk w' gq (#[.slice qa E.L.length zq, .int .i64 E.last]) 44) ∧ Hid (OwnS w' w.heap.size 4 1 (vg) (i) (((E.L.take i).map HS.op).flatMap boolC)) ∧ Hid (i ≤ E.L.length ∧ kq + i = E.L.length) ∧ Hid (∀ k_, k_ ∈ xb (.slice qa E.L.length zq) → k_ ∉ Bt) ∧ Hid (gq ∉ Bt) ∧ Hid (∀ k_, k_ ∈ rl vg → k_ ∉ Bt) ∧ Hid (∀ k_, k_ ∈ xb (.slice qa E.L.length zq) → k_ ∉ rl vg)) (E.L.length) (⟨0, .slice none 0 0, Bs, fun us_ => (#[us 0, .int .i64 box, .int .i64 ctr, us 3, us 4, us 5, .bool false, .pointer (some ⟨x, 0, none⟩), .pointer (some ⟨gq, 0, none⟩), us 9, us 10, us 11, .slice none 0 0, .int .i64 0, .int .i64 0, us 15, us 16, us 17, us 18, us 19, us 20, us 21, us 22, us 23, us 24, us 25, us 26, us 27, us 28, us 29, us 30, us 31, us 32, us 33, us 34, us 35, us 36, us 37, us 38, us 39, us 40, us 41, us 42, us 43, us 44, us 45, us 46, us 47, us 48, us 49, us 50, us 51, us 52, us 53, us 54, us 55, us 56, us 57, us 58, us 59, us 60, us 61, us 62, us 63, us 64, us 65, us 66, us 67, us 68, us 69, us 70, us 71, us 72, us 73, us 74, us 75, us 76, us 77, us 78, us 79, us 80, us 81, us 82, us 83, us 84, us 85, us 86, us 87, us 88, us 89, us 90, us 91, us 92, us 93, us 94, us 95, us 96, us 97, us 98, us 99, us 100, us 101, us 102, us 103, us 104, us 105, us 106, us 107, us 108, us 109, us 110, us 111, us 112, us 113, us 114, us 115, us 116, us 117, us 118, us 119, us 120, us 121, us 122, us 123, us 124, us 125, us 126, us 127, us 128, us 129, us 130, us 131, us 132, us 133, us 134, us 135, us 136, us 137, us 138, us 139, us 140, us 141, us 142, us 143, us 144, us 145, us 146, us 147, us 148, us 149, us 150, us 151, us 152, us 153, us 154, us 155, us 156, us 157, us 158, us 159, us 160, us 161, us 162, us 163, us 164, us 165, us 166, us 167, us 168, us 169, us 170, us 171, us 172, us 173, us 174, us 175, us 176, us 177, us 178, us 179, us 180, us 181, us 182, us 183, us 184, us 185, us 186, us 187, us 188, us 189, us 190, us 191, us 192, us 193, us 194, us 195, us 196, us 197, us 198, us 199, us 200] : Array Value).getD us_ undef, rfl, C0, EX, SQ, Fgq, OG0, Lib.hid ⟨by omega, by omega⟩, hqs, hgs, Lib.hid (fun k_ hk_ => absurd hk_ (by simp [rl])), Lib.hid (fun k_ _ hm_ => absurd hm_ (by simp [rl]))⟩) ?_
  rintro kq _ w109 ⟨i, vg, Bt, us, rfl, C0, EX, SQ, Fgq, OG, hi, hqs2, hgs2, hvr, hxg⟩ K110 hK110
  refine sq_ (fun K111 hK111 => ?_)
  rcases at_ways' hi.out.1 with ⟨s, ho0, hlt0⟩ | h; rcases (show s.op = false ∨ (s.op = true ∧ s.box ≠ box) ∨ (s.op = true ∧ s.box = box ∧ s.ctr ≠ ctr) ∨ (s.op = true ∧ s.box = box ∧ s.ctr = ctr) by cases s.op <;> simp; exact (Classical.em (s.box = box)).elim (fun h1 => (Classical.em (s.ctr = ctr)).elim (fun h2 => .inr (.inr ⟨h1, h2⟩)) (fun h2 => .inr (.inl ⟨h1, h2⟩))) .inl) with hc | hc | hc | hc
  · have hlt := Lib.hid hlt0
    have HS_ := Lib.hid ho0
    have HCC := Lib.hid hc
    clear hc hlt0 ho0
    have HOP := Lib.hid (show s.op = false from HCC.out)
    obtain ⟨a, hsm_a⟩ := src_some SQ.out (by have := hlt.out; omega)
    subst hsm_a
    have D65 := Lib.hid (show (i : Int) < (E.L.length : Int) by have := hlt.out; omega)
    have Wi := Lib.hid (show IntKind.i64.wrap ((i : Int) + 1) = ((i + 1 : Nat) : Int) by rw [wr64 (by have := hlt.out; have := hfew.out.1; omega)]; omega)
    have HOF := Lib.hid (show ofR E s.id = (s.box, s.ctr, false) from (ofR_at (fx_uniq hlaw.out HS_.out) HS_.out).trans (by rw [HOP.out]))
    have HHI := Lib.hid (show hit box ctr s = false from by unfold hit; rw [HOP.out]; simp)
    have W7 := Lib.hid (show (Value.int .i64 ((E.L.take i).countP (hit box ctr) : Nat)) = .int .i64 ((E.L.take (i + 1)).countP (hit box ctr) : Nat) by rw [count_succ HS_.out, HHI.out]; simp)
    rw [W7.out]
    refine s_ (fun K112 hK112 => ?_)
    refine pu_ (v := .int .i64 i) (y_move rfl (by rfl) (by rfl)) ?_
    (try simp only [zP, zN, zA, zB, zC])
    refine pu_ (v := .pointer (some ⟨gq, 0, none⟩)) (y_run (by rfl) (fun W => by go_simp)) ?_
    (try simp only [zP, zN, zA, zB, zC])
    refine ld_ (v := .slice (some a) E.L.length zq) rfl (by rfl) (by rfl) (run_load_one ((Fgq.out.cell 0).trans rfl) Tryd.underlying42 rfl) ?_
    (try simp only [zP, zN, zA, zB, zC])
    refine pu_ (v := .int .i64 E.L.length) (y_run (by rfl) (fun W => by go_simp)) ?_
    (try simp only [zP, zN, zA, zB, zC])
    refine pu_ (v := .bool true) (y_run (by rfl) (fun W => by have d := D65.out; go_simp)) ?_
    (try simp only [zP, zN, zA, zB, zC])
    refine nl_ (hK112 _ _ ?_); clear hK112 K112
    refine wp_cond_true rfl ?_
    refine wp_skip ?_
    refine th_norm (hK111 _ _ ?_); try clear hK111 K111
    refine sq_ (fun K113 hK113 => ?_)
    refine wp_block ?_
    refine s_ (fun K114 hK114 => ?_)
    refine pu_ (v := .pointer (some ⟨x, 0, none⟩)) (y_move rfl (by rfl) (by rfl)) ?_
    (try simp only [zP, zN, zA, zB, zC])
    refine pu_ (v := .pointer (some ⟨gq, 0, none⟩)) (y_run (by rfl) (fun W => by go_simp)) ?_
    (try simp only [zP, zN, zA, zB, zC])
    refine ld_ (v := .slice (some a) E.L.length zq) rfl (by rfl) (by rfl) (run_load_one ((Fgq.out.cell 0).trans rfl) Tryd.underlying42 rfl) ?_
    (try simp only [zP, zN, zA, zB, zC])
    refine pu_ (v := .int .i64 i) (y_move rfl (by rfl) (by rfl)) ?_
    (try simp only [zP, zN, zA, zB, zC])
    refine pu_ (v := .pointer (some (a.add (i * 6)))) (y_run (by rfl) (fun W => by have d := D65.out; go_simp)) ?_
    (try simp only [zP, zN, zA, zB, zC])
    refine pu_ (v := .pointer (some ((a.add (i * 6)).add 0))) (y_run (by rfl) (fun W => by go_simp)) ?_
    (try simp only [zP, zN, zA, zB, zC])
    refine ld_ (v := .int .i64 s.id) rfl (by rfl) (by rfl) (run_load_one (src_fld SQ.out HS_.out 0 _ (by simp [sesC])) Tryd.underlying3 rfl) ?_
    (try simp only [zP, zN, zA, zB, zC])
    refine ef_ (fun K115 hK115 => ?_)
    refine e_call Tryd.func15 (by kernel_rfl) rfl #[.pointer (some ⟨x, 0, none⟩), .int .i64 s.id] (by rfl) rfl rfl (by first | rfl | (simp only [List.map_toArray, List.map_cons, List.map_nil]; first | done | rfl)) ((by have h9 := of_l (id := s.id) EX.out (by have := hfew.out.1; omega); rw [HOF.out] at h9; exact h9)) ?_
    rintro en w117 ⟨rfl, Bs116, bk, cc, bel⟩
    refine ⟨_, rfl, ?_⟩
    have hs118 := Lib.hid (show gq ∉ Bs116 from fun h9 => (bel _ h9).elim hgs2.out (fun h8 => by have := Fgq.out.lt; omega))
    have hr119 := Lib.hid (show ∀ k_, k_ ∈ xb (.slice (some a) E.L.length zq) → k_ ∉ Bs116 from fun k_ hk_ hB_ => (bel k_ hB_).elim (hqs2.out k_ hk_) (fun h8 => by have := SQ.out.lt (by decide) k_ hk_; omega))
    have hr120 := Lib.hid (show ∀ k_, k_ ∈ rl vg → k_ ∉ Bs116 from fun k_ hk_ hB_ => (bel k_ hB_).elim (hvr.out k_ hk_) (fun h8 => by have := (OG.out.lt k_ hk_).2; omega))
    have C0' := Lib.hid (show Ch [] w w117 from C0.out.trans' cc (fun x hx => .inr (EX.out.lt x hx).1))
    have SQ' := Lib.hid (show SrcIs w117 (.slice (some a) E.L.length zq) (E.L.length) (E.L.flatMap sesC) 6 from SQ.out.chx cc hqs2.out)
    have Fgq' := Lib.hid (show Blk w117 gq (#[.slice (some a) E.L.length zq, .int .i64 E.last]) 44 from cc.blk Fgq.out hgs2.out)
    have OG' := Lib.hid (show OwnS w117 w.heap.size 4 1 (vg) (i) (((E.L.take i).map HS.op).flatMap boolC) from OG.out.ch cc hvr.out)
    clear C0 SQ Fgq OG
    have C0 := C0'; clear C0'
    have SQ := SQ'; clear SQ'
    have Fgq := Fgq'; clear Fgq'
    have OG := OG'; clear OG'
    clear EX cc bel
    have EX := Lib.hid (show ExIs w117 w.heap.size Bs116 x (64 * k) (E) from bk)
    clear bk
    refine hK115 _ _ ?_; clear hK115 K115
    (try simp only [zP, zN, zA, zB, zC])
    refine pu_ (v := .tuple #[.int .i64 s.box, .int .i64 s.ctr, .bool false]) (y_move rfl (by rfl) (by rfl)) ?_
    (try simp only [zP, zN, zA, zB, zC])
    refine pu_ (v := .int .i64 s.box) (y_run (by rfl) (fun W => by go_simp)) ?_
    (try simp only [zP, zN, zA, zB, zC])
    refine pu_ (v := .int .i64 s.ctr) (y_run (by rfl) (fun W => by go_simp)) ?_
    (try simp only [zP, zN, zA, zB, zC])
    refine pu_ (v := .bool false) (y_run (by rfl) (fun W => by go_simp)) ?_
    (try simp only [zP, zN, zA, zB, zC])
    refine pu_ (v := .int .i64 s.box) (y_assign rfl (by rfl) (by rfl)) ?_
    (try simp only [zP, zN, zA, zB, zC])
    refine pu_ (v := .int .i64 s.ctr) (y_assign rfl (by rfl) (by rfl)) ?_
    (try simp only [zP, zN, zA, zB, zC])
    refine pu_ (v := .bool false) (y_assign rfl (by rfl) (by rfl)) ?_
    (try simp only [zP, zN, zA, zB, zC])
    refine nl_ (hK114 _ _ ?_); clear hK114 K114
    refine s_ (fun K121 hK121 => ?_)
    refine pu_ (v := vg) (y_move rfl (by rfl) (by rfl)) ?_
    (try simp only [zP, zN, zA, zB, zC])
    refine pu_ (v := .bool false) (y_move rfl (by rfl) (by rfl)) ?_
    (try simp only [zP, zN, zA, zB, zC])
    refine ef_ (fun K122 hK122 => ?_)
    refine e_buildS (parts := #[(0, .bool false)]) (cells := #[.bool false]) (by rfl) rfl rfl (by first | rfl | (simp only [List.map_toArray, List.map_cons, List.map_nil]; first | done | rfl)) Tryd.underlying47 I4.hi I4.hz I4.hs (by decide) (by decide) (by kernel_rfl) ?_
    rintro g123 w124 HG125 B126 C127
    have nw128 := Lib.hid (show w.heap.size ≤ g123 by have := C0.out.size; have := HG125.out; omega)
    have hs129 := Lib.hid (show g123 ∉ Bs116 from fun hk => by have h8 := (EX.out.lt _ hk).2; have := HG125.out; omega)
    have nx130 := Lib.hid (SQ.out.ne_new (by decide) HG125)
    have nr131 := Lib.hid (OG.out.ne_new HG125)
    have C0' := Lib.hid (show Ch [] w w124 from C0.out.trans' C127 (fun x hx => absurd hx (by simp)))
    have EX' := Lib.hid (show ExIs w124 w.heap.size Bs116 x (64 * k) (E) from EX.out.ch C127 (fun _ _ h => absurd h (by simp)))
    have SQ' := Lib.hid (show SrcIs w124 (.slice (some a) E.L.length zq) (E.L.length) (E.L.flatMap sesC) 6 from SQ.out.chx C127 xnin_nil)
    have Fgq' := Lib.hid (show Blk w124 gq (#[.slice (some a) E.L.length zq, .int .i64 E.last]) 44 from C127.blk Fgq.out nin_nil)
    have OG' := Lib.hid (show OwnS w124 w.heap.size 4 1 (vg) (i) (((E.L.take i).map HS.op).flatMap boolC) from OG.out.ch C127 rnin_nil)
    clear C0 EX SQ Fgq OG
    have C0 := C0'; clear C0'
    have EX := EX'; clear EX'
    have SQ := SQ'; clear SQ'
    have Fgq := Fgq'; clear Fgq'
    have OG := OG'; clear OG'
    have Fg123 := Lib.hid (show Blk w124 g123 (#[.bool false]) 4 from B126); clear B126 C127
    refine hK122 _ _ ?_; clear hK122 K122
    (try simp only [zP, zN, zA, zB, zC])
    refine ef_ (fun K132 hK132 => ?_)
    have hltB := Lib.hid (fun k_ (h_ : k_ ∈ Bs116) => (EX.out.lt k_ h_).2)
    refine e_append (by rfl) rfl rfl (w.heap.size) 4 _ _ 1 1 Tryd.underlying47 I4.hi I4.hz I4.hs I4.hb rfl (by decide) (vg) (i) (((E.L.take i).map HS.op).flatMap boolC) (by rfl) OG.out (.slice (some ⟨g123, 0, none⟩) 1 1) 1 (boolC false) (by rfl) ⟨rfl, .inr ⟨_, _, rfl, CellsAt.blk Fg123.out 0⟩⟩ (boolC_one false) (by unfold maxLen; have := hlt.out; have := hfew.out.1; omega) (by have := hlt.out; have := hfew.out.1; omega) C0.out.size ?_
    rintro v133 w134 O135 C136 R137 -
    have xr139 := Lib.hid (show ∀ k, k ∈ xb (.slice (some a) E.L.length zq) → k ∉ rl v133 from fun k hk hm => (R137 k hm).elim (fun h => hxg.out k hk h) (fun h => by have := SQ.out.lt (by decide) k hk; omega))
    have nr140 := Lib.hid (show g123 ∉ rl v133 from fun hk => (R137 _ hk).elim nr131.out (fun h => by have := Fg123.out.lt; omega))
    have C0' := Lib.hid (show Ch [] w w134 from C0.out.trans' C136 (fun x hx => .inr (OG.out.lt x hx).1))
    have EX' := Lib.hid (show ExIs w134 w.heap.size Bs116 x (64 * k) (E) from EX.out.ch C136 (fun k hk hm => hr120.out k hm hk))
    have SQ' := Lib.hid (show SrcIs w134 (.slice (some a) E.L.length zq) (E.L.length) (E.L.flatMap sesC) 6 from SQ.out.chx C136 hxg.out)
    have Fgq' := Lib.hid (show Blk w134 gq (#[.slice (some a) E.L.length zq, .int .i64 E.last]) 44 from C136.blk Fgq.out (OG.out.ne Fgq.out (by decide)))
    have Fg123' := Lib.hid (show Blk w134 g123 (#[.bool false]) 4 from C136.blk Fg123.out nr131.out)
    clear C0 EX SQ Fgq Fg123
    have C0 := C0'; clear C0'
    have EX := EX'; clear EX'
    have SQ := SQ'; clear SQ'
    have Fgq := Fgq'; clear Fgq'
    have Fg123 := Fg123'; clear Fg123'
    clear OG
    have OG := Lib.hid (show OwnS w134 w.heap.size 4 1 (v133) (i + 1) (((E.L.take i).map HS.op).flatMap boolC ++ boolC false) from O135); clear O135 C136
    have rs141 := Lib.hid (show ∀ k_, k_ ∈ rl v133 → k_ ∉ Bs116 from fun k_ hk_ hB_ => (R137 k_ hk_).elim (fun h_ => hr120.out k_ h_ hB_) (fun h_ => by have := hltB.out k_ hB_; omega))
    refine hK132 _ _ ?_; clear hK132 K132
    (try simp only [zP, zN, zA, zB, zC])
    refine pu_ (v := v133) (y_assign rfl (by rfl) (by rfl)) ?_
    (try simp only [zP, zN, zA, zB, zC])
    refine nl_ (hK121 _ _ ?_); clear hK121 K121
    refine s_ (fun K142 hK142 => ?_)
    refine pu_ (v := .bool false) (y_move rfl (by rfl) (by rfl)) ?_
    (try simp only [zP, zN, zA, zB, zC])
    refine pu_ (v := .bool false) (y_move rfl (by rfl) (by rfl)) ?_
    (try simp only [zP, zN, zA, zB, zC])
    refine pu_ (y_off (by rfl)) ?_
    (try simp only [zP, zN, zA, zB, zC])
    refine pu_ (y_off (by rfl)) ?_
    (try simp only [zP, zN, zA, zB, zC])
    refine pu_ (y_off (by rfl)) ?_
    (try simp only [zP, zN, zA, zB, zC])
    refine pu_ (y_off (by rfl)) ?_
    (try simp only [zP, zN, zA, zB, zC])
    refine pu_ (y_off (by rfl)) ?_
    (try simp only [zP, zN, zA, zB, zC])
    refine pu_ (y_off (by rfl)) ?_
    (try simp only [zP, zN, zA, zB, zC])
    refine pu_ (y_off (by rfl)) ?_
    (try simp only [zP, zN, zA, zB, zC])
    refine pu_ (y_off (by rfl)) ?_
    (try simp only [zP, zN, zA, zB, zC])
    refine pu_ (v := .bool false) (y_pick (t := false) (by rfl) rfl (by rfl) (by rfl)) ?_
    (try simp only [zP, zN, zA, zB, zC])
    refine pu_ (v := .bool false) (y_move rfl (by rfl) (by rfl)) ?_
    (try simp only [zP, zN, zA, zB, zC])
    refine pu_ (y_off (by rfl)) ?_
    (try simp only [zP, zN, zA, zB, zC])
    refine pu_ (y_off (by rfl)) ?_
    (try simp only [zP, zN, zA, zB, zC])
    refine pu_ (y_off (by rfl)) ?_
    (try simp only [zP, zN, zA, zB, zC])
    refine pu_ (y_off (by rfl)) ?_
    (try simp only [zP, zN, zA, zB, zC])
    refine pu_ (y_off (by rfl)) ?_
    (try simp only [zP, zN, zA, zB, zC])
    refine pu_ (y_off (by rfl)) ?_
    (try simp only [zP, zN, zA, zB, zC])
    refine pu_ (y_off (by rfl)) ?_
    (try simp only [zP, zN, zA, zB, zC])
    refine pu_ (y_off (by rfl)) ?_
    (try simp only [zP, zN, zA, zB, zC])
    refine pu_ (v := .bool false) (y_pick (t := false) (by rfl) rfl (by rfl) (by rfl)) ?_
    (try simp only [zP, zN, zA, zB, zC])
    refine nl_ (hK142 _ _ ?_); clear hK142 K142
    refine wp_cond_false rfl ?_
    refine wp_skip ?_
    refine ib_norm ?_
    refine th_norm (hK113 _ _ ?_); try clear hK113 K113
    refine r_ ?_
    refine pu_ (v := .int .i64 i) (y_move rfl (by rfl) (by rfl)) ?_
    (try simp only [zP, zN, zA, zB, zC])
    refine pu_ (v := .int .i64 (i + 1 : Nat)) (y_run (by rfl) (fun W => by have d := Wi.out; go_simp)) ?_
    (try simp only [zP, zN, zA, zB, zC])
    refine pu_ (v := .int .i64 (i + 1 : Nat)) (y_assign rfl (by rfl) (by rfl)) ?_
    (try simp only [zP, zN, zA, zB, zC])
    refine nl_ ?_
    exact th_norm (hK110 (kq - 1) _ _ (by have := hlt.out; have := hi.out; omega) ⟨i + 1, v133, Bs116, fun us_ => (#[us 0, .int .i64 box, .int .i64 ctr, us 3, us 4, us 5, .bool false, .pointer (some ⟨x, 0, none⟩), .pointer (some ⟨gq, 0, none⟩), us 9, us 10, us 11, v133, .int .i64 ((E.L.take (i + 1)).countP (hit box ctr) : Nat), .int .i64 (i + 1 : Nat), .int .i64 s.box, .int .i64 s.ctr, .bool false, us 18, us 19, us 20, us 21, us 22, us 23, us 24, us 25, us 26, us 27, us 28, us 29, us 30, us 31, us 32, us 33, us 34, us 35, us 36, us 37, us 38, us 39, us 40, us 41, us 42, us 43, us 44, us 45, us 46, us 47, us 48, us 49, us 50, us 51, us 52, us 53, us 54, us 55, us 56, us 57, us 58, us 59, us 60, .int .i64 i, .pointer (some ⟨gq, 0, none⟩), .slice (some a) E.L.length zq, .int .i64 E.L.length, .bool true, .int .i64 i, .int .i64 (i + 1 : Nat), .tuple #[.int .i64 s.box, .int .i64 s.ctr, .bool false], .pointer (some ⟨x, 0, none⟩), .pointer (some ⟨gq, 0, none⟩), .slice (some a) E.L.length zq, .int .i64 i, .pointer (some (a.add (i * 6))), .pointer (some ((a.add (i * 6)).add 0)), .int .i64 s.id, .tuple #[.int .i64 s.box, .int .i64 s.ctr, .bool false], .int .i64 s.box, .int .i64 s.ctr, .bool false, vg, .bool false, .slice (some ⟨g123, 0, none⟩) 1 1, v133, .bool false, .bool false, undef, undef, undef, undef, undef, undef, undef, undef, .bool false, .bool false, undef, undef, undef, undef, undef, undef, undef, undef, .bool false, us 105, us 106, us 107, us 108, us 109, us 110, us 111, us 112, us 113, us 114, us 115, us 116, us 117, us 118, us 119, us 120, us 121, us 122, us 123, us 124, us 125, us 126, us 127, us 128, us 129, us 130, us 131, us 132, us 133, us 134, us 135, us 136, us 137, us 138, us 139, us 140, us 141, us 142, us 143, us 144, us 145, us 146, us 147, us 148, us 149, us 150, us 151, us 152, us 153, us 154, us 155, us 156, us 157, us 158, us 159, us 160, us 161, us 162, us 163, us 164, us 165, us 166, us 167, us 168, us 169, us 170, us 171, us 172, us 173, us 174, us 175, us 176, us 177, us 178, us 179, us 180, us 181, us 182, us 183, us 184, us 185, us 186, us 187, us 188, us 189, us 190, us 191, us 192, us 193, us 194, us 195, us 196, us 197, us 198, us 199, us 200] : Array Value).getD us_ undef, rfl, C0, EX, SQ, Fgq, Lib.hid (by have h9 := OG.out; rw [take_snoc HS_.out, List.map_append, List.map_cons, List.map_nil, HOP.out, List.flatMap_append, List.flatMap_cons, List.flatMap_nil, List.append_nil]; exact h9), Lib.hid ⟨by have := hlt.out; omega, by have := hlt.out; have := hi.out; omega⟩, hr119, hs118, rs141, Lib.hid (xr139.out)⟩)
  · have hlt := Lib.hid hlt0
    have HS_ := Lib.hid ho0
    have HCC := Lib.hid hc
    clear hc hlt0 ho0
    have HOP := Lib.hid (show s.op = true from HCC.out.1)
    obtain ⟨a, hsm_a⟩ := src_some SQ.out (by have := hlt.out; omega)
    subst hsm_a
    have D65 := Lib.hid (show (i : Int) < (E.L.length : Int) by have := hlt.out; omega)
    have Wi := Lib.hid (show IntKind.i64.wrap ((i : Int) + 1) = ((i + 1 : Nat) : Int) by rw [wr64 (by have := hlt.out; have := hfew.out.1; omega)]; omega)
    have HOF := Lib.hid (show ofR E s.id = (s.box, s.ctr, true) from (ofR_at (fx_uniq hlaw.out HS_.out) HS_.out).trans (by rw [HOP.out]))
    have HHI := Lib.hid (show hit box ctr s = false from by unfold hit; rw [HOP.out]; simp [HCC.out.2])
    have D93 := Lib.hid (show ¬ s.box = box from HCC.out.2)
    have W7 := Lib.hid (show (Value.int .i64 ((E.L.take i).countP (hit box ctr) : Nat)) = .int .i64 ((E.L.take (i + 1)).countP (hit box ctr) : Nat) by rw [count_succ HS_.out, HHI.out]; simp)
    rw [W7.out]
    refine s_ (fun K143 hK143 => ?_)
    refine pu_ (v := .int .i64 i) (y_move rfl (by rfl) (by rfl)) ?_
    (try simp only [zP, zN, zA, zB, zC])
    refine pu_ (v := .pointer (some ⟨gq, 0, none⟩)) (y_run (by rfl) (fun W => by go_simp)) ?_
    (try simp only [zP, zN, zA, zB, zC])
    refine ld_ (v := .slice (some a) E.L.length zq) rfl (by rfl) (by rfl) (run_load_one ((Fgq.out.cell 0).trans rfl) Tryd.underlying42 rfl) ?_
    (try simp only [zP, zN, zA, zB, zC])
    refine pu_ (v := .int .i64 E.L.length) (y_run (by rfl) (fun W => by go_simp)) ?_
    (try simp only [zP, zN, zA, zB, zC])
    refine pu_ (v := .bool true) (y_run (by rfl) (fun W => by have d := D65.out; go_simp)) ?_
    (try simp only [zP, zN, zA, zB, zC])
    refine nl_ (hK143 _ _ ?_); clear hK143 K143
    refine wp_cond_true rfl ?_
    refine wp_skip ?_
    refine th_norm (hK111 _ _ ?_); try clear hK111 K111
    refine sq_ (fun K144 hK144 => ?_)
    refine wp_block ?_
    refine s_ (fun K145 hK145 => ?_)
    refine pu_ (v := .pointer (some ⟨x, 0, none⟩)) (y_move rfl (by rfl) (by rfl)) ?_
    (try simp only [zP, zN, zA, zB, zC])
    refine pu_ (v := .pointer (some ⟨gq, 0, none⟩)) (y_run (by rfl) (fun W => by go_simp)) ?_
    (try simp only [zP, zN, zA, zB, zC])
    refine ld_ (v := .slice (some a) E.L.length zq) rfl (by rfl) (by rfl) (run_load_one ((Fgq.out.cell 0).trans rfl) Tryd.underlying42 rfl) ?_
    (try simp only [zP, zN, zA, zB, zC])
    refine pu_ (v := .int .i64 i) (y_move rfl (by rfl) (by rfl)) ?_
    (try simp only [zP, zN, zA, zB, zC])
    refine pu_ (v := .pointer (some (a.add (i * 6)))) (y_run (by rfl) (fun W => by have d := D65.out; go_simp)) ?_
    (try simp only [zP, zN, zA, zB, zC])
    refine pu_ (v := .pointer (some ((a.add (i * 6)).add 0))) (y_run (by rfl) (fun W => by go_simp)) ?_
    (try simp only [zP, zN, zA, zB, zC])
    refine ld_ (v := .int .i64 s.id) rfl (by rfl) (by rfl) (run_load_one (src_fld SQ.out HS_.out 0 _ (by simp [sesC])) Tryd.underlying3 rfl) ?_
    (try simp only [zP, zN, zA, zB, zC])
    refine ef_ (fun K146 hK146 => ?_)
    refine e_call Tryd.func15 (by kernel_rfl) rfl #[.pointer (some ⟨x, 0, none⟩), .int .i64 s.id] (by rfl) rfl rfl (by first | rfl | (simp only [List.map_toArray, List.map_cons, List.map_nil]; first | done | rfl)) ((by have h9 := of_l (id := s.id) EX.out (by have := hfew.out.1; omega); rw [HOF.out] at h9; exact h9)) ?_
    rintro en w148 ⟨rfl, Bs147, bk, cc, bel⟩
    refine ⟨_, rfl, ?_⟩
    have hs149 := Lib.hid (show gq ∉ Bs147 from fun h9 => (bel _ h9).elim hgs2.out (fun h8 => by have := Fgq.out.lt; omega))
    have hr150 := Lib.hid (show ∀ k_, k_ ∈ xb (.slice (some a) E.L.length zq) → k_ ∉ Bs147 from fun k_ hk_ hB_ => (bel k_ hB_).elim (hqs2.out k_ hk_) (fun h8 => by have := SQ.out.lt (by decide) k_ hk_; omega))
    have hr151 := Lib.hid (show ∀ k_, k_ ∈ rl vg → k_ ∉ Bs147 from fun k_ hk_ hB_ => (bel k_ hB_).elim (hvr.out k_ hk_) (fun h8 => by have := (OG.out.lt k_ hk_).2; omega))
    have C0' := Lib.hid (show Ch [] w w148 from C0.out.trans' cc (fun x hx => .inr (EX.out.lt x hx).1))
    have SQ' := Lib.hid (show SrcIs w148 (.slice (some a) E.L.length zq) (E.L.length) (E.L.flatMap sesC) 6 from SQ.out.chx cc hqs2.out)
    have Fgq' := Lib.hid (show Blk w148 gq (#[.slice (some a) E.L.length zq, .int .i64 E.last]) 44 from cc.blk Fgq.out hgs2.out)
    have OG' := Lib.hid (show OwnS w148 w.heap.size 4 1 (vg) (i) (((E.L.take i).map HS.op).flatMap boolC) from OG.out.ch cc hvr.out)
    clear C0 SQ Fgq OG
    have C0 := C0'; clear C0'
    have SQ := SQ'; clear SQ'
    have Fgq := Fgq'; clear Fgq'
    have OG := OG'; clear OG'
    clear EX cc bel
    have EX := Lib.hid (show ExIs w148 w.heap.size Bs147 x (64 * k) (E) from bk)
    clear bk
    refine hK146 _ _ ?_; clear hK146 K146
    (try simp only [zP, zN, zA, zB, zC])
    refine pu_ (v := .tuple #[.int .i64 s.box, .int .i64 s.ctr, .bool true]) (y_move rfl (by rfl) (by rfl)) ?_
    (try simp only [zP, zN, zA, zB, zC])
    refine pu_ (v := .int .i64 s.box) (y_run (by rfl) (fun W => by go_simp)) ?_
    (try simp only [zP, zN, zA, zB, zC])
    refine pu_ (v := .int .i64 s.ctr) (y_run (by rfl) (fun W => by go_simp)) ?_
    (try simp only [zP, zN, zA, zB, zC])
    refine pu_ (v := .bool true) (y_run (by rfl) (fun W => by go_simp)) ?_
    (try simp only [zP, zN, zA, zB, zC])
    refine pu_ (v := .int .i64 s.box) (y_assign rfl (by rfl) (by rfl)) ?_
    (try simp only [zP, zN, zA, zB, zC])
    refine pu_ (v := .int .i64 s.ctr) (y_assign rfl (by rfl) (by rfl)) ?_
    (try simp only [zP, zN, zA, zB, zC])
    refine pu_ (v := .bool true) (y_assign rfl (by rfl) (by rfl)) ?_
    (try simp only [zP, zN, zA, zB, zC])
    refine nl_ (hK145 _ _ ?_); clear hK145 K145
    refine s_ (fun K152 hK152 => ?_)
    refine pu_ (v := vg) (y_move rfl (by rfl) (by rfl)) ?_
    (try simp only [zP, zN, zA, zB, zC])
    refine pu_ (v := .bool true) (y_move rfl (by rfl) (by rfl)) ?_
    (try simp only [zP, zN, zA, zB, zC])
    refine ef_ (fun K153 hK153 => ?_)
    refine e_buildS (parts := #[(0, .bool true)]) (cells := #[.bool true]) (by rfl) rfl rfl (by first | rfl | (simp only [List.map_toArray, List.map_cons, List.map_nil]; first | done | rfl)) Tryd.underlying47 I4.hi I4.hz I4.hs (by decide) (by decide) (by kernel_rfl) ?_
    rintro g154 w155 HG156 B157 C158
    have nw159 := Lib.hid (show w.heap.size ≤ g154 by have := C0.out.size; have := HG156.out; omega)
    have hs160 := Lib.hid (show g154 ∉ Bs147 from fun hk => by have h8 := (EX.out.lt _ hk).2; have := HG156.out; omega)
    have nx161 := Lib.hid (SQ.out.ne_new (by decide) HG156)
    have nr162 := Lib.hid (OG.out.ne_new HG156)
    have C0' := Lib.hid (show Ch [] w w155 from C0.out.trans' C158 (fun x hx => absurd hx (by simp)))
    have EX' := Lib.hid (show ExIs w155 w.heap.size Bs147 x (64 * k) (E) from EX.out.ch C158 (fun _ _ h => absurd h (by simp)))
    have SQ' := Lib.hid (show SrcIs w155 (.slice (some a) E.L.length zq) (E.L.length) (E.L.flatMap sesC) 6 from SQ.out.chx C158 xnin_nil)
    have Fgq' := Lib.hid (show Blk w155 gq (#[.slice (some a) E.L.length zq, .int .i64 E.last]) 44 from C158.blk Fgq.out nin_nil)
    have OG' := Lib.hid (show OwnS w155 w.heap.size 4 1 (vg) (i) (((E.L.take i).map HS.op).flatMap boolC) from OG.out.ch C158 rnin_nil)
    clear C0 EX SQ Fgq OG
    have C0 := C0'; clear C0'
    have EX := EX'; clear EX'
    have SQ := SQ'; clear SQ'
    have Fgq := Fgq'; clear Fgq'
    have OG := OG'; clear OG'
    have Fg154 := Lib.hid (show Blk w155 g154 (#[.bool true]) 4 from B157); clear B157 C158
    refine hK153 _ _ ?_; clear hK153 K153
    (try simp only [zP, zN, zA, zB, zC])
    refine ef_ (fun K163 hK163 => ?_)
    have hltB := Lib.hid (fun k_ (h_ : k_ ∈ Bs147) => (EX.out.lt k_ h_).2)
    refine e_append (by rfl) rfl rfl (w.heap.size) 4 _ _ 1 1 Tryd.underlying47 I4.hi I4.hz I4.hs I4.hb rfl (by decide) (vg) (i) (((E.L.take i).map HS.op).flatMap boolC) (by rfl) OG.out (.slice (some ⟨g154, 0, none⟩) 1 1) 1 (boolC true) (by rfl) ⟨rfl, .inr ⟨_, _, rfl, CellsAt.blk Fg154.out 0⟩⟩ (boolC_one true) (by unfold maxLen; have := hlt.out; have := hfew.out.1; omega) (by have := hlt.out; have := hfew.out.1; omega) C0.out.size ?_
    rintro v164 w165 O166 C167 R168 -
    have xr170 := Lib.hid (show ∀ k, k ∈ xb (.slice (some a) E.L.length zq) → k ∉ rl v164 from fun k hk hm => (R168 k hm).elim (fun h => hxg.out k hk h) (fun h => by have := SQ.out.lt (by decide) k hk; omega))
    have nr171 := Lib.hid (show g154 ∉ rl v164 from fun hk => (R168 _ hk).elim nr162.out (fun h => by have := Fg154.out.lt; omega))
    have C0' := Lib.hid (show Ch [] w w165 from C0.out.trans' C167 (fun x hx => .inr (OG.out.lt x hx).1))
    have EX' := Lib.hid (show ExIs w165 w.heap.size Bs147 x (64 * k) (E) from EX.out.ch C167 (fun k hk hm => hr151.out k hm hk))
    have SQ' := Lib.hid (show SrcIs w165 (.slice (some a) E.L.length zq) (E.L.length) (E.L.flatMap sesC) 6 from SQ.out.chx C167 hxg.out)
    have Fgq' := Lib.hid (show Blk w165 gq (#[.slice (some a) E.L.length zq, .int .i64 E.last]) 44 from C167.blk Fgq.out (OG.out.ne Fgq.out (by decide)))
    have Fg154' := Lib.hid (show Blk w165 g154 (#[.bool true]) 4 from C167.blk Fg154.out nr162.out)
    clear C0 EX SQ Fgq Fg154
    have C0 := C0'; clear C0'
    have EX := EX'; clear EX'
    have SQ := SQ'; clear SQ'
    have Fgq := Fgq'; clear Fgq'
    have Fg154 := Fg154'; clear Fg154'
    clear OG
    have OG := Lib.hid (show OwnS w165 w.heap.size 4 1 (v164) (i + 1) (((E.L.take i).map HS.op).flatMap boolC ++ boolC true) from O166); clear O166 C167
    have rs172 := Lib.hid (show ∀ k_, k_ ∈ rl v164 → k_ ∉ Bs147 from fun k_ hk_ hB_ => (R168 k_ hk_).elim (fun h_ => hr151.out k_ h_ hB_) (fun h_ => by have := hltB.out k_ hB_; omega))
    refine hK163 _ _ ?_; clear hK163 K163
    (try simp only [zP, zN, zA, zB, zC])
    refine pu_ (v := v164) (y_assign rfl (by rfl) (by rfl)) ?_
    (try simp only [zP, zN, zA, zB, zC])
    refine nl_ (hK152 _ _ ?_); clear hK152 K152
    refine s_ (fun K173 hK173 => ?_)
    refine pu_ (v := .bool true) (y_move rfl (by rfl) (by rfl)) ?_
    (try simp only [zP, zN, zA, zB, zC])
    refine pu_ (v := .bool true) (y_move rfl (by rfl) (by rfl)) ?_
    (try simp only [zP, zN, zA, zB, zC])
    refine pu_ (v := .pointer (some ⟨gq, 0, none⟩)) (y_run (by rfl) (fun W => by go_simp)) ?_
    (try simp only [zP, zN, zA, zB, zC])
    refine ld_ (v := .slice (some a) E.L.length zq) rfl (by rfl) (by rfl) (run_load_one ((Fgq.out.cell 0).trans rfl) Tryd.underlying42 rfl) ?_
    (try simp only [zP, zN, zA, zB, zC])
    refine pu_ (v := .int .i64 i) (y_move rfl (by rfl) (by rfl)) ?_
    (try simp only [zP, zN, zA, zB, zC])
    refine pu_ (v := .pointer (some (a.add (i * 6)))) (y_run (by rfl) (fun W => by have d := D65.out; go_simp)) ?_
    (try simp only [zP, zN, zA, zB, zC])
    refine pu_ (v := .pointer (some ((a.add (i * 6)).add 1))) (y_run (by rfl) (fun W => by go_simp)) ?_
    (try simp only [zP, zN, zA, zB, zC])
    refine ld_ (v := .int .i64 s.box) rfl (by rfl) (by rfl) (run_load_one (src_fld SQ.out HS_.out 1 _ (by simp [sesC])) Tryd.underlying3 rfl) ?_
    (try simp only [zP, zN, zA, zB, zC])
    refine pu_ (v := .int .i64 box) (y_move rfl (by rfl) (by rfl)) ?_
    (try simp only [zP, zN, zA, zB, zC])
    refine pu_ (v := .bool false) (y_run (by rfl) (fun W => by have d := D93.out; go_simp)) ?_
    (try simp only [zP, zN, zA, zB, zC])
    refine pu_ (v := .bool false) (y_pick (t := true) (by rfl) rfl (by rfl) (by rfl)) ?_
    (try simp only [zP, zN, zA, zB, zC])
    refine pu_ (v := .bool false) (y_move rfl (by rfl) (by rfl)) ?_
    (try simp only [zP, zN, zA, zB, zC])
    refine pu_ (y_off (by rfl)) ?_
    (try simp only [zP, zN, zA, zB, zC])
    refine pu_ (y_off (by rfl)) ?_
    (try simp only [zP, zN, zA, zB, zC])
    refine pu_ (y_off (by rfl)) ?_
    (try simp only [zP, zN, zA, zB, zC])
    refine pu_ (y_off (by rfl)) ?_
    (try simp only [zP, zN, zA, zB, zC])
    refine pu_ (y_off (by rfl)) ?_
    (try simp only [zP, zN, zA, zB, zC])
    refine pu_ (y_off (by rfl)) ?_
    (try simp only [zP, zN, zA, zB, zC])
    refine pu_ (y_off (by rfl)) ?_
    (try simp only [zP, zN, zA, zB, zC])
    refine pu_ (y_off (by rfl)) ?_
    (try simp only [zP, zN, zA, zB, zC])
    refine pu_ (v := .bool false) (y_pick (t := false) (by rfl) rfl (by rfl) (by rfl)) ?_
    (try simp only [zP, zN, zA, zB, zC])
    refine nl_ (hK173 _ _ ?_); clear hK173 K173
    refine wp_cond_false rfl ?_
    refine wp_skip ?_
    refine ib_norm ?_
    refine th_norm (hK144 _ _ ?_); try clear hK144 K144
    refine r_ ?_
    refine pu_ (v := .int .i64 i) (y_move rfl (by rfl) (by rfl)) ?_
    (try simp only [zP, zN, zA, zB, zC])
    refine pu_ (v := .int .i64 (i + 1 : Nat)) (y_run (by rfl) (fun W => by have d := Wi.out; go_simp)) ?_
    (try simp only [zP, zN, zA, zB, zC])
    refine pu_ (v := .int .i64 (i + 1 : Nat)) (y_assign rfl (by rfl) (by rfl)) ?_
    (try simp only [zP, zN, zA, zB, zC])
    refine nl_ ?_
    exact th_norm (hK110 (kq - 1) _ _ (by have := hlt.out; have := hi.out; omega) ⟨i + 1, v164, Bs147, fun us_ => (#[us 0, .int .i64 box, .int .i64 ctr, us 3, us 4, us 5, .bool false, .pointer (some ⟨x, 0, none⟩), .pointer (some ⟨gq, 0, none⟩), us 9, us 10, us 11, v164, .int .i64 ((E.L.take (i + 1)).countP (hit box ctr) : Nat), .int .i64 (i + 1 : Nat), .int .i64 s.box, .int .i64 s.ctr, .bool true, us 18, us 19, us 20, us 21, us 22, us 23, us 24, us 25, us 26, us 27, us 28, us 29, us 30, us 31, us 32, us 33, us 34, us 35, us 36, us 37, us 38, us 39, us 40, us 41, us 42, us 43, us 44, us 45, us 46, us 47, us 48, us 49, us 50, us 51, us 52, us 53, us 54, us 55, us 56, us 57, us 58, us 59, us 60, .int .i64 i, .pointer (some ⟨gq, 0, none⟩), .slice (some a) E.L.length zq, .int .i64 E.L.length, .bool true, .int .i64 i, .int .i64 (i + 1 : Nat), .tuple #[.int .i64 s.box, .int .i64 s.ctr, .bool true], .pointer (some ⟨x, 0, none⟩), .pointer (some ⟨gq, 0, none⟩), .slice (some a) E.L.length zq, .int .i64 i, .pointer (some (a.add (i * 6))), .pointer (some ((a.add (i * 6)).add 0)), .int .i64 s.id, .tuple #[.int .i64 s.box, .int .i64 s.ctr, .bool true], .int .i64 s.box, .int .i64 s.ctr, .bool true, vg, .bool true, .slice (some ⟨g154, 0, none⟩) 1 1, v164, .bool true, .bool true, .pointer (some ⟨gq, 0, none⟩), .slice (some a) E.L.length zq, .int .i64 i, .pointer (some (a.add (i * 6))), .pointer (some ((a.add (i * 6)).add 1)), .int .i64 s.box, .int .i64 box, .bool false, .bool false, .bool false, undef, undef, undef, undef, undef, undef, undef, undef, .bool false, us 105, us 106, us 107, us 108, us 109, us 110, us 111, us 112, us 113, us 114, us 115, us 116, us 117, us 118, us 119, us 120, us 121, us 122, us 123, us 124, us 125, us 126, us 127, us 128, us 129, us 130, us 131, us 132, us 133, us 134, us 135, us 136, us 137, us 138, us 139, us 140, us 141, us 142, us 143, us 144, us 145, us 146, us 147, us 148, us 149, us 150, us 151, us 152, us 153, us 154, us 155, us 156, us 157, us 158, us 159, us 160, us 161, us 162, us 163, us 164, us 165, us 166, us 167, us 168, us 169, us 170, us 171, us 172, us 173, us 174, us 175, us 176, us 177, us 178, us 179, us 180, us 181, us 182, us 183, us 184, us 185, us 186, us 187, us 188, us 189, us 190, us 191, us 192, us 193, us 194, us 195, us 196, us 197, us 198, us 199, us 200] : Array Value).getD us_ undef, rfl, C0, EX, SQ, Fgq, Lib.hid (by have h9 := OG.out; rw [take_snoc HS_.out, List.map_append, List.map_cons, List.map_nil, HOP.out, List.flatMap_append, List.flatMap_cons, List.flatMap_nil, List.append_nil]; exact h9), Lib.hid ⟨by have := hlt.out; omega, by have := hlt.out; have := hi.out; omega⟩, hr150, hs149, rs172, Lib.hid (xr170.out)⟩)
  · have hlt := Lib.hid hlt0
    have HS_ := Lib.hid ho0
    have HCC := Lib.hid hc
    clear hc hlt0 ho0
    have HOP := Lib.hid (show s.op = true from HCC.out.1)
    obtain ⟨a, hsm_a⟩ := src_some SQ.out (by have := hlt.out; omega)
    subst hsm_a
    have D65 := Lib.hid (show (i : Int) < (E.L.length : Int) by have := hlt.out; omega)
    have Wi := Lib.hid (show IntKind.i64.wrap ((i : Int) + 1) = ((i + 1 : Nat) : Int) by rw [wr64 (by have := hlt.out; have := hfew.out.1; omega)]; omega)
    have HOF := Lib.hid (show ofR E s.id = (s.box, s.ctr, true) from (ofR_at (fx_uniq hlaw.out HS_.out) HS_.out).trans (by rw [HOP.out]))
    have HHI := Lib.hid (show hit box ctr s = false from by unfold hit; rw [HOP.out]; simp [HCC.out.2.2])
    have D93 := Lib.hid (show  s.box = box from HCC.out.2.1)
    have D103 := Lib.hid (show ¬ s.ctr = ctr from HCC.out.2.2)
    have W7 := Lib.hid (show (Value.int .i64 ((E.L.take i).countP (hit box ctr) : Nat)) = .int .i64 ((E.L.take (i + 1)).countP (hit box ctr) : Nat) by rw [count_succ HS_.out, HHI.out]; simp)
    rw [W7.out]
    refine s_ (fun K174 hK174 => ?_)
    refine pu_ (v := .int .i64 i) (y_move rfl (by rfl) (by rfl)) ?_
    (try simp only [zP, zN, zA, zB, zC])
    refine pu_ (v := .pointer (some ⟨gq, 0, none⟩)) (y_run (by rfl) (fun W => by go_simp)) ?_
    (try simp only [zP, zN, zA, zB, zC])
    refine ld_ (v := .slice (some a) E.L.length zq) rfl (by rfl) (by rfl) (run_load_one ((Fgq.out.cell 0).trans rfl) Tryd.underlying42 rfl) ?_
    (try simp only [zP, zN, zA, zB, zC])
    refine pu_ (v := .int .i64 E.L.length) (y_run (by rfl) (fun W => by go_simp)) ?_
    (try simp only [zP, zN, zA, zB, zC])
    refine pu_ (v := .bool true) (y_run (by rfl) (fun W => by have d := D65.out; go_simp)) ?_
    (try simp only [zP, zN, zA, zB, zC])
    refine nl_ (hK174 _ _ ?_); clear hK174 K174
    refine wp_cond_true rfl ?_
    refine wp_skip ?_
    refine th_norm (hK111 _ _ ?_); try clear hK111 K111
    refine sq_ (fun K175 hK175 => ?_)
    refine wp_block ?_
    refine s_ (fun K176 hK176 => ?_)
    refine pu_ (v := .pointer (some ⟨x, 0, none⟩)) (y_move rfl (by rfl) (by rfl)) ?_
    (try simp only [zP, zN, zA, zB, zC])
    refine pu_ (v := .pointer (some ⟨gq, 0, none⟩)) (y_run (by rfl) (fun W => by go_simp)) ?_
    (try simp only [zP, zN, zA, zB, zC])
    refine ld_ (v := .slice (some a) E.L.length zq) rfl (by rfl) (by rfl) (run_load_one ((Fgq.out.cell 0).trans rfl) Tryd.underlying42 rfl) ?_
    (try simp only [zP, zN, zA, zB, zC])
    refine pu_ (v := .int .i64 i) (y_move rfl (by rfl) (by rfl)) ?_
    (try simp only [zP, zN, zA, zB, zC])
    refine pu_ (v := .pointer (some (a.add (i * 6)))) (y_run (by rfl) (fun W => by have d := D65.out; go_simp)) ?_
    (try simp only [zP, zN, zA, zB, zC])
    refine pu_ (v := .pointer (some ((a.add (i * 6)).add 0))) (y_run (by rfl) (fun W => by go_simp)) ?_
    (try simp only [zP, zN, zA, zB, zC])
    refine ld_ (v := .int .i64 s.id) rfl (by rfl) (by rfl) (run_load_one (src_fld SQ.out HS_.out 0 _ (by simp [sesC])) Tryd.underlying3 rfl) ?_
    (try simp only [zP, zN, zA, zB, zC])
    refine ef_ (fun K177 hK177 => ?_)
    refine e_call Tryd.func15 (by kernel_rfl) rfl #[.pointer (some ⟨x, 0, none⟩), .int .i64 s.id] (by rfl) rfl rfl (by first | rfl | (simp only [List.map_toArray, List.map_cons, List.map_nil]; first | done | rfl)) ((by have h9 := of_l (id := s.id) EX.out (by have := hfew.out.1; omega); rw [HOF.out] at h9; exact h9)) ?_
    rintro en w179 ⟨rfl, Bs178, bk, cc, bel⟩
    refine ⟨_, rfl, ?_⟩
    have hs180 := Lib.hid (show gq ∉ Bs178 from fun h9 => (bel _ h9).elim hgs2.out (fun h8 => by have := Fgq.out.lt; omega))
    have hr181 := Lib.hid (show ∀ k_, k_ ∈ xb (.slice (some a) E.L.length zq) → k_ ∉ Bs178 from fun k_ hk_ hB_ => (bel k_ hB_).elim (hqs2.out k_ hk_) (fun h8 => by have := SQ.out.lt (by decide) k_ hk_; omega))
    have hr182 := Lib.hid (show ∀ k_, k_ ∈ rl vg → k_ ∉ Bs178 from fun k_ hk_ hB_ => (bel k_ hB_).elim (hvr.out k_ hk_) (fun h8 => by have := (OG.out.lt k_ hk_).2; omega))
    have C0' := Lib.hid (show Ch [] w w179 from C0.out.trans' cc (fun x hx => .inr (EX.out.lt x hx).1))
    have SQ' := Lib.hid (show SrcIs w179 (.slice (some a) E.L.length zq) (E.L.length) (E.L.flatMap sesC) 6 from SQ.out.chx cc hqs2.out)
    have Fgq' := Lib.hid (show Blk w179 gq (#[.slice (some a) E.L.length zq, .int .i64 E.last]) 44 from cc.blk Fgq.out hgs2.out)
    have OG' := Lib.hid (show OwnS w179 w.heap.size 4 1 (vg) (i) (((E.L.take i).map HS.op).flatMap boolC) from OG.out.ch cc hvr.out)
    clear C0 SQ Fgq OG
    have C0 := C0'; clear C0'
    have SQ := SQ'; clear SQ'
    have Fgq := Fgq'; clear Fgq'
    have OG := OG'; clear OG'
    clear EX cc bel
    have EX := Lib.hid (show ExIs w179 w.heap.size Bs178 x (64 * k) (E) from bk)
    clear bk
    refine hK177 _ _ ?_; clear hK177 K177
    (try simp only [zP, zN, zA, zB, zC])
    refine pu_ (v := .tuple #[.int .i64 s.box, .int .i64 s.ctr, .bool true]) (y_move rfl (by rfl) (by rfl)) ?_
    (try simp only [zP, zN, zA, zB, zC])
    refine pu_ (v := .int .i64 s.box) (y_run (by rfl) (fun W => by go_simp)) ?_
    (try simp only [zP, zN, zA, zB, zC])
    refine pu_ (v := .int .i64 s.ctr) (y_run (by rfl) (fun W => by go_simp)) ?_
    (try simp only [zP, zN, zA, zB, zC])
    refine pu_ (v := .bool true) (y_run (by rfl) (fun W => by go_simp)) ?_
    (try simp only [zP, zN, zA, zB, zC])
    refine pu_ (v := .int .i64 s.box) (y_assign rfl (by rfl) (by rfl)) ?_
    (try simp only [zP, zN, zA, zB, zC])
    refine pu_ (v := .int .i64 s.ctr) (y_assign rfl (by rfl) (by rfl)) ?_
    (try simp only [zP, zN, zA, zB, zC])
    refine pu_ (v := .bool true) (y_assign rfl (by rfl) (by rfl)) ?_
    (try simp only [zP, zN, zA, zB, zC])
    refine nl_ (hK176 _ _ ?_); clear hK176 K176
    refine s_ (fun K183 hK183 => ?_)
    refine pu_ (v := vg) (y_move rfl (by rfl) (by rfl)) ?_
    (try simp only [zP, zN, zA, zB, zC])
    refine pu_ (v := .bool true) (y_move rfl (by rfl) (by rfl)) ?_
    (try simp only [zP, zN, zA, zB, zC])
    refine ef_ (fun K184 hK184 => ?_)
    refine e_buildS (parts := #[(0, .bool true)]) (cells := #[.bool true]) (by rfl) rfl rfl (by first | rfl | (simp only [List.map_toArray, List.map_cons, List.map_nil]; first | done | rfl)) Tryd.underlying47 I4.hi I4.hz I4.hs (by decide) (by decide) (by kernel_rfl) ?_
    rintro g185 w186 HG187 B188 C189
    have nw190 := Lib.hid (show w.heap.size ≤ g185 by have := C0.out.size; have := HG187.out; omega)
    have hs191 := Lib.hid (show g185 ∉ Bs178 from fun hk => by have h8 := (EX.out.lt _ hk).2; have := HG187.out; omega)
    have nx192 := Lib.hid (SQ.out.ne_new (by decide) HG187)
    have nr193 := Lib.hid (OG.out.ne_new HG187)
    have C0' := Lib.hid (show Ch [] w w186 from C0.out.trans' C189 (fun x hx => absurd hx (by simp)))
    have EX' := Lib.hid (show ExIs w186 w.heap.size Bs178 x (64 * k) (E) from EX.out.ch C189 (fun _ _ h => absurd h (by simp)))
    have SQ' := Lib.hid (show SrcIs w186 (.slice (some a) E.L.length zq) (E.L.length) (E.L.flatMap sesC) 6 from SQ.out.chx C189 xnin_nil)
    have Fgq' := Lib.hid (show Blk w186 gq (#[.slice (some a) E.L.length zq, .int .i64 E.last]) 44 from C189.blk Fgq.out nin_nil)
    have OG' := Lib.hid (show OwnS w186 w.heap.size 4 1 (vg) (i) (((E.L.take i).map HS.op).flatMap boolC) from OG.out.ch C189 rnin_nil)
    clear C0 EX SQ Fgq OG
    have C0 := C0'; clear C0'
    have EX := EX'; clear EX'
    have SQ := SQ'; clear SQ'
    have Fgq := Fgq'; clear Fgq'
    have OG := OG'; clear OG'
    have Fg185 := Lib.hid (show Blk w186 g185 (#[.bool true]) 4 from B188); clear B188 C189
    refine hK184 _ _ ?_; clear hK184 K184
    (try simp only [zP, zN, zA, zB, zC])
    refine ef_ (fun K194 hK194 => ?_)
    have hltB := Lib.hid (fun k_ (h_ : k_ ∈ Bs178) => (EX.out.lt k_ h_).2)
    refine e_append (by rfl) rfl rfl (w.heap.size) 4 _ _ 1 1 Tryd.underlying47 I4.hi I4.hz I4.hs I4.hb rfl (by decide) (vg) (i) (((E.L.take i).map HS.op).flatMap boolC) (by rfl) OG.out (.slice (some ⟨g185, 0, none⟩) 1 1) 1 (boolC true) (by rfl) ⟨rfl, .inr ⟨_, _, rfl, CellsAt.blk Fg185.out 0⟩⟩ (boolC_one true) (by unfold maxLen; have := hlt.out; have := hfew.out.1; omega) (by have := hlt.out; have := hfew.out.1; omega) C0.out.size ?_
    rintro v195 w196 O197 C198 R199 -
    have xr201 := Lib.hid (show ∀ k, k ∈ xb (.slice (some a) E.L.length zq) → k ∉ rl v195 from fun k hk hm => (R199 k hm).elim (fun h => hxg.out k hk h) (fun h => by have := SQ.out.lt (by decide) k hk; omega))
    have nr202 := Lib.hid (show g185 ∉ rl v195 from fun hk => (R199 _ hk).elim nr193.out (fun h => by have := Fg185.out.lt; omega))
    have C0' := Lib.hid (show Ch [] w w196 from C0.out.trans' C198 (fun x hx => .inr (OG.out.lt x hx).1))
    have EX' := Lib.hid (show ExIs w196 w.heap.size Bs178 x (64 * k) (E) from EX.out.ch C198 (fun k hk hm => hr182.out k hm hk))
    have SQ' := Lib.hid (show SrcIs w196 (.slice (some a) E.L.length zq) (E.L.length) (E.L.flatMap sesC) 6 from SQ.out.chx C198 hxg.out)
    have Fgq' := Lib.hid (show Blk w196 gq (#[.slice (some a) E.L.length zq, .int .i64 E.last]) 44 from C198.blk Fgq.out (OG.out.ne Fgq.out (by decide)))
    have Fg185' := Lib.hid (show Blk w196 g185 (#[.bool true]) 4 from C198.blk Fg185.out nr193.out)
    clear C0 EX SQ Fgq Fg185
    have C0 := C0'; clear C0'
    have EX := EX'; clear EX'
    have SQ := SQ'; clear SQ'
    have Fgq := Fgq'; clear Fgq'
    have Fg185 := Fg185'; clear Fg185'
    clear OG
    have OG := Lib.hid (show OwnS w196 w.heap.size 4 1 (v195) (i + 1) (((E.L.take i).map HS.op).flatMap boolC ++ boolC true) from O197); clear O197 C198
    have rs203 := Lib.hid (show ∀ k_, k_ ∈ rl v195 → k_ ∉ Bs178 from fun k_ hk_ hB_ => (R199 k_ hk_).elim (fun h_ => hr182.out k_ h_ hB_) (fun h_ => by have := hltB.out k_ hB_; omega))
    refine hK194 _ _ ?_; clear hK194 K194
    (try simp only [zP, zN, zA, zB, zC])
    refine pu_ (v := v195) (y_assign rfl (by rfl) (by rfl)) ?_
    (try simp only [zP, zN, zA, zB, zC])
    refine nl_ (hK183 _ _ ?_); clear hK183 K183
    refine s_ (fun K204 hK204 => ?_)
    refine pu_ (v := .bool true) (y_move rfl (by rfl) (by rfl)) ?_
    (try simp only [zP, zN, zA, zB, zC])
    refine pu_ (v := .bool true) (y_move rfl (by rfl) (by rfl)) ?_
    (try simp only [zP, zN, zA, zB, zC])
    refine pu_ (v := .pointer (some ⟨gq, 0, none⟩)) (y_run (by rfl) (fun W => by go_simp)) ?_
    (try simp only [zP, zN, zA, zB, zC])
    refine ld_ (v := .slice (some a) E.L.length zq) rfl (by rfl) (by rfl) (run_load_one ((Fgq.out.cell 0).trans rfl) Tryd.underlying42 rfl) ?_
    (try simp only [zP, zN, zA, zB, zC])
    refine pu_ (v := .int .i64 i) (y_move rfl (by rfl) (by rfl)) ?_
    (try simp only [zP, zN, zA, zB, zC])
    refine pu_ (v := .pointer (some (a.add (i * 6)))) (y_run (by rfl) (fun W => by have d := D65.out; go_simp)) ?_
    (try simp only [zP, zN, zA, zB, zC])
    refine pu_ (v := .pointer (some ((a.add (i * 6)).add 1))) (y_run (by rfl) (fun W => by go_simp)) ?_
    (try simp only [zP, zN, zA, zB, zC])
    refine ld_ (v := .int .i64 s.box) rfl (by rfl) (by rfl) (run_load_one (src_fld SQ.out HS_.out 1 _ (by simp [sesC])) Tryd.underlying3 rfl) ?_
    (try simp only [zP, zN, zA, zB, zC])
    refine pu_ (v := .int .i64 box) (y_move rfl (by rfl) (by rfl)) ?_
    (try simp only [zP, zN, zA, zB, zC])
    refine pu_ (v := .bool true) (y_run (by rfl) (fun W => by have d := D93.out; go_simp)) ?_
    (try simp only [zP, zN, zA, zB, zC])
    refine pu_ (v := .bool true) (y_pick (t := true) (by rfl) rfl (by rfl) (by rfl)) ?_
    (try simp only [zP, zN, zA, zB, zC])
    refine pu_ (v := .bool true) (y_move rfl (by rfl) (by rfl)) ?_
    (try simp only [zP, zN, zA, zB, zC])
    refine pu_ (v := .pointer (some ⟨gq, 0, none⟩)) (y_run (by rfl) (fun W => by go_simp)) ?_
    (try simp only [zP, zN, zA, zB, zC])
    refine ld_ (v := .slice (some a) E.L.length zq) rfl (by rfl) (by rfl) (run_load_one ((Fgq.out.cell 0).trans rfl) Tryd.underlying42 rfl) ?_
    (try simp only [zP, zN, zA, zB, zC])
    refine pu_ (v := .int .i64 i) (y_move rfl (by rfl) (by rfl)) ?_
    (try simp only [zP, zN, zA, zB, zC])
    refine pu_ (v := .pointer (some (a.add (i * 6)))) (y_run (by rfl) (fun W => by have d := D65.out; go_simp)) ?_
    (try simp only [zP, zN, zA, zB, zC])
    refine pu_ (v := .pointer (some ((a.add (i * 6)).add 2))) (y_run (by rfl) (fun W => by go_simp)) ?_
    (try simp only [zP, zN, zA, zB, zC])
    refine ld_ (v := .int .i64 s.ctr) rfl (by rfl) (by rfl) (run_load_one (src_fld SQ.out HS_.out 2 _ (by simp [sesC])) Tryd.underlying3 rfl) ?_
    (try simp only [zP, zN, zA, zB, zC])
    refine pu_ (v := .int .i64 ctr) (y_move rfl (by rfl) (by rfl)) ?_
    (try simp only [zP, zN, zA, zB, zC])
    refine pu_ (v := .bool false) (y_run (by rfl) (fun W => by have d := D103.out; go_simp)) ?_
    (try simp only [zP, zN, zA, zB, zC])
    refine pu_ (v := .bool false) (y_pick (t := true) (by rfl) rfl (by rfl) (by rfl)) ?_
    (try simp only [zP, zN, zA, zB, zC])
    refine nl_ (hK204 _ _ ?_); clear hK204 K204
    refine wp_cond_false rfl ?_
    refine wp_skip ?_
    refine ib_norm ?_
    refine th_norm (hK175 _ _ ?_); try clear hK175 K175
    refine r_ ?_
    refine pu_ (v := .int .i64 i) (y_move rfl (by rfl) (by rfl)) ?_
    (try simp only [zP, zN, zA, zB, zC])
    refine pu_ (v := .int .i64 (i + 1 : Nat)) (y_run (by rfl) (fun W => by have d := Wi.out; go_simp)) ?_
    (try simp only [zP, zN, zA, zB, zC])
    refine pu_ (v := .int .i64 (i + 1 : Nat)) (y_assign rfl (by rfl) (by rfl)) ?_
    (try simp only [zP, zN, zA, zB, zC])
    refine nl_ ?_
    exact th_norm (hK110 (kq - 1) _ _ (by have := hlt.out; have := hi.out; omega) ⟨i + 1, v195, Bs178, fun us_ => (#[us 0, .int .i64 box, .int .i64 ctr, us 3, us 4, us 5, .bool false, .pointer (some ⟨x, 0, none⟩), .pointer (some ⟨gq, 0, none⟩), us 9, us 10, us 11, v195, .int .i64 ((E.L.take (i + 1)).countP (hit box ctr) : Nat), .int .i64 (i + 1 : Nat), .int .i64 s.box, .int .i64 s.ctr, .bool true, us 18, us 19, us 20, us 21, us 22, us 23, us 24, us 25, us 26, us 27, us 28, us 29, us 30, us 31, us 32, us 33, us 34, us 35, us 36, us 37, us 38, us 39, us 40, us 41, us 42, us 43, us 44, us 45, us 46, us 47, us 48, us 49, us 50, us 51, us 52, us 53, us 54, us 55, us 56, us 57, us 58, us 59, us 60, .int .i64 i, .pointer (some ⟨gq, 0, none⟩), .slice (some a) E.L.length zq, .int .i64 E.L.length, .bool true, .int .i64 i, .int .i64 (i + 1 : Nat), .tuple #[.int .i64 s.box, .int .i64 s.ctr, .bool true], .pointer (some ⟨x, 0, none⟩), .pointer (some ⟨gq, 0, none⟩), .slice (some a) E.L.length zq, .int .i64 i, .pointer (some (a.add (i * 6))), .pointer (some ((a.add (i * 6)).add 0)), .int .i64 s.id, .tuple #[.int .i64 s.box, .int .i64 s.ctr, .bool true], .int .i64 s.box, .int .i64 s.ctr, .bool true, vg, .bool true, .slice (some ⟨g185, 0, none⟩) 1 1, v195, .bool true, .bool true, .pointer (some ⟨gq, 0, none⟩), .slice (some a) E.L.length zq, .int .i64 i, .pointer (some (a.add (i * 6))), .pointer (some ((a.add (i * 6)).add 1)), .int .i64 s.box, .int .i64 box, .bool true, .bool true, .bool true, .pointer (some ⟨gq, 0, none⟩), .slice (some a) E.L.length zq, .int .i64 i, .pointer (some (a.add (i * 6))), .pointer (some ((a.add (i * 6)).add 2)), .int .i64 s.ctr, .int .i64 ctr, .bool false, .bool false, us 105, us 106, us 107, us 108, us 109, us 110, us 111, us 112, us 113, us 114, us 115, us 116, us 117, us 118, us 119, us 120, us 121, us 122, us 123, us 124, us 125, us 126, us 127, us 128, us 129, us 130, us 131, us 132, us 133, us 134, us 135, us 136, us 137, us 138, us 139, us 140, us 141, us 142, us 143, us 144, us 145, us 146, us 147, us 148, us 149, us 150, us 151, us 152, us 153, us 154, us 155, us 156, us 157, us 158, us 159, us 160, us 161, us 162, us 163, us 164, us 165, us 166, us 167, us 168, us 169, us 170, us 171, us 172, us 173, us 174, us 175, us 176, us 177, us 178, us 179, us 180, us 181, us 182, us 183, us 184, us 185, us 186, us 187, us 188, us 189, us 190, us 191, us 192, us 193, us 194, us 195, us 196, us 197, us 198, us 199, us 200] : Array Value).getD us_ undef, rfl, C0, EX, SQ, Fgq, Lib.hid (by have h9 := OG.out; rw [take_snoc HS_.out, List.map_append, List.map_cons, List.map_nil, HOP.out, List.flatMap_append, List.flatMap_cons, List.flatMap_nil, List.append_nil]; exact h9), Lib.hid ⟨by have := hlt.out; omega, by have := hlt.out; have := hi.out; omega⟩, hr181, hs180, rs203, Lib.hid (xr201.out)⟩)
  · have hlt := Lib.hid hlt0
    have HS_ := Lib.hid ho0
    have HCC := Lib.hid hc
    clear hc hlt0 ho0
    have HOP := Lib.hid (show s.op = true from HCC.out.1)
    obtain ⟨a, hsm_a⟩ := src_some SQ.out (by have := hlt.out; omega)
    subst hsm_a
    have D65 := Lib.hid (show (i : Int) < (E.L.length : Int) by have := hlt.out; omega)
    have Wi := Lib.hid (show IntKind.i64.wrap ((i : Int) + 1) = ((i + 1 : Nat) : Int) by rw [wr64 (by have := hlt.out; have := hfew.out.1; omega)]; omega)
    have HOF := Lib.hid (show ofR E s.id = (s.box, s.ctr, true) from (ofR_at (fx_uniq hlaw.out HS_.out) HS_.out).trans (by rw [HOP.out]))
    have HHI := Lib.hid (show hit box ctr s = true from by unfold hit; rw [HCC.out.1, HCC.out.2.1, HCC.out.2.2]; simp)
    have D93 := Lib.hid (show  s.box = box from HCC.out.2.1)
    have D103 := Lib.hid (show  s.ctr = ctr from HCC.out.2.2)
    have W106 := Lib.hid (show IntKind.i64.wrap ((((E.L.take i).countP (hit box ctr) : Nat) : Int) + 1) = (((E.L.take (i + 1)).countP (hit box ctr) : Nat) : Int) by rw [count_succ HS_.out, HHI.out, if_pos rfl, wr64 (by have h9 := List.countP_le_length (p := hit box ctr) (l := E.L.take i); rw [List.length_take] at h9; have := hlt.out; have := hfew.out.1; omega)]; omega)
    refine s_ (fun K205 hK205 => ?_)
    refine pu_ (v := .int .i64 i) (y_move rfl (by rfl) (by rfl)) ?_
    (try simp only [zP, zN, zA, zB, zC])
    refine pu_ (v := .pointer (some ⟨gq, 0, none⟩)) (y_run (by rfl) (fun W => by go_simp)) ?_
    (try simp only [zP, zN, zA, zB, zC])
    refine ld_ (v := .slice (some a) E.L.length zq) rfl (by rfl) (by rfl) (run_load_one ((Fgq.out.cell 0).trans rfl) Tryd.underlying42 rfl) ?_
    (try simp only [zP, zN, zA, zB, zC])
    refine pu_ (v := .int .i64 E.L.length) (y_run (by rfl) (fun W => by go_simp)) ?_
    (try simp only [zP, zN, zA, zB, zC])
    refine pu_ (v := .bool true) (y_run (by rfl) (fun W => by have d := D65.out; go_simp)) ?_
    (try simp only [zP, zN, zA, zB, zC])
    refine nl_ (hK205 _ _ ?_); clear hK205 K205
    refine wp_cond_true rfl ?_
    refine wp_skip ?_
    refine th_norm (hK111 _ _ ?_); try clear hK111 K111
    refine sq_ (fun K206 hK206 => ?_)
    refine wp_block ?_
    refine s_ (fun K207 hK207 => ?_)
    refine pu_ (v := .pointer (some ⟨x, 0, none⟩)) (y_move rfl (by rfl) (by rfl)) ?_
    (try simp only [zP, zN, zA, zB, zC])
    refine pu_ (v := .pointer (some ⟨gq, 0, none⟩)) (y_run (by rfl) (fun W => by go_simp)) ?_
    (try simp only [zP, zN, zA, zB, zC])
    refine ld_ (v := .slice (some a) E.L.length zq) rfl (by rfl) (by rfl) (run_load_one ((Fgq.out.cell 0).trans rfl) Tryd.underlying42 rfl) ?_
    (try simp only [zP, zN, zA, zB, zC])
    refine pu_ (v := .int .i64 i) (y_move rfl (by rfl) (by rfl)) ?_
    (try simp only [zP, zN, zA, zB, zC])
    refine pu_ (v := .pointer (some (a.add (i * 6)))) (y_run (by rfl) (fun W => by have d := D65.out; go_simp)) ?_
    (try simp only [zP, zN, zA, zB, zC])
    refine pu_ (v := .pointer (some ((a.add (i * 6)).add 0))) (y_run (by rfl) (fun W => by go_simp)) ?_
    (try simp only [zP, zN, zA, zB, zC])
    refine ld_ (v := .int .i64 s.id) rfl (by rfl) (by rfl) (run_load_one (src_fld SQ.out HS_.out 0 _ (by simp [sesC])) Tryd.underlying3 rfl) ?_
    (try simp only [zP, zN, zA, zB, zC])
    refine ef_ (fun K208 hK208 => ?_)
    refine e_call Tryd.func15 (by kernel_rfl) rfl #[.pointer (some ⟨x, 0, none⟩), .int .i64 s.id] (by rfl) rfl rfl (by first | rfl | (simp only [List.map_toArray, List.map_cons, List.map_nil]; first | done | rfl)) ((by have h9 := of_l (id := s.id) EX.out (by have := hfew.out.1; omega); rw [HOF.out] at h9; exact h9)) ?_
    rintro en w210 ⟨rfl, Bs209, bk, cc, bel⟩
    refine ⟨_, rfl, ?_⟩
    have hs211 := Lib.hid (show gq ∉ Bs209 from fun h9 => (bel _ h9).elim hgs2.out (fun h8 => by have := Fgq.out.lt; omega))
    have hr212 := Lib.hid (show ∀ k_, k_ ∈ xb (.slice (some a) E.L.length zq) → k_ ∉ Bs209 from fun k_ hk_ hB_ => (bel k_ hB_).elim (hqs2.out k_ hk_) (fun h8 => by have := SQ.out.lt (by decide) k_ hk_; omega))
    have hr213 := Lib.hid (show ∀ k_, k_ ∈ rl vg → k_ ∉ Bs209 from fun k_ hk_ hB_ => (bel k_ hB_).elim (hvr.out k_ hk_) (fun h8 => by have := (OG.out.lt k_ hk_).2; omega))
    have C0' := Lib.hid (show Ch [] w w210 from C0.out.trans' cc (fun x hx => .inr (EX.out.lt x hx).1))
    have SQ' := Lib.hid (show SrcIs w210 (.slice (some a) E.L.length zq) (E.L.length) (E.L.flatMap sesC) 6 from SQ.out.chx cc hqs2.out)
    have Fgq' := Lib.hid (show Blk w210 gq (#[.slice (some a) E.L.length zq, .int .i64 E.last]) 44 from cc.blk Fgq.out hgs2.out)
    have OG' := Lib.hid (show OwnS w210 w.heap.size 4 1 (vg) (i) (((E.L.take i).map HS.op).flatMap boolC) from OG.out.ch cc hvr.out)
    clear C0 SQ Fgq OG
    have C0 := C0'; clear C0'
    have SQ := SQ'; clear SQ'
    have Fgq := Fgq'; clear Fgq'
    have OG := OG'; clear OG'
    clear EX cc bel
    have EX := Lib.hid (show ExIs w210 w.heap.size Bs209 x (64 * k) (E) from bk)
    clear bk
    refine hK208 _ _ ?_; clear hK208 K208
    (try simp only [zP, zN, zA, zB, zC])
    refine pu_ (v := .tuple #[.int .i64 s.box, .int .i64 s.ctr, .bool true]) (y_move rfl (by rfl) (by rfl)) ?_
    (try simp only [zP, zN, zA, zB, zC])
    refine pu_ (v := .int .i64 s.box) (y_run (by rfl) (fun W => by go_simp)) ?_
    (try simp only [zP, zN, zA, zB, zC])
    refine pu_ (v := .int .i64 s.ctr) (y_run (by rfl) (fun W => by go_simp)) ?_
    (try simp only [zP, zN, zA, zB, zC])
    refine pu_ (v := .bool true) (y_run (by rfl) (fun W => by go_simp)) ?_
    (try simp only [zP, zN, zA, zB, zC])
    refine pu_ (v := .int .i64 s.box) (y_assign rfl (by rfl) (by rfl)) ?_
    (try simp only [zP, zN, zA, zB, zC])
    refine pu_ (v := .int .i64 s.ctr) (y_assign rfl (by rfl) (by rfl)) ?_
    (try simp only [zP, zN, zA, zB, zC])
    refine pu_ (v := .bool true) (y_assign rfl (by rfl) (by rfl)) ?_
    (try simp only [zP, zN, zA, zB, zC])
    refine nl_ (hK207 _ _ ?_); clear hK207 K207
    refine s_ (fun K214 hK214 => ?_)
    refine pu_ (v := vg) (y_move rfl (by rfl) (by rfl)) ?_
    (try simp only [zP, zN, zA, zB, zC])
    refine pu_ (v := .bool true) (y_move rfl (by rfl) (by rfl)) ?_
    (try simp only [zP, zN, zA, zB, zC])
    refine ef_ (fun K215 hK215 => ?_)
    refine e_buildS (parts := #[(0, .bool true)]) (cells := #[.bool true]) (by rfl) rfl rfl (by first | rfl | (simp only [List.map_toArray, List.map_cons, List.map_nil]; first | done | rfl)) Tryd.underlying47 I4.hi I4.hz I4.hs (by decide) (by decide) (by kernel_rfl) ?_
    rintro g216 w217 HG218 B219 C220
    have nw221 := Lib.hid (show w.heap.size ≤ g216 by have := C0.out.size; have := HG218.out; omega)
    have hs222 := Lib.hid (show g216 ∉ Bs209 from fun hk => by have h8 := (EX.out.lt _ hk).2; have := HG218.out; omega)
    have nx223 := Lib.hid (SQ.out.ne_new (by decide) HG218)
    have nr224 := Lib.hid (OG.out.ne_new HG218)
    have C0' := Lib.hid (show Ch [] w w217 from C0.out.trans' C220 (fun x hx => absurd hx (by simp)))
    have EX' := Lib.hid (show ExIs w217 w.heap.size Bs209 x (64 * k) (E) from EX.out.ch C220 (fun _ _ h => absurd h (by simp)))
    have SQ' := Lib.hid (show SrcIs w217 (.slice (some a) E.L.length zq) (E.L.length) (E.L.flatMap sesC) 6 from SQ.out.chx C220 xnin_nil)
    have Fgq' := Lib.hid (show Blk w217 gq (#[.slice (some a) E.L.length zq, .int .i64 E.last]) 44 from C220.blk Fgq.out nin_nil)
    have OG' := Lib.hid (show OwnS w217 w.heap.size 4 1 (vg) (i) (((E.L.take i).map HS.op).flatMap boolC) from OG.out.ch C220 rnin_nil)
    clear C0 EX SQ Fgq OG
    have C0 := C0'; clear C0'
    have EX := EX'; clear EX'
    have SQ := SQ'; clear SQ'
    have Fgq := Fgq'; clear Fgq'
    have OG := OG'; clear OG'
    have Fg216 := Lib.hid (show Blk w217 g216 (#[.bool true]) 4 from B219); clear B219 C220
    refine hK215 _ _ ?_; clear hK215 K215
    (try simp only [zP, zN, zA, zB, zC])
    refine ef_ (fun K225 hK225 => ?_)
    have hltB := Lib.hid (fun k_ (h_ : k_ ∈ Bs209) => (EX.out.lt k_ h_).2)
    refine e_append (by rfl) rfl rfl (w.heap.size) 4 _ _ 1 1 Tryd.underlying47 I4.hi I4.hz I4.hs I4.hb rfl (by decide) (vg) (i) (((E.L.take i).map HS.op).flatMap boolC) (by rfl) OG.out (.slice (some ⟨g216, 0, none⟩) 1 1) 1 (boolC true) (by rfl) ⟨rfl, .inr ⟨_, _, rfl, CellsAt.blk Fg216.out 0⟩⟩ (boolC_one true) (by unfold maxLen; have := hlt.out; have := hfew.out.1; omega) (by have := hlt.out; have := hfew.out.1; omega) C0.out.size ?_
    rintro v226 w227 O228 C229 R230 -
    have xr232 := Lib.hid (show ∀ k, k ∈ xb (.slice (some a) E.L.length zq) → k ∉ rl v226 from fun k hk hm => (R230 k hm).elim (fun h => hxg.out k hk h) (fun h => by have := SQ.out.lt (by decide) k hk; omega))
    have nr233 := Lib.hid (show g216 ∉ rl v226 from fun hk => (R230 _ hk).elim nr224.out (fun h => by have := Fg216.out.lt; omega))
    have C0' := Lib.hid (show Ch [] w w227 from C0.out.trans' C229 (fun x hx => .inr (OG.out.lt x hx).1))
    have EX' := Lib.hid (show ExIs w227 w.heap.size Bs209 x (64 * k) (E) from EX.out.ch C229 (fun k hk hm => hr213.out k hm hk))
    have SQ' := Lib.hid (show SrcIs w227 (.slice (some a) E.L.length zq) (E.L.length) (E.L.flatMap sesC) 6 from SQ.out.chx C229 hxg.out)
    have Fgq' := Lib.hid (show Blk w227 gq (#[.slice (some a) E.L.length zq, .int .i64 E.last]) 44 from C229.blk Fgq.out (OG.out.ne Fgq.out (by decide)))
    have Fg216' := Lib.hid (show Blk w227 g216 (#[.bool true]) 4 from C229.blk Fg216.out nr224.out)
    clear C0 EX SQ Fgq Fg216
    have C0 := C0'; clear C0'
    have EX := EX'; clear EX'
    have SQ := SQ'; clear SQ'
    have Fgq := Fgq'; clear Fgq'
    have Fg216 := Fg216'; clear Fg216'
    clear OG
    have OG := Lib.hid (show OwnS w227 w.heap.size 4 1 (v226) (i + 1) (((E.L.take i).map HS.op).flatMap boolC ++ boolC true) from O228); clear O228 C229
    have rs234 := Lib.hid (show ∀ k_, k_ ∈ rl v226 → k_ ∉ Bs209 from fun k_ hk_ hB_ => (R230 k_ hk_).elim (fun h_ => hr213.out k_ h_ hB_) (fun h_ => by have := hltB.out k_ hB_; omega))
    refine hK225 _ _ ?_; clear hK225 K225
    (try simp only [zP, zN, zA, zB, zC])
    refine pu_ (v := v226) (y_assign rfl (by rfl) (by rfl)) ?_
    (try simp only [zP, zN, zA, zB, zC])
    refine nl_ (hK214 _ _ ?_); clear hK214 K214
    refine s_ (fun K235 hK235 => ?_)
    refine pu_ (v := .bool true) (y_move rfl (by rfl) (by rfl)) ?_
    (try simp only [zP, zN, zA, zB, zC])
    refine pu_ (v := .bool true) (y_move rfl (by rfl) (by rfl)) ?_
    (try simp only [zP, zN, zA, zB, zC])
    refine pu_ (v := .pointer (some ⟨gq, 0, none⟩)) (y_run (by rfl) (fun W => by go_simp)) ?_
    (try simp only [zP, zN, zA, zB, zC])
    refine ld_ (v := .slice (some a) E.L.length zq) rfl (by rfl) (by rfl) (run_load_one ((Fgq.out.cell 0).trans rfl) Tryd.underlying42 rfl) ?_
    (try simp only [zP, zN, zA, zB, zC])
    refine pu_ (v := .int .i64 i) (y_move rfl (by rfl) (by rfl)) ?_
    (try simp only [zP, zN, zA, zB, zC])
    refine pu_ (v := .pointer (some (a.add (i * 6)))) (y_run (by rfl) (fun W => by have d := D65.out; go_simp)) ?_
    (try simp only [zP, zN, zA, zB, zC])
    refine pu_ (v := .pointer (some ((a.add (i * 6)).add 1))) (y_run (by rfl) (fun W => by go_simp)) ?_
    (try simp only [zP, zN, zA, zB, zC])
    refine ld_ (v := .int .i64 s.box) rfl (by rfl) (by rfl) (run_load_one (src_fld SQ.out HS_.out 1 _ (by simp [sesC])) Tryd.underlying3 rfl) ?_
    (try simp only [zP, zN, zA, zB, zC])
    refine pu_ (v := .int .i64 box) (y_move rfl (by rfl) (by rfl)) ?_
    (try simp only [zP, zN, zA, zB, zC])
    refine pu_ (v := .bool true) (y_run (by rfl) (fun W => by have d := D93.out; go_simp)) ?_
    (try simp only [zP, zN, zA, zB, zC])
    refine pu_ (v := .bool true) (y_pick (t := true) (by rfl) rfl (by rfl) (by rfl)) ?_
    (try simp only [zP, zN, zA, zB, zC])
    refine pu_ (v := .bool true) (y_move rfl (by rfl) (by rfl)) ?_
    (try simp only [zP, zN, zA, zB, zC])
    refine pu_ (v := .pointer (some ⟨gq, 0, none⟩)) (y_run (by rfl) (fun W => by go_simp)) ?_
    (try simp only [zP, zN, zA, zB, zC])
    refine ld_ (v := .slice (some a) E.L.length zq) rfl (by rfl) (by rfl) (run_load_one ((Fgq.out.cell 0).trans rfl) Tryd.underlying42 rfl) ?_
    (try simp only [zP, zN, zA, zB, zC])
    refine pu_ (v := .int .i64 i) (y_move rfl (by rfl) (by rfl)) ?_
    (try simp only [zP, zN, zA, zB, zC])
    refine pu_ (v := .pointer (some (a.add (i * 6)))) (y_run (by rfl) (fun W => by have d := D65.out; go_simp)) ?_
    (try simp only [zP, zN, zA, zB, zC])
    refine pu_ (v := .pointer (some ((a.add (i * 6)).add 2))) (y_run (by rfl) (fun W => by go_simp)) ?_
    (try simp only [zP, zN, zA, zB, zC])
    refine ld_ (v := .int .i64 s.ctr) rfl (by rfl) (by rfl) (run_load_one (src_fld SQ.out HS_.out 2 _ (by simp [sesC])) Tryd.underlying3 rfl) ?_
    (try simp only [zP, zN, zA, zB, zC])
    refine pu_ (v := .int .i64 ctr) (y_move rfl (by rfl) (by rfl)) ?_
    (try simp only [zP, zN, zA, zB, zC])
    refine pu_ (v := .bool true) (y_run (by rfl) (fun W => by have d := D103.out; go_simp)) ?_
    (try simp only [zP, zN, zA, zB, zC])
    refine pu_ (v := .bool true) (y_pick (t := true) (by rfl) rfl (by rfl) (by rfl)) ?_
    (try simp only [zP, zN, zA, zB, zC])
    refine nl_ (hK235 _ _ ?_); clear hK235 K235
    refine wp_cond_true rfl ?_
    refine r_ ?_
    refine pu_ (v := .int .i64 ((E.L.take i).countP (hit box ctr) : Nat)) (y_move rfl (by rfl) (by rfl)) ?_
    (try simp only [zP, zN, zA, zB, zC])
    refine pu_ (v := .int .i64 ((E.L.take (i + 1)).countP (hit box ctr) : Nat)) (y_run (by rfl) (fun W => by have d := W106.out; go_simp)) ?_
    (try simp only [zP, zN, zA, zB, zC])
    refine pu_ (v := .int .i64 ((E.L.take (i + 1)).countP (hit box ctr) : Nat)) (y_assign rfl (by rfl) (by rfl)) ?_
    (try simp only [zP, zN, zA, zB, zC])
    refine nl_ ?_
    refine ib_norm ?_
    refine th_norm (hK206 _ _ ?_); try clear hK206 K206
    refine r_ ?_
    refine pu_ (v := .int .i64 i) (y_move rfl (by rfl) (by rfl)) ?_
    (try simp only [zP, zN, zA, zB, zC])
    refine pu_ (v := .int .i64 (i + 1 : Nat)) (y_run (by rfl) (fun W => by have d := Wi.out; go_simp)) ?_
    (try simp only [zP, zN, zA, zB, zC])
    refine pu_ (v := .int .i64 (i + 1 : Nat)) (y_assign rfl (by rfl) (by rfl)) ?_
    (try simp only [zP, zN, zA, zB, zC])
    refine nl_ ?_
    exact th_norm (hK110 (kq - 1) _ _ (by have := hlt.out; have := hi.out; omega) ⟨i + 1, v226, Bs209, fun us_ => (#[us 0, .int .i64 box, .int .i64 ctr, us 3, us 4, us 5, .bool false, .pointer (some ⟨x, 0, none⟩), .pointer (some ⟨gq, 0, none⟩), us 9, us 10, us 11, v226, .int .i64 ((E.L.take (i + 1)).countP (hit box ctr) : Nat), .int .i64 (i + 1 : Nat), .int .i64 s.box, .int .i64 s.ctr, .bool true, us 18, us 19, us 20, us 21, us 22, us 23, us 24, us 25, us 26, us 27, us 28, us 29, us 30, us 31, us 32, us 33, us 34, us 35, us 36, us 37, us 38, us 39, us 40, us 41, us 42, us 43, us 44, us 45, us 46, us 47, us 48, us 49, us 50, us 51, us 52, us 53, us 54, us 55, us 56, us 57, us 58, us 59, us 60, .int .i64 i, .pointer (some ⟨gq, 0, none⟩), .slice (some a) E.L.length zq, .int .i64 E.L.length, .bool true, .int .i64 i, .int .i64 (i + 1 : Nat), .tuple #[.int .i64 s.box, .int .i64 s.ctr, .bool true], .pointer (some ⟨x, 0, none⟩), .pointer (some ⟨gq, 0, none⟩), .slice (some a) E.L.length zq, .int .i64 i, .pointer (some (a.add (i * 6))), .pointer (some ((a.add (i * 6)).add 0)), .int .i64 s.id, .tuple #[.int .i64 s.box, .int .i64 s.ctr, .bool true], .int .i64 s.box, .int .i64 s.ctr, .bool true, vg, .bool true, .slice (some ⟨g216, 0, none⟩) 1 1, v226, .bool true, .bool true, .pointer (some ⟨gq, 0, none⟩), .slice (some a) E.L.length zq, .int .i64 i, .pointer (some (a.add (i * 6))), .pointer (some ((a.add (i * 6)).add 1)), .int .i64 s.box, .int .i64 box, .bool true, .bool true, .bool true, .pointer (some ⟨gq, 0, none⟩), .slice (some a) E.L.length zq, .int .i64 i, .pointer (some (a.add (i * 6))), .pointer (some ((a.add (i * 6)).add 2)), .int .i64 s.ctr, .int .i64 ctr, .bool true, .bool true, .int .i64 ((E.L.take i).countP (hit box ctr) : Nat), .int .i64 ((E.L.take (i + 1)).countP (hit box ctr) : Nat), us 107, us 108, us 109, us 110, us 111, us 112, us 113, us 114, us 115, us 116, us 117, us 118, us 119, us 120, us 121, us 122, us 123, us 124, us 125, us 126, us 127, us 128, us 129, us 130, us 131, us 132, us 133, us 134, us 135, us 136, us 137, us 138, us 139, us 140, us 141, us 142, us 143, us 144, us 145, us 146, us 147, us 148, us 149, us 150, us 151, us 152, us 153, us 154, us 155, us 156, us 157, us 158, us 159, us 160, us 161, us 162, us 163, us 164, us 165, us 166, us 167, us 168, us 169, us 170, us 171, us 172, us 173, us 174, us 175, us 176, us 177, us 178, us 179, us 180, us 181, us 182, us 183, us 184, us 185, us 186, us 187, us 188, us 189, us 190, us 191, us 192, us 193, us 194, us 195, us 196, us 197, us 198, us 199, us 200] : Array Value).getD us_ undef, rfl, C0, EX, SQ, Fgq, Lib.hid (by have h9 := OG.out; rw [take_snoc HS_.out, List.map_append, List.map_cons, List.map_nil, HOP.out, List.flatMap_append, List.flatMap_cons, List.flatMap_nil, List.append_nil]; exact h9), Lib.hid ⟨by have := hlt.out; omega, by have := hlt.out; have := hi.out; omega⟩, hr212, hs211, rs234, Lib.hid (xr232.out)⟩)
  · have HE := Lib.hid h
    have D65 := Lib.hid (show ¬ (i : Int) < (E.L.length : Int) by omega)
    clear h
    have W13 := Lib.hid (show (Value.int .i64 ((E.L.take i).countP (hit box ctr) : Nat)) = .int .i64 (endR E box ctr) by rw [HE.out, List.take_length]; rfl)
    rw [W13.out]
    have OG' := Lib.hid (show OwnS w109 w.heap.size 4 1 vg E.L.length ((E.L.map HS.op).flatMap boolC) from by have h9 := OG.out; rw [HE.out, List.take_length] at h9; exact h9)
    clear OG
    have OG := OG'; clear OG'
    refine s_ (fun K236 hK236 => ?_)
    refine pu_ (v := .int .i64 i) (y_move rfl (by rfl) (by rfl)) ?_
    (try simp only [zP, zN, zA, zB, zC])
    refine pu_ (v := .pointer (some ⟨gq, 0, none⟩)) (y_run (by rfl) (fun W => by go_simp)) ?_
    (try simp only [zP, zN, zA, zB, zC])
    refine ld_ (v := .slice qa E.L.length zq) rfl (by rfl) (by rfl) (run_load_one ((Fgq.out.cell 0).trans rfl) Tryd.underlying42 rfl) ?_
    (try simp only [zP, zN, zA, zB, zC])
    refine pu_ (v := .int .i64 E.L.length) (y_run (by rfl) (fun W => by go_simp)) ?_
    (try simp only [zP, zN, zA, zB, zC])
    refine pu_ (v := .bool false) (y_run (by rfl) (fun W => by have d := D65.out; go_simp)) ?_
    (try simp only [zP, zN, zA, zB, zC])
    refine nl_ (hK236 _ _ ?_); clear hK236 K236
    refine wp_cond_false rfl ?_
    refine wp_exit ?_
    refine th_exit ?_
    refine th_exit ?_
    refine ib_exit ?_
    refine th_norm (hK107 _ _ ?_); try clear hK107 K107
    refine sq_ (fun K237 hK237 => ?_)
    refine s_ (fun K238 hK238 => ?_)
    refine pu_ (v := .pointer (some ⟨x, 0, none⟩)) (y_move rfl (by rfl) (by rfl)) ?_
    (try simp only [zP, zN, zA, zB, zC])
    refine pu_ (v := .int .i64 box) (y_move rfl (by rfl) (by rfl)) ?_
    (try simp only [zP, zN, zA, zB, zC])
    refine pu_ (v := .int .i64 ctr) (y_move rfl (by rfl) (by rfl)) ?_
    (try simp only [zP, zN, zA, zB, zC])
    refine ef_ (fun K239 hK239 => ?_)
    refine e_call Tryd.func13 (by kernel_rfl) rfl #[.pointer (some ⟨x, 0, none⟩), .int .i64 box, .int .i64 ctr] (by rfl) rfl rfl (by first | rfl | (simp only [List.map_toArray, List.map_cons, List.map_nil]; first | done | rfl)) ((end_l (bx := box) (ct := ctr) EX.out (by have := hfew.out.1; omega))) ?_
    rintro en w241 ⟨rfl, Bs240, bk, cc, bel⟩
    refine ⟨_, rfl, ?_⟩
    have hs242 := Lib.hid (show gq ∉ Bs240 from fun h9 => (bel _ h9).elim hgs2.out (fun h8 => by have := Fgq.out.lt; omega))
    have hr243 := Lib.hid (show ∀ k_, k_ ∈ xb (.slice qa E.L.length zq) → k_ ∉ Bs240 from fun k_ hk_ hB_ => (bel k_ hB_).elim (hqs2.out k_ hk_) (fun h8 => by have := SQ.out.lt (by decide) k_ hk_; omega))
    have hr244 := Lib.hid (show ∀ k_, k_ ∈ rl vg → k_ ∉ Bs240 from fun k_ hk_ hB_ => (bel k_ hB_).elim (hvr.out k_ hk_) (fun h8 => by have := (OG.out.lt k_ hk_).2; omega))
    have C0' := Lib.hid (show Ch [] w w241 from C0.out.trans' cc (fun x hx => .inr (EX.out.lt x hx).1))
    have SQ' := Lib.hid (show SrcIs w241 (.slice qa E.L.length zq) (E.L.length) (E.L.flatMap sesC) 6 from SQ.out.chx cc hqs2.out)
    have Fgq' := Lib.hid (show Blk w241 gq (#[.slice qa E.L.length zq, .int .i64 E.last]) 44 from cc.blk Fgq.out hgs2.out)
    have OG' := Lib.hid (show OwnS w241 w.heap.size 4 1 (vg) (E.L.length) ((E.L.map HS.op).flatMap boolC) from OG.out.ch cc hvr.out)
    clear C0 SQ Fgq OG
    have C0 := C0'; clear C0'
    have SQ := SQ'; clear SQ'
    have Fgq := Fgq'; clear Fgq'
    have OG := OG'; clear OG'
    clear EX cc bel
    have EX := Lib.hid (show ExIs w241 w.heap.size Bs240 x (64 * k) (endSS E box ctr) from bk)
    clear bk
    refine hK239 _ _ ?_; clear hK239 K239
    (try simp only [zP, zN, zA, zB, zC])
    refine pu_ (v := .int .i64 (endR E box ctr)) (y_move rfl (by rfl) (by rfl)) ?_
    (try simp only [zP, zN, zA, zB, zC])
    refine pu_ (v := .bool false) (y_run (by rfl) (fun W => by first | (go_simp; done) | (go_simp; rfl) | (go_simp; decide))) ?_
    (try simp only [zP, zN, zA, zB, zC])
    refine pu_ (v := .bool false) (y_move rfl (by rfl) (by rfl)) ?_
    (try simp only [zP, zN, zA, zB, zC])
    refine pu_ (v := .pointer (some ⟨x, 0, none⟩)) (y_move rfl (by rfl) (by rfl)) ?_
    (try simp only [zP, zN, zA, zB, zC])
    refine pu_ (v := .int .i64 box) (y_move rfl (by rfl) (by rfl)) ?_
    (try simp only [zP, zN, zA, zB, zC])
    refine pu_ (v := .int .i64 ctr) (y_move rfl (by rfl) (by rfl)) ?_
    (try simp only [zP, zN, zA, zB, zC])
    refine ef_ (fun K245 hK245 => ?_)
    refine e_call Tryd.func13 (by kernel_rfl) rfl #[.pointer (some ⟨x, 0, none⟩), .int .i64 box, .int .i64 ctr] (by rfl) rfl rfl (by first | rfl | (simp only [List.map_toArray, List.map_cons, List.map_nil]; first | done | rfl)) ((by have h9 := end_l (bx := box) (ct := ctr) EX.out (by show (E.L.map _).length ≤ 100; rw [List.length_map]; have := hfew.out.1; omega); rw [endR_twice, end_idem] at h9; exact h9)) ?_
    rintro en w247 ⟨rfl, Bs246, bk, cc, bel⟩
    refine ⟨_, rfl, ?_⟩
    have hs248 := Lib.hid (show gq ∉ Bs246 from fun h9 => (bel _ h9).elim hs242.out (fun h8 => by have := Fgq.out.lt; omega))
    have hr249 := Lib.hid (show ∀ k_, k_ ∈ xb (.slice qa E.L.length zq) → k_ ∉ Bs246 from fun k_ hk_ hB_ => (bel k_ hB_).elim (hr243.out k_ hk_) (fun h8 => by have := SQ.out.lt (by decide) k_ hk_; omega))
    have hr250 := Lib.hid (show ∀ k_, k_ ∈ rl vg → k_ ∉ Bs246 from fun k_ hk_ hB_ => (bel k_ hB_).elim (hr244.out k_ hk_) (fun h8 => by have := (OG.out.lt k_ hk_).2; omega))
    have C0' := Lib.hid (show Ch [] w w247 from C0.out.trans' cc (fun x hx => .inr (EX.out.lt x hx).1))
    have SQ' := Lib.hid (show SrcIs w247 (.slice qa E.L.length zq) (E.L.length) (E.L.flatMap sesC) 6 from SQ.out.chx cc hr243.out)
    have Fgq' := Lib.hid (show Blk w247 gq (#[.slice qa E.L.length zq, .int .i64 E.last]) 44 from cc.blk Fgq.out hs242.out)
    have OG' := Lib.hid (show OwnS w247 w.heap.size 4 1 (vg) (E.L.length) ((E.L.map HS.op).flatMap boolC) from OG.out.ch cc hr244.out)
    clear C0 SQ Fgq OG
    have C0 := C0'; clear C0'
    have SQ := SQ'; clear SQ'
    have Fgq := Fgq'; clear Fgq'
    have OG := OG'; clear OG'
    clear EX cc bel
    have EX := Lib.hid (show ExIs w247 w.heap.size Bs246 x (64 * k) (endSS E box ctr) from bk)
    clear bk
    refine hK245 _ _ ?_; clear hK245 K245
    (try simp only [zP, zN, zA, zB, zC])
    refine pu_ (v := .bool false) (y_run (by rfl) (fun W => by first | (go_simp; done) | (go_simp; rfl) | (go_simp; decide))) ?_
    (try simp only [zP, zN, zA, zB, zC])
    refine pu_ (v := .bool false) (y_pick (t := false) (by rfl) rfl (by rfl) (by rfl)) ?_
    (try simp only [zP, zN, zA, zB, zC])
    refine nl_ (hK238 _ _ ?_); clear hK238 K238
    refine wp_cond_false rfl ?_
    refine wp_skip ?_
    refine th_norm (hK237 _ _ ?_); try clear hK237 K237
    refine sq_ (fun K251 hK251 => ?_)
    refine s_ (fun K252 hK252 => ?_)
    refine pu_ (v := .int .i64 0) (y_assign rfl (by rfl) (by rfl)) ?_
    (try simp only [zP, zN, zA, zB, zC])
    refine nl_ (hK252 _ _ ?_); clear hK252 K252
    refine wp_block ?_
    obtain ⟨Ag, cg, hvg, -, -⟩ := OG.out.slice
    subst hvg
    refine loopk_ (fun (kq : Nat) (a' : Act) (w' : World) => ∃ (i : Nat), ∃ (Bu : List Nat), ∃ (F : HX), ∃ (us : Nat → Value), a' = ⟨#[us 0, .int .i64 box, .int .i64 ctr, us 3, us 4, us 5, .bool false, .pointer (some ⟨x, 0, none⟩), .pointer (some ⟨gq, 0, none⟩), us 9, us 10, us 11, .slice Ag E.L.length cg, us 13, us 14, us 15, us 16, us 17, .int .i64 i, us 19, us 20, us 21, us 22, us 23, us 24, us 25, us 26, us 27, us 28, us 29, us 30, us 31, us 32, us 33, us 34, us 35, us 36, us 37, us 38, us 39, us 40, us 41, us 42, us 43, us 44, us 45, us 46, us 47, us 48, us 49, us 50, us 51, us 52, us 53, us 54, us 55, us 56, us 57, us 58, us 59, us 60, us 61, us 62, us 63, us 64, us 65, us 66, us 67, us 68, us 69, us 70, us 71, us 72, us 73, us 74, us 75, us 76, us 77, us 78, us 79, us 80, us 81, us 82, us 83, us 84, us 85, us 86, us 87, us 88, us 89, us 90, us 91, us 92, us 93, us 94, us 95, us 96, us 97, us 98, us 99, us 100, us 101, us 102, us 103, us 104, us 105, us 106, us 107, us 108, us 109, us 110, us 111, us 112, us 113, us 114, us 115, us 116, us 117, us 118, us 119, us 120, us 121, us 122, us 123, us 124, us 125, us 126, us 127, us 128, us 129, us 130, us 131, us 132, us 133, us 134, us 135, us 136, us 137, us 138, us 139, us 140, us 141, us 142, us 143, us 144, us 145, us 146, us 147, us 148, us 149, us 150, us 151, us 152, us 153, us 154, us 155, us 156, us 157, us 158, us 159, us 160, us 161, us 162, us 163, us 164, us 165, us 166, us 167, us 168, us 169, us 170, us 171, us 172, us 173, us 174, us 175, us 176, us 177, us 178, us 179, us 180, us 181, us 182, us 183, us 184, us 185, us 186, us 187, us 188, us 189, us 190, us 191, us 192, us 193, us 194, us 195, us 196, us 197, us 198, us 199, us 200], []⟩ ∧ Hid (Ch [] w w') ∧ Hid (ExIs w' w.heap.size Bu x ((64 * k + 128 * i)) (F)) ∧ Hid (SrcIs w' (.slice qa E.L.length zq) (E.L.length) (E.L.flatMap sesC) 6) ∧ Hid (Blk w' gq (#[.slice qa E.L.length zq, .int .i64 E.last]) 44) ∧ Hid (OwnS w' w.heap.size 4 1 (.slice Ag E.L.length cg) (E.L.length) ((E.L.map HS.op).flatMap boolC)) ∧ Hid (i ≤ E.L.length ∧ kq + i = E.L.length) ∧ Hid (Like E F box ctr) ∧ Hid (∀ k_, k_ ∈ xb (.slice qa E.L.length zq) → k_ ∉ Bu) ∧ Hid (gq ∉ Bu) ∧ Hid (∀ k_, k_ ∈ rl (.slice Ag E.L.length cg) → k_ ∉ Bu)) (E.L.length) (⟨0, Bs246, endSS E box ctr, fun us_ => (#[us 0, .int .i64 box, .int .i64 ctr, us 3, us 4, us 5, .bool false, .pointer (some ⟨x, 0, none⟩), .pointer (some ⟨gq, 0, none⟩), us 9, us 10, us 11, .slice Ag E.L.length cg, .int .i64 (endR E box ctr), .int .i64 i, us 15, us 16, us 17, .int .i64 0, us 19, us 20, us 21, us 22, us 23, us 24, us 25, us 26, us 27, us 28, us 29, us 30, us 31, us 32, us 33, us 34, us 35, us 36, us 37, us 38, us 39, us 40, us 41, us 42, us 43, us 44, us 45, us 46, us 47, us 48, us 49, us 50, us 51, us 52, us 53, us 54, us 55, us 56, us 57, us 58, us 59, us 60, .int .i64 i, .pointer (some ⟨gq, 0, none⟩), .slice qa E.L.length zq, .int .i64 E.L.length, .bool false, us 66, us 67, us 68, us 69, us 70, us 71, us 72, us 73, us 74, us 75, us 76, us 77, us 78, us 79, us 80, us 81, us 82, us 83, us 84, us 85, us 86, us 87, us 88, us 89, us 90, us 91, us 92, us 93, us 94, us 95, us 96, us 97, us 98, us 99, us 100, us 101, us 102, us 103, us 104, us 105, us 106, .pointer (some ⟨x, 0, none⟩), .int .i64 box, .int .i64 ctr, .int .i64 (endR E box ctr), .int .i64 (endR E box ctr), .bool false, .bool false, .pointer (some ⟨x, 0, none⟩), .int .i64 box, .int .i64 ctr, .int .i64 0, .bool false, .bool false, us 120, us 121, us 122, us 123, us 124, us 125, us 126, us 127, us 128, us 129, us 130, us 131, us 132, us 133, us 134, us 135, us 136, us 137, us 138, us 139, us 140, us 141, us 142, us 143, us 144, us 145, us 146, us 147, us 148, us 149, us 150, us 151, us 152, us 153, us 154, us 155, us 156, us 157, us 158, us 159, us 160, us 161, us 162, us 163, us 164, us 165, us 166, us 167, us 168, us 169, us 170, us 171, us 172, us 173, us 174, us 175, us 176, us 177, us 178, us 179, us 180, us 181, us 182, us 183, us 184, us 185, us 186, us 187, us 188, us 189, us 190, us 191, us 192, us 193, us 194, us 195, us 196, us 197, us 198, us 199, us 200] : Array Value).getD us_ undef, rfl, C0, EX, SQ, Fgq, OG, Lib.hid ⟨by omega, by omega⟩, Lib.hid (Like.start hlaw.out box ctr), hr249, hs248, hr250⟩) ?_
    rintro kq _ w253 ⟨i, Bu, F, us, rfl, C0, EX, SQ, Fgq, OG, hi, hlike, hqs3, hgs3, hvr3⟩ K254 hK254
    refine sq_ (fun K255 hK255 => ?_)
    rcases at_ways' hi.out.1 with ⟨s, ho0, hlt0⟩ | h; rcases (show s.op = false ∨ (s.op = true ∧ s.box ≠ box) ∨ (s.op = true ∧ s.box = box ∧ s.ctr ≠ ctr) ∨ (s.op = true ∧ s.box = box ∧ s.ctr = ctr) by cases s.op <;> simp; exact (Classical.em (s.box = box)).elim (fun h1 => (Classical.em (s.ctr = ctr)).elim (fun h2 => .inr (.inr ⟨h1, h2⟩)) (fun h2 => .inr (.inl ⟨h1, h2⟩))) .inl) with hc | hc | hc | hc
    · have hlt := Lib.hid hlt0
      have HS_ := Lib.hid ho0
      have HCC := Lib.hid hc
      clear hc hlt0 ho0
      have HOP := Lib.hid (show s.op = false from HCC.out)
      obtain ⟨a, hsm_a⟩ := src_some SQ.out (by have := hlt.out; omega)
      subst hsm_a
      have D124 := Lib.hid (show (i : Int) < (E.L.length : Int) by have := hlt.out; omega)
      have Wi := Lib.hid (show IntKind.i64.wrap ((i : Int) + 1) = ((i + 1 : Nat) : Int) by rw [wr64 (by have := hlt.out; have := hfew.out.1; omega)]; omega)
      have D129 := Lib.hid D124.out
      obtain ⟨gv, cv, hv_, -, -, -, -, -⟩ := OG.out.some_ (by have := hlt.out; omega)
      injection hv_ with hv1 _ hv3
      subst hv1 hv3
      obtain ⟨t, ht1, ht2, ht3, ht4⟩ := hlike.out.at HS_.out
      have HT := Lib.hid ht1
      have HFX := Lib.hid ht2
      have HTO := Lib.hid (show t.op = false from ht4.trans (by rw [end_op, HOP.out]; rfl))
      clear ht1 ht2 ht3 ht4
      have HOF := Lib.hid (show ofR F s.id = (t.box, t.ctr, false) from (ofR_at HFX.out HT.out).trans (by rw [HTO.out]))
      have HFN := Lib.hid (show F.L.length ≤ 8 by rw [hlike.out.len]; exact hfew.out.1)
      have HWT := Lib.hid (shut_write HFX.out HT.out HTO.out ⟨#[97]⟩)
      have HRT := Lib.hid (shut_read HFX.out HT.out HTO.out (EX.out.qs _ t HT.out).2)
      obtain ⟨u, hu1, hu2, hu3⟩ := HRT.out.2
      have HTT := Lib.hid (shut_turn (m := 9) hu1 hu2 hu3)
      clear hu1 hu2 hu3
      refine s_ (fun K256 hK256 => ?_)
      refine pu_ (v := .int .i64 i) (y_move rfl (by rfl) (by rfl)) ?_
      (try simp only [zP, zN, zA, zB, zC])
      refine pu_ (v := .pointer (some ⟨gq, 0, none⟩)) (y_run (by rfl) (fun W => by go_simp)) ?_
      (try simp only [zP, zN, zA, zB, zC])
      refine ld_ (v := .slice (some a) E.L.length zq) rfl (by rfl) (by rfl) (run_load_one ((Fgq.out.cell 0).trans rfl) Tryd.underlying42 rfl) ?_
      (try simp only [zP, zN, zA, zB, zC])
      refine pu_ (v := .int .i64 E.L.length) (y_run (by rfl) (fun W => by go_simp)) ?_
      (try simp only [zP, zN, zA, zB, zC])
      refine pu_ (v := .bool true) (y_run (by rfl) (fun W => by have d := D124.out; go_simp)) ?_
      (try simp only [zP, zN, zA, zB, zC])
      refine pu_ (v := .bool true) (y_move rfl (by rfl) (by rfl)) ?_
      (try simp only [zP, zN, zA, zB, zC])
      refine pu_ (v := .int .i64 i) (y_move rfl (by rfl) (by rfl)) ?_
      (try simp only [zP, zN, zA, zB, zC])
      refine pu_ (v := .slice (some ⟨gv, 0, none⟩) E.L.length cg) (y_move rfl (by rfl) (by rfl)) ?_
      (try simp only [zP, zN, zA, zB, zC])
      refine pu_ (v := .int .i64 E.L.length) (y_run (by rfl) (fun W => by go_simp)) ?_
      (try simp only [zP, zN, zA, zB, zC])
      refine pu_ (v := .bool true) (y_run (by rfl) (fun W => by have d := D129.out; go_simp)) ?_
      (try simp only [zP, zN, zA, zB, zC])
      refine pu_ (v := .bool true) (y_pick (t := true) (by rfl) rfl (by rfl) (by rfl)) ?_
      (try simp only [zP, zN, zA, zB, zC])
      refine nl_ (hK256 _ _ ?_); clear hK256 K256
      refine wp_cond_true rfl ?_
      refine wp_skip ?_
      refine th_norm (hK255 _ _ ?_); try clear hK255 K255
      refine sq_ (fun K257 hK257 => ?_)
      refine wp_block ?_
      refine s_ (fun K258 hK258 => ?_)
      refine pu_ (v := .pointer (some ⟨gq, 0, none⟩)) (y_run (by rfl) (fun W => by go_simp)) ?_
      (try simp only [zP, zN, zA, zB, zC])
      refine ld_ (v := .slice (some a) E.L.length zq) rfl (by rfl) (by rfl) (run_load_one ((Fgq.out.cell 0).trans rfl) Tryd.underlying42 rfl) ?_
      (try simp only [zP, zN, zA, zB, zC])
      refine pu_ (v := .int .i64 i) (y_move rfl (by rfl) (by rfl)) ?_
      (try simp only [zP, zN, zA, zB, zC])
      refine pu_ (v := .pointer (some (a.add (i * 6)))) (y_run (by rfl) (fun W => by have d := D124.out; go_simp)) ?_
      (try simp only [zP, zN, zA, zB, zC])
      refine pu_ (v := .pointer (some ((a.add (i * 6)).add 0))) (y_run (by rfl) (fun W => by go_simp)) ?_
      (try simp only [zP, zN, zA, zB, zC])
      refine ld_ (v := .int .i64 s.id) rfl (by rfl) (by rfl) (run_load_one (src_fld SQ.out HS_.out 0 _ (by simp [sesC])) Tryd.underlying3 rfl) ?_
      (try simp only [zP, zN, zA, zB, zC])
      refine pu_ (v := .int .i64 s.id) (y_assign rfl (by rfl) (by rfl)) ?_
      (try simp only [zP, zN, zA, zB, zC])
      refine nl_ (hK258 _ _ ?_); clear hK258 K258
      refine s_ (fun K259 hK259 => ?_)
      refine pu_ (v := .pointer (some ⟨x, 0, none⟩)) (y_move rfl (by rfl) (by rfl)) ?_
      (try simp only [zP, zN, zA, zB, zC])
      refine pu_ (v := .int .i64 s.id) (y_move rfl (by rfl) (by rfl)) ?_
      (try simp only [zP, zN, zA, zB, zC])
      refine ef_ (fun K260 hK260 => ?_)
      refine e_call Tryd.func15 (by kernel_rfl) rfl #[.pointer (some ⟨x, 0, none⟩), .int .i64 s.id] (by rfl) rfl rfl (by first | rfl | (simp only [List.map_toArray, List.map_cons, List.map_nil]; first | done | rfl)) ((by have h9 := of_l (id := s.id) EX.out (by have := HFN.out; omega); rw [HOF.out] at h9; exact h9)) ?_
      rintro en w262 ⟨rfl, Bs261, bk, cc, bel⟩
      refine ⟨_, rfl, ?_⟩
      have hs263 := Lib.hid (show gq ∉ Bs261 from fun h9 => (bel _ h9).elim hgs3.out (fun h8 => by have := Fgq.out.lt; omega))
      have hr264 := Lib.hid (show ∀ k_, k_ ∈ xb (.slice (some a) E.L.length zq) → k_ ∉ Bs261 from fun k_ hk_ hB_ => (bel k_ hB_).elim (hqs3.out k_ hk_) (fun h8 => by have := SQ.out.lt (by decide) k_ hk_; omega))
      have hr265 := Lib.hid (show ∀ k_, k_ ∈ rl (.slice (some ⟨gv, 0, none⟩) E.L.length cg) → k_ ∉ Bs261 from fun k_ hk_ hB_ => (bel k_ hB_).elim (hvr3.out k_ hk_) (fun h8 => by have := (OG.out.lt k_ hk_).2; omega))
      have C0' := Lib.hid (show Ch [] w w262 from C0.out.trans' cc (fun x hx => .inr (EX.out.lt x hx).1))
      have SQ' := Lib.hid (show SrcIs w262 (.slice (some a) E.L.length zq) (E.L.length) (E.L.flatMap sesC) 6 from SQ.out.chx cc hqs3.out)
      have Fgq' := Lib.hid (show Blk w262 gq (#[.slice (some a) E.L.length zq, .int .i64 E.last]) 44 from cc.blk Fgq.out hgs3.out)
      have OG' := Lib.hid (show OwnS w262 w.heap.size 4 1 (.slice (some ⟨gv, 0, none⟩) E.L.length cg) (E.L.length) ((E.L.map HS.op).flatMap boolC) from OG.out.ch cc hvr3.out)
      clear C0 SQ Fgq OG
      have C0 := C0'; clear C0'
      have SQ := SQ'; clear SQ'
      have Fgq := Fgq'; clear Fgq'
      have OG := OG'; clear OG'
      clear EX cc bel
      have EX := Lib.hid (show ExIs w262 w.heap.size Bs261 x ((64 * k + 128 * i)) (F) from bk)
      clear bk
      refine hK260 _ _ ?_; clear hK260 K260
      (try simp only [zP, zN, zA, zB, zC])
      refine pu_ (v := .tuple #[.int .i64 t.box, .int .i64 t.ctr, .bool false]) (y_move rfl (by rfl) (by rfl)) ?_
      (try simp only [zP, zN, zA, zB, zC])
      refine pu_ (v := .int .i64 t.box) (y_run (by rfl) (fun W => by go_simp)) ?_
      (try simp only [zP, zN, zA, zB, zC])
      refine pu_ (v := .int .i64 t.ctr) (y_run (by rfl) (fun W => by go_simp)) ?_
      (try simp only [zP, zN, zA, zB, zC])
      refine pu_ (v := .bool false) (y_run (by rfl) (fun W => by go_simp)) ?_
      (try simp only [zP, zN, zA, zB, zC])
      refine pu_ (v := .int .i64 t.box) (y_assign rfl (by rfl) (by rfl)) ?_
      (try simp only [zP, zN, zA, zB, zC])
      refine pu_ (v := .int .i64 t.ctr) (y_assign rfl (by rfl) (by rfl)) ?_
      (try simp only [zP, zN, zA, zB, zC])
      refine pu_ (v := .bool false) (y_assign rfl (by rfl) (by rfl)) ?_
      (try simp only [zP, zN, zA, zB, zC])
      refine nl_ (hK259 _ _ ?_); clear hK259 K259
      refine sq_ (fun K266 hK266 => ?_)
      refine s_ (fun K267 hK267 => ?_)
      refine pu_ (v := .bool false) (y_move rfl (by rfl) (by rfl)) ?_
      (try simp only [zP, zN, zA, zB, zC])
      refine pu_ (v := .slice (some ⟨gv, 0, none⟩) E.L.length cg) (y_move rfl (by rfl) (by rfl)) ?_
      (try simp only [zP, zN, zA, zB, zC])
      refine pu_ (v := .int .i64 i) (y_move rfl (by rfl) (by rfl)) ?_
      (try simp only [zP, zN, zA, zB, zC])
      refine pu_ (v := .pointer (some ⟨gv, i, none⟩)) (y_run (by rfl) (fun W => by have d := D124.out; go_simp)) ?_
      (try simp only [zP, zN, zA, zB, zC])
      refine ld_ (v := .bool false) rfl (by rfl) (by rfl) (run_load_one (own_cell OG.out (by have h9 := was_at HS_.out; rw [HOP.out] at h9; exact h9)) Tryd.underlying4 rfl) ?_
      (try simp only [zP, zN, zA, zB, zC])
      refine pu_ (v := .bool false) (y_move rfl (by rfl) (by rfl)) ?_
      (try simp only [zP, zN, zA, zB, zC])
      refine pu_ (y_off (by rfl)) ?_
      (try simp only [zP, zN, zA, zB, zC])
      refine pu_ (y_off (by rfl)) ?_
      (try simp only [zP, zN, zA, zB, zC])
      refine pu_ (y_off (by rfl)) ?_
      (try simp only [zP, zN, zA, zB, zC])
      refine pu_ (y_off (by rfl)) ?_
      (try simp only [zP, zN, zA, zB, zC])
      refine pu_ (y_off (by rfl)) ?_
      (try simp only [zP, zN, zA, zB, zC])
      refine pu_ (y_off (by rfl)) ?_
      (try simp only [zP, zN, zA, zB, zC])
      refine pu_ (y_off (by rfl)) ?_
      (try simp only [zP, zN, zA, zB, zC])
      refine pu_ (y_off (by rfl)) ?_
      (try simp only [zP, zN, zA, zB, zC])
      refine pu_ (y_off (by rfl)) ?_
      (try simp only [zP, zN, zA, zB, zC])
      refine pu_ (y_off (by rfl)) ?_
      (try simp only [zP, zN, zA, zB, zC])
      refine pu_ (y_off (by rfl)) ?_
      (try simp only [zP, zN, zA, zB, zC])
      refine pu_ (y_off (by rfl)) ?_
      (try simp only [zP, zN, zA, zB, zC])
      refine pu_ (y_off (by rfl)) ?_
      (try simp only [zP, zN, zA, zB, zC])
      refine pu_ (y_off (by rfl)) ?_
      (try simp only [zP, zN, zA, zB, zC])
      refine pu_ (y_off (by rfl)) ?_
      (try simp only [zP, zN, zA, zB, zC])
      refine pu_ (y_off (by rfl)) ?_
      (try simp only [zP, zN, zA, zB, zC])
      refine pu_ (y_off (by rfl)) ?_
      (try simp only [zP, zN, zA, zB, zC])
      refine pu_ (y_off (by rfl)) ?_
      (try simp only [zP, zN, zA, zB, zC])
      refine pu_ (v := .bool false) (y_pick (t := false) (by rfl) rfl (by rfl) (by rfl)) ?_
      (try simp only [zP, zN, zA, zB, zC])
      refine pu_ (v := .bool false) (y_run (by rfl) (fun W => by first | (go_simp; done) | (go_simp; rfl) | (go_simp; decide))) ?_
      (try simp only [zP, zN, zA, zB, zC])
      refine nl_ (hK267 _ _ ?_); clear hK267 K267
      refine wp_cond_false rfl ?_
      refine wp_skip ?_
      refine th_norm (hK266 _ _ ?_); try clear hK266 K266
      refine s_ (fun K268 hK268 => ?_)
      refine pu_ (v := .bool false) (y_move rfl (by rfl) (by rfl)) ?_
      (try simp only [zP, zN, zA, zB, zC])
      refine pu_ (v := .bool true) (y_run (by rfl) (fun W => by go_simp)) ?_
      (try simp only [zP, zN, zA, zB, zC])
      refine nl_ (hK268 _ _ ?_); clear hK268 K268
      refine wp_cond_true rfl ?_
      refine s_ (fun K269 hK269 => ?_)
      refine pu_ (v := .pointer (some ⟨x, 0, none⟩)) (y_move rfl (by rfl) (by rfl)) ?_
      (try simp only [zP, zN, zA, zB, zC])
      refine pu_ (v := .int .i64 s.id) (y_move rfl (by rfl) (by rfl)) ?_
      (try simp only [zP, zN, zA, zB, zC])
      refine ef_ (fun K270 hK270 => ?_)
      refine e_call Tryd.func9 (by kernel_rfl) rfl #[.pointer (some ⟨x, 0, none⟩), .int .i64 s.id, .string {data := #[97]}] (by rfl) rfl rfl (by first | rfl | (simp only [List.map_toArray, List.map_cons, List.map_nil]; first | done | rfl)) ((by have h9 := write_l (id := s.id) (t := ⟨#[97]⟩) EX.out (by have := HFN.out; omega) (by have := hk.out; have := hlt.out; have := hfew.out.1; omega) (by show 1 ≤ 100000; omega); rw [HWT.out.1, HWT.out.2] at h9; exact h9)) ?_
      rintro en w272 ⟨rfl, Bs271, bk, cc, bel⟩
      refine ⟨_, rfl, ?_⟩
      have hs273 := Lib.hid (show gq ∉ Bs271 from fun h9 => (bel _ h9).elim hs263.out (fun h8 => by have := Fgq.out.lt; omega))
      have hr274 := Lib.hid (show ∀ k_, k_ ∈ xb (.slice (some a) E.L.length zq) → k_ ∉ Bs271 from fun k_ hk_ hB_ => (bel k_ hB_).elim (hr264.out k_ hk_) (fun h8 => by have := SQ.out.lt (by decide) k_ hk_; omega))
      have hr275 := Lib.hid (show ∀ k_, k_ ∈ rl (.slice (some ⟨gv, 0, none⟩) E.L.length cg) → k_ ∉ Bs271 from fun k_ hk_ hB_ => (bel k_ hB_).elim (hr265.out k_ hk_) (fun h8 => by have := (OG.out.lt k_ hk_).2; omega))
      have C0' := Lib.hid (show Ch [] w w272 from C0.out.trans' cc (fun x hx => .inr (EX.out.lt x hx).1))
      have SQ' := Lib.hid (show SrcIs w272 (.slice (some a) E.L.length zq) (E.L.length) (E.L.flatMap sesC) 6 from SQ.out.chx cc hr264.out)
      have Fgq' := Lib.hid (show Blk w272 gq (#[.slice (some a) E.L.length zq, .int .i64 E.last]) 44 from cc.blk Fgq.out hs263.out)
      have OG' := Lib.hid (show OwnS w272 w.heap.size 4 1 (.slice (some ⟨gv, 0, none⟩) E.L.length cg) (E.L.length) ((E.L.map HS.op).flatMap boolC) from OG.out.ch cc hr265.out)
      clear C0 SQ Fgq OG
      have C0 := C0'; clear C0'
      have SQ := SQ'; clear SQ'
      have Fgq := Fgq'; clear Fgq'
      have OG := OG'; clear OG'
      clear EX cc bel
      have EX := Lib.hid (show ExIs w272 w.heap.size Bs271 x ((64 * k + 128 * i) + 64) (F) from bk)
      clear bk
      refine hK270 _ _ ?_; clear hK270 K270
      (try simp only [zP, zN, zA, zB, zC])
      refine pu_ (v := .tuple #[.int .i64 0, .int .i64 400]) (y_move rfl (by rfl) (by rfl)) ?_
      (try simp only [zP, zN, zA, zB, zC])
      refine pu_ (v := .int .i64 0) (y_run (by rfl) (fun W => by go_simp)) ?_
      (try simp only [zP, zN, zA, zB, zC])
      refine pu_ (v := .int .i64 400) (y_run (by rfl) (fun W => by go_simp)) ?_
      (try simp only [zP, zN, zA, zB, zC])
      refine pu_ (v := .int .i64 0) (y_assign rfl (by rfl) (by rfl)) ?_
      (try simp only [zP, zN, zA, zB, zC])
      refine pu_ (v := .int .i64 400) (y_assign rfl (by rfl) (by rfl)) ?_
      (try simp only [zP, zN, zA, zB, zC])
      refine nl_ (hK269 _ _ ?_); clear hK269 K269
      refine s_ (fun K276 hK276 => ?_)
      refine pu_ (v := .pointer (some ⟨x, 0, none⟩)) (y_move rfl (by rfl) (by rfl)) ?_
      (try simp only [zP, zN, zA, zB, zC])
      refine pu_ (v := .int .i64 s.id) (y_move rfl (by rfl) (by rfl)) ?_
      (try simp only [zP, zN, zA, zB, zC])
      refine ef_ (fun K277 hK277 => ?_)
      refine e_call Tryd.func10 (by kernel_rfl) rfl #[.pointer (some ⟨x, 0, none⟩), .int .i64 s.id, .int .i64 1000] (by rfl) rfl rfl (by first | rfl | (simp only [List.map_toArray, List.map_cons, List.map_nil]; first | done | rfl)) ((read_l (id := s.id) (m := 1000) EX.out (by have := HFN.out; omega) (by have := hk.out; have := hlt.out; have := hfew.out.1; omega) (by omega))) ?_
      rintro en w279 ⟨rfl, Bs278, bk, cc, bel⟩
      refine ⟨_, rfl, ?_⟩
      have hs280 := Lib.hid (show gq ∉ Bs278 from fun h9 => (bel _ h9).elim hs273.out (fun h8 => by have := Fgq.out.lt; omega))
      have hr281 := Lib.hid (show ∀ k_, k_ ∈ xb (.slice (some a) E.L.length zq) → k_ ∉ Bs278 from fun k_ hk_ hB_ => (bel k_ hB_).elim (hr274.out k_ hk_) (fun h8 => by have := SQ.out.lt (by decide) k_ hk_; omega))
      have hr282 := Lib.hid (show ∀ k_, k_ ∈ rl (.slice (some ⟨gv, 0, none⟩) E.L.length cg) → k_ ∉ Bs278 from fun k_ hk_ hB_ => (bel k_ hB_).elim (hr275.out k_ hk_) (fun h8 => by have := (OG.out.lt k_ hk_).2; omega))
      have C0' := Lib.hid (show Ch [] w w279 from C0.out.trans' cc (fun x hx => .inr (EX.out.lt x hx).1))
      have SQ' := Lib.hid (show SrcIs w279 (.slice (some a) E.L.length zq) (E.L.length) (E.L.flatMap sesC) 6 from SQ.out.chx cc hr274.out)
      have Fgq' := Lib.hid (show Blk w279 gq (#[.slice (some a) E.L.length zq, .int .i64 E.last]) 44 from cc.blk Fgq.out hs273.out)
      have OG' := Lib.hid (show OwnS w279 w.heap.size 4 1 (.slice (some ⟨gv, 0, none⟩) E.L.length cg) (E.L.length) ((E.L.map HS.op).flatMap boolC) from OG.out.ch cc hr275.out)
      clear C0 SQ Fgq OG
      have C0 := C0'; clear C0'
      have SQ := SQ'; clear SQ'
      have Fgq := Fgq'; clear Fgq'
      have OG := OG'; clear OG'
      clear EX cc bel
      have EX := Lib.hid (show ExIs w279 w.heap.size Bs278 x ((64 * k + 128 * i) + 64) (readS F s.id 1000) from bk)
      clear bk
      refine hK277 _ _ ?_; clear hK277 K277
      (try simp only [zP, zN, zA, zB, zC])
      refine nl_ (hK276 _ _ ?_); clear hK276 K276
      refine s_ (fun K283 hK283 => ?_)
      refine pu_ (v := .pointer (some ⟨x, 0, none⟩)) (y_move rfl (by rfl) (by rfl)) ?_
      (try simp only [zP, zN, zA, zB, zC])
      refine pu_ (v := .int .i64 s.id) (y_move rfl (by rfl) (by rfl)) ?_
      (try simp only [zP, zN, zA, zB, zC])
      refine ef_ (fun K284 hK284 => ?_)
      refine e_call Tryd.func10 (by kernel_rfl) rfl #[.pointer (some ⟨x, 0, none⟩), .int .i64 s.id, .int .i64 1000] (by rfl) rfl rfl (by first | rfl | (simp only [List.map_toArray, List.map_cons, List.map_nil]; first | done | rfl)) ((by have h9 := read_l (id := s.id) (m := 1000) EX.out (by rw [readS_len]; have := HFN.out; omega) (by have := hk.out; have := hlt.out; have := hfew.out.1; omega) (by omega); rw [HRT.out.1] at h9; exact h9)) ?_
      rintro en w286 ⟨rfl, Bs285, bk, cc, bel⟩
      refine ⟨_, rfl, ?_⟩
      have hs287 := Lib.hid (show gq ∉ Bs285 from fun h9 => (bel _ h9).elim hs280.out (fun h8 => by have := Fgq.out.lt; omega))
      have hr288 := Lib.hid (show ∀ k_, k_ ∈ xb (.slice (some a) E.L.length zq) → k_ ∉ Bs285 from fun k_ hk_ hB_ => (bel k_ hB_).elim (hr281.out k_ hk_) (fun h8 => by have := SQ.out.lt (by decide) k_ hk_; omega))
      have hr289 := Lib.hid (show ∀ k_, k_ ∈ rl (.slice (some ⟨gv, 0, none⟩) E.L.length cg) → k_ ∉ Bs285 from fun k_ hk_ hB_ => (bel k_ hB_).elim (hr282.out k_ hk_) (fun h8 => by have := (OG.out.lt k_ hk_).2; omega))
      have C0' := Lib.hid (show Ch [] w w286 from C0.out.trans' cc (fun x hx => .inr (EX.out.lt x hx).1))
      have SQ' := Lib.hid (show SrcIs w286 (.slice (some a) E.L.length zq) (E.L.length) (E.L.flatMap sesC) 6 from SQ.out.chx cc hr281.out)
      have Fgq' := Lib.hid (show Blk w286 gq (#[.slice (some a) E.L.length zq, .int .i64 E.last]) 44 from cc.blk Fgq.out hs280.out)
      have OG' := Lib.hid (show OwnS w286 w.heap.size 4 1 (.slice (some ⟨gv, 0, none⟩) E.L.length cg) (E.L.length) ((E.L.map HS.op).flatMap boolC) from OG.out.ch cc hr282.out)
      clear C0 SQ Fgq OG
      have C0 := C0'; clear C0'
      have SQ := SQ'; clear SQ'
      have Fgq := Fgq'; clear Fgq'
      have OG := OG'; clear OG'
      clear EX cc bel
      have EX := Lib.hid (show ExIs w286 w.heap.size Bs285 x ((64 * k + 128 * i) + 64) (readS (readS F s.id 1000) s.id 1000) from bk)
      clear bk
      refine hK284 _ _ ?_; clear hK284 K284
      (try simp only [zP, zN, zA, zB, zC])
      refine pu_ (v := .tuple #[.string (readR (readS F s.id 1000) s.id 1000).1, .int .i64 400]) (y_move rfl (by rfl) (by rfl)) ?_
      (try simp only [zP, zN, zA, zB, zC])
      refine pu_ (v := .string (readR (readS F s.id 1000) s.id 1000).1) (y_run (by rfl) (fun W => by go_simp)) ?_
      (try simp only [zP, zN, zA, zB, zC])
      refine pu_ (v := .int .i64 400) (y_run (by rfl) (fun W => by go_simp)) ?_
      (try simp only [zP, zN, zA, zB, zC])
      refine pu_ (v := .string (readR (readS F s.id 1000) s.id 1000).1) (y_assign rfl (by rfl) (by rfl)) ?_
      (try simp only [zP, zN, zA, zB, zC])
      refine pu_ (v := .int .i64 400) (y_assign rfl (by rfl) (by rfl)) ?_
      (try simp only [zP, zN, zA, zB, zC])
      refine nl_ (hK283 _ _ ?_); clear hK283 K283
      refine s_ (fun K290 hK290 => ?_)
      refine pu_ (v := .int .i64 400) (y_move rfl (by rfl) (by rfl)) ?_
      (try simp only [zP, zN, zA, zB, zC])
      refine pu_ (v := .bool false) (y_run (by rfl) (fun W => by first | (go_simp; done) | (go_simp; rfl) | (go_simp; decide))) ?_
      (try simp only [zP, zN, zA, zB, zC])
      refine pu_ (v := .bool false) (y_move rfl (by rfl) (by rfl)) ?_
      (try simp only [zP, zN, zA, zB, zC])
      refine pu_ (v := .int .i64 400) (y_move rfl (by rfl) (by rfl)) ?_
      (try simp only [zP, zN, zA, zB, zC])
      refine pu_ (v := .bool false) (y_run (by rfl) (fun W => by first | (go_simp; done) | (go_simp; rfl) | (go_simp; decide))) ?_
      (try simp only [zP, zN, zA, zB, zC])
      refine pu_ (v := .bool false) (y_pick (t := false) (by rfl) rfl (by rfl) (by rfl)) ?_
      (try simp only [zP, zN, zA, zB, zC])
      refine pu_ (v := .bool false) (y_move rfl (by rfl) (by rfl)) ?_
      (try simp only [zP, zN, zA, zB, zC])
      refine pu_ (v := .pointer (some ⟨x, 0, none⟩)) (y_move rfl (by rfl) (by rfl)) ?_
      (try simp only [zP, zN, zA, zB, zC])
      refine pu_ (v := .int .i64 s.id) (y_move rfl (by rfl) (by rfl)) ?_
      (try simp only [zP, zN, zA, zB, zC])
      refine ef_ (fun K291 hK291 => ?_)
      refine e_call Tryd.func11 (by kernel_rfl) rfl #[.pointer (some ⟨x, 0, none⟩), .int .i64 s.id, .int .i64 9] (by rfl) rfl rfl (by first | rfl | (simp only [List.map_toArray, List.map_cons, List.map_nil]; first | done | rfl)) ((by have h9 := turn_l (w0 := w) (id := s.id) (m := 9) EX.out (by rw [readS_len, readS_len]; have := HFN.out; omega) (by have := hk.out; have := hlt.out; have := hfew.out.1; omega) (by omega) HTB.out rfl C0.out.below0; rw [HTT.out.1, HTT.out.2] at h9; exact h9)) ?_
      rintro en w293 ⟨rfl, Bs292, bk, cc, bel⟩
      refine ⟨_, rfl, ?_⟩
      have hs294 := Lib.hid (show gq ∉ Bs292 from fun h9 => (bel _ h9).elim hs287.out (fun h8 => by have := Fgq.out.lt; omega))
      have hr295 := Lib.hid (show ∀ k_, k_ ∈ xb (.slice (some a) E.L.length zq) → k_ ∉ Bs292 from fun k_ hk_ hB_ => (bel k_ hB_).elim (hr288.out k_ hk_) (fun h8 => by have := SQ.out.lt (by decide) k_ hk_; omega))
      have hr296 := Lib.hid (show ∀ k_, k_ ∈ rl (.slice (some ⟨gv, 0, none⟩) E.L.length cg) → k_ ∉ Bs292 from fun k_ hk_ hB_ => (bel k_ hB_).elim (hr289.out k_ hk_) (fun h8 => by have := (OG.out.lt k_ hk_).2; omega))
      have C0' := Lib.hid (show Ch [] w w293 from C0.out.trans' cc (fun x hx => .inr (EX.out.lt x hx).1))
      have SQ' := Lib.hid (show SrcIs w293 (.slice (some a) E.L.length zq) (E.L.length) (E.L.flatMap sesC) 6 from SQ.out.chx cc hr288.out)
      have Fgq' := Lib.hid (show Blk w293 gq (#[.slice (some a) E.L.length zq, .int .i64 E.last]) 44 from cc.blk Fgq.out hs287.out)
      have OG' := Lib.hid (show OwnS w293 w.heap.size 4 1 (.slice (some ⟨gv, 0, none⟩) E.L.length cg) (E.L.length) ((E.L.map HS.op).flatMap boolC) from OG.out.ch cc hr289.out)
      clear C0 SQ Fgq OG
      have C0 := C0'; clear C0'
      have SQ := SQ'; clear SQ'
      have Fgq := Fgq'; clear Fgq'
      have OG := OG'; clear OG'
      clear EX cc bel
      have EX := Lib.hid (show ExIs w293 w.heap.size Bs292 x ((64 * k + 128 * i) + 64 + 64) (readS (readS F s.id 1000) s.id 1000) from bk)
      clear bk
      refine hK291 _ _ ?_; clear hK291 K291
      (try simp only [zP, zN, zA, zB, zC])
      refine pu_ (v := .bool false) (y_run (by rfl) (fun W => by first | (go_simp; done) | (go_simp; rfl) | (go_simp; decide))) ?_
      (try simp only [zP, zN, zA, zB, zC])
      refine pu_ (v := .bool false) (y_pick (t := false) (by rfl) rfl (by rfl) (by rfl)) ?_
      (try simp only [zP, zN, zA, zB, zC])
      refine nl_ (hK290 _ _ ?_); clear hK290 K290
      refine wp_cond_false rfl ?_
      refine wp_skip ?_
      refine ib_norm ?_
      refine th_norm (hK257 _ _ ?_); try clear hK257 K257
      refine r_ ?_
      refine pu_ (v := .int .i64 i) (y_move rfl (by rfl) (by rfl)) ?_
      (try simp only [zP, zN, zA, zB, zC])
      refine pu_ (v := .int .i64 (i + 1 : Nat)) (y_run (by rfl) (fun W => by have d := Wi.out; go_simp)) ?_
      (try simp only [zP, zN, zA, zB, zC])
      refine pu_ (v := .int .i64 (i + 1 : Nat)) (y_assign rfl (by rfl) (by rfl)) ?_
      (try simp only [zP, zN, zA, zB, zC])
      refine nl_ ?_
      exact th_norm (hK254 (kq - 1) _ _ (by have := hlt.out; have := hi.out; omega) ⟨i + 1, Bs292, readS (readS F s.id 1000) s.id 1000, fun us_ => (#[us 0, .int .i64 box, .int .i64 ctr, us 3, us 4, us 5, .bool false, .pointer (some ⟨x, 0, none⟩), .pointer (some ⟨gq, 0, none⟩), us 9, us 10, us 11, .slice (some ⟨gv, 0, none⟩) E.L.length cg, us 13, us 14, us 15, us 16, us 17, .int .i64 (i + 1 : Nat), .int .i64 s.id, .int .i64 t.box, .int .i64 t.ctr, .bool false, .int .i64 0, .int .i64 400, .string (readR (readS F s.id 1000) s.id 1000).1, .int .i64 400, us 27, us 28, us 29, us 30, us 31, us 32, us 33, us 34, us 35, us 36, us 37, us 38, us 39, us 40, us 41, us 42, us 43, us 44, us 45, us 46, us 47, us 48, us 49, us 50, us 51, us 52, us 53, us 54, us 55, us 56, us 57, us 58, us 59, us 60, us 61, us 62, us 63, us 64, us 65, us 66, us 67, us 68, us 69, us 70, us 71, us 72, us 73, us 74, us 75, us 76, us 77, us 78, us 79, us 80, us 81, us 82, us 83, us 84, us 85, us 86, us 87, us 88, us 89, us 90, us 91, us 92, us 93, us 94, us 95, us 96, us 97, us 98, us 99, us 100, us 101, us 102, us 103, us 104, us 105, us 106, us 107, us 108, us 109, us 110, us 111, us 112, us 113, us 114, us 115, us 116, us 117, us 118, us 119, .int .i64 i, .pointer (some ⟨gq, 0, none⟩), .slice (some a) E.L.length zq, .int .i64 E.L.length, .bool true, .bool true, .int .i64 i, .slice (some ⟨gv, 0, none⟩) E.L.length cg, .int .i64 E.L.length, .bool true, .bool true, .int .i64 i, .int .i64 (i + 1 : Nat), .pointer (some ⟨gq, 0, none⟩), .slice (some a) E.L.length zq, .int .i64 i, .pointer (some (a.add (i * 6))), .pointer (some ((a.add (i * 6)).add 0)), .int .i64 s.id, .tuple #[.int .i64 t.box, .int .i64 t.ctr, .bool false], .pointer (some ⟨x, 0, none⟩), .int .i64 s.id, .tuple #[.int .i64 t.box, .int .i64 t.ctr, .bool false], .int .i64 t.box, .int .i64 t.ctr, .bool false, .bool false, .slice (some ⟨gv, 0, none⟩) E.L.length cg, .int .i64 i, .pointer (some ⟨gv, i, none⟩), .bool false, .bool false, undef, undef, undef, undef, undef, undef, undef, undef, undef, undef, undef, undef, undef, undef, undef, undef, undef, undef, .bool false, .bool false, .bool false, .bool true, .tuple #[.int .i64 0, .int .i64 400], .pointer (some ⟨x, 0, none⟩), .int .i64 s.id, .tuple #[.int .i64 0, .int .i64 400], .int .i64 0, .int .i64 400, .pointer (some ⟨x, 0, none⟩), .int .i64 s.id, .tuple #[.string (readR F s.id 1000).1, .int .i64 (readR F s.id 1000).2], .tuple #[.string (readR (readS F s.id 1000) s.id 1000).1, .int .i64 400], .pointer (some ⟨x, 0, none⟩), .int .i64 s.id, .tuple #[.string (readR (readS F s.id 1000) s.id 1000).1, .int .i64 400], .string (readR (readS F s.id 1000) s.id 1000).1, .int .i64 400, .int .i64 400, .bool false, .bool false, .int .i64 400, .bool false, .bool false, .bool false, .pointer (some ⟨x, 0, none⟩), .int .i64 s.id, .int .i64 0, .bool false, .bool false] : Array Value).getD us_ undef, rfl, C0, Lib.hid (EX.out.up (by omega)), SQ, Fgq, OG, Lib.hid ⟨by have := hlt.out; omega, by have := hlt.out; have := hi.out; omega⟩, Lib.hid ((hlike.out.read s.id 1000).read s.id 1000), hr295, hs294, hr296⟩)
    · have hlt := Lib.hid hlt0
      have HS_ := Lib.hid ho0
      have HCC := Lib.hid hc
      clear hc hlt0 ho0
      have HOP := Lib.hid (show s.op = true from HCC.out.1)
      obtain ⟨a, hsm_a⟩ := src_some SQ.out (by have := hlt.out; omega)
      subst hsm_a
      have D124 := Lib.hid (show (i : Int) < (E.L.length : Int) by have := hlt.out; omega)
      have Wi := Lib.hid (show IntKind.i64.wrap ((i : Int) + 1) = ((i + 1 : Nat) : Int) by rw [wr64 (by have := hlt.out; have := hfew.out.1; omega)]; omega)
      have D129 := Lib.hid D124.out
      obtain ⟨gv, cv, hv_, -, -, -, -, -⟩ := OG.out.some_ (by have := hlt.out; omega)
      injection hv_ with hv1 _ hv3
      subst hv1 hv3
      obtain ⟨t, ht1, ht2, ht3, ht4⟩ := hlike.out.at HS_.out
      have HT := Lib.hid ht1
      have HFX := Lib.hid ht2
      have HTO := Lib.hid (show t.op = true from ht4.trans (by rw [end_op, HOP.out]; rw [show (s.box == box && s.ctr == ctr) = false from by simp [HCC.out.2]]; rfl))
      clear ht1 ht2 ht3 ht4
      have HOF := Lib.hid (show ofR F s.id = (t.box, t.ctr, true) from (ofR_at HFX.out HT.out).trans (by rw [HTO.out]))
      have HFN := Lib.hid (show F.L.length ≤ 8 by rw [hlike.out.len]; exact hfew.out.1)
      have D159 := Lib.hid (show ¬ s.box = box from HCC.out.2)
      refine s_ (fun K297 hK297 => ?_)
      refine pu_ (v := .int .i64 i) (y_move rfl (by rfl) (by rfl)) ?_
      (try simp only [zP, zN, zA, zB, zC])
      refine pu_ (v := .pointer (some ⟨gq, 0, none⟩)) (y_run (by rfl) (fun W => by go_simp)) ?_
      (try simp only [zP, zN, zA, zB, zC])
      refine ld_ (v := .slice (some a) E.L.length zq) rfl (by rfl) (by rfl) (run_load_one ((Fgq.out.cell 0).trans rfl) Tryd.underlying42 rfl) ?_
      (try simp only [zP, zN, zA, zB, zC])
      refine pu_ (v := .int .i64 E.L.length) (y_run (by rfl) (fun W => by go_simp)) ?_
      (try simp only [zP, zN, zA, zB, zC])
      refine pu_ (v := .bool true) (y_run (by rfl) (fun W => by have d := D124.out; go_simp)) ?_
      (try simp only [zP, zN, zA, zB, zC])
      refine pu_ (v := .bool true) (y_move rfl (by rfl) (by rfl)) ?_
      (try simp only [zP, zN, zA, zB, zC])
      refine pu_ (v := .int .i64 i) (y_move rfl (by rfl) (by rfl)) ?_
      (try simp only [zP, zN, zA, zB, zC])
      refine pu_ (v := .slice (some ⟨gv, 0, none⟩) E.L.length cg) (y_move rfl (by rfl) (by rfl)) ?_
      (try simp only [zP, zN, zA, zB, zC])
      refine pu_ (v := .int .i64 E.L.length) (y_run (by rfl) (fun W => by go_simp)) ?_
      (try simp only [zP, zN, zA, zB, zC])
      refine pu_ (v := .bool true) (y_run (by rfl) (fun W => by have d := D129.out; go_simp)) ?_
      (try simp only [zP, zN, zA, zB, zC])
      refine pu_ (v := .bool true) (y_pick (t := true) (by rfl) rfl (by rfl) (by rfl)) ?_
      (try simp only [zP, zN, zA, zB, zC])
      refine nl_ (hK297 _ _ ?_); clear hK297 K297
      refine wp_cond_true rfl ?_
      refine wp_skip ?_
      refine th_norm (hK255 _ _ ?_); try clear hK255 K255
      refine sq_ (fun K298 hK298 => ?_)
      refine wp_block ?_
      refine s_ (fun K299 hK299 => ?_)
      refine pu_ (v := .pointer (some ⟨gq, 0, none⟩)) (y_run (by rfl) (fun W => by go_simp)) ?_
      (try simp only [zP, zN, zA, zB, zC])
      refine ld_ (v := .slice (some a) E.L.length zq) rfl (by rfl) (by rfl) (run_load_one ((Fgq.out.cell 0).trans rfl) Tryd.underlying42 rfl) ?_
      (try simp only [zP, zN, zA, zB, zC])
      refine pu_ (v := .int .i64 i) (y_move rfl (by rfl) (by rfl)) ?_
      (try simp only [zP, zN, zA, zB, zC])
      refine pu_ (v := .pointer (some (a.add (i * 6)))) (y_run (by rfl) (fun W => by have d := D124.out; go_simp)) ?_
      (try simp only [zP, zN, zA, zB, zC])
      refine pu_ (v := .pointer (some ((a.add (i * 6)).add 0))) (y_run (by rfl) (fun W => by go_simp)) ?_
      (try simp only [zP, zN, zA, zB, zC])
      refine ld_ (v := .int .i64 s.id) rfl (by rfl) (by rfl) (run_load_one (src_fld SQ.out HS_.out 0 _ (by simp [sesC])) Tryd.underlying3 rfl) ?_
      (try simp only [zP, zN, zA, zB, zC])
      refine pu_ (v := .int .i64 s.id) (y_assign rfl (by rfl) (by rfl)) ?_
      (try simp only [zP, zN, zA, zB, zC])
      refine nl_ (hK299 _ _ ?_); clear hK299 K299
      refine s_ (fun K300 hK300 => ?_)
      refine pu_ (v := .pointer (some ⟨x, 0, none⟩)) (y_move rfl (by rfl) (by rfl)) ?_
      (try simp only [zP, zN, zA, zB, zC])
      refine pu_ (v := .int .i64 s.id) (y_move rfl (by rfl) (by rfl)) ?_
      (try simp only [zP, zN, zA, zB, zC])
      refine ef_ (fun K301 hK301 => ?_)
      refine e_call Tryd.func15 (by kernel_rfl) rfl #[.pointer (some ⟨x, 0, none⟩), .int .i64 s.id] (by rfl) rfl rfl (by first | rfl | (simp only [List.map_toArray, List.map_cons, List.map_nil]; first | done | rfl)) ((by have h9 := of_l (id := s.id) EX.out (by have := HFN.out; omega); rw [HOF.out] at h9; exact h9)) ?_
      rintro en w303 ⟨rfl, Bs302, bk, cc, bel⟩
      refine ⟨_, rfl, ?_⟩
      have hs304 := Lib.hid (show gq ∉ Bs302 from fun h9 => (bel _ h9).elim hgs3.out (fun h8 => by have := Fgq.out.lt; omega))
      have hr305 := Lib.hid (show ∀ k_, k_ ∈ xb (.slice (some a) E.L.length zq) → k_ ∉ Bs302 from fun k_ hk_ hB_ => (bel k_ hB_).elim (hqs3.out k_ hk_) (fun h8 => by have := SQ.out.lt (by decide) k_ hk_; omega))
      have hr306 := Lib.hid (show ∀ k_, k_ ∈ rl (.slice (some ⟨gv, 0, none⟩) E.L.length cg) → k_ ∉ Bs302 from fun k_ hk_ hB_ => (bel k_ hB_).elim (hvr3.out k_ hk_) (fun h8 => by have := (OG.out.lt k_ hk_).2; omega))
      have C0' := Lib.hid (show Ch [] w w303 from C0.out.trans' cc (fun x hx => .inr (EX.out.lt x hx).1))
      have SQ' := Lib.hid (show SrcIs w303 (.slice (some a) E.L.length zq) (E.L.length) (E.L.flatMap sesC) 6 from SQ.out.chx cc hqs3.out)
      have Fgq' := Lib.hid (show Blk w303 gq (#[.slice (some a) E.L.length zq, .int .i64 E.last]) 44 from cc.blk Fgq.out hgs3.out)
      have OG' := Lib.hid (show OwnS w303 w.heap.size 4 1 (.slice (some ⟨gv, 0, none⟩) E.L.length cg) (E.L.length) ((E.L.map HS.op).flatMap boolC) from OG.out.ch cc hvr3.out)
      clear C0 SQ Fgq OG
      have C0 := C0'; clear C0'
      have SQ := SQ'; clear SQ'
      have Fgq := Fgq'; clear Fgq'
      have OG := OG'; clear OG'
      clear EX cc bel
      have EX := Lib.hid (show ExIs w303 w.heap.size Bs302 x ((64 * k + 128 * i)) (F) from bk)
      clear bk
      refine hK301 _ _ ?_; clear hK301 K301
      (try simp only [zP, zN, zA, zB, zC])
      refine pu_ (v := .tuple #[.int .i64 t.box, .int .i64 t.ctr, .bool true]) (y_move rfl (by rfl) (by rfl)) ?_
      (try simp only [zP, zN, zA, zB, zC])
      refine pu_ (v := .int .i64 t.box) (y_run (by rfl) (fun W => by go_simp)) ?_
      (try simp only [zP, zN, zA, zB, zC])
      refine pu_ (v := .int .i64 t.ctr) (y_run (by rfl) (fun W => by go_simp)) ?_
      (try simp only [zP, zN, zA, zB, zC])
      refine pu_ (v := .bool true) (y_run (by rfl) (fun W => by go_simp)) ?_
      (try simp only [zP, zN, zA, zB, zC])
      refine pu_ (v := .int .i64 t.box) (y_assign rfl (by rfl) (by rfl)) ?_
      (try simp only [zP, zN, zA, zB, zC])
      refine pu_ (v := .int .i64 t.ctr) (y_assign rfl (by rfl) (by rfl)) ?_
      (try simp only [zP, zN, zA, zB, zC])
      refine pu_ (v := .bool true) (y_assign rfl (by rfl) (by rfl)) ?_
      (try simp only [zP, zN, zA, zB, zC])
      refine nl_ (hK300 _ _ ?_); clear hK300 K300
      refine sq_ (fun K307 hK307 => ?_)
      refine s_ (fun K308 hK308 => ?_)
      refine pu_ (v := .bool true) (y_move rfl (by rfl) (by rfl)) ?_
      (try simp only [zP, zN, zA, zB, zC])
      refine pu_ (v := .slice (some ⟨gv, 0, none⟩) E.L.length cg) (y_move rfl (by rfl) (by rfl)) ?_
      (try simp only [zP, zN, zA, zB, zC])
      refine pu_ (v := .int .i64 i) (y_move rfl (by rfl) (by rfl)) ?_
      (try simp only [zP, zN, zA, zB, zC])
      refine pu_ (v := .pointer (some ⟨gv, i, none⟩)) (y_run (by rfl) (fun W => by have d := D124.out; go_simp)) ?_
      (try simp only [zP, zN, zA, zB, zC])
      refine ld_ (v := .bool true) rfl (by rfl) (by rfl) (run_load_one (own_cell OG.out (by have h9 := was_at HS_.out; rw [HOP.out] at h9; exact h9)) Tryd.underlying4 rfl) ?_
      (try simp only [zP, zN, zA, zB, zC])
      refine pu_ (v := .bool true) (y_move rfl (by rfl) (by rfl)) ?_
      (try simp only [zP, zN, zA, zB, zC])
      refine pu_ (v := .pointer (some ⟨gq, 0, none⟩)) (y_run (by rfl) (fun W => by go_simp)) ?_
      (try simp only [zP, zN, zA, zB, zC])
      refine ld_ (v := .slice (some a) E.L.length zq) rfl (by rfl) (by rfl) (run_load_one ((Fgq.out.cell 0).trans rfl) Tryd.underlying42 rfl) ?_
      (try simp only [zP, zN, zA, zB, zC])
      refine pu_ (v := .int .i64 i) (y_move rfl (by rfl) (by rfl)) ?_
      (try simp only [zP, zN, zA, zB, zC])
      refine pu_ (v := .pointer (some (a.add (i * 6)))) (y_run (by rfl) (fun W => by have d := D124.out; go_simp)) ?_
      (try simp only [zP, zN, zA, zB, zC])
      refine pu_ (v := .pointer (some ((a.add (i * 6)).add 1))) (y_run (by rfl) (fun W => by go_simp)) ?_
      (try simp only [zP, zN, zA, zB, zC])
      refine ld_ (v := .int .i64 s.box) rfl (by rfl) (by rfl) (run_load_one (src_fld SQ.out HS_.out 1 _ (by simp [sesC])) Tryd.underlying3 rfl) ?_
      (try simp only [zP, zN, zA, zB, zC])
      refine pu_ (v := .int .i64 box) (y_move rfl (by rfl) (by rfl)) ?_
      (try simp only [zP, zN, zA, zB, zC])
      refine pu_ (v := .bool true) (y_run (by rfl) (fun W => by have d := D159.out; go_simp)) ?_
      (try simp only [zP, zN, zA, zB, zC])
      refine pu_ (v := .bool true) (y_move rfl (by rfl) (by rfl)) ?_
      (try simp only [zP, zN, zA, zB, zC])
      refine pu_ (y_off (by rfl)) ?_
      (try simp only [zP, zN, zA, zB, zC])
      refine pu_ (y_off (by rfl)) ?_
      (try simp only [zP, zN, zA, zB, zC])
      refine pu_ (y_off (by rfl)) ?_
      (try simp only [zP, zN, zA, zB, zC])
      refine pu_ (y_off (by rfl)) ?_
      (try simp only [zP, zN, zA, zB, zC])
      refine pu_ (y_off (by rfl)) ?_
      (try simp only [zP, zN, zA, zB, zC])
      refine pu_ (y_off (by rfl)) ?_
      (try simp only [zP, zN, zA, zB, zC])
      refine pu_ (y_off (by rfl)) ?_
      (try simp only [zP, zN, zA, zB, zC])
      refine pu_ (y_off (by rfl)) ?_
      (try simp only [zP, zN, zA, zB, zC])
      refine pu_ (v := .bool true) (y_pick (t := true) (by rfl) rfl (by rfl) (by rfl)) ?_
      (try simp only [zP, zN, zA, zB, zC])
      refine pu_ (v := .bool true) (y_pick (t := true) (by rfl) rfl (by rfl) (by rfl)) ?_
      (try simp only [zP, zN, zA, zB, zC])
      refine pu_ (v := .bool false) (y_run (by rfl) (fun W => by first | (go_simp; done) | (go_simp; rfl) | (go_simp; decide))) ?_
      (try simp only [zP, zN, zA, zB, zC])
      refine nl_ (hK308 _ _ ?_); clear hK308 K308
      refine wp_cond_false rfl ?_
      refine wp_skip ?_
      refine th_norm (hK307 _ _ ?_); try clear hK307 K307
      refine s_ (fun K309 hK309 => ?_)
      refine pu_ (v := .bool true) (y_move rfl (by rfl) (by rfl)) ?_
      (try simp only [zP, zN, zA, zB, zC])
      refine pu_ (v := .bool false) (y_run (by rfl) (fun W => by go_simp)) ?_
      (try simp only [zP, zN, zA, zB, zC])
      refine nl_ (hK309 _ _ ?_); clear hK309 K309
      refine wp_cond_false rfl ?_
      refine wp_skip ?_
      refine ib_norm ?_
      refine th_norm (hK298 _ _ ?_); try clear hK298 K298
      refine r_ ?_
      refine pu_ (v := .int .i64 i) (y_move rfl (by rfl) (by rfl)) ?_
      (try simp only [zP, zN, zA, zB, zC])
      refine pu_ (v := .int .i64 (i + 1 : Nat)) (y_run (by rfl) (fun W => by have d := Wi.out; go_simp)) ?_
      (try simp only [zP, zN, zA, zB, zC])
      refine pu_ (v := .int .i64 (i + 1 : Nat)) (y_assign rfl (by rfl) (by rfl)) ?_
      (try simp only [zP, zN, zA, zB, zC])
      refine nl_ ?_
      exact th_norm (hK254 (kq - 1) _ _ (by have := hlt.out; have := hi.out; omega) ⟨i + 1, Bs302, F, fun us_ => (#[us 0, .int .i64 box, .int .i64 ctr, us 3, us 4, us 5, .bool false, .pointer (some ⟨x, 0, none⟩), .pointer (some ⟨gq, 0, none⟩), us 9, us 10, us 11, .slice (some ⟨gv, 0, none⟩) E.L.length cg, us 13, us 14, us 15, us 16, us 17, .int .i64 (i + 1 : Nat), .int .i64 s.id, .int .i64 t.box, .int .i64 t.ctr, .bool true, us 23, us 24, us 25, us 26, us 27, us 28, us 29, us 30, us 31, us 32, us 33, us 34, us 35, us 36, us 37, us 38, us 39, us 40, us 41, us 42, us 43, us 44, us 45, us 46, us 47, us 48, us 49, us 50, us 51, us 52, us 53, us 54, us 55, us 56, us 57, us 58, us 59, us 60, us 61, us 62, us 63, us 64, us 65, us 66, us 67, us 68, us 69, us 70, us 71, us 72, us 73, us 74, us 75, us 76, us 77, us 78, us 79, us 80, us 81, us 82, us 83, us 84, us 85, us 86, us 87, us 88, us 89, us 90, us 91, us 92, us 93, us 94, us 95, us 96, us 97, us 98, us 99, us 100, us 101, us 102, us 103, us 104, us 105, us 106, us 107, us 108, us 109, us 110, us 111, us 112, us 113, us 114, us 115, us 116, us 117, us 118, us 119, .int .i64 i, .pointer (some ⟨gq, 0, none⟩), .slice (some a) E.L.length zq, .int .i64 E.L.length, .bool true, .bool true, .int .i64 i, .slice (some ⟨gv, 0, none⟩) E.L.length cg, .int .i64 E.L.length, .bool true, .bool true, .int .i64 i, .int .i64 (i + 1 : Nat), .pointer (some ⟨gq, 0, none⟩), .slice (some a) E.L.length zq, .int .i64 i, .pointer (some (a.add (i * 6))), .pointer (some ((a.add (i * 6)).add 0)), .int .i64 s.id, .tuple #[.int .i64 t.box, .int .i64 t.ctr, .bool true], .pointer (some ⟨x, 0, none⟩), .int .i64 s.id, .tuple #[.int .i64 t.box, .int .i64 t.ctr, .bool true], .int .i64 t.box, .int .i64 t.ctr, .bool true, .bool true, .slice (some ⟨gv, 0, none⟩) E.L.length cg, .int .i64 i, .pointer (some ⟨gv, i, none⟩), .bool true, .bool true, .pointer (some ⟨gq, 0, none⟩), .slice (some a) E.L.length zq, .int .i64 i, .pointer (some (a.add (i * 6))), .pointer (some ((a.add (i * 6)).add 1)), .int .i64 s.box, .int .i64 box, .bool true, .bool true, undef, undef, undef, undef, undef, undef, undef, undef, .bool true, .bool true, .bool false, .bool true, .bool false, us 174, us 175, us 176, us 177, us 178, us 179, us 180, us 181, us 182, us 183, us 184, us 185, us 186, us 187, us 188, us 189, us 190, us 191, us 192, us 193, us 194, us 195, us 196, us 197, us 198, us 199, us 200] : Array Value).getD us_ undef, rfl, C0, Lib.hid (EX.out.up (by omega)), SQ, Fgq, OG, Lib.hid ⟨by have := hlt.out; omega, by have := hlt.out; have := hi.out; omega⟩, hlike, hr305, hs304, hr306⟩)
    · have hlt := Lib.hid hlt0
      have HS_ := Lib.hid ho0
      have HCC := Lib.hid hc
      clear hc hlt0 ho0
      have HOP := Lib.hid (show s.op = true from HCC.out.1)
      obtain ⟨a, hsm_a⟩ := src_some SQ.out (by have := hlt.out; omega)
      subst hsm_a
      have D124 := Lib.hid (show (i : Int) < (E.L.length : Int) by have := hlt.out; omega)
      have Wi := Lib.hid (show IntKind.i64.wrap ((i : Int) + 1) = ((i + 1 : Nat) : Int) by rw [wr64 (by have := hlt.out; have := hfew.out.1; omega)]; omega)
      have D129 := Lib.hid D124.out
      obtain ⟨gv, cv, hv_, -, -, -, -, -⟩ := OG.out.some_ (by have := hlt.out; omega)
      injection hv_ with hv1 _ hv3
      subst hv1 hv3
      obtain ⟨t, ht1, ht2, ht3, ht4⟩ := hlike.out.at HS_.out
      have HT := Lib.hid ht1
      have HFX := Lib.hid ht2
      have HTO := Lib.hid (show t.op = true from ht4.trans (by rw [end_op, HOP.out]; rw [show (s.box == box && s.ctr == ctr) = false from by simp [HCC.out.2.2]]; rfl))
      clear ht1 ht2 ht3 ht4
      have HOF := Lib.hid (show ofR F s.id = (t.box, t.ctr, true) from (ofR_at HFX.out HT.out).trans (by rw [HTO.out]))
      have HFN := Lib.hid (show F.L.length ≤ 8 by rw [hlike.out.len]; exact hfew.out.1)
      have D159 := Lib.hid (show  s.box = box from HCC.out.2.1)
      have D168 := Lib.hid (show ¬ s.ctr = ctr from HCC.out.2.2)
      refine s_ (fun K310 hK310 => ?_)
      refine pu_ (v := .int .i64 i) (y_move rfl (by rfl) (by rfl)) ?_
      (try simp only [zP, zN, zA, zB, zC])
      refine pu_ (v := .pointer (some ⟨gq, 0, none⟩)) (y_run (by rfl) (fun W => by go_simp)) ?_
      (try simp only [zP, zN, zA, zB, zC])
      refine ld_ (v := .slice (some a) E.L.length zq) rfl (by rfl) (by rfl) (run_load_one ((Fgq.out.cell 0).trans rfl) Tryd.underlying42 rfl) ?_
      (try simp only [zP, zN, zA, zB, zC])
      refine pu_ (v := .int .i64 E.L.length) (y_run (by rfl) (fun W => by go_simp)) ?_
      (try simp only [zP, zN, zA, zB, zC])
      refine pu_ (v := .bool true) (y_run (by rfl) (fun W => by have d := D124.out; go_simp)) ?_
      (try simp only [zP, zN, zA, zB, zC])
      refine pu_ (v := .bool true) (y_move rfl (by rfl) (by rfl)) ?_
      (try simp only [zP, zN, zA, zB, zC])
      refine pu_ (v := .int .i64 i) (y_move rfl (by rfl) (by rfl)) ?_
      (try simp only [zP, zN, zA, zB, zC])
      refine pu_ (v := .slice (some ⟨gv, 0, none⟩) E.L.length cg) (y_move rfl (by rfl) (by rfl)) ?_
      (try simp only [zP, zN, zA, zB, zC])
      refine pu_ (v := .int .i64 E.L.length) (y_run (by rfl) (fun W => by go_simp)) ?_
      (try simp only [zP, zN, zA, zB, zC])
      refine pu_ (v := .bool true) (y_run (by rfl) (fun W => by have d := D129.out; go_simp)) ?_
      (try simp only [zP, zN, zA, zB, zC])
      refine pu_ (v := .bool true) (y_pick (t := true) (by rfl) rfl (by rfl) (by rfl)) ?_
      (try simp only [zP, zN, zA, zB, zC])
      refine nl_ (hK310 _ _ ?_); clear hK310 K310
      refine wp_cond_true rfl ?_
      refine wp_skip ?_
      refine th_norm (hK255 _ _ ?_); try clear hK255 K255
      refine sq_ (fun K311 hK311 => ?_)
      refine wp_block ?_
      refine s_ (fun K312 hK312 => ?_)
      refine pu_ (v := .pointer (some ⟨gq, 0, none⟩)) (y_run (by rfl) (fun W => by go_simp)) ?_
      (try simp only [zP, zN, zA, zB, zC])
      refine ld_ (v := .slice (some a) E.L.length zq) rfl (by rfl) (by rfl) (run_load_one ((Fgq.out.cell 0).trans rfl) Tryd.underlying42 rfl) ?_
      (try simp only [zP, zN, zA, zB, zC])
      refine pu_ (v := .int .i64 i) (y_move rfl (by rfl) (by rfl)) ?_
      (try simp only [zP, zN, zA, zB, zC])
      refine pu_ (v := .pointer (some (a.add (i * 6)))) (y_run (by rfl) (fun W => by have d := D124.out; go_simp)) ?_
      (try simp only [zP, zN, zA, zB, zC])
      refine pu_ (v := .pointer (some ((a.add (i * 6)).add 0))) (y_run (by rfl) (fun W => by go_simp)) ?_
      (try simp only [zP, zN, zA, zB, zC])
      refine ld_ (v := .int .i64 s.id) rfl (by rfl) (by rfl) (run_load_one (src_fld SQ.out HS_.out 0 _ (by simp [sesC])) Tryd.underlying3 rfl) ?_
      (try simp only [zP, zN, zA, zB, zC])
      refine pu_ (v := .int .i64 s.id) (y_assign rfl (by rfl) (by rfl)) ?_
      (try simp only [zP, zN, zA, zB, zC])
      refine nl_ (hK312 _ _ ?_); clear hK312 K312
      refine s_ (fun K313 hK313 => ?_)
      refine pu_ (v := .pointer (some ⟨x, 0, none⟩)) (y_move rfl (by rfl) (by rfl)) ?_
      (try simp only [zP, zN, zA, zB, zC])
      refine pu_ (v := .int .i64 s.id) (y_move rfl (by rfl) (by rfl)) ?_
      (try simp only [zP, zN, zA, zB, zC])
      refine ef_ (fun K314 hK314 => ?_)
      refine e_call Tryd.func15 (by kernel_rfl) rfl #[.pointer (some ⟨x, 0, none⟩), .int .i64 s.id] (by rfl) rfl rfl (by first | rfl | (simp only [List.map_toArray, List.map_cons, List.map_nil]; first | done | rfl)) ((by have h9 := of_l (id := s.id) EX.out (by have := HFN.out; omega); rw [HOF.out] at h9; exact h9)) ?_
      rintro en w316 ⟨rfl, Bs315, bk, cc, bel⟩
      refine ⟨_, rfl, ?_⟩
      have hs317 := Lib.hid (show gq ∉ Bs315 from fun h9 => (bel _ h9).elim hgs3.out (fun h8 => by have := Fgq.out.lt; omega))
      have hr318 := Lib.hid (show ∀ k_, k_ ∈ xb (.slice (some a) E.L.length zq) → k_ ∉ Bs315 from fun k_ hk_ hB_ => (bel k_ hB_).elim (hqs3.out k_ hk_) (fun h8 => by have := SQ.out.lt (by decide) k_ hk_; omega))
      have hr319 := Lib.hid (show ∀ k_, k_ ∈ rl (.slice (some ⟨gv, 0, none⟩) E.L.length cg) → k_ ∉ Bs315 from fun k_ hk_ hB_ => (bel k_ hB_).elim (hvr3.out k_ hk_) (fun h8 => by have := (OG.out.lt k_ hk_).2; omega))
      have C0' := Lib.hid (show Ch [] w w316 from C0.out.trans' cc (fun x hx => .inr (EX.out.lt x hx).1))
      have SQ' := Lib.hid (show SrcIs w316 (.slice (some a) E.L.length zq) (E.L.length) (E.L.flatMap sesC) 6 from SQ.out.chx cc hqs3.out)
      have Fgq' := Lib.hid (show Blk w316 gq (#[.slice (some a) E.L.length zq, .int .i64 E.last]) 44 from cc.blk Fgq.out hgs3.out)
      have OG' := Lib.hid (show OwnS w316 w.heap.size 4 1 (.slice (some ⟨gv, 0, none⟩) E.L.length cg) (E.L.length) ((E.L.map HS.op).flatMap boolC) from OG.out.ch cc hvr3.out)
      clear C0 SQ Fgq OG
      have C0 := C0'; clear C0'
      have SQ := SQ'; clear SQ'
      have Fgq := Fgq'; clear Fgq'
      have OG := OG'; clear OG'
      clear EX cc bel
      have EX := Lib.hid (show ExIs w316 w.heap.size Bs315 x ((64 * k + 128 * i)) (F) from bk)
      clear bk
      refine hK314 _ _ ?_; clear hK314 K314
      (try simp only [zP, zN, zA, zB, zC])
      refine pu_ (v := .tuple #[.int .i64 t.box, .int .i64 t.ctr, .bool true]) (y_move rfl (by rfl) (by rfl)) ?_
      (try simp only [zP, zN, zA, zB, zC])
      refine pu_ (v := .int .i64 t.box) (y_run (by rfl) (fun W => by go_simp)) ?_
      (try simp only [zP, zN, zA, zB, zC])
      refine pu_ (v := .int .i64 t.ctr) (y_run (by rfl) (fun W => by go_simp)) ?_
      (try simp only [zP, zN, zA, zB, zC])
      refine pu_ (v := .bool true) (y_run (by rfl) (fun W => by go_simp)) ?_
      (try simp only [zP, zN, zA, zB, zC])
      refine pu_ (v := .int .i64 t.box) (y_assign rfl (by rfl) (by rfl)) ?_
      (try simp only [zP, zN, zA, zB, zC])
      refine pu_ (v := .int .i64 t.ctr) (y_assign rfl (by rfl) (by rfl)) ?_
      (try simp only [zP, zN, zA, zB, zC])
      refine pu_ (v := .bool true) (y_assign rfl (by rfl) (by rfl)) ?_
      (try simp only [zP, zN, zA, zB, zC])
      refine nl_ (hK313 _ _ ?_); clear hK313 K313
      refine sq_ (fun K320 hK320 => ?_)
      refine s_ (fun K321 hK321 => ?_)
      refine pu_ (v := .bool true) (y_move rfl (by rfl) (by rfl)) ?_
      (try simp only [zP, zN, zA, zB, zC])
      refine pu_ (v := .slice (some ⟨gv, 0, none⟩) E.L.length cg) (y_move rfl (by rfl) (by rfl)) ?_
      (try simp only [zP, zN, zA, zB, zC])
      refine pu_ (v := .int .i64 i) (y_move rfl (by rfl) (by rfl)) ?_
      (try simp only [zP, zN, zA, zB, zC])
      refine pu_ (v := .pointer (some ⟨gv, i, none⟩)) (y_run (by rfl) (fun W => by have d := D124.out; go_simp)) ?_
      (try simp only [zP, zN, zA, zB, zC])
      refine ld_ (v := .bool true) rfl (by rfl) (by rfl) (run_load_one (own_cell OG.out (by have h9 := was_at HS_.out; rw [HOP.out] at h9; exact h9)) Tryd.underlying4 rfl) ?_
      (try simp only [zP, zN, zA, zB, zC])
      refine pu_ (v := .bool true) (y_move rfl (by rfl) (by rfl)) ?_
      (try simp only [zP, zN, zA, zB, zC])
      refine pu_ (v := .pointer (some ⟨gq, 0, none⟩)) (y_run (by rfl) (fun W => by go_simp)) ?_
      (try simp only [zP, zN, zA, zB, zC])
      refine ld_ (v := .slice (some a) E.L.length zq) rfl (by rfl) (by rfl) (run_load_one ((Fgq.out.cell 0).trans rfl) Tryd.underlying42 rfl) ?_
      (try simp only [zP, zN, zA, zB, zC])
      refine pu_ (v := .int .i64 i) (y_move rfl (by rfl) (by rfl)) ?_
      (try simp only [zP, zN, zA, zB, zC])
      refine pu_ (v := .pointer (some (a.add (i * 6)))) (y_run (by rfl) (fun W => by have d := D124.out; go_simp)) ?_
      (try simp only [zP, zN, zA, zB, zC])
      refine pu_ (v := .pointer (some ((a.add (i * 6)).add 1))) (y_run (by rfl) (fun W => by go_simp)) ?_
      (try simp only [zP, zN, zA, zB, zC])
      refine ld_ (v := .int .i64 s.box) rfl (by rfl) (by rfl) (run_load_one (src_fld SQ.out HS_.out 1 _ (by simp [sesC])) Tryd.underlying3 rfl) ?_
      (try simp only [zP, zN, zA, zB, zC])
      refine pu_ (v := .int .i64 box) (y_move rfl (by rfl) (by rfl)) ?_
      (try simp only [zP, zN, zA, zB, zC])
      refine pu_ (v := .bool false) (y_run (by rfl) (fun W => by have d := D159.out; go_simp)) ?_
      (try simp only [zP, zN, zA, zB, zC])
      refine pu_ (v := .bool false) (y_move rfl (by rfl) (by rfl)) ?_
      (try simp only [zP, zN, zA, zB, zC])
      refine pu_ (v := .pointer (some ⟨gq, 0, none⟩)) (y_run (by rfl) (fun W => by go_simp)) ?_
      (try simp only [zP, zN, zA, zB, zC])
      refine ld_ (v := .slice (some a) E.L.length zq) rfl (by rfl) (by rfl) (run_load_one ((Fgq.out.cell 0).trans rfl) Tryd.underlying42 rfl) ?_
      (try simp only [zP, zN, zA, zB, zC])
      refine pu_ (v := .int .i64 i) (y_move rfl (by rfl) (by rfl)) ?_
      (try simp only [zP, zN, zA, zB, zC])
      refine pu_ (v := .pointer (some (a.add (i * 6)))) (y_run (by rfl) (fun W => by have d := D124.out; go_simp)) ?_
      (try simp only [zP, zN, zA, zB, zC])
      refine pu_ (v := .pointer (some ((a.add (i * 6)).add 2))) (y_run (by rfl) (fun W => by go_simp)) ?_
      (try simp only [zP, zN, zA, zB, zC])
      refine ld_ (v := .int .i64 s.ctr) rfl (by rfl) (by rfl) (run_load_one (src_fld SQ.out HS_.out 2 _ (by simp [sesC])) Tryd.underlying3 rfl) ?_
      (try simp only [zP, zN, zA, zB, zC])
      refine pu_ (v := .int .i64 ctr) (y_move rfl (by rfl) (by rfl)) ?_
      (try simp only [zP, zN, zA, zB, zC])
      refine pu_ (v := .bool true) (y_run (by rfl) (fun W => by have d := D168.out; go_simp)) ?_
      (try simp only [zP, zN, zA, zB, zC])
      refine pu_ (v := .bool true) (y_pick (t := false) (by rfl) rfl (by rfl) (by rfl)) ?_
      (try simp only [zP, zN, zA, zB, zC])
      refine pu_ (v := .bool true) (y_pick (t := true) (by rfl) rfl (by rfl) (by rfl)) ?_
      (try simp only [zP, zN, zA, zB, zC])
      refine pu_ (v := .bool false) (y_run (by rfl) (fun W => by first | (go_simp; done) | (go_simp; rfl) | (go_simp; decide))) ?_
      (try simp only [zP, zN, zA, zB, zC])
      refine nl_ (hK321 _ _ ?_); clear hK321 K321
      refine wp_cond_false rfl ?_
      refine wp_skip ?_
      refine th_norm (hK320 _ _ ?_); try clear hK320 K320
      refine s_ (fun K322 hK322 => ?_)
      refine pu_ (v := .bool true) (y_move rfl (by rfl) (by rfl)) ?_
      (try simp only [zP, zN, zA, zB, zC])
      refine pu_ (v := .bool false) (y_run (by rfl) (fun W => by go_simp)) ?_
      (try simp only [zP, zN, zA, zB, zC])
      refine nl_ (hK322 _ _ ?_); clear hK322 K322
      refine wp_cond_false rfl ?_
      refine wp_skip ?_
      refine ib_norm ?_
      refine th_norm (hK311 _ _ ?_); try clear hK311 K311
      refine r_ ?_
      refine pu_ (v := .int .i64 i) (y_move rfl (by rfl) (by rfl)) ?_
      (try simp only [zP, zN, zA, zB, zC])
      refine pu_ (v := .int .i64 (i + 1 : Nat)) (y_run (by rfl) (fun W => by have d := Wi.out; go_simp)) ?_
      (try simp only [zP, zN, zA, zB, zC])
      refine pu_ (v := .int .i64 (i + 1 : Nat)) (y_assign rfl (by rfl) (by rfl)) ?_
      (try simp only [zP, zN, zA, zB, zC])
      refine nl_ ?_
      exact th_norm (hK254 (kq - 1) _ _ (by have := hlt.out; have := hi.out; omega) ⟨i + 1, Bs315, F, fun us_ => (#[us 0, .int .i64 box, .int .i64 ctr, us 3, us 4, us 5, .bool false, .pointer (some ⟨x, 0, none⟩), .pointer (some ⟨gq, 0, none⟩), us 9, us 10, us 11, .slice (some ⟨gv, 0, none⟩) E.L.length cg, us 13, us 14, us 15, us 16, us 17, .int .i64 (i + 1 : Nat), .int .i64 s.id, .int .i64 t.box, .int .i64 t.ctr, .bool true, us 23, us 24, us 25, us 26, us 27, us 28, us 29, us 30, us 31, us 32, us 33, us 34, us 35, us 36, us 37, us 38, us 39, us 40, us 41, us 42, us 43, us 44, us 45, us 46, us 47, us 48, us 49, us 50, us 51, us 52, us 53, us 54, us 55, us 56, us 57, us 58, us 59, us 60, us 61, us 62, us 63, us 64, us 65, us 66, us 67, us 68, us 69, us 70, us 71, us 72, us 73, us 74, us 75, us 76, us 77, us 78, us 79, us 80, us 81, us 82, us 83, us 84, us 85, us 86, us 87, us 88, us 89, us 90, us 91, us 92, us 93, us 94, us 95, us 96, us 97, us 98, us 99, us 100, us 101, us 102, us 103, us 104, us 105, us 106, us 107, us 108, us 109, us 110, us 111, us 112, us 113, us 114, us 115, us 116, us 117, us 118, us 119, .int .i64 i, .pointer (some ⟨gq, 0, none⟩), .slice (some a) E.L.length zq, .int .i64 E.L.length, .bool true, .bool true, .int .i64 i, .slice (some ⟨gv, 0, none⟩) E.L.length cg, .int .i64 E.L.length, .bool true, .bool true, .int .i64 i, .int .i64 (i + 1 : Nat), .pointer (some ⟨gq, 0, none⟩), .slice (some a) E.L.length zq, .int .i64 i, .pointer (some (a.add (i * 6))), .pointer (some ((a.add (i * 6)).add 0)), .int .i64 s.id, .tuple #[.int .i64 t.box, .int .i64 t.ctr, .bool true], .pointer (some ⟨x, 0, none⟩), .int .i64 s.id, .tuple #[.int .i64 t.box, .int .i64 t.ctr, .bool true], .int .i64 t.box, .int .i64 t.ctr, .bool true, .bool true, .slice (some ⟨gv, 0, none⟩) E.L.length cg, .int .i64 i, .pointer (some ⟨gv, i, none⟩), .bool true, .bool true, .pointer (some ⟨gq, 0, none⟩), .slice (some a) E.L.length zq, .int .i64 i, .pointer (some (a.add (i * 6))), .pointer (some ((a.add (i * 6)).add 1)), .int .i64 s.box, .int .i64 box, .bool false, .bool false, .pointer (some ⟨gq, 0, none⟩), .slice (some a) E.L.length zq, .int .i64 i, .pointer (some (a.add (i * 6))), .pointer (some ((a.add (i * 6)).add 2)), .int .i64 s.ctr, .int .i64 ctr, .bool true, .bool true, .bool true, .bool false, .bool true, .bool false, us 174, us 175, us 176, us 177, us 178, us 179, us 180, us 181, us 182, us 183, us 184, us 185, us 186, us 187, us 188, us 189, us 190, us 191, us 192, us 193, us 194, us 195, us 196, us 197, us 198, us 199, us 200] : Array Value).getD us_ undef, rfl, C0, Lib.hid (EX.out.up (by omega)), SQ, Fgq, OG, Lib.hid ⟨by have := hlt.out; omega, by have := hlt.out; have := hi.out; omega⟩, hlike, hr318, hs317, hr319⟩)
    · have hlt := Lib.hid hlt0
      have HS_ := Lib.hid ho0
      have HCC := Lib.hid hc
      clear hc hlt0 ho0
      have HOP := Lib.hid (show s.op = true from HCC.out.1)
      obtain ⟨a, hsm_a⟩ := src_some SQ.out (by have := hlt.out; omega)
      subst hsm_a
      have D124 := Lib.hid (show (i : Int) < (E.L.length : Int) by have := hlt.out; omega)
      have Wi := Lib.hid (show IntKind.i64.wrap ((i : Int) + 1) = ((i + 1 : Nat) : Int) by rw [wr64 (by have := hlt.out; have := hfew.out.1; omega)]; omega)
      have D129 := Lib.hid D124.out
      obtain ⟨gv, cv, hv_, -, -, -, -, -⟩ := OG.out.some_ (by have := hlt.out; omega)
      injection hv_ with hv1 _ hv3
      subst hv1 hv3
      obtain ⟨t, ht1, ht2, ht3, ht4⟩ := hlike.out.at HS_.out
      have HT := Lib.hid ht1
      have HFX := Lib.hid ht2
      have HTO := Lib.hid (show t.op = false from ht4.trans (by rw [end_op, HOP.out]; rw [show (s.box == box && s.ctr == ctr) = true from by rw [HCC.out.2.1, HCC.out.2.2]; simp]; rfl))
      clear ht1 ht2 ht3 ht4
      have HOF := Lib.hid (show ofR F s.id = (t.box, t.ctr, false) from (ofR_at HFX.out HT.out).trans (by rw [HTO.out]))
      have HFN := Lib.hid (show F.L.length ≤ 8 by rw [hlike.out.len]; exact hfew.out.1)
      have D159 := Lib.hid (show  s.box = box from HCC.out.2.1)
      have D168 := Lib.hid (show  s.ctr = ctr from HCC.out.2.2)
      have HWT := Lib.hid (shut_write HFX.out HT.out HTO.out ⟨#[97]⟩)
      have HRT := Lib.hid (shut_read HFX.out HT.out HTO.out (EX.out.qs _ t HT.out).2)
      obtain ⟨u, hu1, hu2, hu3⟩ := HRT.out.2
      have HTT := Lib.hid (shut_turn (m := 9) hu1 hu2 hu3)
      clear hu1 hu2 hu3
      refine s_ (fun K323 hK323 => ?_)
      refine pu_ (v := .int .i64 i) (y_move rfl (by rfl) (by rfl)) ?_
      (try simp only [zP, zN, zA, zB, zC])
      refine pu_ (v := .pointer (some ⟨gq, 0, none⟩)) (y_run (by rfl) (fun W => by go_simp)) ?_
      (try simp only [zP, zN, zA, zB, zC])
      refine ld_ (v := .slice (some a) E.L.length zq) rfl (by rfl) (by rfl) (run_load_one ((Fgq.out.cell 0).trans rfl) Tryd.underlying42 rfl) ?_
      (try simp only [zP, zN, zA, zB, zC])
      refine pu_ (v := .int .i64 E.L.length) (y_run (by rfl) (fun W => by go_simp)) ?_
      (try simp only [zP, zN, zA, zB, zC])
      refine pu_ (v := .bool true) (y_run (by rfl) (fun W => by have d := D124.out; go_simp)) ?_
      (try simp only [zP, zN, zA, zB, zC])
      refine pu_ (v := .bool true) (y_move rfl (by rfl) (by rfl)) ?_
      (try simp only [zP, zN, zA, zB, zC])
      refine pu_ (v := .int .i64 i) (y_move rfl (by rfl) (by rfl)) ?_
      (try simp only [zP, zN, zA, zB, zC])
      refine pu_ (v := .slice (some ⟨gv, 0, none⟩) E.L.length cg) (y_move rfl (by rfl) (by rfl)) ?_
      (try simp only [zP, zN, zA, zB, zC])
      refine pu_ (v := .int .i64 E.L.length) (y_run (by rfl) (fun W => by go_simp)) ?_
      (try simp only [zP, zN, zA, zB, zC])
      refine pu_ (v := .bool true) (y_run (by rfl) (fun W => by have d := D129.out; go_simp)) ?_
      (try simp only [zP, zN, zA, zB, zC])
      refine pu_ (v := .bool true) (y_pick (t := true) (by rfl) rfl (by rfl) (by rfl)) ?_
      (try simp only [zP, zN, zA, zB, zC])
      refine nl_ (hK323 _ _ ?_); clear hK323 K323
      refine wp_cond_true rfl ?_
      refine wp_skip ?_
      refine th_norm (hK255 _ _ ?_); try clear hK255 K255
      refine sq_ (fun K324 hK324 => ?_)
      refine wp_block ?_
      refine s_ (fun K325 hK325 => ?_)
      refine pu_ (v := .pointer (some ⟨gq, 0, none⟩)) (y_run (by rfl) (fun W => by go_simp)) ?_
      (try simp only [zP, zN, zA, zB, zC])
      refine ld_ (v := .slice (some a) E.L.length zq) rfl (by rfl) (by rfl) (run_load_one ((Fgq.out.cell 0).trans rfl) Tryd.underlying42 rfl) ?_
      (try simp only [zP, zN, zA, zB, zC])
      refine pu_ (v := .int .i64 i) (y_move rfl (by rfl) (by rfl)) ?_
      (try simp only [zP, zN, zA, zB, zC])
      refine pu_ (v := .pointer (some (a.add (i * 6)))) (y_run (by rfl) (fun W => by have d := D124.out; go_simp)) ?_
      (try simp only [zP, zN, zA, zB, zC])
      refine pu_ (v := .pointer (some ((a.add (i * 6)).add 0))) (y_run (by rfl) (fun W => by go_simp)) ?_
      (try simp only [zP, zN, zA, zB, zC])
      refine ld_ (v := .int .i64 s.id) rfl (by rfl) (by rfl) (run_load_one (src_fld SQ.out HS_.out 0 _ (by simp [sesC])) Tryd.underlying3 rfl) ?_
      (try simp only [zP, zN, zA, zB, zC])
      refine pu_ (v := .int .i64 s.id) (y_assign rfl (by rfl) (by rfl)) ?_
      (try simp only [zP, zN, zA, zB, zC])
      refine nl_ (hK325 _ _ ?_); clear hK325 K325
      refine s_ (fun K326 hK326 => ?_)
      refine pu_ (v := .pointer (some ⟨x, 0, none⟩)) (y_move rfl (by rfl) (by rfl)) ?_
      (try simp only [zP, zN, zA, zB, zC])
      refine pu_ (v := .int .i64 s.id) (y_move rfl (by rfl) (by rfl)) ?_
      (try simp only [zP, zN, zA, zB, zC])
      refine ef_ (fun K327 hK327 => ?_)
      refine e_call Tryd.func15 (by kernel_rfl) rfl #[.pointer (some ⟨x, 0, none⟩), .int .i64 s.id] (by rfl) rfl rfl (by first | rfl | (simp only [List.map_toArray, List.map_cons, List.map_nil]; first | done | rfl)) ((by have h9 := of_l (id := s.id) EX.out (by have := HFN.out; omega); rw [HOF.out] at h9; exact h9)) ?_
      rintro en w329 ⟨rfl, Bs328, bk, cc, bel⟩
      refine ⟨_, rfl, ?_⟩
      have hs330 := Lib.hid (show gq ∉ Bs328 from fun h9 => (bel _ h9).elim hgs3.out (fun h8 => by have := Fgq.out.lt; omega))
      have hr331 := Lib.hid (show ∀ k_, k_ ∈ xb (.slice (some a) E.L.length zq) → k_ ∉ Bs328 from fun k_ hk_ hB_ => (bel k_ hB_).elim (hqs3.out k_ hk_) (fun h8 => by have := SQ.out.lt (by decide) k_ hk_; omega))
      have hr332 := Lib.hid (show ∀ k_, k_ ∈ rl (.slice (some ⟨gv, 0, none⟩) E.L.length cg) → k_ ∉ Bs328 from fun k_ hk_ hB_ => (bel k_ hB_).elim (hvr3.out k_ hk_) (fun h8 => by have := (OG.out.lt k_ hk_).2; omega))
      have C0' := Lib.hid (show Ch [] w w329 from C0.out.trans' cc (fun x hx => .inr (EX.out.lt x hx).1))
      have SQ' := Lib.hid (show SrcIs w329 (.slice (some a) E.L.length zq) (E.L.length) (E.L.flatMap sesC) 6 from SQ.out.chx cc hqs3.out)
      have Fgq' := Lib.hid (show Blk w329 gq (#[.slice (some a) E.L.length zq, .int .i64 E.last]) 44 from cc.blk Fgq.out hgs3.out)
      have OG' := Lib.hid (show OwnS w329 w.heap.size 4 1 (.slice (some ⟨gv, 0, none⟩) E.L.length cg) (E.L.length) ((E.L.map HS.op).flatMap boolC) from OG.out.ch cc hvr3.out)
      clear C0 SQ Fgq OG
      have C0 := C0'; clear C0'
      have SQ := SQ'; clear SQ'
      have Fgq := Fgq'; clear Fgq'
      have OG := OG'; clear OG'
      clear EX cc bel
      have EX := Lib.hid (show ExIs w329 w.heap.size Bs328 x ((64 * k + 128 * i)) (F) from bk)
      clear bk
      refine hK327 _ _ ?_; clear hK327 K327
      (try simp only [zP, zN, zA, zB, zC])
      refine pu_ (v := .tuple #[.int .i64 t.box, .int .i64 t.ctr, .bool false]) (y_move rfl (by rfl) (by rfl)) ?_
      (try simp only [zP, zN, zA, zB, zC])
      refine pu_ (v := .int .i64 t.box) (y_run (by rfl) (fun W => by go_simp)) ?_
      (try simp only [zP, zN, zA, zB, zC])
      refine pu_ (v := .int .i64 t.ctr) (y_run (by rfl) (fun W => by go_simp)) ?_
      (try simp only [zP, zN, zA, zB, zC])
      refine pu_ (v := .bool false) (y_run (by rfl) (fun W => by go_simp)) ?_
      (try simp only [zP, zN, zA, zB, zC])
      refine pu_ (v := .int .i64 t.box) (y_assign rfl (by rfl) (by rfl)) ?_
      (try simp only [zP, zN, zA, zB, zC])
      refine pu_ (v := .int .i64 t.ctr) (y_assign rfl (by rfl) (by rfl)) ?_
      (try simp only [zP, zN, zA, zB, zC])
      refine pu_ (v := .bool false) (y_assign rfl (by rfl) (by rfl)) ?_
      (try simp only [zP, zN, zA, zB, zC])
      refine nl_ (hK326 _ _ ?_); clear hK326 K326
      refine sq_ (fun K333 hK333 => ?_)
      refine s_ (fun K334 hK334 => ?_)
      refine pu_ (v := .bool false) (y_move rfl (by rfl) (by rfl)) ?_
      (try simp only [zP, zN, zA, zB, zC])
      refine pu_ (v := .slice (some ⟨gv, 0, none⟩) E.L.length cg) (y_move rfl (by rfl) (by rfl)) ?_
      (try simp only [zP, zN, zA, zB, zC])
      refine pu_ (v := .int .i64 i) (y_move rfl (by rfl) (by rfl)) ?_
      (try simp only [zP, zN, zA, zB, zC])
      refine pu_ (v := .pointer (some ⟨gv, i, none⟩)) (y_run (by rfl) (fun W => by have d := D124.out; go_simp)) ?_
      (try simp only [zP, zN, zA, zB, zC])
      refine ld_ (v := .bool true) rfl (by rfl) (by rfl) (run_load_one (own_cell OG.out (by have h9 := was_at HS_.out; rw [HOP.out] at h9; exact h9)) Tryd.underlying4 rfl) ?_
      (try simp only [zP, zN, zA, zB, zC])
      refine pu_ (v := .bool true) (y_move rfl (by rfl) (by rfl)) ?_
      (try simp only [zP, zN, zA, zB, zC])
      refine pu_ (v := .pointer (some ⟨gq, 0, none⟩)) (y_run (by rfl) (fun W => by go_simp)) ?_
      (try simp only [zP, zN, zA, zB, zC])
      refine ld_ (v := .slice (some a) E.L.length zq) rfl (by rfl) (by rfl) (run_load_one ((Fgq.out.cell 0).trans rfl) Tryd.underlying42 rfl) ?_
      (try simp only [zP, zN, zA, zB, zC])
      refine pu_ (v := .int .i64 i) (y_move rfl (by rfl) (by rfl)) ?_
      (try simp only [zP, zN, zA, zB, zC])
      refine pu_ (v := .pointer (some (a.add (i * 6)))) (y_run (by rfl) (fun W => by have d := D124.out; go_simp)) ?_
      (try simp only [zP, zN, zA, zB, zC])
      refine pu_ (v := .pointer (some ((a.add (i * 6)).add 1))) (y_run (by rfl) (fun W => by go_simp)) ?_
      (try simp only [zP, zN, zA, zB, zC])
      refine ld_ (v := .int .i64 s.box) rfl (by rfl) (by rfl) (run_load_one (src_fld SQ.out HS_.out 1 _ (by simp [sesC])) Tryd.underlying3 rfl) ?_
      (try simp only [zP, zN, zA, zB, zC])
      refine pu_ (v := .int .i64 box) (y_move rfl (by rfl) (by rfl)) ?_
      (try simp only [zP, zN, zA, zB, zC])
      refine pu_ (v := .bool false) (y_run (by rfl) (fun W => by have d := D159.out; go_simp)) ?_
      (try simp only [zP, zN, zA, zB, zC])
      refine pu_ (v := .bool false) (y_move rfl (by rfl) (by rfl)) ?_
      (try simp only [zP, zN, zA, zB, zC])
      refine pu_ (v := .pointer (some ⟨gq, 0, none⟩)) (y_run (by rfl) (fun W => by go_simp)) ?_
      (try simp only [zP, zN, zA, zB, zC])
      refine ld_ (v := .slice (some a) E.L.length zq) rfl (by rfl) (by rfl) (run_load_one ((Fgq.out.cell 0).trans rfl) Tryd.underlying42 rfl) ?_
      (try simp only [zP, zN, zA, zB, zC])
      refine pu_ (v := .int .i64 i) (y_move rfl (by rfl) (by rfl)) ?_
      (try simp only [zP, zN, zA, zB, zC])
      refine pu_ (v := .pointer (some (a.add (i * 6)))) (y_run (by rfl) (fun W => by have d := D124.out; go_simp)) ?_
      (try simp only [zP, zN, zA, zB, zC])
      refine pu_ (v := .pointer (some ((a.add (i * 6)).add 2))) (y_run (by rfl) (fun W => by go_simp)) ?_
      (try simp only [zP, zN, zA, zB, zC])
      refine ld_ (v := .int .i64 s.ctr) rfl (by rfl) (by rfl) (run_load_one (src_fld SQ.out HS_.out 2 _ (by simp [sesC])) Tryd.underlying3 rfl) ?_
      (try simp only [zP, zN, zA, zB, zC])
      refine pu_ (v := .int .i64 ctr) (y_move rfl (by rfl) (by rfl)) ?_
      (try simp only [zP, zN, zA, zB, zC])
      refine pu_ (v := .bool false) (y_run (by rfl) (fun W => by have d := D168.out; go_simp)) ?_
      (try simp only [zP, zN, zA, zB, zC])
      refine pu_ (v := .bool false) (y_pick (t := false) (by rfl) rfl (by rfl) (by rfl)) ?_
      (try simp only [zP, zN, zA, zB, zC])
      refine pu_ (v := .bool false) (y_pick (t := true) (by rfl) rfl (by rfl) (by rfl)) ?_
      (try simp only [zP, zN, zA, zB, zC])
      refine pu_ (v := .bool false) (y_run (by rfl) (fun W => by first | (go_simp; done) | (go_simp; rfl) | (go_simp; decide))) ?_
      (try simp only [zP, zN, zA, zB, zC])
      refine nl_ (hK334 _ _ ?_); clear hK334 K334
      refine wp_cond_false rfl ?_
      refine wp_skip ?_
      refine th_norm (hK333 _ _ ?_); try clear hK333 K333
      refine s_ (fun K335 hK335 => ?_)
      refine pu_ (v := .bool false) (y_move rfl (by rfl) (by rfl)) ?_
      (try simp only [zP, zN, zA, zB, zC])
      refine pu_ (v := .bool true) (y_run (by rfl) (fun W => by go_simp)) ?_
      (try simp only [zP, zN, zA, zB, zC])
      refine nl_ (hK335 _ _ ?_); clear hK335 K335
      refine wp_cond_true rfl ?_
      refine s_ (fun K336 hK336 => ?_)
      refine pu_ (v := .pointer (some ⟨x, 0, none⟩)) (y_move rfl (by rfl) (by rfl)) ?_
      (try simp only [zP, zN, zA, zB, zC])
      refine pu_ (v := .int .i64 s.id) (y_move rfl (by rfl) (by rfl)) ?_
      (try simp only [zP, zN, zA, zB, zC])
      refine ef_ (fun K337 hK337 => ?_)
      refine e_call Tryd.func9 (by kernel_rfl) rfl #[.pointer (some ⟨x, 0, none⟩), .int .i64 s.id, .string {data := #[97]}] (by rfl) rfl rfl (by first | rfl | (simp only [List.map_toArray, List.map_cons, List.map_nil]; first | done | rfl)) ((by have h9 := write_l (id := s.id) (t := ⟨#[97]⟩) EX.out (by have := HFN.out; omega) (by have := hk.out; have := hlt.out; have := hfew.out.1; omega) (by show 1 ≤ 100000; omega); rw [HWT.out.1, HWT.out.2] at h9; exact h9)) ?_
      rintro en w339 ⟨rfl, Bs338, bk, cc, bel⟩
      refine ⟨_, rfl, ?_⟩
      have hs340 := Lib.hid (show gq ∉ Bs338 from fun h9 => (bel _ h9).elim hs330.out (fun h8 => by have := Fgq.out.lt; omega))
      have hr341 := Lib.hid (show ∀ k_, k_ ∈ xb (.slice (some a) E.L.length zq) → k_ ∉ Bs338 from fun k_ hk_ hB_ => (bel k_ hB_).elim (hr331.out k_ hk_) (fun h8 => by have := SQ.out.lt (by decide) k_ hk_; omega))
      have hr342 := Lib.hid (show ∀ k_, k_ ∈ rl (.slice (some ⟨gv, 0, none⟩) E.L.length cg) → k_ ∉ Bs338 from fun k_ hk_ hB_ => (bel k_ hB_).elim (hr332.out k_ hk_) (fun h8 => by have := (OG.out.lt k_ hk_).2; omega))
      have C0' := Lib.hid (show Ch [] w w339 from C0.out.trans' cc (fun x hx => .inr (EX.out.lt x hx).1))
      have SQ' := Lib.hid (show SrcIs w339 (.slice (some a) E.L.length zq) (E.L.length) (E.L.flatMap sesC) 6 from SQ.out.chx cc hr331.out)
      have Fgq' := Lib.hid (show Blk w339 gq (#[.slice (some a) E.L.length zq, .int .i64 E.last]) 44 from cc.blk Fgq.out hs330.out)
      have OG' := Lib.hid (show OwnS w339 w.heap.size 4 1 (.slice (some ⟨gv, 0, none⟩) E.L.length cg) (E.L.length) ((E.L.map HS.op).flatMap boolC) from OG.out.ch cc hr332.out)
      clear C0 SQ Fgq OG
      have C0 := C0'; clear C0'
      have SQ := SQ'; clear SQ'
      have Fgq := Fgq'; clear Fgq'
      have OG := OG'; clear OG'
      clear EX cc bel
      have EX := Lib.hid (show ExIs w339 w.heap.size Bs338 x ((64 * k + 128 * i) + 64) (F) from bk)
      clear bk
      refine hK337 _ _ ?_; clear hK337 K337
      (try simp only [zP, zN, zA, zB, zC])
      refine pu_ (v := .tuple #[.int .i64 0, .int .i64 400]) (y_move rfl (by rfl) (by rfl)) ?_
      (try simp only [zP, zN, zA, zB, zC])
      refine pu_ (v := .int .i64 0) (y_run (by rfl) (fun W => by go_simp)) ?_
      (try simp only [zP, zN, zA, zB, zC])
      refine pu_ (v := .int .i64 400) (y_run (by rfl) (fun W => by go_simp)) ?_
      (try simp only [zP, zN, zA, zB, zC])
      refine pu_ (v := .int .i64 0) (y_assign rfl (by rfl) (by rfl)) ?_
      (try simp only [zP, zN, zA, zB, zC])
      refine pu_ (v := .int .i64 400) (y_assign rfl (by rfl) (by rfl)) ?_
      (try simp only [zP, zN, zA, zB, zC])
      refine nl_ (hK336 _ _ ?_); clear hK336 K336
      refine s_ (fun K343 hK343 => ?_)
      refine pu_ (v := .pointer (some ⟨x, 0, none⟩)) (y_move rfl (by rfl) (by rfl)) ?_
      (try simp only [zP, zN, zA, zB, zC])
      refine pu_ (v := .int .i64 s.id) (y_move rfl (by rfl) (by rfl)) ?_
      (try simp only [zP, zN, zA, zB, zC])
      refine ef_ (fun K344 hK344 => ?_)
      refine e_call Tryd.func10 (by kernel_rfl) rfl #[.pointer (some ⟨x, 0, none⟩), .int .i64 s.id, .int .i64 1000] (by rfl) rfl rfl (by first | rfl | (simp only [List.map_toArray, List.map_cons, List.map_nil]; first | done | rfl)) ((read_l (id := s.id) (m := 1000) EX.out (by have := HFN.out; omega) (by have := hk.out; have := hlt.out; have := hfew.out.1; omega) (by omega))) ?_
      rintro en w346 ⟨rfl, Bs345, bk, cc, bel⟩
      refine ⟨_, rfl, ?_⟩
      have hs347 := Lib.hid (show gq ∉ Bs345 from fun h9 => (bel _ h9).elim hs340.out (fun h8 => by have := Fgq.out.lt; omega))
      have hr348 := Lib.hid (show ∀ k_, k_ ∈ xb (.slice (some a) E.L.length zq) → k_ ∉ Bs345 from fun k_ hk_ hB_ => (bel k_ hB_).elim (hr341.out k_ hk_) (fun h8 => by have := SQ.out.lt (by decide) k_ hk_; omega))
      have hr349 := Lib.hid (show ∀ k_, k_ ∈ rl (.slice (some ⟨gv, 0, none⟩) E.L.length cg) → k_ ∉ Bs345 from fun k_ hk_ hB_ => (bel k_ hB_).elim (hr342.out k_ hk_) (fun h8 => by have := (OG.out.lt k_ hk_).2; omega))
      have C0' := Lib.hid (show Ch [] w w346 from C0.out.trans' cc (fun x hx => .inr (EX.out.lt x hx).1))
      have SQ' := Lib.hid (show SrcIs w346 (.slice (some a) E.L.length zq) (E.L.length) (E.L.flatMap sesC) 6 from SQ.out.chx cc hr341.out)
      have Fgq' := Lib.hid (show Blk w346 gq (#[.slice (some a) E.L.length zq, .int .i64 E.last]) 44 from cc.blk Fgq.out hs340.out)
      have OG' := Lib.hid (show OwnS w346 w.heap.size 4 1 (.slice (some ⟨gv, 0, none⟩) E.L.length cg) (E.L.length) ((E.L.map HS.op).flatMap boolC) from OG.out.ch cc hr342.out)
      clear C0 SQ Fgq OG
      have C0 := C0'; clear C0'
      have SQ := SQ'; clear SQ'
      have Fgq := Fgq'; clear Fgq'
      have OG := OG'; clear OG'
      clear EX cc bel
      have EX := Lib.hid (show ExIs w346 w.heap.size Bs345 x ((64 * k + 128 * i) + 64) (readS F s.id 1000) from bk)
      clear bk
      refine hK344 _ _ ?_; clear hK344 K344
      (try simp only [zP, zN, zA, zB, zC])
      refine nl_ (hK343 _ _ ?_); clear hK343 K343
      refine s_ (fun K350 hK350 => ?_)
      refine pu_ (v := .pointer (some ⟨x, 0, none⟩)) (y_move rfl (by rfl) (by rfl)) ?_
      (try simp only [zP, zN, zA, zB, zC])
      refine pu_ (v := .int .i64 s.id) (y_move rfl (by rfl) (by rfl)) ?_
      (try simp only [zP, zN, zA, zB, zC])
      refine ef_ (fun K351 hK351 => ?_)
      refine e_call Tryd.func10 (by kernel_rfl) rfl #[.pointer (some ⟨x, 0, none⟩), .int .i64 s.id, .int .i64 1000] (by rfl) rfl rfl (by first | rfl | (simp only [List.map_toArray, List.map_cons, List.map_nil]; first | done | rfl)) ((by have h9 := read_l (id := s.id) (m := 1000) EX.out (by rw [readS_len]; have := HFN.out; omega) (by have := hk.out; have := hlt.out; have := hfew.out.1; omega) (by omega); rw [HRT.out.1] at h9; exact h9)) ?_
      rintro en w353 ⟨rfl, Bs352, bk, cc, bel⟩
      refine ⟨_, rfl, ?_⟩
      have hs354 := Lib.hid (show gq ∉ Bs352 from fun h9 => (bel _ h9).elim hs347.out (fun h8 => by have := Fgq.out.lt; omega))
      have hr355 := Lib.hid (show ∀ k_, k_ ∈ xb (.slice (some a) E.L.length zq) → k_ ∉ Bs352 from fun k_ hk_ hB_ => (bel k_ hB_).elim (hr348.out k_ hk_) (fun h8 => by have := SQ.out.lt (by decide) k_ hk_; omega))
      have hr356 := Lib.hid (show ∀ k_, k_ ∈ rl (.slice (some ⟨gv, 0, none⟩) E.L.length cg) → k_ ∉ Bs352 from fun k_ hk_ hB_ => (bel k_ hB_).elim (hr349.out k_ hk_) (fun h8 => by have := (OG.out.lt k_ hk_).2; omega))
      have C0' := Lib.hid (show Ch [] w w353 from C0.out.trans' cc (fun x hx => .inr (EX.out.lt x hx).1))
      have SQ' := Lib.hid (show SrcIs w353 (.slice (some a) E.L.length zq) (E.L.length) (E.L.flatMap sesC) 6 from SQ.out.chx cc hr348.out)
      have Fgq' := Lib.hid (show Blk w353 gq (#[.slice (some a) E.L.length zq, .int .i64 E.last]) 44 from cc.blk Fgq.out hs347.out)
      have OG' := Lib.hid (show OwnS w353 w.heap.size 4 1 (.slice (some ⟨gv, 0, none⟩) E.L.length cg) (E.L.length) ((E.L.map HS.op).flatMap boolC) from OG.out.ch cc hr349.out)
      clear C0 SQ Fgq OG
      have C0 := C0'; clear C0'
      have SQ := SQ'; clear SQ'
      have Fgq := Fgq'; clear Fgq'
      have OG := OG'; clear OG'
      clear EX cc bel
      have EX := Lib.hid (show ExIs w353 w.heap.size Bs352 x ((64 * k + 128 * i) + 64) (readS (readS F s.id 1000) s.id 1000) from bk)
      clear bk
      refine hK351 _ _ ?_; clear hK351 K351
      (try simp only [zP, zN, zA, zB, zC])
      refine pu_ (v := .tuple #[.string (readR (readS F s.id 1000) s.id 1000).1, .int .i64 400]) (y_move rfl (by rfl) (by rfl)) ?_
      (try simp only [zP, zN, zA, zB, zC])
      refine pu_ (v := .string (readR (readS F s.id 1000) s.id 1000).1) (y_run (by rfl) (fun W => by go_simp)) ?_
      (try simp only [zP, zN, zA, zB, zC])
      refine pu_ (v := .int .i64 400) (y_run (by rfl) (fun W => by go_simp)) ?_
      (try simp only [zP, zN, zA, zB, zC])
      refine pu_ (v := .string (readR (readS F s.id 1000) s.id 1000).1) (y_assign rfl (by rfl) (by rfl)) ?_
      (try simp only [zP, zN, zA, zB, zC])
      refine pu_ (v := .int .i64 400) (y_assign rfl (by rfl) (by rfl)) ?_
      (try simp only [zP, zN, zA, zB, zC])
      refine nl_ (hK350 _ _ ?_); clear hK350 K350
      refine s_ (fun K357 hK357 => ?_)
      refine pu_ (v := .int .i64 400) (y_move rfl (by rfl) (by rfl)) ?_
      (try simp only [zP, zN, zA, zB, zC])
      refine pu_ (v := .bool false) (y_run (by rfl) (fun W => by first | (go_simp; done) | (go_simp; rfl) | (go_simp; decide))) ?_
      (try simp only [zP, zN, zA, zB, zC])
      refine pu_ (v := .bool false) (y_move rfl (by rfl) (by rfl)) ?_
      (try simp only [zP, zN, zA, zB, zC])
      refine pu_ (v := .int .i64 400) (y_move rfl (by rfl) (by rfl)) ?_
      (try simp only [zP, zN, zA, zB, zC])
      refine pu_ (v := .bool false) (y_run (by rfl) (fun W => by first | (go_simp; done) | (go_simp; rfl) | (go_simp; decide))) ?_
      (try simp only [zP, zN, zA, zB, zC])
      refine pu_ (v := .bool false) (y_pick (t := false) (by rfl) rfl (by rfl) (by rfl)) ?_
      (try simp only [zP, zN, zA, zB, zC])
      refine pu_ (v := .bool false) (y_move rfl (by rfl) (by rfl)) ?_
      (try simp only [zP, zN, zA, zB, zC])
      refine pu_ (v := .pointer (some ⟨x, 0, none⟩)) (y_move rfl (by rfl) (by rfl)) ?_
      (try simp only [zP, zN, zA, zB, zC])
      refine pu_ (v := .int .i64 s.id) (y_move rfl (by rfl) (by rfl)) ?_
      (try simp only [zP, zN, zA, zB, zC])
      refine ef_ (fun K358 hK358 => ?_)
      refine e_call Tryd.func11 (by kernel_rfl) rfl #[.pointer (some ⟨x, 0, none⟩), .int .i64 s.id, .int .i64 9] (by rfl) rfl rfl (by first | rfl | (simp only [List.map_toArray, List.map_cons, List.map_nil]; first | done | rfl)) ((by have h9 := turn_l (w0 := w) (id := s.id) (m := 9) EX.out (by rw [readS_len, readS_len]; have := HFN.out; omega) (by have := hk.out; have := hlt.out; have := hfew.out.1; omega) (by omega) HTB.out rfl C0.out.below0; rw [HTT.out.1, HTT.out.2] at h9; exact h9)) ?_
      rintro en w360 ⟨rfl, Bs359, bk, cc, bel⟩
      refine ⟨_, rfl, ?_⟩
      have hs361 := Lib.hid (show gq ∉ Bs359 from fun h9 => (bel _ h9).elim hs354.out (fun h8 => by have := Fgq.out.lt; omega))
      have hr362 := Lib.hid (show ∀ k_, k_ ∈ xb (.slice (some a) E.L.length zq) → k_ ∉ Bs359 from fun k_ hk_ hB_ => (bel k_ hB_).elim (hr355.out k_ hk_) (fun h8 => by have := SQ.out.lt (by decide) k_ hk_; omega))
      have hr363 := Lib.hid (show ∀ k_, k_ ∈ rl (.slice (some ⟨gv, 0, none⟩) E.L.length cg) → k_ ∉ Bs359 from fun k_ hk_ hB_ => (bel k_ hB_).elim (hr356.out k_ hk_) (fun h8 => by have := (OG.out.lt k_ hk_).2; omega))
      have C0' := Lib.hid (show Ch [] w w360 from C0.out.trans' cc (fun x hx => .inr (EX.out.lt x hx).1))
      have SQ' := Lib.hid (show SrcIs w360 (.slice (some a) E.L.length zq) (E.L.length) (E.L.flatMap sesC) 6 from SQ.out.chx cc hr355.out)
      have Fgq' := Lib.hid (show Blk w360 gq (#[.slice (some a) E.L.length zq, .int .i64 E.last]) 44 from cc.blk Fgq.out hs354.out)
      have OG' := Lib.hid (show OwnS w360 w.heap.size 4 1 (.slice (some ⟨gv, 0, none⟩) E.L.length cg) (E.L.length) ((E.L.map HS.op).flatMap boolC) from OG.out.ch cc hr356.out)
      clear C0 SQ Fgq OG
      have C0 := C0'; clear C0'
      have SQ := SQ'; clear SQ'
      have Fgq := Fgq'; clear Fgq'
      have OG := OG'; clear OG'
      clear EX cc bel
      have EX := Lib.hid (show ExIs w360 w.heap.size Bs359 x ((64 * k + 128 * i) + 64 + 64) (readS (readS F s.id 1000) s.id 1000) from bk)
      clear bk
      refine hK358 _ _ ?_; clear hK358 K358
      (try simp only [zP, zN, zA, zB, zC])
      refine pu_ (v := .bool false) (y_run (by rfl) (fun W => by first | (go_simp; done) | (go_simp; rfl) | (go_simp; decide))) ?_
      (try simp only [zP, zN, zA, zB, zC])
      refine pu_ (v := .bool false) (y_pick (t := false) (by rfl) rfl (by rfl) (by rfl)) ?_
      (try simp only [zP, zN, zA, zB, zC])
      refine nl_ (hK357 _ _ ?_); clear hK357 K357
      refine wp_cond_false rfl ?_
      refine wp_skip ?_
      refine ib_norm ?_
      refine th_norm (hK324 _ _ ?_); try clear hK324 K324
      refine r_ ?_
      refine pu_ (v := .int .i64 i) (y_move rfl (by rfl) (by rfl)) ?_
      (try simp only [zP, zN, zA, zB, zC])
      refine pu_ (v := .int .i64 (i + 1 : Nat)) (y_run (by rfl) (fun W => by have d := Wi.out; go_simp)) ?_
      (try simp only [zP, zN, zA, zB, zC])
      refine pu_ (v := .int .i64 (i + 1 : Nat)) (y_assign rfl (by rfl) (by rfl)) ?_
      (try simp only [zP, zN, zA, zB, zC])
      refine nl_ ?_
      exact th_norm (hK254 (kq - 1) _ _ (by have := hlt.out; have := hi.out; omega) ⟨i + 1, Bs359, readS (readS F s.id 1000) s.id 1000, fun us_ => (#[us 0, .int .i64 box, .int .i64 ctr, us 3, us 4, us 5, .bool false, .pointer (some ⟨x, 0, none⟩), .pointer (some ⟨gq, 0, none⟩), us 9, us 10, us 11, .slice (some ⟨gv, 0, none⟩) E.L.length cg, us 13, us 14, us 15, us 16, us 17, .int .i64 (i + 1 : Nat), .int .i64 s.id, .int .i64 t.box, .int .i64 t.ctr, .bool false, .int .i64 0, .int .i64 400, .string (readR (readS F s.id 1000) s.id 1000).1, .int .i64 400, us 27, us 28, us 29, us 30, us 31, us 32, us 33, us 34, us 35, us 36, us 37, us 38, us 39, us 40, us 41, us 42, us 43, us 44, us 45, us 46, us 47, us 48, us 49, us 50, us 51, us 52, us 53, us 54, us 55, us 56, us 57, us 58, us 59, us 60, us 61, us 62, us 63, us 64, us 65, us 66, us 67, us 68, us 69, us 70, us 71, us 72, us 73, us 74, us 75, us 76, us 77, us 78, us 79, us 80, us 81, us 82, us 83, us 84, us 85, us 86, us 87, us 88, us 89, us 90, us 91, us 92, us 93, us 94, us 95, us 96, us 97, us 98, us 99, us 100, us 101, us 102, us 103, us 104, us 105, us 106, us 107, us 108, us 109, us 110, us 111, us 112, us 113, us 114, us 115, us 116, us 117, us 118, us 119, .int .i64 i, .pointer (some ⟨gq, 0, none⟩), .slice (some a) E.L.length zq, .int .i64 E.L.length, .bool true, .bool true, .int .i64 i, .slice (some ⟨gv, 0, none⟩) E.L.length cg, .int .i64 E.L.length, .bool true, .bool true, .int .i64 i, .int .i64 (i + 1 : Nat), .pointer (some ⟨gq, 0, none⟩), .slice (some a) E.L.length zq, .int .i64 i, .pointer (some (a.add (i * 6))), .pointer (some ((a.add (i * 6)).add 0)), .int .i64 s.id, .tuple #[.int .i64 t.box, .int .i64 t.ctr, .bool false], .pointer (some ⟨x, 0, none⟩), .int .i64 s.id, .tuple #[.int .i64 t.box, .int .i64 t.ctr, .bool false], .int .i64 t.box, .int .i64 t.ctr, .bool false, .bool false, .slice (some ⟨gv, 0, none⟩) E.L.length cg, .int .i64 i, .pointer (some ⟨gv, i, none⟩), .bool true, .bool true, .pointer (some ⟨gq, 0, none⟩), .slice (some a) E.L.length zq, .int .i64 i, .pointer (some (a.add (i * 6))), .pointer (some ((a.add (i * 6)).add 1)), .int .i64 s.box, .int .i64 box, .bool false, .bool false, .pointer (some ⟨gq, 0, none⟩), .slice (some a) E.L.length zq, .int .i64 i, .pointer (some (a.add (i * 6))), .pointer (some ((a.add (i * 6)).add 2)), .int .i64 s.ctr, .int .i64 ctr, .bool false, .bool false, .bool false, .bool false, .bool false, .bool true, .tuple #[.int .i64 0, .int .i64 400], .pointer (some ⟨x, 0, none⟩), .int .i64 s.id, .tuple #[.int .i64 0, .int .i64 400], .int .i64 0, .int .i64 400, .pointer (some ⟨x, 0, none⟩), .int .i64 s.id, .tuple #[.string (readR F s.id 1000).1, .int .i64 (readR F s.id 1000).2], .tuple #[.string (readR (readS F s.id 1000) s.id 1000).1, .int .i64 400], .pointer (some ⟨x, 0, none⟩), .int .i64 s.id, .tuple #[.string (readR (readS F s.id 1000) s.id 1000).1, .int .i64 400], .string (readR (readS F s.id 1000) s.id 1000).1, .int .i64 400, .int .i64 400, .bool false, .bool false, .int .i64 400, .bool false, .bool false, .bool false, .pointer (some ⟨x, 0, none⟩), .int .i64 s.id, .int .i64 0, .bool false, .bool false] : Array Value).getD us_ undef, rfl, C0, Lib.hid (EX.out.up (by omega)), SQ, Fgq, OG, Lib.hid ⟨by have := hlt.out; omega, by have := hlt.out; have := hi.out; omega⟩, Lib.hid ((hlike.out.read s.id 1000).read s.id 1000), hr362, hs361, hr363⟩)
    · have D124 := Lib.hid (show ¬ (i : Int) < (E.L.length : Int) by omega)
      clear h
      refine s_ (fun K364 hK364 => ?_)
      refine pu_ (v := .int .i64 i) (y_move rfl (by rfl) (by rfl)) ?_
      (try simp only [zP, zN, zA, zB, zC])
      refine pu_ (v := .pointer (some ⟨gq, 0, none⟩)) (y_run (by rfl) (fun W => by go_simp)) ?_
      (try simp only [zP, zN, zA, zB, zC])
      refine ld_ (v := .slice qa E.L.length zq) rfl (by rfl) (by rfl) (run_load_one ((Fgq.out.cell 0).trans rfl) Tryd.underlying42 rfl) ?_
      (try simp only [zP, zN, zA, zB, zC])
      refine pu_ (v := .int .i64 E.L.length) (y_run (by rfl) (fun W => by go_simp)) ?_
      (try simp only [zP, zN, zA, zB, zC])
      refine pu_ (v := .bool false) (y_run (by rfl) (fun W => by have d := D124.out; go_simp)) ?_
      (try simp only [zP, zN, zA, zB, zC])
      refine pu_ (v := .bool false) (y_move rfl (by rfl) (by rfl)) ?_
      (try simp only [zP, zN, zA, zB, zC])
      refine pu_ (y_off (by rfl)) ?_
      (try simp only [zP, zN, zA, zB, zC])
      refine pu_ (y_off (by rfl)) ?_
      (try simp only [zP, zN, zA, zB, zC])
      refine pu_ (y_off (by rfl)) ?_
      (try simp only [zP, zN, zA, zB, zC])
      refine pu_ (y_off (by rfl)) ?_
      (try simp only [zP, zN, zA, zB, zC])
      refine pu_ (v := .bool false) (y_pick (t := false) (by rfl) rfl (by rfl) (by rfl)) ?_
      (try simp only [zP, zN, zA, zB, zC])
      refine nl_ (hK364 _ _ ?_); clear hK364 K364
      refine wp_cond_false rfl ?_
      refine wp_exit ?_
      refine th_exit ?_
      refine th_exit ?_
      refine ib_exit ?_
      refine th_norm (hK251 _ _ ?_); try clear hK251 K251
      refine s_ (fun K365 hK365 => ?_)
      refine pu_ (v := .bool true) (y_assign rfl (by rfl) (by rfl)) ?_
      (try simp only [zP, zN, zA, zB, zC])
      refine nl_ (hK365 _ _ ?_); clear hK365 K365
      refine wp_ret ?_
      refine hQ _ _ _ ?_
      refine bodyPost_ret (res1 rfl (rdv_tmp (v := .bool true) (by rfl))) rfl ?_
      exact ⟨rfl, C0.out⟩
end
end Go.Proofs.YtcfkdglaedpnjaaDoor.V
