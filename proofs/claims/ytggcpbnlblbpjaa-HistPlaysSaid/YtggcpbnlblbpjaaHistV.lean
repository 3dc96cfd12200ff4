/- The walk of the law HistPlays: a book and the document's book, side by side. -/
import Derived.Test.YtggcpbnlblbpjaaHistU
namespace Go.Proofs.Ytggcpbnlblbpjaa.L
open Go Go.RowKit Go.Proofs.Ytggcpbnlblbpjaa.K Go.Proofs.Ytggcpbnlblbpjaa.H Go.Proofs.YtggcpbnlblbpjaaW.PrintLast
set_option linter.unusedVariables false
set_option linter.unusedSimpArgs false
set_option maxRecDepth 100000
set_option maxHeartbeats 6400000
section
variable {w : World}
theorem plays (a0 : Option Addr) (len0 cap0 : Nat) (c n : Int) (HA0 : ActsR w a0 len0) (HK0 : okK (c, n)) : Calls Try.prog 4 #[.slice a0 len0 cap0, .int .i64 c, .int .i64 n] w fun en w' => en = .returned (.bool true) ∧ Ch [] w w' := by
  have C0 := Lib.hid (Ch.refl [] w)
  have HA := Lib.hid HA0
  have HKY := Lib.hid HK0
  clear HA0 HK0
  go_enter Try.func4, Try.ntmps4
  refine q_ (fun Q hQ hP => ?_)
  refine s_ (fun K1 hK1 => ?_)
  refine pu_ (v := .bool false) (y_assign rfl (by rfl) (by rfl)) ?_
  (try simp only [zP, zN, zA, zB, zC])
  refine nl_ (hK1 _ _ ?_); clear hK1 K1
  refine s_ (fun K2 hK2 => ?_)
  refine ef_ (fun K3 hK3 => ?_)
  refine e_call Try.func9 (by kernel_rfl) rfl #[] (by rfl) rfl rfl (by first | rfl | (simp only [List.map_toArray, List.map_cons, List.map_nil]; first | done | rfl)) ((new_l (lo := w.heap.size) C0.out.size)) ?_
  rintro en w4 ⟨b, B0, rfl, bk, cc⟩
  refine ⟨_, rfl, ?_⟩
  have C0' := Lib.hid (show Ch [] w w4 from C0.out.trans' cc (fun x hx => absurd hx (by simp)))
  clear C0
  have C0 := C0'; clear C0'
  have BF := Lib.hid (show BookL w4 w.heap.size B0 b (⟨0, [], []⟩) from bk)
  clear bk cc
  refine hK3 _ _ ?_; clear hK3 K3
  (try simp only [zP, zN, zA, zB, zC])
  refine pu_ (v := .pointer (some ⟨b, 0, none⟩)) (y_assign rfl (by rfl) (by rfl)) ?_
  (try simp only [zP, zN, zA, zB, zC])
  refine nl_ (hK2 _ _ ?_); clear hK2 K2
  refine sq_ (fun K5 hK5 => ?_)
  refine s_ (fun K6 hK6 => ?_)
  refine pu_ (v := .pointer (some ⟨b, 0, none⟩)) (y_move rfl (by rfl) (by rfl)) ?_
  (try simp only [zP, zN, zA, zB, zC])
  refine pu_ (v := .bool false) (y_run (by rfl) (fun W => by go_simp)) ?_
  (try simp only [zP, zN, zA, zB, zC])
  refine nl_ (hK6 _ _ ?_); clear hK6 K6
  refine wp_cond_false rfl ?_
  refine wp_skip ?_
  refine th_norm (hK5 _ _ ?_); try clear hK5 K5
  refine s_ (fun K7 hK7 => ?_)
  refine pu_ (v := .agg #[.int .i64 0, .slice none 0 0, .slice none 0 0]) (y_build (vs := #[]) (by rfl) rfl (by first | rfl | (simp only [List.map_toArray, List.map_cons, List.map_nil]; first | done | rfl)) (by kernel_rfl)) ?_
  (try simp only [zP, zN, zA, zB, zC])
  refine ef_ (fun K8 hK8 => ?_)
  refine e_alloc (by rfl) rfl rfl (cs := #[.int .i64 0, .slice none 0 0, .slice none 0 0]) (by kernel_rfl) ?_
  rintro gq w9 HG10 B11 C12
  have nw13 := Lib.hid (show w.heap.size ≤ gq by have := C0.out.size; have := HG10.out; omega)
  have hs14 := Lib.hid (show gq ∉ B0 from BF.out.ne_new HG10)
  have C0' := Lib.hid (show Ch [] w w9 from C0.out.trans' C12 (fun x hx => absurd hx (by simp)))
  have BF' := Lib.hid (show BookL w9 w.heap.size B0 b (⟨0, [], []⟩) from BF.out.ch C12 (fun _ _ h => absurd h (by simp)))
  clear C0 BF
  have C0 := C0'; clear C0'
  have BF := BF'; clear BF'
  have Fgq := Lib.hid (show Blk w9 gq (#[.int .i64 0, .slice none 0 0, .slice none 0 0]) 53 from B11); clear B11 C12
  refine hK8 _ _ ?_; clear hK8 K8
  (try simp only [zP, zN, zA, zB, zC])
  refine ef_ (fun K15 hK15 => ?_)
  refine e_storeN (cells := #[.int .i64 0, .slice none 0 0, .slice none 0 0]) (by rfl) rfl rfl (by rfl) (by rfl) Fgq.out (by kernel_rfl) (by rfl) (ones_cons rfl (ones_cons rfl (ones_cons rfl ones_nil))) ?_
  rintro w16 B17 C18
  have C0' := Lib.hid (show Ch [] w w16 from C0.out.trans' C18 (inw_cons (.inr nw13.out) inw_nil))
  have BF' := Lib.hid (show BookL w16 w.heap.size B0 b (⟨0, [], []⟩) from BF.out.ch C18 (fun k hk hm => (List.mem_cons.1 hm).elim (fun e => hs14.out (e ▸ hk)) (fun h => (fun _ _ h => absurd h (by simp)) k hk h)))
  clear C0 BF
  have C0 := C0'; clear C0'
  have BF := BF'; clear BF'
  clear Fgq; have Fgq := Lib.hid (show Blk w16 gq (#[.int .i64 0, .slice none 0 0, .slice none 0 0]) 53 from B17); clear B17 C18
  refine hK15 _ _ ?_; clear hK15 K15
  (try simp only [zP, zN, zA, zB, zC])
  refine nl_ (hK7 _ _ ?_); clear hK7 K7
  refine sq_ (fun K19 hK19 => ?_)
  refine s_ (fun K20 hK20 => ?_)
  refine pu_ (v := .int .i64 0) (y_assign rfl (by rfl) (by rfl)) ?_
  (try simp only [zP, zN, zA, zB, zC])
  refine nl_ (hK20 _ _ ?_); clear hK20 K20
  refine wp_block ?_
  have DF := Lib.hid (show DocIs w16 w.heap.size B0 ⟨0, [], []⟩ (.slice none 0 0) (.slice none 0 0) from ⟨OwnS.nil _ _ _ _ _, OwnS.nil _ _ _ _ _, fun k hk => absurd hk (by simp [rl]), fun k hk => absurd hk (by simp [rl]), fun k hk => (BF.out.lt k hk).2, C0.out.size⟩)
  refine loopk_ (fun (kq : Nat) (a' : Act) (w' : World) => ∃ (k : Nat), ∃ (Bs : List Nat), ∃ (S : HB), ∃ (v : Value), ∃ (u : Value), ∃ (us : Nat → Value), a' = ⟨#[.slice a0 len0 cap0, .int .i64 c, .int .i64 n, us 3, us 4, us 5, .bool false, .pointer (some ⟨b, 0, none⟩), .pointer (some ⟨gq, 0, none⟩), .int .i64 k, us 10, us 11, us 12, us 13, us 14, us 15, us 16, us 17, us 18, us 19, us 20, us 21, us 22, us 23, us 24, us 25, us 26, us 27, us 28, us 29, us 30, us 31, us 32, us 33, us 34, us 35, us 36, us 37, us 38, us 39, us 40, us 41, us 42, us 43, us 44, us 45, us 46, us 47, us 48, us 49, us 50, us 51, us 52, us 53, us 54, us 55, us 56, us 57, us 58, us 59, us 60, us 61, us 62, us 63, us 64, us 65, us 66, us 67, us 68, us 69, us 70, us 71, us 72, us 73, us 74, us 75, us 76, us 77, us 78, us 79, us 80, us 81, us 82, us 83, us 84, us 85, us 86, us 87, us 88, us 89, us 90, us 91, us 92, us 93, us 94, us 95, us 96, us 97, us 98, us 99, us 100, us 101, us 102, us 103, us 104, us 105, us 106, us 107, us 108, us 109, us 110, us 111, us 112, us 113, us 114, us 115, us 116, us 117, us 118, us 119, us 120, us 121, us 122, us 123, us 124, us 125, us 126, us 127, us 128, us 129, us 130, us 131, us 132, us 133, us 134, us 135, us 136, us 137, us 138, us 139, us 140, us 141, us 142, us 143, us 144, us 145, us 146, us 147, us 148, us 149, us 150, us 151, us 152, us 153, us 154, us 155, us 156, us 157, us 158, us 159, us 160, us 161, us 162, us 163, us 164, us 165, us 166, us 167, us 168, us 169, us 170, us 171, us 172, us 173, us 174, us 175, us 176, us 177, us 178, us 179, us 180, us 181, us 182, us 183, us 184, us 185, us 186, us 187, us 188, us 189, us 190, us 191, us 192, us 193, us 194, us 195, us 196, us 197, us 198, us 199, us 200, us 201, us 202, us 203, us 204, us 205, us 206, us 207], []⟩ ∧ Hid (Ch [] w w') ∧ Hid (BookL w' w.heap.size Bs b (S)) ∧ Hid (DocIs w' w.heap.size Bs (S) (v) (u)) ∧ Hid (Blk w' gq (#[.int .i64 S.now, v, u]) 53) ∧ Hid (k ≤ 80 ∧ k ≤ len0 ∧ kq + k = 80) ∧ Hid (TI S ∧ S.now ≤ k) ∧ Hid (AllOk w S) ∧ Hid (gq ∉ Bs)) (80) (⟨0, B0, ⟨0, [], []⟩, _, _, fun us_ => (#[.slice a0 len0 cap0, .int .i64 c, .int .i64 n, undef, undef, undef, .bool false, .pointer (some ⟨b, 0, none⟩), .pointer (some ⟨gq, 0, none⟩), .int .i64 0, undef, undef, undef, undef, undef, undef, undef, undef, undef, .pointer (some ⟨b, 0, none⟩), .pointer (some ⟨b, 0, none⟩), .bool false, .agg #[.int .i64 0, .slice none 0 0, .slice none 0 0], undef, undef, undef, undef, undef, undef, undef, undef, undef, undef, undef, undef, undef, undef, undef, undef, undef, undef, undef, undef, undef, undef, undef, undef, undef, undef, undef, undef, undef, undef, undef, undef, undef, undef, undef, undef, undef, undef, undef, undef, undef, undef, undef, undef, undef, undef, undef, undef, undef, undef, undef, undef, undef, undef, undef, undef, undef, undef, undef, undef, undef, undef, undef, undef, undef, undef, undef, undef, undef, undef, undef, undef, undef, undef, undef, undef, undef, undef, undef, undef, undef, undef, undef, undef, undef, undef, undef, undef, undef, undef, undef, undef, undef, undef, undef, undef, undef, undef, undef, undef, undef, undef, undef, undef, undef, undef, undef, undef, undef, undef, undef, undef, undef, undef, undef, undef, undef, undef, undef, undef, undef, undef, undef, undef, undef, undef, undef, undef, undef, undef, undef, undef, undef, undef, undef, undef, undef, undef, undef, undef, undef, undef, undef, undef, undef, undef, undef, undef, undef, undef, undef, undef, undef, undef, undef, undef, undef, undef, undef, undef, undef, undef, undef, undef, undef, undef, undef, undef, undef, undef, undef, undef, undef, undef, undef, undef, undef, undef, undef, undef, undef, undef, undef, undef, undef] : Array Value).getD us_ undef, rfl, C0, BF, DF, Fgq, Lib.hid ⟨by omega, by omega, rfl⟩, Lib.hid ⟨ti_new, Nat.le_refl _⟩, Lib.hid (all_new w), hs14⟩) ?_
  rintro kq _ w21 ⟨k, Bs, S, v, u, us, rfl, C0, BF, DF, QB, hk, ht, hok, hgq⟩ K22 hK22
  refine sq_ (fun K23 hK23 => ?_)
  rcases (show (k < len0 ∧ k < 80) ∨ (k < len0 ∧ k = 80) ∨ k = len0 by have := hk.out; omega) with h | h | h; obtain ⟨A, kz, cz, nz, mz, cl, r, hab, hact, hky, hsc, hsp⟩ := acts_r HA.out h.1; have hlt0 := h; clear h; cases r
  · have hlt := Lib.hid hlt0
    have D26 := Lib.hid (show k < len0 by have := hlt.out; omega)
    have D29 := Lib.hid (show decide ((k : Int) < 80) = true from decide_eq_true (by have := hlt.out; omega))
    have WA := Lib.hid (show IntKind.i64.wrap ((k : Int) + 1) = ((k + 1 : Nat) : Int) by rw [wr64 (by have := hlt.out; omega)]; omega)
    subst hab
    have HACT := Lib.hid (below_cells C0.out.below0 hact)
    have HKYA := Lib.hid hky
    have HSC := Lib.hid hsc
    have HSP := Lib.hid hsp
    have D35 := Lib.hid (show (k : Int) < (len0 : Int) by have := hlt.out; omega)
    have HS := Lib.hid (show S.now ≤ 1000 ∧ S.L.length ≤ 1000 by have := ht.out.1.len; have := ht.out.2; have := hk.out; omega)
    have HSI := Lib.hid (show S.now ≤ 1000 ∧ S.I.length ≤ 1000 by have := ht.out.1.len; have := ht.out.2; have := hk.out; omega)
    clear hact hky hsc hsp hlt0
    refine s_ (fun K24 hK24 => ?_)
    refine pu_ (v := .int .i64 k) (y_move rfl (by rfl) (by rfl)) ?_
    (try simp only [zP, zN, zA, zB, zC])
    refine pu_ (v := .slice (some A) len0 cap0) (y_move rfl (by rfl) (by rfl)) ?_
    (try simp only [zP, zN, zA, zB, zC])
    refine pu_ (v := .int .i64 len0) (y_run (by rfl) (fun W => by go_simp)) ?_
    (try simp only [zP, zN, zA, zB, zC])
    refine pu_ (v := .bool true) (y_run (by rfl) (fun W => by have d := D26.out; go_simp)) ?_
    (try simp only [zP, zN, zA, zB, zC])
    refine pu_ (v := .bool true) (y_move rfl (by rfl) (by rfl)) ?_
    (try simp only [zP, zN, zA, zB, zC])
    refine pu_ (v := .int .i64 k) (y_move rfl (by rfl) (by rfl)) ?_
    (try simp only [zP, zN, zA, zB, zC])
    refine pu_ (v := .bool true) (y_run (by rfl) (fun W => by have d := D29.out; go_simp)) ?_
    (try simp only [zP, zN, zA, zB, zC])
    refine pu_ (v := .bool true) (y_pick (t := true) (by rfl) rfl (by rfl) (by rfl)) ?_
    (try simp only [zP, zN, zA, zB, zC])
    refine nl_ (hK24 _ _ ?_); clear hK24 K24
    refine wp_cond_true rfl ?_
    refine wp_skip ?_
    refine th_norm (hK23 _ _ ?_); try clear hK23 K23
    refine sq_ (fun K25 hK25 => ?_)
    refine wp_block ?_
    refine s_ (fun K26 hK26 => ?_)
    refine pu_ (v := .slice (some A) len0 cap0) (y_move rfl (by rfl) (by rfl)) ?_
    (try simp only [zP, zN, zA, zB, zC])
    refine pu_ (v := .int .i64 k) (y_move rfl (by rfl) (by rfl)) ?_
    (try simp only [zP, zN, zA, zB, zC])
    refine pu_ (v := .pointer (some (A.add (k * 20)))) (y_run (by rfl) (fun W => by have d := D35.out; go_simp)) ?_
    (try simp only [zP, zN, zA, zB, zC])
    refine ld_ (v := .agg (actA kz cz nz mz cl)) rfl (by rfl) (by rfl) (run_loadVar_at HACT.out Try.underlying34 rfl (by rw [List.length_cons, List.length_cons, List.length_cons, List.length_cons, cl.2.1]; kernel_rfl)) ?_
    (try simp only [zP, zN, zA, zB, zC])
    refine ef_ (fun K27 hK27 => ?_)
    refine e_alloc (by rfl) rfl rfl (cs := #[.int .i64 0, .int .i64 0, .int .i64 0, .int .i64 0, .int .i64 0, .int .i64 0, .int .u64 0, .string ⟨#[]⟩, .slice none 0 0, .slice none 0 0, .slice none 0 0, .int .i64 0, .int .i64 0, .int .i64 0, .int .i64 0, .int .i64 0, .int .i64 0, .int .i64 0, .string ⟨#[]⟩, .slice none 0 0]) (by kernel_rfl) ?_
    rintro g28 w29 HG30 B31 C32
    have nw33 := Lib.hid (show w.heap.size ≤ g28 by have := C0.out.size; have := HG30.out; omega)
    have hs34 := Lib.hid (show g28 ∉ Bs from BF.out.ne_new HG30)
    have C0' := Lib.hid (show Ch [] w w29 from C0.out.trans' C32 (fun x hx => absurd hx (by simp)))
    have BF' := Lib.hid (show BookL w29 w.heap.size Bs b (S) from BF.out.ch C32 (fun _ _ h => absurd h (by simp)))
    have DF' := Lib.hid (show DocIs w29 w.heap.size Bs (S) (v) (u) from DF.out.ch0 C32)
    have QB' := Lib.hid (show Blk w29 gq (#[.int .i64 S.now, v, u]) 53 from C32.blk QB.out nin_nil)
    clear C0 BF DF QB
    have C0 := C0'; clear C0'
    have BF := BF'; clear BF'
    have DF := DF'; clear DF'
    have QB := QB'; clear QB'
    have Fg28 := Lib.hid (show Blk w29 g28 (#[.int .i64 0, .int .i64 0, .int .i64 0, .int .i64 0, .int .i64 0, .int .i64 0, .int .u64 0, .string ⟨#[]⟩, .slice none 0 0, .slice none 0 0, .slice none 0 0, .int .i64 0, .int .i64 0, .int .i64 0, .int .i64 0, .int .i64 0, .int .i64 0, .int .i64 0, .string ⟨#[]⟩, .slice none 0 0]) 34 from B31); clear B31 C32
    refine hK27 _ _ ?_; clear hK27 K27
    (try simp only [zP, zN, zA, zB, zC])
    refine ef_ (fun K35 hK35 => ?_)
    refine e_storeN (cells := actA kz cz nz mz cl) (by rfl) rfl rfl (by rfl) (by rfl) Fg28.out (sz34 kz cz nz mz cl) (by rw [actA_size]; rfl) (actA_one kz cz nz mz cl) ?_
    rintro w36 B37 C38
    have C0' := Lib.hid (show Ch [] w w36 from C0.out.trans' C38 (inw_cons (.inr nw33.out) inw_nil))
    have BF' := Lib.hid (show BookL w36 w.heap.size Bs b (S) from BF.out.ch C38 (fun k hk hm => (List.mem_cons.1 hm).elim (fun e => hs34.out (e ▸ hk)) (fun h => (fun _ _ h => absurd h (by simp)) k hk h)))
    have DF' := Lib.hid (show DocIs w36 w.heap.size Bs (S) (v) (u) from DF.out.ch C38 (rnin_cons (OwnS.ne DF.out.1 Fg28.out (by decide)) rnin_nil) (rnin_cons (OwnS.ne DF.out.2.1 Fg28.out (by decide)) rnin_nil))
    have QB' := Lib.hid (show Blk w36 gq (#[.int .i64 S.now, v, u]) 53 from C38.blk QB.out (nin_cons (Blk.ne_type QB.out Fg28.out (by decide)) nin_nil))
    clear C0 BF DF QB
    have C0 := C0'; clear C0'
    have BF := BF'; clear BF'
    have DF := DF'; clear DF'
    have QB := QB'; clear QB'
    clear Fg28; have Fg28 := Lib.hid (show Blk w36 g28 (actA kz cz nz mz cl) 34 from B37); clear B37 C38
    refine hK35 _ _ ?_; clear hK35 K35
    (try simp only [zP, zN, zA, zB, zC])
    refine nl_ (hK26 _ _ ?_); clear hK26 K26
    refine sq_ (fun K39 hK39 => ?_)
    refine s_ (fun K40 hK40 => ?_)
    refine pu_ (v := .pointer (some ⟨g28, 4, none⟩)) (y_run (by rfl) (fun W => by go_simp)) ?_
    (try simp only [zP, zN, zA, zB, zC])
    refine pu_ (v := .pointer (some ⟨g28, 7, none⟩)) (y_run (by rfl) (fun W => by go_simp)) ?_
    (try simp only [zP, zN, zA, zB, zC])
    refine ld_ (v := .agg (spc cl).toArray) rfl (by rfl) (by rfl) (run_loadVar_at (act_spec Fg28.out) Try.underlying30 rfl (by rw [spc_len]; kernel_rfl)) ?_
    (try simp only [zP, zN, zA, zB, zC])
    refine ef_ (fun K41 hK41 => ?_)
    refine e_call Try.func17 (by kernel_rfl) rfl #[.agg (spc cl).toArray] (by rfl) rfl rfl (by first | rfl | (simp only [List.map_toArray, List.map_cons, List.map_nil]; first | done | rfl)) ((HSP.out _ C0.out.below0)) ?_
    rintro en w43 ⟨rfl, cc42⟩
    refine ⟨_, rfl, ?_⟩
    have C0' := Lib.hid (show Ch [] w w43 from C0.out.trans' cc42 (fun x hx => absurd hx (by simp)))
    have BF' := Lib.hid (show BookL w43 w.heap.size Bs b (S) from BF.out.ch cc42 (fun _ _ h => absurd h (by simp)))
    have DF' := Lib.hid (show DocIs w43 w.heap.size Bs (S) (v) (u) from DF.out.ch0 cc42)
    have QB' := Lib.hid (show Blk w43 gq (#[.int .i64 S.now, v, u]) 53 from cc42.blk QB.out nin_nil)
    have Fg28' := Lib.hid (show Blk w43 g28 (actA kz cz nz mz cl) 34 from cc42.blk Fg28.out nin_nil)
    clear C0 BF DF QB Fg28
    have C0 := C0'; clear C0'
    have BF := BF'; clear BF'
    have DF := DF'; clear DF'
    have QB := QB'; clear QB'
    have Fg28 := Fg28'; clear Fg28'
    clear cc42
    refine hK41 _ _ ?_; clear hK41 K41
    (try simp only [zP, zN, zA, zB, zC])
    refine pu_ (v := .bool true) (y_run (by rfl) (fun W => by go_simp)) ?_
    (try simp only [zP, zN, zA, zB, zC])
    refine nl_ (hK40 _ _ ?_); clear hK40 K40
    refine wp_cond_true rfl ?_
    refine s_ (fun K44 hK44 => ?_)
    refine ef_ (fun K45 hK45 => ?_)
    refine e_call Try.func8 (by kernel_rfl) rfl #[] (by rfl) rfl rfl (by first | rfl | (simp only [List.map_toArray, List.map_cons, List.map_nil]; first | done | rfl)) (works8 _) ?_
    rintro en w47 ⟨rfl, cc46⟩
    refine ⟨_, rfl, ?_⟩
    have C0' := Lib.hid (show Ch [] w w47 from C0.out.trans' cc46 (fun x hx => absurd hx (by simp)))
    have BF' := Lib.hid (show BookL w47 w.heap.size Bs b (S) from BF.out.ch cc46 (fun _ _ h => absurd h (by simp)))
    have DF' := Lib.hid (show DocIs w47 w.heap.size Bs (S) (v) (u) from DF.out.ch0 cc46)
    have QB' := Lib.hid (show Blk w47 gq (#[.int .i64 S.now, v, u]) 53 from cc46.blk QB.out nin_nil)
    have Fg28' := Lib.hid (show Blk w47 g28 (actA kz cz nz mz cl) 34 from cc46.blk Fg28.out nin_nil)
    clear C0 BF DF QB Fg28
    have C0 := C0'; clear C0'
    have BF := BF'; clear BF'
    have DF := DF'; clear DF'
    have QB := QB'; clear QB'
    have Fg28 := Fg28'; clear Fg28'
    clear cc46
    refine hK45 _ _ ?_; clear hK45 K45
    (try simp only [zP, zN, zA, zB, zC])
    refine pu_ (v := .bool true) (y_assign rfl (by rfl) (by rfl)) ?_
    (try simp only [zP, zN, zA, zB, zC])
    refine nl_ (hK44 _ _ ?_); clear hK44 K44
    refine wp_ret ?_
    refine th_ret ?_
    refine ib_ret ?_
    refine th_ret ?_
    refine th_ret ?_
    refine ib_ret ?_
    refine th_ret ?_
    refine hQ _ _ _ ?_
    refine bodyPost_ret (res1 rfl (rdv_tmp (v := .bool true) (by rfl))) rfl ?_
    exact ⟨rfl, C0.out⟩
  · have hlt := Lib.hid hlt0
    have D26 := Lib.hid (show k < len0 by have := hlt.out; omega)
    have D29 := Lib.hid (show decide ((k : Int) < 80) = true from decide_eq_true (by have := hlt.out; omega))
    have WA := Lib.hid (show IntKind.i64.wrap ((k : Int) + 1) = ((k + 1 : Nat) : Int) by rw [wr64 (by have := hlt.out; omega)]; omega)
    subst hab
    have HACT := Lib.hid (below_cells C0.out.below0 hact)
    have HKYA := Lib.hid hky
    have HSC := Lib.hid hsc
    have HSP := Lib.hid hsp
    have D35 := Lib.hid (show (k : Int) < (len0 : Int) by have := hlt.out; omega)
    have HS := Lib.hid (show S.now ≤ 1000 ∧ S.L.length ≤ 1000 by have := ht.out.1.len; have := ht.out.2; have := hk.out; omega)
    have HSI := Lib.hid (show S.now ≤ 1000 ∧ S.I.length ≤ 1000 by have := ht.out.1.len; have := ht.out.2; have := hk.out; omega)
    clear hact hky hsc hsp hlt0
    refine s_ (fun K48 hK48 => ?_)
    refine pu_ (v := .int .i64 k) (y_move rfl (by rfl) (by rfl)) ?_
    (try simp only [zP, zN, zA, zB, zC])
    refine pu_ (v := .slice (some A) len0 cap0) (y_move rfl (by rfl) (by rfl)) ?_
    (try simp only [zP, zN, zA, zB, zC])
    refine pu_ (v := .int .i64 len0) (y_run (by rfl) (fun W => by go_simp)) ?_
    (try simp only [zP, zN, zA, zB, zC])
    refine pu_ (v := .bool true) (y_run (by rfl) (fun W => by have d := D26.out; go_simp)) ?_
    (try simp only [zP, zN, zA, zB, zC])
    refine pu_ (v := .bool true) (y_move rfl (by rfl) (by rfl)) ?_
    (try simp only [zP, zN, zA, zB, zC])
    refine pu_ (v := .int .i64 k) (y_move rfl (by rfl) (by rfl)) ?_
    (try simp only [zP, zN, zA, zB, zC])
    refine pu_ (v := .bool true) (y_run (by rfl) (fun W => by have d := D29.out; go_simp)) ?_
    (try simp only [zP, zN, zA, zB, zC])
    refine pu_ (v := .bool true) (y_pick (t := true) (by rfl) rfl (by rfl) (by rfl)) ?_
    (try simp only [zP, zN, zA, zB, zC])
    refine nl_ (hK48 _ _ ?_); clear hK48 K48
    refine wp_cond_true rfl ?_
    refine wp_skip ?_
    refine th_norm (hK23 _ _ ?_); try clear hK23 K23
    refine sq_ (fun K49 hK49 => ?_)
    refine wp_block ?_
    refine s_ (fun K50 hK50 => ?_)
    refine pu_ (v := .slice (some A) len0 cap0) (y_move rfl (by rfl) (by rfl)) ?_
    (try simp only [zP, zN, zA, zB, zC])
    refine pu_ (v := .int .i64 k) (y_move rfl (by rfl) (by rfl)) ?_
    (try simp only [zP, zN, zA, zB, zC])
    refine pu_ (v := .pointer (some (A.add (k * 20)))) (y_run (by rfl) (fun W => by have d := D35.out; go_simp)) ?_
    (try simp only [zP, zN, zA, zB, zC])
    refine ld_ (v := .agg (actA kz cz nz mz cl)) rfl (by rfl) (by rfl) (run_loadVar_at HACT.out Try.underlying34 rfl (by rw [List.length_cons, List.length_cons, List.length_cons, List.length_cons, cl.2.1]; kernel_rfl)) ?_
    (try simp only [zP, zN, zA, zB, zC])
    refine ef_ (fun K51 hK51 => ?_)
    refine e_alloc (by rfl) rfl rfl (cs := #[.int .i64 0, .int .i64 0, .int .i64 0, .int .i64 0, .int .i64 0, .int .i64 0, .int .u64 0, .string ⟨#[]⟩, .slice none 0 0, .slice none 0 0, .slice none 0 0, .int .i64 0, .int .i64 0, .int .i64 0, .int .i64 0, .int .i64 0, .int .i64 0, .int .i64 0, .string ⟨#[]⟩, .slice none 0 0]) (by kernel_rfl) ?_
    rintro g52 w53 HG54 B55 C56
    have nw57 := Lib.hid (show w.heap.size ≤ g52 by have := C0.out.size; have := HG54.out; omega)
    have hs58 := Lib.hid (show g52 ∉ Bs from BF.out.ne_new HG54)
    have C0' := Lib.hid (show Ch [] w w53 from C0.out.trans' C56 (fun x hx => absurd hx (by simp)))
    have BF' := Lib.hid (show BookL w53 w.heap.size Bs b (S) from BF.out.ch C56 (fun _ _ h => absurd h (by simp)))
    have DF' := Lib.hid (show DocIs w53 w.heap.size Bs (S) (v) (u) from DF.out.ch0 C56)
    have QB' := Lib.hid (show Blk w53 gq (#[.int .i64 S.now, v, u]) 53 from C56.blk QB.out nin_nil)
    clear C0 BF DF QB
    have C0 := C0'; clear C0'
    have BF := BF'; clear BF'
    have DF := DF'; clear DF'
    have QB := QB'; clear QB'
    have Fg52 := Lib.hid (show Blk w53 g52 (#[.int .i64 0, .int .i64 0, .int .i64 0, .int .i64 0, .int .i64 0, .int .i64 0, .int .u64 0, .string ⟨#[]⟩, .slice none 0 0, .slice none 0 0, .slice none 0 0, .int .i64 0, .int .i64 0, .int .i64 0, .int .i64 0, .int .i64 0, .int .i64 0, .int .i64 0, .string ⟨#[]⟩, .slice none 0 0]) 34 from B55); clear B55 C56
    refine hK51 _ _ ?_; clear hK51 K51
    (try simp only [zP, zN, zA, zB, zC])
    refine ef_ (fun K59 hK59 => ?_)
    refine e_storeN (cells := actA kz cz nz mz cl) (by rfl) rfl rfl (by rfl) (by rfl) Fg52.out (sz34 kz cz nz mz cl) (by rw [actA_size]; rfl) (actA_one kz cz nz mz cl) ?_
    rintro w60 B61 C62
    have C0' := Lib.hid (show Ch [] w w60 from C0.out.trans' C62 (inw_cons (.inr nw57.out) inw_nil))
    have BF' := Lib.hid (show BookL w60 w.heap.size Bs b (S) from BF.out.ch C62 (fun k hk hm => (List.mem_cons.1 hm).elim (fun e => hs58.out (e ▸ hk)) (fun h => (fun _ _ h => absurd h (by simp)) k hk h)))
    have DF' := Lib.hid (show DocIs w60 w.heap.size Bs (S) (v) (u) from DF.out.ch C62 (rnin_cons (OwnS.ne DF.out.1 Fg52.out (by decide)) rnin_nil) (rnin_cons (OwnS.ne DF.out.2.1 Fg52.out (by decide)) rnin_nil))
    have QB' := Lib.hid (show Blk w60 gq (#[.int .i64 S.now, v, u]) 53 from C62.blk QB.out (nin_cons (Blk.ne_type QB.out Fg52.out (by decide)) nin_nil))
    clear C0 BF DF QB
    have C0 := C0'; clear C0'
    have BF := BF'; clear BF'
    have DF := DF'; clear DF'
    have QB := QB'; clear QB'
    clear Fg52; have Fg52 := Lib.hid (show Blk w60 g52 (actA kz cz nz mz cl) 34 from B61); clear B61 C62
    refine hK59 _ _ ?_; clear hK59 K59
    (try simp only [zP, zN, zA, zB, zC])
    refine nl_ (hK50 _ _ ?_); clear hK50 K50
    refine sq_ (fun K63 hK63 => ?_)
    refine s_ (fun K64 hK64 => ?_)
    refine pu_ (v := .pointer (some ⟨g52, 4, none⟩)) (y_run (by rfl) (fun W => by go_simp)) ?_
    (try simp only [zP, zN, zA, zB, zC])
    refine pu_ (v := .pointer (some ⟨g52, 7, none⟩)) (y_run (by rfl) (fun W => by go_simp)) ?_
    (try simp only [zP, zN, zA, zB, zC])
    refine ld_ (v := .agg (spc cl).toArray) rfl (by rfl) (by rfl) (run_loadVar_at (act_spec Fg52.out) Try.underlying30 rfl (by rw [spc_len]; kernel_rfl)) ?_
    (try simp only [zP, zN, zA, zB, zC])
    refine ef_ (fun K65 hK65 => ?_)
    refine e_call Try.func17 (by kernel_rfl) rfl #[.agg (spc cl).toArray] (by rfl) rfl rfl (by first | rfl | (simp only [List.map_toArray, List.map_cons, List.map_nil]; first | done | rfl)) ((HSP.out _ C0.out.below0)) ?_
    rintro en w67 ⟨rfl, cc66⟩
    refine ⟨_, rfl, ?_⟩
    have C0' := Lib.hid (show Ch [] w w67 from C0.out.trans' cc66 (fun x hx => absurd hx (by simp)))
    have BF' := Lib.hid (show BookL w67 w.heap.size Bs b (S) from BF.out.ch cc66 (fun _ _ h => absurd h (by simp)))
    have DF' := Lib.hid (show DocIs w67 w.heap.size Bs (S) (v) (u) from DF.out.ch0 cc66)
    have QB' := Lib.hid (show Blk w67 gq (#[.int .i64 S.now, v, u]) 53 from cc66.blk QB.out nin_nil)
    have Fg52' := Lib.hid (show Blk w67 g52 (actA kz cz nz mz cl) 34 from cc66.blk Fg52.out nin_nil)
    clear C0 BF DF QB Fg52
    have C0 := C0'; clear C0'
    have BF := BF'; clear BF'
    have DF := DF'; clear DF'
    have QB := QB'; clear QB'
    have Fg52 := Fg52'; clear Fg52'
    clear cc66
    refine hK65 _ _ ?_; clear hK65 K65
    (try simp only [zP, zN, zA, zB, zC])
    refine pu_ (v := .bool false) (y_run (by rfl) (fun W => by go_simp)) ?_
    (try simp only [zP, zN, zA, zB, zC])
    refine nl_ (hK64 _ _ ?_); clear hK64 K64
    refine wp_cond_false rfl ?_
    refine wp_skip ?_
    refine th_norm (hK63 _ _ ?_); try clear hK63 K63
    refine s_ (fun K68 hK68 => ?_)
    refine pu_ (v := .int .i64 0) (y_assign rfl (by rfl) (by rfl)) ?_
    (try simp only [zP, zN, zA, zB, zC])
    refine pu_ (v := .int .i64 0) (y_assign rfl (by rfl) (by rfl)) ?_
    (try simp only [zP, zN, zA, zB, zC])
    refine pu_ (v := .int .i64 0) (y_assign rfl (by rfl) (by rfl)) ?_
    (try simp only [zP, zN, zA, zB, zC])
    refine nl_ (hK68 _ _ ?_); clear hK68 K68
    refine cutk_ (fun (a' : Act) (w' : World) => ∃ (Bs1 : List Nat), ∃ (S1 : HB), ∃ (v1 : Value), ∃ (u1 : Value), ∃ (rn : Nat), ∃ (rc : Int), ∃ (us : Nat → Value), a' = ⟨#[.slice (some A) len0 cap0, .int .i64 c, .int .i64 n, us 3, us 4, us 5, .bool false, .pointer (some ⟨b, 0, none⟩), .pointer (some ⟨gq, 0, none⟩), .int .i64 k, us 10, .int .i64 rn, .int .i64 rc, .int .i64 rc, us 14, us 15, us 16, us 17, us 18, us 19, us 20, us 21, us 22, us 23, us 24, us 25, us 26, us 27, us 28, us 29, us 30, us 31, us 32, us 33, us 34, us 35, us 36, us 37, us 38, us 39, us 40, us 41, us 42, us 43, us 44, us 45, us 46, us 47, us 48, us 49, us 50, us 51, us 52, us 53, us 54, us 55, us 56, us 57, us 58, us 59, us 60, us 61, us 62, us 63, us 64, us 65, us 66, us 67, us 68, us 69, us 70, us 71, us 72, us 73, us 74, us 75, us 76, us 77, us 78, us 79, us 80, us 81, us 82, us 83, us 84, us 85, us 86, us 87, us 88, us 89, us 90, us 91, us 92, us 93, us 94, us 95, us 96, us 97, us 98, us 99, us 100, us 101, us 102, us 103, us 104, us 105, us 106, us 107, us 108, us 109, us 110, us 111, us 112, us 113, us 114, us 115, us 116, us 117, us 118, us 119, us 120, us 121, us 122, us 123, us 124, us 125, us 126, us 127, us 128, us 129, us 130, us 131, us 132, us 133, us 134, us 135, us 136, us 137, us 138, us 139, us 140, us 141, us 142, us 143, us 144, us 145, us 146, us 147, us 148, us 149, us 150, us 151, us 152, us 153, us 154, us 155, us 156, us 157, us 158, us 159, us 160, us 161, us 162, us 163, us 164, us 165, us 166, us 167, us 168, us 169, us 170, us 171, us 172, us 173, us 174, us 175, us 176, us 177, us 178, us 179, us 180, us 181, us 182, us 183, us 184, us 185, us 186, us 187, us 188, us 189, us 190, us 191, us 192, us 193, us 194, us 195, us 196, us 197, us 198, us 199, us 200, us 201, us 202, us 203, us 204, us 205, us 206, us 207], []⟩ ∧ Hid (Ch [] w w') ∧ Hid (BookL w' w.heap.size Bs1 b (S1)) ∧ Hid (DocIs w' w.heap.size Bs1 (S1) (v1) (u1)) ∧ Hid (Blk w' gq (#[.int .i64 S1.now, v1, u1]) 53) ∧ Hid (TI S1 ∧ S1.now ≤ k + 1) ∧ Hid (AllOk w S1) ∧ Hid (Ans S1 rn rc) ∧ Hid (gq ∉ Bs1)) (fun K69 hK69 => ?_) ?_
    · rcases kinds4 kz with h | h | h | h
      · have hz := h; subst hz
        have D50 := Lib.hid (show ((0 : Int) == 0) = true from by rfl)
        skip
        have HT2 := Lib.hid (show TI (askS S cz nz) ∧ (askS S cz nz).now ≤ k + 1 from ⟨ti_ask ht.out.1 cz nz, Nat.le_trans (now_ask S cz nz) (Nat.succ_le_succ ht.out.2)⟩)
        have HOK2 := Lib.hid (show AllOk w (askS S cz nz) from all_ask hok.out cz nz)
        refine s_ (fun K71 hK71 => ?_)
        refine pu_ (v := .pointer (some ⟨g52, 0, none⟩)) (y_run (by rfl) (fun W => by go_simp)) ?_
        (try simp only [zP, zN, zA, zB, zC])
        refine ld_ (v := .int .i64 (0 : Int)) rfl (by rfl) (by rfl) (run_load_one ((Fg52.out.cell 0).trans (by simp [actA])) Try.underlying3 rfl) ?_
        (try simp only [zP, zN, zA, zB, zC])
        refine nl_ (hK71 _ _ ?_); clear hK71 K71
        refine wp_block ?_
        refine s_ (fun K72 hK72 => ?_)
        refine pu_ (v := .bool true) (y_run (by rfl) (fun W => by have d := D50.out; go_simp)) ?_
        (try simp only [zP, zN, zA, zB, zC])
        refine pu_ (v := .bool true) (y_assign rfl (by rfl) (by rfl)) ?_
        (try simp only [zP, zN, zA, zB, zC])
        refine nl_ (hK72 _ _ ?_); clear hK72 K72
        refine wp_cond_true rfl ?_
        refine s_ (fun K73 hK73 => ?_)
        refine pu_ (v := .pointer (some ⟨b, 0, none⟩)) (y_move rfl (by rfl) (by rfl)) ?_
        (try simp only [zP, zN, zA, zB, zC])
        refine pu_ (v := .pointer (some ⟨g52, 1, none⟩)) (y_run (by rfl) (fun W => by go_simp)) ?_
        (try simp only [zP, zN, zA, zB, zC])
        refine ld_ (v := .int .i64 cz) rfl (by rfl) (by rfl) (run_load_one ((Fg52.out.cell 1).trans (by simp [actA])) Try.underlying3 rfl) ?_
        (try simp only [zP, zN, zA, zB, zC])
        refine pu_ (v := .pointer (some ⟨g52, 2, none⟩)) (y_run (by rfl) (fun W => by go_simp)) ?_
        (try simp only [zP, zN, zA, zB, zC])
        refine ld_ (v := .int .i64 nz) rfl (by rfl) (by rfl) (run_load_one ((Fg52.out.cell 2).trans (by simp [actA])) Try.underlying3 rfl) ?_
        (try simp only [zP, zN, zA, zB, zC])
        refine ef_ (fun K74 hK74 => ?_)
        refine e_call Try.func10 (by kernel_rfl) rfl #[.pointer (some ⟨b, 0, none⟩), .int .i64 cz, .int .i64 nz] (by rfl) rfl rfl (by first | rfl | (simp only [List.map_toArray, List.map_cons, List.map_nil]; first | done | rfl)) ((ask_l (c := cz) (n := nz) BF.out HKYA.out HS.out C0.out.size)) ?_
        rintro en w76 ⟨rfl, Bs75, bk, cc, bel⟩
        refine ⟨_, rfl, ?_⟩
        have hs77 := Lib.hid (show gq ∉ Bs75 from fun h9 => (bel _ h9).elim hgq.out (fun h8 => by have := QB.out.lt; omega))
        have hs78 := Lib.hid (show g52 ∉ Bs75 from fun h9 => (bel _ h9).elim hs58.out (fun h8 => by have := Fg52.out.lt; omega))
        have C0' := Lib.hid (show Ch [] w w76 from C0.out.trans' cc (fun x hx => .inr (BF.out.lt x hx).1))
        have QB' := Lib.hid (show Blk w76 gq (#[.int .i64 S.now, v, u]) 53 from cc.blk QB.out hgq.out)
        have Fg52' := Lib.hid (show Blk w76 g52 (actA ((0 : Int)) cz nz mz cl) 34 from cc.blk Fg52.out hs58.out)
        clear C0 QB Fg52
        have C0 := C0'; clear C0'
        have QB := QB'; clear QB'
        have Fg52 := Fg52'; clear Fg52'
        have DF' := Lib.hid (show DocIs w76 w.heap.size Bs75 (S) (v) (u) from DF.out.step cc bel (fun k hk => (bk.lt k hk).2))
        clear BF DF cc bel
        have DF := DF'
        clear DF'
        have BF := Lib.hid (show BookL w76 w.heap.size Bs75 b (askS S cz nz) from bk)
        clear bk
        refine hK74 _ _ ?_; clear hK74 K74
        (try simp only [zP, zN, zA, zB, zC])
        refine pu_ (v := .tuple #[.int .i64 (askR S cz nz).1, .int .i64 (askR S cz nz).2]) (y_move rfl (by rfl) (by rfl)) ?_
        (try simp only [zP, zN, zA, zB, zC])
        refine pu_ (v := .int .i64 (askR S cz nz).1) (y_run (by rfl) (fun W => by go_simp)) ?_
        (try simp only [zP, zN, zA, zB, zC])
        refine pu_ (v := .int .i64 (askR S cz nz).2) (y_run (by rfl) (fun W => by go_simp)) ?_
        (try simp only [zP, zN, zA, zB, zC])
        refine pu_ (v := .int .i64 (askR S cz nz).1) (y_assign rfl (by rfl) (by rfl)) ?_
        (try simp only [zP, zN, zA, zB, zC])
        refine pu_ (v := .int .i64 (askR S cz nz).2) (y_assign rfl (by rfl) (by rfl)) ?_
        (try simp only [zP, zN, zA, zB, zC])
        refine nl_ (hK73 _ _ ?_); clear hK73 K73
        refine r_ ?_
        refine ld_ (v := .agg (#[.int .i64 S.now, v, u])) rfl (by rfl) (by rfl) (run_loadVar_row _ _ 53 53 (#[.int .i64 S.now, v, u]) (0, 0) _ QB.out Try.underlying53 rfl (by kernel_rfl)) ?_
        (try simp only [zP, zN, zA, zB, zC])
        refine pu_ (v := .pointer (some ⟨g52, 1, none⟩)) (y_run (by rfl) (fun W => by go_simp)) ?_
        (try simp only [zP, zN, zA, zB, zC])
        refine ld_ (v := .int .i64 cz) rfl (by rfl) (by rfl) (run_load_one ((Fg52.out.cell 1).trans (by simp [actA])) Try.underlying3 rfl) ?_
        (try simp only [zP, zN, zA, zB, zC])
        refine pu_ (v := .pointer (some ⟨g52, 2, none⟩)) (y_run (by rfl) (fun W => by go_simp)) ?_
        (try simp only [zP, zN, zA, zB, zC])
        refine ld_ (v := .int .i64 nz) rfl (by rfl) (by rfl) (run_load_one ((Fg52.out.cell 2).trans (by simp [actA])) Try.underlying3 rfl) ?_
        (try simp only [zP, zN, zA, zB, zC])
        refine ef_ (fun K79 hK79 => ?_)
        refine e_call Try.func18 (by kernel_rfl) rfl #[.agg (#[.int .i64 S.now, v, u]), .int .i64 cz, .int .i64 nz] (by rfl) rfl rfl (by first | rfl | (simp only [List.map_toArray, List.map_cons, List.map_nil]; first | done | rfl)) ((rask_all (c := cz) (n := nz) DF.out HS.out)) ?_
        rintro en w82 ⟨v80, u81, rfl, dk, cc⟩
        refine ⟨_, rfl, ?_⟩
        have C0' := Lib.hid (show Ch [] w w82 from C0.out.trans' cc (fun x hx => absurd hx (by simp)))
        have BF' := Lib.hid (show BookL w82 w.heap.size Bs75 b (askS S cz nz) from BF.out.ch cc (fun _ _ h => absurd h (by simp)))
        have QB' := Lib.hid (show Blk w82 gq (#[.int .i64 S.now, v, u]) 53 from cc.blk QB.out nin_nil)
        have Fg52' := Lib.hid (show Blk w82 g52 (actA ((0 : Int)) cz nz mz cl) 34 from cc.blk Fg52.out nin_nil)
        clear C0 BF QB Fg52
        have C0 := C0'; clear C0'
        have BF := BF'; clear BF'
        have QB := QB'; clear QB'
        have Fg52 := Fg52'; clear Fg52'
        clear DF cc
        have DF := Lib.hid (show DocIs w82 w.heap.size Bs75 (askS S cz nz) (v80) (u81) from dk)
        clear dk
        refine hK79 _ _ ?_; clear hK79 K79
        (try simp only [zP, zN, zA, zB, zC])
        refine pu_ (v := .tuple #[.agg #[.int .i64 (askS S cz nz).now, v80, u81], .int .i64 (askR S cz nz).2]) (y_move rfl (by rfl) (by rfl)) ?_
        (try simp only [zP, zN, zA, zB, zC])
        refine pu_ (v := .agg #[.int .i64 (askS S cz nz).now, v80, u81]) (y_run (by rfl) (fun W => by go_simp)) ?_
        (try simp only [zP, zN, zA, zB, zC])
        refine pu_ (v := .int .i64 (askR S cz nz).2) (y_run (by rfl) (fun W => by go_simp)) ?_
        (try simp only [zP, zN, zA, zB, zC])
        refine ef_ (fun K83 hK83 => ?_)
        refine e_storeN (cells := #[.int .i64 (askS S cz nz).now, v80, u81]) (by rfl) rfl rfl (by rfl) (by rfl) QB.out (by kernel_rfl) (by rfl) (ones_cons rfl (ones_cons (src_u DF.out.1.src) (ones_cons (src_u DF.out.2.1.src) ones_nil))) ?_
        rintro w84 B85 C86
        have C0' := Lib.hid (show Ch [] w w84 from C0.out.trans' C86 (inw_cons (.inr nw13.out) inw_nil))
        have BF' := Lib.hid (show BookL w84 w.heap.size Bs75 b (askS S cz nz) from BF.out.ch C86 (fun k hk hm => (List.mem_cons.1 hm).elim (fun e => hs77.out (e ▸ hk)) (fun h => (fun _ _ h => absurd h (by simp)) k hk h)))
        have DF' := Lib.hid (show DocIs w84 w.heap.size Bs75 (askS S cz nz) (v80) (u81) from DF.out.ch C86 (rnin_cons (OwnS.ne DF.out.1 QB.out (by decide)) rnin_nil) (rnin_cons (OwnS.ne DF.out.2.1 QB.out (by decide)) rnin_nil))
        have Fg52' := Lib.hid (show Blk w84 g52 (actA ((0 : Int)) cz nz mz cl) 34 from C86.blk Fg52.out (nin_cons (Blk.ne_type Fg52.out QB.out (by decide)) nin_nil))
        clear C0 BF DF Fg52
        have C0 := C0'; clear C0'
        have BF := BF'; clear BF'
        have DF := DF'; clear DF'
        have Fg52 := Fg52'; clear Fg52'
        clear QB; have QB := Lib.hid (show Blk w84 gq (#[.int .i64 (askS S cz nz).now, v80, u81]) 53 from B85); clear B85 C86
        refine hK83 _ _ ?_; clear hK83 K83
        (try simp only [zP, zN, zA, zB, zC])
        refine pu_ (v := .int .i64 (askR S cz nz).2) (y_assign rfl (by rfl) (by rfl)) ?_
        (try simp only [zP, zN, zA, zB, zC])
        refine nl_ ?_
        refine ib_norm ?_
        exact th_norm (hK69 _ _ ⟨_, askS S cz nz, _, _, (askR S cz nz).1, (askR S cz nz).2, fun us_ => (#[.slice (some A) len0 cap0, .int .i64 c, .int .i64 n, us 3, us 4, us 5, .bool false, .pointer (some ⟨b, 0, none⟩), .pointer (some ⟨gq, 0, none⟩), .int .i64 k, .pointer (some ⟨g52, 0, none⟩), .int .i64 (askR S cz nz).1, .int .i64 (askR S cz nz).2, .int .i64 (askR S cz nz).2, us 14, us 15, us 16, us 17, us 18, us 19, us 20, us 21, us 22, .int .i64 k, .slice (some A) len0 cap0, .int .i64 len0, .bool true, .bool true, .int .i64 k, .bool true, .bool true, us 31, us 32, .slice (some A) len0 cap0, .int .i64 k, .pointer (some (A.add (k * 20))), .agg (actA ((0 : Int)) cz nz mz cl), .pointer (some ⟨g52, 4, none⟩), .pointer (some ⟨g52, 7, none⟩), .agg (spc cl).toArray, .bool true, .bool false, us 42, .pointer (some ⟨g52, 0, none⟩), .int .i64 (0 : Int), us 45, us 46, us 47, us 48, .bool true, .bool true, .tuple #[.int .i64 (askR S cz nz).1, .int .i64 (askR S cz nz).2], .pointer (some ⟨b, 0, none⟩), .pointer (some ⟨g52, 1, none⟩), .int .i64 cz, .pointer (some ⟨g52, 2, none⟩), .int .i64 nz, .tuple #[.int .i64 (askR S cz nz).1, .int .i64 (askR S cz nz).2], .int .i64 (askR S cz nz).1, .int .i64 (askR S cz nz).2, .tuple #[.agg #[.int .i64 (askS S cz nz).now, v80, u81], .int .i64 (askR S cz nz).2], .agg (#[.int .i64 S.now, v, u]), .pointer (some ⟨g52, 1, none⟩), .int .i64 cz, .pointer (some ⟨g52, 2, none⟩), .int .i64 nz, .tuple #[.agg #[.int .i64 (askS S cz nz).now, v80, u81], .int .i64 (askR S cz nz).2], .agg #[.int .i64 (askS S cz nz).now, v80, u81], .int .i64 (askR S cz nz).2, us 69, us 70, us 71, us 72, us 73, us 74, us 75, us 76, us 77, us 78, us 79, us 80, us 81, us 82, us 83, us 84, us 85, us 86, us 87, us 88, us 89, us 90, us 91, us 92, us 93, us 94, us 95, us 96, us 97, us 98, us 99, us 100, us 101, us 102, us 103, us 104, us 105, us 106, us 107, us 108, us 109, us 110, us 111, us 112, us 113, us 114, us 115, us 116, us 117, us 118, us 119, us 120, us 121, us 122, us 123, us 124, us 125, us 126, us 127, us 128, us 129, us 130, us 131, us 132, us 133, us 134, us 135, us 136, us 137, us 138, us 139, us 140, us 141, us 142, us 143, us 144, us 145, us 146, us 147, us 148, us 149, us 150, us 151, us 152, us 153, us 154, us 155, us 156, us 157, us 158, us 159, us 160, us 161, us 162, us 163, us 164, us 165, us 166, us 167, us 168, us 169, us 170, us 171, us 172, us 173, us 174, us 175, us 176, us 177, us 178, us 179, us 180, us 181, us 182, us 183, us 184, us 185, us 186, us 187, us 188, us 189, us 190, us 191, us 192, us 193, us 194, us 195, us 196, us 197, us 198, us 199, us 200, us 201, us 202, us 203, us 204, us 205, us 206, us 207] : Array Value).getD us_ undef, rfl, C0, BF, DF, QB, HT2, HOK2, Lib.hid (ans_ask S cz nz), hs77⟩)
      · have hz := h; subst hz
        have D50 := Lib.hid (show ((1 : Int) == 0) = false from by rfl)
        have D70 := Lib.hid (show ((1 : Int) == 1) = true from by rfl)
        skip
        have HT2 := Lib.hid (show TI (doS S cz nz cl (RM mz)) ∧ (doS S cz nz cl (RM mz)).now ≤ k + 1 from ⟨ti_do ht.out.1 cz nz cl (RM mz), Nat.le_trans (now_do S cz nz cl (RM mz)) (Nat.succ_le_succ ht.out.2)⟩)
        have HOK2 := Lib.hid (show AllOk w (doS S cz nz cl (RM mz)) from all_do hok.out cz nz HSC.out (sameP_id w 0 0 mz 0 _))
        refine s_ (fun K87 hK87 => ?_)
        refine pu_ (v := .pointer (some ⟨g52, 0, none⟩)) (y_run (by rfl) (fun W => by go_simp)) ?_
        (try simp only [zP, zN, zA, zB, zC])
        refine ld_ (v := .int .i64 (1 : Int)) rfl (by rfl) (by rfl) (run_load_one ((Fg52.out.cell 0).trans (by simp [actA])) Try.underlying3 rfl) ?_
        (try simp only [zP, zN, zA, zB, zC])
        refine nl_ (hK87 _ _ ?_); clear hK87 K87
        refine wp_block ?_
        refine s_ (fun K88 hK88 => ?_)
        refine pu_ (v := .bool false) (y_run (by rfl) (fun W => by have d := D50.out; go_simp)) ?_
        (try simp only [zP, zN, zA, zB, zC])
        refine pu_ (v := .bool false) (y_assign rfl (by rfl) (by rfl)) ?_
        (try simp only [zP, zN, zA, zB, zC])
        refine nl_ (hK88 _ _ ?_); clear hK88 K88
        refine wp_cond_false rfl ?_
        refine s_ (fun K89 hK89 => ?_)
        refine pu_ (v := .bool true) (y_run (by rfl) (fun W => by have d := D70.out; go_simp)) ?_
        (try simp only [zP, zN, zA, zB, zC])
        refine pu_ (v := .bool true) (y_assign rfl (by rfl) (by rfl)) ?_
        (try simp only [zP, zN, zA, zB, zC])
        refine nl_ (hK89 _ _ ?_); clear hK89 K89
        refine wp_cond_true rfl ?_
        refine s_ (fun K90 hK90 => ?_)
        refine pu_ (v := .pointer (some ⟨b, 0, none⟩)) (y_move rfl (by rfl) (by rfl)) ?_
        (try simp only [zP, zN, zA, zB, zC])
        refine pu_ (v := .pointer (some ⟨g52, 1, none⟩)) (y_run (by rfl) (fun W => by go_simp)) ?_
        (try simp only [zP, zN, zA, zB, zC])
        refine ld_ (v := .int .i64 cz) rfl (by rfl) (by rfl) (run_load_one ((Fg52.out.cell 1).trans (by simp [actA])) Try.underlying3 rfl) ?_
        (try simp only [zP, zN, zA, zB, zC])
        refine pu_ (v := .pointer (some ⟨g52, 2, none⟩)) (y_run (by rfl) (fun W => by go_simp)) ?_
        (try simp only [zP, zN, zA, zB, zC])
        refine ld_ (v := .int .i64 nz) rfl (by rfl) (by rfl) (run_load_one ((Fg52.out.cell 2).trans (by simp [actA])) Try.underlying3 rfl) ?_
        (try simp only [zP, zN, zA, zB, zC])
        refine pu_ (v := .pointer (some ⟨g52, 4, none⟩)) (y_run (by rfl) (fun W => by go_simp)) ?_
        (try simp only [zP, zN, zA, zB, zC])
        refine ld_ (v := .agg cl.1.toArray) rfl (by rfl) (by rfl) (run_loadVar_at (act_call Fg52.out) Try.underlying32 rfl (by rw [cl.2.1]; kernel_rfl)) ?_
        (try simp only [zP, zN, zA, zB, zC])
        refine pu_ (v := .pointer (some ⟨g52, 3, none⟩)) (y_run (by rfl) (fun W => by go_simp)) ?_
        (try simp only [zP, zN, zA, zB, zC])
        refine ld_ (v := .int .i64 mz) rfl (by rfl) (by rfl) (run_load_one ((Fg52.out.cell 3).trans (by simp [actA])) Try.underlying3 rfl) ?_
        (try simp only [zP, zN, zA, zB, zC])
        refine pu_ (v := .agg #[.int .i64 0, .int .i64 0, .int .i64 mz, .int .u64 0, .string ⟨#[]⟩, .slice none 0 0, .slice none 0 0]) (y_build (vs := #[(2, .int .i64 mz)]) (by rfl) rfl (by first | rfl | (simp only [List.map_toArray, List.map_cons, List.map_nil]; first | done | rfl)) (by kernel_rfl)) ?_
        (try simp only [zP, zN, zA, zB, zC])
        refine ef_ (fun K91 hK91 => ?_)
        refine e_call Try.func11 (by kernel_rfl) rfl #[.pointer (some ⟨b, 0, none⟩), .int .i64 cz, .int .i64 nz, .agg cl.1.toArray, .agg #[.int .i64 0, .int .i64 0, .int .i64 mz, .int .u64 0, .string ⟨#[]⟩, .slice none 0 0, .slice none 0 0]] (by rfl) rfl rfl (by first | rfl | (simp only [List.map_toArray, List.map_cons, List.map_nil]; first | done | rfl)) ((do_l (c := cz) (n := nz) (CA := cl) (RA := RM mz) BF.out HKYA.out HS.out)) ?_
        rintro en w93 ⟨rfl, Bs92, bk, cc, bel⟩
        refine ⟨_, rfl, ?_⟩
        have hs94 := Lib.hid (show gq ∉ Bs92 from fun h9 => (bel _ h9).elim hgq.out (fun h8 => by have := QB.out.lt; omega))
        have hs95 := Lib.hid (show g52 ∉ Bs92 from fun h9 => (bel _ h9).elim hs58.out (fun h8 => by have := Fg52.out.lt; omega))
        have C0' := Lib.hid (show Ch [] w w93 from C0.out.trans' cc (fun x hx => .inr (BF.out.lt x hx).1))
        have QB' := Lib.hid (show Blk w93 gq (#[.int .i64 S.now, v, u]) 53 from cc.blk QB.out hgq.out)
        have Fg52' := Lib.hid (show Blk w93 g52 (actA ((1 : Int)) cz nz mz cl) 34 from cc.blk Fg52.out hs58.out)
        clear C0 QB Fg52
        have C0 := C0'; clear C0'
        have QB := QB'; clear QB'
        have Fg52 := Fg52'; clear Fg52'
        have DF' := Lib.hid (show DocIs w93 w.heap.size Bs92 (S) (v) (u) from DF.out.step cc bel (fun k hk => (bk.lt k hk).2))
        clear BF DF cc bel
        have DF := DF'
        clear DF'
        have BF := Lib.hid (show BookL w93 w.heap.size Bs92 b (doS S cz nz cl (RM mz)) from bk)
        clear bk
        refine hK91 _ _ ?_; clear hK91 K91
        (try simp only [zP, zN, zA, zB, zC])
        refine pu_ (v := .tuple #[.int .i64 (doR S cz nz).1, .int .i64 (doR S cz nz).2]) (y_move rfl (by rfl) (by rfl)) ?_
        (try simp only [zP, zN, zA, zB, zC])
        refine pu_ (v := .int .i64 (doR S cz nz).1) (y_run (by rfl) (fun W => by go_simp)) ?_
        (try simp only [zP, zN, zA, zB, zC])
        refine pu_ (v := .int .i64 (doR S cz nz).2) (y_run (by rfl) (fun W => by go_simp)) ?_
        (try simp only [zP, zN, zA, zB, zC])
        refine pu_ (v := .int .i64 (doR S cz nz).1) (y_assign rfl (by rfl) (by rfl)) ?_
        (try simp only [zP, zN, zA, zB, zC])
        refine pu_ (v := .int .i64 (doR S cz nz).2) (y_assign rfl (by rfl) (by rfl)) ?_
        (try simp only [zP, zN, zA, zB, zC])
        refine nl_ (hK90 _ _ ?_); clear hK90 K90
        refine r_ ?_
        refine ld_ (v := .agg (#[.int .i64 S.now, v, u])) rfl (by rfl) (by rfl) (run_loadVar_row _ _ 53 53 (#[.int .i64 S.now, v, u]) (0, 0) _ QB.out Try.underlying53 rfl (by kernel_rfl)) ?_
        (try simp only [zP, zN, zA, zB, zC])
        refine pu_ (v := .pointer (some ⟨g52, 1, none⟩)) (y_run (by rfl) (fun W => by go_simp)) ?_
        (try simp only [zP, zN, zA, zB, zC])
        refine ld_ (v := .int .i64 cz) rfl (by rfl) (by rfl) (run_load_one ((Fg52.out.cell 1).trans (by simp [actA])) Try.underlying3 rfl) ?_
        (try simp only [zP, zN, zA, zB, zC])
        refine pu_ (v := .pointer (some ⟨g52, 2, none⟩)) (y_run (by rfl) (fun W => by go_simp)) ?_
        (try simp only [zP, zN, zA, zB, zC])
        refine ld_ (v := .int .i64 nz) rfl (by rfl) (by rfl) (run_load_one ((Fg52.out.cell 2).trans (by simp [actA])) Try.underlying3 rfl) ?_
        (try simp only [zP, zN, zA, zB, zC])
        refine pu_ (v := .pointer (some ⟨g52, 4, none⟩)) (y_run (by rfl) (fun W => by go_simp)) ?_
        (try simp only [zP, zN, zA, zB, zC])
        refine ld_ (v := .agg cl.1.toArray) rfl (by rfl) (by rfl) (run_loadVar_at (act_call Fg52.out) Try.underlying32 rfl (by rw [cl.2.1]; kernel_rfl)) ?_
        (try simp only [zP, zN, zA, zB, zC])
        refine pu_ (v := .pointer (some ⟨g52, 3, none⟩)) (y_run (by rfl) (fun W => by go_simp)) ?_
        (try simp only [zP, zN, zA, zB, zC])
        refine ld_ (v := .int .i64 mz) rfl (by rfl) (by rfl) (run_load_one ((Fg52.out.cell 3).trans (by simp [actA])) Try.underlying3 rfl) ?_
        (try simp only [zP, zN, zA, zB, zC])
        refine pu_ (v := .agg #[.int .i64 0, .int .i64 0, .int .i64 mz, .int .u64 0, .string ⟨#[]⟩, .slice none 0 0, .slice none 0 0]) (y_build (vs := #[(2, .int .i64 mz)]) (by rfl) rfl (by first | rfl | (simp only [List.map_toArray, List.map_cons, List.map_nil]; first | done | rfl)) (by kernel_rfl)) ?_
        (try simp only [zP, zN, zA, zB, zC])
        refine ef_ (fun K96 hK96 => ?_)
        refine e_call Try.func19 (by kernel_rfl) rfl #[.agg (#[.int .i64 S.now, v, u]), .int .i64 cz, .int .i64 nz, .agg cl.1.toArray, .agg #[.int .i64 0, .int .i64 0, .int .i64 mz, .int .u64 0, .string ⟨#[]⟩, .slice none 0 0, .slice none 0 0]] (by rfl) rfl rfl (by first | rfl | (simp only [List.map_toArray, List.map_cons, List.map_nil]; first | done | rfl)) ((rdo_all (c := cz) (n := nz) (CA := cl) (RA := RM mz) DF.out HS.out)) ?_
        rintro en w99 ⟨v97, u98, rfl, dk, cc⟩
        refine ⟨_, rfl, ?_⟩
        have C0' := Lib.hid (show Ch [] w w99 from C0.out.trans' cc (fun x hx => absurd hx (by simp)))
        have BF' := Lib.hid (show BookL w99 w.heap.size Bs92 b (doS S cz nz cl (RM mz)) from BF.out.ch cc (fun _ _ h => absurd h (by simp)))
        have QB' := Lib.hid (show Blk w99 gq (#[.int .i64 S.now, v, u]) 53 from cc.blk QB.out nin_nil)
        have Fg52' := Lib.hid (show Blk w99 g52 (actA ((1 : Int)) cz nz mz cl) 34 from cc.blk Fg52.out nin_nil)
        clear C0 BF QB Fg52
        have C0 := C0'; clear C0'
        have BF := BF'; clear BF'
        have QB := QB'; clear QB'
        have Fg52 := Fg52'; clear Fg52'
        clear DF cc
        have DF := Lib.hid (show DocIs w99 w.heap.size Bs92 (doS S cz nz cl (RM mz)) (v97) (u98) from dk)
        clear dk
        refine hK96 _ _ ?_; clear hK96 K96
        (try simp only [zP, zN, zA, zB, zC])
        refine pu_ (v := .tuple #[.agg #[.int .i64 (doS S cz nz cl (RM mz)).now, v97, u98], .int .i64 (doR S cz nz).2]) (y_move rfl (by rfl) (by rfl)) ?_
        (try simp only [zP, zN, zA, zB, zC])
        refine pu_ (v := .agg #[.int .i64 (doS S cz nz cl (RM mz)).now, v97, u98]) (y_run (by rfl) (fun W => by go_simp)) ?_
        (try simp only [zP, zN, zA, zB, zC])
        refine pu_ (v := .int .i64 (doR S cz nz).2) (y_run (by rfl) (fun W => by go_simp)) ?_
        (try simp only [zP, zN, zA, zB, zC])
        refine ef_ (fun K100 hK100 => ?_)
        refine e_storeN (cells := #[.int .i64 (doS S cz nz cl (RM mz)).now, v97, u98]) (by rfl) rfl rfl (by rfl) (by rfl) QB.out (by kernel_rfl) (by rfl) (ones_cons rfl (ones_cons (src_u DF.out.1.src) (ones_cons (src_u DF.out.2.1.src) ones_nil))) ?_
        rintro w101 B102 C103
        have C0' := Lib.hid (show Ch [] w w101 from C0.out.trans' C103 (inw_cons (.inr nw13.out) inw_nil))
        have BF' := Lib.hid (show BookL w101 w.heap.size Bs92 b (doS S cz nz cl (RM mz)) from BF.out.ch C103 (fun k hk hm => (List.mem_cons.1 hm).elim (fun e => hs94.out (e ▸ hk)) (fun h => (fun _ _ h => absurd h (by simp)) k hk h)))
        have DF' := Lib.hid (show DocIs w101 w.heap.size Bs92 (doS S cz nz cl (RM mz)) (v97) (u98) from DF.out.ch C103 (rnin_cons (OwnS.ne DF.out.1 QB.out (by decide)) rnin_nil) (rnin_cons (OwnS.ne DF.out.2.1 QB.out (by decide)) rnin_nil))
        have Fg52' := Lib.hid (show Blk w101 g52 (actA ((1 : Int)) cz nz mz cl) 34 from C103.blk Fg52.out (nin_cons (Blk.ne_type Fg52.out QB.out (by decide)) nin_nil))
        clear C0 BF DF Fg52
        have C0 := C0'; clear C0'
        have BF := BF'; clear BF'
        have DF := DF'; clear DF'
        have Fg52 := Fg52'; clear Fg52'
        clear QB; have QB := Lib.hid (show Blk w101 gq (#[.int .i64 (doS S cz nz cl (RM mz)).now, v97, u98]) 53 from B102); clear B102 C103
        refine hK100 _ _ ?_; clear hK100 K100
        (try simp only [zP, zN, zA, zB, zC])
        refine pu_ (v := .int .i64 (doR S cz nz).2) (y_assign rfl (by rfl) (by rfl)) ?_
        (try simp only [zP, zN, zA, zB, zC])
        refine nl_ ?_
        refine ib_norm ?_
        exact th_norm (hK69 _ _ ⟨_, doS S cz nz cl (RM mz), _, _, (doR S cz nz).1, (doR S cz nz).2, fun us_ => (#[.slice (some A) len0 cap0, .int .i64 c, .int .i64 n, us 3, us 4, us 5, .bool false, .pointer (some ⟨b, 0, none⟩), .pointer (some ⟨gq, 0, none⟩), .int .i64 k, .pointer (some ⟨g52, 0, none⟩), .int .i64 (doR S cz nz).1, .int .i64 (doR S cz nz).2, .int .i64 (doR S cz nz).2, us 14, us 15, us 16, us 17, us 18, us 19, us 20, us 21, us 22, .int .i64 k, .slice (some A) len0 cap0, .int .i64 len0, .bool true, .bool true, .int .i64 k, .bool true, .bool true, us 31, us 32, .slice (some A) len0 cap0, .int .i64 k, .pointer (some (A.add (k * 20))), .agg (actA ((1 : Int)) cz nz mz cl), .pointer (some ⟨g52, 4, none⟩), .pointer (some ⟨g52, 7, none⟩), .agg (spc cl).toArray, .bool true, .bool false, us 42, .pointer (some ⟨g52, 0, none⟩), .int .i64 (1 : Int), us 45, us 46, us 47, us 48, .bool false, .bool false, us 51, us 52, us 53, us 54, us 55, us 56, us 57, us 58, us 59, us 60, us 61, us 62, us 63, us 64, us 65, us 66, us 67, us 68, .bool true, .bool true, .tuple #[.int .i64 (doR S cz nz).1, .int .i64 (doR S cz nz).2], .pointer (some ⟨b, 0, none⟩), .pointer (some ⟨g52, 1, none⟩), .int .i64 cz, .pointer (some ⟨g52, 2, none⟩), .int .i64 nz, .pointer (some ⟨g52, 4, none⟩), .agg cl.1.toArray, .pointer (some ⟨g52, 3, none⟩), .int .i64 mz, .agg #[.int .i64 0, .int .i64 0, .int .i64 mz, .int .u64 0, .string ⟨#[]⟩, .slice none 0 0, .slice none 0 0], .tuple #[.int .i64 (doR S cz nz).1, .int .i64 (doR S cz nz).2], .int .i64 (doR S cz nz).1, .int .i64 (doR S cz nz).2, .tuple #[.agg #[.int .i64 (doS S cz nz cl (RM mz)).now, v97, u98], .int .i64 (doR S cz nz).2], .agg (#[.int .i64 S.now, v, u]), .pointer (some ⟨g52, 1, none⟩), .int .i64 cz, .pointer (some ⟨g52, 2, none⟩), .int .i64 nz, .pointer (some ⟨g52, 4, none⟩), .agg cl.1.toArray, .pointer (some ⟨g52, 3, none⟩), .int .i64 mz, .agg #[.int .i64 0, .int .i64 0, .int .i64 mz, .int .u64 0, .string ⟨#[]⟩, .slice none 0 0, .slice none 0 0], .tuple #[.agg #[.int .i64 (doS S cz nz cl (RM mz)).now, v97, u98], .int .i64 (doR S cz nz).2], .agg #[.int .i64 (doS S cz nz cl (RM mz)).now, v97, u98], .int .i64 (doR S cz nz).2, us 99, us 100, us 101, us 102, us 103, us 104, us 105, us 106, us 107, us 108, us 109, us 110, us 111, us 112, us 113, us 114, us 115, us 116, us 117, us 118, us 119, us 120, us 121, us 122, us 123, us 124, us 125, us 126, us 127, us 128, us 129, us 130, us 131, us 132, us 133, us 134, us 135, us 136, us 137, us 138, us 139, us 140, us 141, us 142, us 143, us 144, us 145, us 146, us 147, us 148, us 149, us 150, us 151, us 152, us 153, us 154, us 155, us 156, us 157, us 158, us 159, us 160, us 161, us 162, us 163, us 164, us 165, us 166, us 167, us 168, us 169, us 170, us 171, us 172, us 173, us 174, us 175, us 176, us 177, us 178, us 179, us 180, us 181, us 182, us 183, us 184, us 185, us 186, us 187, us 188, us 189, us 190, us 191, us 192, us 193, us 194, us 195, us 196, us 197, us 198, us 199, us 200, us 201, us 202, us 203, us 204, us 205, us 206, us 207] : Array Value).getD us_ undef, rfl, C0, BF, DF, QB, HT2, HOK2, Lib.hid (ans_do S cz nz cl (RM mz)), hs94⟩)
      · have hz := h; subst hz
        have D50 := Lib.hid (show ((2 : Int) == 0) = false from by rfl)
        have D70 := Lib.hid (show ((2 : Int) == 1) = false from by rfl)
        have D100 := Lib.hid (show ((2 : Int) == 2) = true from by rfl)
        skip
        have HT2 := Lib.hid (show TI (tellS S cz nz) ∧ (tellS S cz nz).now ≤ k + 1 from ⟨ti_tell ht.out.1 cz nz, Nat.le_trans (now_tell S cz nz) (Nat.succ_le_succ ht.out.2)⟩)
        have HOK2 := Lib.hid (show AllOk w (tellS S cz nz) from all_tell hok.out cz nz)
        refine s_ (fun K104 hK104 => ?_)
        refine pu_ (v := .pointer (some ⟨g52, 0, none⟩)) (y_run (by rfl) (fun W => by go_simp)) ?_
        (try simp only [zP, zN, zA, zB, zC])
        refine ld_ (v := .int .i64 (2 : Int)) rfl (by rfl) (by rfl) (run_load_one ((Fg52.out.cell 0).trans (by simp [actA])) Try.underlying3 rfl) ?_
        (try simp only [zP, zN, zA, zB, zC])
        refine nl_ (hK104 _ _ ?_); clear hK104 K104
        refine wp_block ?_
        refine s_ (fun K105 hK105 => ?_)
        refine pu_ (v := .bool false) (y_run (by rfl) (fun W => by have d := D50.out; go_simp)) ?_
        (try simp only [zP, zN, zA, zB, zC])
        refine pu_ (v := .bool false) (y_assign rfl (by rfl) (by rfl)) ?_
        (try simp only [zP, zN, zA, zB, zC])
        refine nl_ (hK105 _ _ ?_); clear hK105 K105
        refine wp_cond_false rfl ?_
        refine s_ (fun K106 hK106 => ?_)
        refine pu_ (v := .bool false) (y_run (by rfl) (fun W => by have d := D70.out; go_simp)) ?_
        (try simp only [zP, zN, zA, zB, zC])
        refine pu_ (v := .bool false) (y_assign rfl (by rfl) (by rfl)) ?_
        (try simp only [zP, zN, zA, zB, zC])
        refine nl_ (hK106 _ _ ?_); clear hK106 K106
        refine wp_cond_false rfl ?_
        refine s_ (fun K107 hK107 => ?_)
        refine pu_ (v := .bool true) (y_run (by rfl) (fun W => by have d := D100.out; go_simp)) ?_
        (try simp only [zP, zN, zA, zB, zC])
        refine pu_ (v := .bool true) (y_assign rfl (by rfl) (by rfl)) ?_
        (try simp only [zP, zN, zA, zB, zC])
        refine nl_ (hK107 _ _ ?_); clear hK107 K107
        refine wp_cond_true rfl ?_
        refine s_ (fun K108 hK108 => ?_)
        refine pu_ (v := .pointer (some ⟨b, 0, none⟩)) (y_move rfl (by rfl) (by rfl)) ?_
        (try simp only [zP, zN, zA, zB, zC])
        refine pu_ (v := .pointer (some ⟨g52, 1, none⟩)) (y_run (by rfl) (fun W => by go_simp)) ?_
        (try simp only [zP, zN, zA, zB, zC])
        refine ld_ (v := .int .i64 cz) rfl (by rfl) (by rfl) (run_load_one ((Fg52.out.cell 1).trans (by simp [actA])) Try.underlying3 rfl) ?_
        (try simp only [zP, zN, zA, zB, zC])
        refine pu_ (v := .pointer (some ⟨g52, 2, none⟩)) (y_run (by rfl) (fun W => by go_simp)) ?_
        (try simp only [zP, zN, zA, zB, zC])
        refine ld_ (v := .int .i64 nz) rfl (by rfl) (by rfl) (run_load_one ((Fg52.out.cell 2).trans (by simp [actA])) Try.underlying3 rfl) ?_
        (try simp only [zP, zN, zA, zB, zC])
        refine ef_ (fun K109 hK109 => ?_)
        refine e_call Try.func12 (by kernel_rfl) rfl #[.pointer (some ⟨b, 0, none⟩), .int .i64 cz, .int .i64 nz] (by rfl) rfl rfl (by first | rfl | (simp only [List.map_toArray, List.map_cons, List.map_nil]; first | done | rfl)) ((tell_l (c := cz) (n := nz) BF.out HKYA.out HS.out)) ?_
        rintro en w111 ⟨rfl, Bs110, bk, cc, bel⟩
        refine ⟨_, rfl, ?_⟩
        have hs112 := Lib.hid (show gq ∉ Bs110 from fun h9 => (bel _ h9).elim hgq.out (fun h8 => by have := QB.out.lt; omega))
        have hs113 := Lib.hid (show g52 ∉ Bs110 from fun h9 => (bel _ h9).elim hs58.out (fun h8 => by have := Fg52.out.lt; omega))
        have C0' := Lib.hid (show Ch [] w w111 from C0.out.trans' cc (fun x hx => .inr (BF.out.lt x hx).1))
        have QB' := Lib.hid (show Blk w111 gq (#[.int .i64 S.now, v, u]) 53 from cc.blk QB.out hgq.out)
        have Fg52' := Lib.hid (show Blk w111 g52 (actA ((2 : Int)) cz nz mz cl) 34 from cc.blk Fg52.out hs58.out)
        clear C0 QB Fg52
        have C0 := C0'; clear C0'
        have QB := QB'; clear QB'
        have Fg52 := Fg52'; clear Fg52'
        have DF' := Lib.hid (show DocIs w111 w.heap.size Bs110 (S) (v) (u) from DF.out.step cc bel (fun k hk => (bk.lt k hk).2))
        clear BF DF cc bel
        have DF := DF'
        clear DF'
        have BF := Lib.hid (show BookL w111 w.heap.size Bs110 b (tellS S cz nz) from bk)
        clear bk
        refine hK109 _ _ ?_; clear hK109 K109
        (try simp only [zP, zN, zA, zB, zC])
        refine pu_ (v := .tuple #[.int .i64 (tellR S cz nz).1, .int .i64 (tellR S cz nz).2]) (y_move rfl (by rfl) (by rfl)) ?_
        (try simp only [zP, zN, zA, zB, zC])
        refine pu_ (v := .int .i64 (tellR S cz nz).1) (y_run (by rfl) (fun W => by go_simp)) ?_
        (try simp only [zP, zN, zA, zB, zC])
        refine pu_ (v := .int .i64 (tellR S cz nz).2) (y_run (by rfl) (fun W => by go_simp)) ?_
        (try simp only [zP, zN, zA, zB, zC])
        refine pu_ (v := .int .i64 (tellR S cz nz).1) (y_assign rfl (by rfl) (by rfl)) ?_
        (try simp only [zP, zN, zA, zB, zC])
        refine pu_ (v := .int .i64 (tellR S cz nz).2) (y_assign rfl (by rfl) (by rfl)) ?_
        (try simp only [zP, zN, zA, zB, zC])
        refine nl_ (hK108 _ _ ?_); clear hK108 K108
        refine r_ ?_
        refine ld_ (v := .agg (#[.int .i64 S.now, v, u])) rfl (by rfl) (by rfl) (run_loadVar_row _ _ 53 53 (#[.int .i64 S.now, v, u]) (0, 0) _ QB.out Try.underlying53 rfl (by kernel_rfl)) ?_
        (try simp only [zP, zN, zA, zB, zC])
        refine pu_ (v := .pointer (some ⟨g52, 1, none⟩)) (y_run (by rfl) (fun W => by go_simp)) ?_
        (try simp only [zP, zN, zA, zB, zC])
        refine ld_ (v := .int .i64 cz) rfl (by rfl) (by rfl) (run_load_one ((Fg52.out.cell 1).trans (by simp [actA])) Try.underlying3 rfl) ?_
        (try simp only [zP, zN, zA, zB, zC])
        refine pu_ (v := .pointer (some ⟨g52, 2, none⟩)) (y_run (by rfl) (fun W => by go_simp)) ?_
        (try simp only [zP, zN, zA, zB, zC])
        refine ld_ (v := .int .i64 nz) rfl (by rfl) (by rfl) (run_load_one ((Fg52.out.cell 2).trans (by simp [actA])) Try.underlying3 rfl) ?_
        (try simp only [zP, zN, zA, zB, zC])
        refine ef_ (fun K114 hK114 => ?_)
        refine e_call Try.func20 (by kernel_rfl) rfl #[.agg (#[.int .i64 S.now, v, u]), .int .i64 cz, .int .i64 nz] (by rfl) rfl rfl (by first | rfl | (simp only [List.map_toArray, List.map_cons, List.map_nil]; first | done | rfl)) ((rtell_all (c := cz) (n := nz) DF.out HS.out)) ?_
        rintro en w117 ⟨v115, u116, rfl, dk, cc⟩
        refine ⟨_, rfl, ?_⟩
        have C0' := Lib.hid (show Ch [] w w117 from C0.out.trans' cc (fun x hx => absurd hx (by simp)))
        have BF' := Lib.hid (show BookL w117 w.heap.size Bs110 b (tellS S cz nz) from BF.out.ch cc (fun _ _ h => absurd h (by simp)))
        have QB' := Lib.hid (show Blk w117 gq (#[.int .i64 S.now, v, u]) 53 from cc.blk QB.out nin_nil)
        have Fg52' := Lib.hid (show Blk w117 g52 (actA ((2 : Int)) cz nz mz cl) 34 from cc.blk Fg52.out nin_nil)
        clear C0 BF QB Fg52
        have C0 := C0'; clear C0'
        have BF := BF'; clear BF'
        have QB := QB'; clear QB'
        have Fg52 := Fg52'; clear Fg52'
        clear DF cc
        have DF := Lib.hid (show DocIs w117 w.heap.size Bs110 (tellS S cz nz) (v115) (u116) from dk)
        clear dk
        refine hK114 _ _ ?_; clear hK114 K114
        (try simp only [zP, zN, zA, zB, zC])
        refine pu_ (v := .tuple #[.agg #[.int .i64 (tellS S cz nz).now, v115, u116], .int .i64 (tellR S cz nz).2]) (y_move rfl (by rfl) (by rfl)) ?_
        (try simp only [zP, zN, zA, zB, zC])
        refine pu_ (v := .agg #[.int .i64 (tellS S cz nz).now, v115, u116]) (y_run (by rfl) (fun W => by go_simp)) ?_
        (try simp only [zP, zN, zA, zB, zC])
        refine pu_ (v := .int .i64 (tellR S cz nz).2) (y_run (by rfl) (fun W => by go_simp)) ?_
        (try simp only [zP, zN, zA, zB, zC])
        refine ef_ (fun K118 hK118 => ?_)
        refine e_storeN (cells := #[.int .i64 (tellS S cz nz).now, v115, u116]) (by rfl) rfl rfl (by rfl) (by rfl) QB.out (by kernel_rfl) (by rfl) (ones_cons rfl (ones_cons (src_u DF.out.1.src) (ones_cons (src_u DF.out.2.1.src) ones_nil))) ?_
        rintro w119 B120 C121
        have C0' := Lib.hid (show Ch [] w w119 from C0.out.trans' C121 (inw_cons (.inr nw13.out) inw_nil))
        have BF' := Lib.hid (show BookL w119 w.heap.size Bs110 b (tellS S cz nz) from BF.out.ch C121 (fun k hk hm => (List.mem_cons.1 hm).elim (fun e => hs112.out (e ▸ hk)) (fun h => (fun _ _ h => absurd h (by simp)) k hk h)))
        have DF' := Lib.hid (show DocIs w119 w.heap.size Bs110 (tellS S cz nz) (v115) (u116) from DF.out.ch C121 (rnin_cons (OwnS.ne DF.out.1 QB.out (by decide)) rnin_nil) (rnin_cons (OwnS.ne DF.out.2.1 QB.out (by decide)) rnin_nil))
        have Fg52' := Lib.hid (show Blk w119 g52 (actA ((2 : Int)) cz nz mz cl) 34 from C121.blk Fg52.out (nin_cons (Blk.ne_type Fg52.out QB.out (by decide)) nin_nil))
        clear C0 BF DF Fg52
        have C0 := C0'; clear C0'
        have BF := BF'; clear BF'
        have DF := DF'; clear DF'
        have Fg52 := Fg52'; clear Fg52'
        clear QB; have QB := Lib.hid (show Blk w119 gq (#[.int .i64 (tellS S cz nz).now, v115, u116]) 53 from B120); clear B120 C121
        refine hK118 _ _ ?_; clear hK118 K118
        (try simp only [zP, zN, zA, zB, zC])
        refine pu_ (v := .int .i64 (tellR S cz nz).2) (y_assign rfl (by rfl) (by rfl)) ?_
        (try simp only [zP, zN, zA, zB, zC])
        refine nl_ ?_
        refine ib_norm ?_
        exact th_norm (hK69 _ _ ⟨_, tellS S cz nz, _, _, (tellR S cz nz).1, (tellR S cz nz).2, fun us_ => (#[.slice (some A) len0 cap0, .int .i64 c, .int .i64 n, us 3, us 4, us 5, .bool false, .pointer (some ⟨b, 0, none⟩), .pointer (some ⟨gq, 0, none⟩), .int .i64 k, .pointer (some ⟨g52, 0, none⟩), .int .i64 (tellR S cz nz).1, .int .i64 (tellR S cz nz).2, .int .i64 (tellR S cz nz).2, us 14, us 15, us 16, us 17, us 18, us 19, us 20, us 21, us 22, .int .i64 k, .slice (some A) len0 cap0, .int .i64 len0, .bool true, .bool true, .int .i64 k, .bool true, .bool true, us 31, us 32, .slice (some A) len0 cap0, .int .i64 k, .pointer (some (A.add (k * 20))), .agg (actA ((2 : Int)) cz nz mz cl), .pointer (some ⟨g52, 4, none⟩), .pointer (some ⟨g52, 7, none⟩), .agg (spc cl).toArray, .bool true, .bool false, us 42, .pointer (some ⟨g52, 0, none⟩), .int .i64 (2 : Int), us 45, us 46, us 47, us 48, .bool false, .bool false, us 51, us 52, us 53, us 54, us 55, us 56, us 57, us 58, us 59, us 60, us 61, us 62, us 63, us 64, us 65, us 66, us 67, us 68, .bool false, .bool false, us 71, us 72, us 73, us 74, us 75, us 76, us 77, us 78, us 79, us 80, us 81, us 82, us 83, us 84, us 85, us 86, us 87, us 88, us 89, us 90, us 91, us 92, us 93, us 94, us 95, us 96, us 97, us 98, .bool true, .bool true, .tuple #[.int .i64 (tellR S cz nz).1, .int .i64 (tellR S cz nz).2], .pointer (some ⟨b, 0, none⟩), .pointer (some ⟨g52, 1, none⟩), .int .i64 cz, .pointer (some ⟨g52, 2, none⟩), .int .i64 nz, .tuple #[.int .i64 (tellR S cz nz).1, .int .i64 (tellR S cz nz).2], .int .i64 (tellR S cz nz).1, .int .i64 (tellR S cz nz).2, .tuple #[.agg #[.int .i64 (tellS S cz nz).now, v115, u116], .int .i64 (tellR S cz nz).2], .agg (#[.int .i64 S.now, v, u]), .pointer (some ⟨g52, 1, none⟩), .int .i64 cz, .pointer (some ⟨g52, 2, none⟩), .int .i64 nz, .tuple #[.agg #[.int .i64 (tellS S cz nz).now, v115, u116], .int .i64 (tellR S cz nz).2], .agg #[.int .i64 (tellS S cz nz).now, v115, u116], .int .i64 (tellR S cz nz).2, us 119, us 120, us 121, us 122, us 123, us 124, us 125, us 126, us 127, us 128, us 129, us 130, us 131, us 132, us 133, us 134, us 135, us 136, us 137, us 138, us 139, us 140, us 141, us 142, us 143, us 144, us 145, us 146, us 147, us 148, us 149, us 150, us 151, us 152, us 153, us 154, us 155, us 156, us 157, us 158, us 159, us 160, us 161, us 162, us 163, us 164, us 165, us 166, us 167, us 168, us 169, us 170, us 171, us 172, us 173, us 174, us 175, us 176, us 177, us 178, us 179, us 180, us 181, us 182, us 183, us 184, us 185, us 186, us 187, us 188, us 189, us 190, us 191, us 192, us 193, us 194, us 195, us 196, us 197, us 198, us 199, us 200, us 201, us 202, us 203, us 204, us 205, us 206, us 207] : Array Value).getD us_ undef, rfl, C0, BF, DF, QB, HT2, HOK2, Lib.hid (ans_tell S cz nz), hs112⟩)
      · have D50 := Lib.hid (show (kz == 0) = false from by exact beq_eq_false_iff_ne.2 h.1)
        have D70 := Lib.hid (show (kz == 1) = false from by exact beq_eq_false_iff_ne.2 h.2.1)
        have D100 := Lib.hid (show (kz == 2) = false from by exact beq_eq_false_iff_ne.2 h.2.2)
        clear h
        have HT2 := Lib.hid (show TI ((⟨S.now + 1, S.L, S.I ++ [((S.now + 1 : Nat) : Int)]⟩ : HB)) ∧ ((⟨S.now + 1, S.L, S.I ++ [((S.now + 1 : Nat) : Int)]⟩ : HB)).now ≤ k + 1 from ⟨ti_inner ht.out.1, Nat.le_trans (Nat.le_refl _) (Nat.succ_le_succ ht.out.2)⟩)
        have HOK2 := Lib.hid (show AllOk w ((⟨S.now + 1, S.L, S.I ++ [((S.now + 1 : Nat) : Int)]⟩ : HB)) from all_inner hok.out)
        refine s_ (fun K122 hK122 => ?_)
        refine pu_ (v := .pointer (some ⟨g52, 0, none⟩)) (y_run (by rfl) (fun W => by go_simp)) ?_
        (try simp only [zP, zN, zA, zB, zC])
        refine ld_ (v := .int .i64 kz) rfl (by rfl) (by rfl) (run_load_one ((Fg52.out.cell 0).trans (by simp [actA])) Try.underlying3 rfl) ?_
        (try simp only [zP, zN, zA, zB, zC])
        refine nl_ (hK122 _ _ ?_); clear hK122 K122
        refine wp_block ?_
        refine s_ (fun K123 hK123 => ?_)
        refine pu_ (v := .bool false) (y_run (by rfl) (fun W => by have d := D50.out; go_simp)) ?_
        (try simp only [zP, zN, zA, zB, zC])
        refine pu_ (v := .bool false) (y_assign rfl (by rfl) (by rfl)) ?_
        (try simp only [zP, zN, zA, zB, zC])
        refine nl_ (hK123 _ _ ?_); clear hK123 K123
        refine wp_cond_false rfl ?_
        refine s_ (fun K124 hK124 => ?_)
        refine pu_ (v := .bool false) (y_run (by rfl) (fun W => by have d := D70.out; go_simp)) ?_
        (try simp only [zP, zN, zA, zB, zC])
        refine pu_ (v := .bool false) (y_assign rfl (by rfl) (by rfl)) ?_
        (try simp only [zP, zN, zA, zB, zC])
        refine nl_ (hK124 _ _ ?_); clear hK124 K124
        refine wp_cond_false rfl ?_
        refine s_ (fun K125 hK125 => ?_)
        refine pu_ (v := .bool false) (y_run (by rfl) (fun W => by have d := D100.out; go_simp)) ?_
        (try simp only [zP, zN, zA, zB, zC])
        refine pu_ (v := .bool false) (y_assign rfl (by rfl) (by rfl)) ?_
        (try simp only [zP, zN, zA, zB, zC])
        refine nl_ (hK125 _ _ ?_); clear hK125 K125
        refine wp_cond_false rfl ?_
        refine s_ (fun K126 hK126 => ?_)
        refine pu_ (v := .pointer (some ⟨b, 0, none⟩)) (y_move rfl (by rfl) (by rfl)) ?_
        (try simp only [zP, zN, zA, zB, zC])
        refine ef_ (fun K127 hK127 => ?_)
        refine e_call Try.func13 (by kernel_rfl) rfl #[.pointer (some ⟨b, 0, none⟩)] (by rfl) rfl rfl (by first | rfl | (simp only [List.map_toArray, List.map_cons, List.map_nil]; first | done | rfl)) ((inner_l BF.out HSI.out C0.out.size)) ?_
        rintro en w129 ⟨rfl, Bs128, bk, cc, bel⟩
        refine ⟨_, rfl, ?_⟩
        have hs130 := Lib.hid (show gq ∉ Bs128 from fun h9 => (bel _ h9).elim hgq.out (fun h8 => by have := QB.out.lt; omega))
        have hs131 := Lib.hid (show g52 ∉ Bs128 from fun h9 => (bel _ h9).elim hs58.out (fun h8 => by have := Fg52.out.lt; omega))
        have C0' := Lib.hid (show Ch [] w w129 from C0.out.trans' cc (fun x hx => .inr (BF.out.lt x hx).1))
        have QB' := Lib.hid (show Blk w129 gq (#[.int .i64 S.now, v, u]) 53 from cc.blk QB.out hgq.out)
        have Fg52' := Lib.hid (show Blk w129 g52 (actA kz cz nz mz cl) 34 from cc.blk Fg52.out hs58.out)
        clear C0 QB Fg52
        have C0 := C0'; clear C0'
        have QB := QB'; clear QB'
        have Fg52 := Fg52'; clear Fg52'
        have DF' := Lib.hid (show DocIs w129 w.heap.size Bs128 (S) (v) (u) from DF.out.step cc bel (fun k hk => (bk.lt k hk).2))
        clear BF DF cc bel
        have DF := DF'
        clear DF'
        have BF := Lib.hid (show BookL w129 w.heap.size Bs128 b ((⟨S.now + 1, S.L, S.I ++ [((S.now + 1 : Nat) : Int)]⟩ : HB)) from bk)
        clear bk
        refine hK127 _ _ ?_; clear hK127 K127
        (try simp only [zP, zN, zA, zB, zC])
        refine pu_ (v := .int .i64 (S.now + 1 : Nat)) (y_assign rfl (by rfl) (by rfl)) ?_
        (try simp only [zP, zN, zA, zB, zC])
        refine nl_ (hK126 _ _ ?_); clear hK126 K126
        refine r_ ?_
        refine ld_ (v := .agg (#[.int .i64 S.now, v, u])) rfl (by rfl) (by rfl) (run_loadVar_row _ _ 53 53 (#[.int .i64 S.now, v, u]) (0, 0) _ QB.out Try.underlying53 rfl (by kernel_rfl)) ?_
        (try simp only [zP, zN, zA, zB, zC])
        refine ef_ (fun K132 hK132 => ?_)
        refine e_call Try.func21 (by kernel_rfl) rfl #[.agg (#[.int .i64 S.now, v, u])] (by rfl) rfl rfl (by first | rfl | (simp only [List.map_toArray, List.map_cons, List.map_nil]; first | done | rfl)) ((rinner_all DF.out HSI.out)) ?_
        rintro en w135 ⟨v133, u134, rfl, dk, cc⟩
        refine ⟨_, rfl, ?_⟩
        have C0' := Lib.hid (show Ch [] w w135 from C0.out.trans' cc (fun x hx => absurd hx (by simp)))
        have BF' := Lib.hid (show BookL w135 w.heap.size Bs128 b ((⟨S.now + 1, S.L, S.I ++ [((S.now + 1 : Nat) : Int)]⟩ : HB)) from BF.out.ch cc (fun _ _ h => absurd h (by simp)))
        have QB' := Lib.hid (show Blk w135 gq (#[.int .i64 S.now, v, u]) 53 from cc.blk QB.out nin_nil)
        have Fg52' := Lib.hid (show Blk w135 g52 (actA kz cz nz mz cl) 34 from cc.blk Fg52.out nin_nil)
        clear C0 BF QB Fg52
        have C0 := C0'; clear C0'
        have BF := BF'; clear BF'
        have QB := QB'; clear QB'
        have Fg52 := Fg52'; clear Fg52'
        clear DF cc
        have DF := Lib.hid (show DocIs w135 w.heap.size Bs128 ((⟨S.now + 1, S.L, S.I ++ [((S.now + 1 : Nat) : Int)]⟩ : HB)) (v133) (u134) from dk)
        clear dk
        refine hK132 _ _ ?_; clear hK132 K132
        (try simp only [zP, zN, zA, zB, zC])
        refine ef_ (fun K136 hK136 => ?_)
        refine e_storeN (cells := #[.int .i64 ((⟨S.now + 1, S.L, S.I ++ [((S.now + 1 : Nat) : Int)]⟩ : HB)).now, v133, u134]) (by rfl) rfl rfl (by rfl) (by rfl) QB.out (by kernel_rfl) (by rfl) (ones_cons rfl (ones_cons (src_u DF.out.1.src) (ones_cons (src_u DF.out.2.1.src) ones_nil))) ?_
        rintro w137 B138 C139
        have C0' := Lib.hid (show Ch [] w w137 from C0.out.trans' C139 (inw_cons (.inr nw13.out) inw_nil))
        have BF' := Lib.hid (show BookL w137 w.heap.size Bs128 b ((⟨S.now + 1, S.L, S.I ++ [((S.now + 1 : Nat) : Int)]⟩ : HB)) from BF.out.ch C139 (fun k hk hm => (List.mem_cons.1 hm).elim (fun e => hs130.out (e ▸ hk)) (fun h => (fun _ _ h => absurd h (by simp)) k hk h)))
        have DF' := Lib.hid (show DocIs w137 w.heap.size Bs128 ((⟨S.now + 1, S.L, S.I ++ [((S.now + 1 : Nat) : Int)]⟩ : HB)) (v133) (u134) from DF.out.ch C139 (rnin_cons (OwnS.ne DF.out.1 QB.out (by decide)) rnin_nil) (rnin_cons (OwnS.ne DF.out.2.1 QB.out (by decide)) rnin_nil))
        have Fg52' := Lib.hid (show Blk w137 g52 (actA kz cz nz mz cl) 34 from C139.blk Fg52.out (nin_cons (Blk.ne_type Fg52.out QB.out (by decide)) nin_nil))
        clear C0 BF DF Fg52
        have C0 := C0'; clear C0'
        have BF := BF'; clear BF'
        have DF := DF'; clear DF'
        have Fg52 := Fg52'; clear Fg52'
        clear QB; have QB := Lib.hid (show Blk w137 gq (#[.int .i64 ((⟨S.now + 1, S.L, S.I ++ [((S.now + 1 : Nat) : Int)]⟩ : HB)).now, v133, u134]) 53 from B138); clear B138 C139
        refine hK136 _ _ ?_; clear hK136 K136
        (try simp only [zP, zN, zA, zB, zC])
        refine nl_ ?_
        refine ib_norm ?_
        exact th_norm (hK69 _ _ ⟨_, (⟨S.now + 1, S.L, S.I ++ [((S.now + 1 : Nat) : Int)]⟩ : HB), _, _, (S.now + 1), 0, fun us_ => (#[.slice (some A) len0 cap0, .int .i64 c, .int .i64 n, us 3, us 4, us 5, .bool false, .pointer (some ⟨b, 0, none⟩), .pointer (some ⟨gq, 0, none⟩), .int .i64 k, .pointer (some ⟨g52, 0, none⟩), .int .i64 (S.now + 1 : Nat), .int .i64 0, .int .i64 0, us 14, us 15, us 16, us 17, us 18, us 19, us 20, us 21, us 22, .int .i64 k, .slice (some A) len0 cap0, .int .i64 len0, .bool true, .bool true, .int .i64 k, .bool true, .bool true, us 31, us 32, .slice (some A) len0 cap0, .int .i64 k, .pointer (some (A.add (k * 20))), .agg (actA kz cz nz mz cl), .pointer (some ⟨g52, 4, none⟩), .pointer (some ⟨g52, 7, none⟩), .agg (spc cl).toArray, .bool true, .bool false, us 42, .pointer (some ⟨g52, 0, none⟩), .int .i64 kz, .pointer (some ⟨b, 0, none⟩), .int .i64 (S.now + 1 : Nat), .agg (#[.int .i64 S.now, v, u]), .agg #[.int .i64 ((⟨S.now + 1, S.L, S.I ++ [((S.now + 1 : Nat) : Int)]⟩ : HB)).now, v133, u134], .bool false, .bool false, us 51, us 52, us 53, us 54, us 55, us 56, us 57, us 58, us 59, us 60, us 61, us 62, us 63, us 64, us 65, us 66, us 67, us 68, .bool false, .bool false, us 71, us 72, us 73, us 74, us 75, us 76, us 77, us 78, us 79, us 80, us 81, us 82, us 83, us 84, us 85, us 86, us 87, us 88, us 89, us 90, us 91, us 92, us 93, us 94, us 95, us 96, us 97, us 98, .bool false, .bool false, us 101, us 102, us 103, us 104, us 105, us 106, us 107, us 108, us 109, us 110, us 111, us 112, us 113, us 114, us 115, us 116, us 117, us 118, us 119, us 120, us 121, us 122, us 123, us 124, us 125, us 126, us 127, us 128, us 129, us 130, us 131, us 132, us 133, us 134, us 135, us 136, us 137, us 138, us 139, us 140, us 141, us 142, us 143, us 144, us 145, us 146, us 147, us 148, us 149, us 150, us 151, us 152, us 153, us 154, us 155, us 156, us 157, us 158, us 159, us 160, us 161, us 162, us 163, us 164, us 165, us 166, us 167, us 168, us 169, us 170, us 171, us 172, us 173, us 174, us 175, us 176, us 177, us 178, us 179, us 180, us 181, us 182, us 183, us 184, us 185, us 186, us 187, us 188, us 189, us 190, us 191, us 192, us 193, us 194, us 195, us 196, us 197, us 198, us 199, us 200, us 201, us 202, us 203, us 204, us 205, us 206, us 207] : Array Value).getD us_ undef, rfl, C0, BF, DF, QB, HT2, HOK2, Lib.hid (.inl ⟨rfl, rfl⟩), hs130⟩)
    rintro _ w70 ⟨Bs1, S1, v1, u1, rn, rc, us, rfl, C0, BF, DF, QB, HT2, HOK2, hans, hgq1⟩
    have HL1 := Lib.hid (show S1.now ≤ 1000 ∧ S1.L.length ≤ 1000 ∧ S1.I.length ≤ 1000 by have := HT2.out.1.len; have := HT2.out.2; have := hk.out; omega)
    obtain ⟨Av, cv, hv, -, -⟩ := DF.out.1.slice
    subst hv
    refine s_ (fun K140 hK140 => ?_)
    refine pu_ (v := .int .i64 0) (y_assign rfl (by rfl) (by rfl)) ?_
    (try simp only [zP, zN, zA, zB, zC])
    refine nl_ (hK140 _ _ ?_); clear hK140 K140
    refine sq_ (fun K141 hK141 => ?_)
    refine s_ (fun K142 hK142 => ?_)
    refine pu_ (v := .int .i64 0) (y_assign rfl (by rfl) (by rfl)) ?_
    (try simp only [zP, zN, zA, zB, zC])
    refine nl_ (hK142 _ _ ?_); clear hK142 K142
    refine wp_block ?_
    refine loopk_ (fun (jq : Nat) (a' : Act) (w' : World) => ∃ (j : Nat), ∃ (q : Nat), ∃ (us : Nat → Value), a' = ⟨#[.slice (some A) len0 cap0, .int .i64 c, .int .i64 n, us 3, us 4, us 5, .bool false, .pointer (some ⟨b, 0, none⟩), .pointer (some ⟨gq, 0, none⟩), .int .i64 k, us 10, .int .i64 rn, .int .i64 rc, .int .i64 rc, .int .i64 q, .int .i64 j, us 16, us 17, us 18, us 19, us 20, us 21, us 22, us 23, us 24, us 25, us 26, us 27, us 28, us 29, us 30, us 31, us 32, us 33, us 34, us 35, us 36, us 37, us 38, us 39, us 40, us 41, us 42, us 43, us 44, us 45, us 46, us 47, us 48, us 49, us 50, us 51, us 52, us 53, us 54, us 55, us 56, us 57, us 58, us 59, us 60, us 61, us 62, us 63, us 64, us 65, us 66, us 67, us 68, us 69, us 70, us 71, us 72, us 73, us 74, us 75, us 76, us 77, us 78, us 79, us 80, us 81, us 82, us 83, us 84, us 85, us 86, us 87, us 88, us 89, us 90, us 91, us 92, us 93, us 94, us 95, us 96, us 97, us 98, us 99, us 100, us 101, us 102, us 103, us 104, us 105, us 106, us 107, us 108, us 109, us 110, us 111, us 112, us 113, us 114, us 115, us 116, us 117, us 118, us 119, us 120, us 121, us 122, us 123, us 124, us 125, us 126, us 127, us 128, us 129, us 130, us 131, us 132, us 133, us 134, us 135, us 136, us 137, us 138, us 139, us 140, us 141, us 142, us 143, us 144, us 145, us 146, us 147, us 148, us 149, us 150, us 151, us 152, us 153, us 154, us 155, us 156, us 157, us 158, us 159, us 160, us 161, us 162, us 163, us 164, us 165, us 166, us 167, us 168, us 169, us 170, us 171, us 172, us 173, us 174, us 175, us 176, us 177, us 178, us 179, us 180, us 181, us 182, us 183, us 184, us 185, us 186, us 187, us 188, us 189, us 190, us 191, us 192, us 193, us 194, us 195, us 196, us 197, us 198, us 199, us 200, us 201, us 202, us 203, us 204, us 205, us 206, us 207], []⟩ ∧ Hid (Ch [] w w') ∧ Hid (BookL w' w.heap.size Bs1 b (S1)) ∧ Hid (DocIs w' w.heap.size Bs1 (S1) (.slice Av S1.L.length cv) (u1)) ∧ Hid (Blk w' gq (#[.int .i64 S1.now, .slice Av S1.L.length cv, u1]) 53) ∧ Hid (j ≤ S1.L.length ∧ jq + j = S1.L.length) ∧ Hid (q = openN (S1.L.take j))) (S1.L.length) (⟨0, 0, fun us_ => (#[.slice (some A) len0 cap0, .int .i64 c, .int .i64 n, us 3, us 4, us 5, .bool false, .pointer (some ⟨b, 0, none⟩), .pointer (some ⟨gq, 0, none⟩), .int .i64 k, us 10, .int .i64 rn, .int .i64 rc, .int .i64 rc, .int .i64 0, .int .i64 0, us 16, us 17, us 18, us 19, us 20, us 21, us 22, us 23, us 24, us 25, us 26, us 27, us 28, us 29, us 30, us 31, us 32, us 33, us 34, us 35, us 36, us 37, us 38, us 39, us 40, us 41, us 42, us 43, us 44, us 45, us 46, us 47, us 48, us 49, us 50, us 51, us 52, us 53, us 54, us 55, us 56, us 57, us 58, us 59, us 60, us 61, us 62, us 63, us 64, us 65, us 66, us 67, us 68, us 69, us 70, us 71, us 72, us 73, us 74, us 75, us 76, us 77, us 78, us 79, us 80, us 81, us 82, us 83, us 84, us 85, us 86, us 87, us 88, us 89, us 90, us 91, us 92, us 93, us 94, us 95, us 96, us 97, us 98, us 99, us 100, us 101, us 102, us 103, us 104, us 105, us 106, us 107, us 108, us 109, us 110, us 111, us 112, us 113, us 114, us 115, us 116, us 117, us 118, us 119, us 120, us 121, us 122, us 123, us 124, us 125, us 126, us 127, us 128, us 129, us 130, us 131, us 132, us 133, us 134, us 135, us 136, us 137, us 138, us 139, us 140, us 141, us 142, us 143, us 144, us 145, us 146, us 147, us 148, us 149, us 150, us 151, us 152, us 153, us 154, us 155, us 156, us 157, us 158, us 159, us 160, us 161, us 162, us 163, us 164, us 165, us 166, us 167, us 168, us 169, us 170, us 171, us 172, us 173, us 174, us 175, us 176, us 177, us 178, us 179, us 180, us 181, us 182, us 183, us 184, us 185, us 186, us 187, us 188, us 189, us 190, us 191, us 192, us 193, us 194, us 195, us 196, us 197, us 198, us 199, us 200, us 201, us 202, us 203, us 204, us 205, us 206, us 207] : Array Value).getD us_ undef, rfl, C0, BF, DF, QB, Lib.hid ⟨by omega, by omega⟩, Lib.hid rfl⟩) ?_
    rintro jq _ w143 ⟨j, q, us, rfl, C0, BF, DF, QB, hj, hq⟩ K144 hK144
    refine sq_ (fun K145 hK145 => ?_)
    rcases open_ways hj.out.1 with h | h | h
    · have jlt := Lib.hid h.1
      obtain ⟨o, ho0, hz0⟩ := h.2
      have ho := Lib.hid ho0
      have HZ := Lib.hid hz0
      clear h ho0 hz0
      obtain ⟨gv, cv2, hv, -, -, -, -, -⟩ := DF.out.1.some_ (by have := jlt.out; omega)
      injection hv with hv1 _ hv3
      subst hv1 hv3
      have D123 := Lib.hid (show (j : Int) < (S1.L.length : Int) by have := jlt.out; omega)
      have Wj := Lib.hid (show IntKind.i64.wrap ((j : Int) + 1) = ((j + 1 : Nat) : Int) by rw [wr64 (by have := jlt.out; have := HL1.out; omega)]; omega)
      have WQ := Lib.hid (show IntKind.i64.wrap ((q : Int) + 1) = ((q + 1 : Nat) : Int) by rw [wr64 (by have h1 : openN (S1.L.take j) ≤ j := Nat.le_trans (open_le _) (by rw [List.length_take]; omega); have := hq.out; have := jlt.out; have := HL1.out; omega)]; omega)
      refine s_ (fun K146 hK146 => ?_)
      refine pu_ (v := .int .i64 j) (y_move rfl (by rfl) (by rfl)) ?_
      (try simp only [zP, zN, zA, zB, zC])
      refine pu_ (v := .pointer (some ⟨gq, 1, none⟩)) (y_run (by rfl) (fun W => by go_simp)) ?_
      (try simp only [zP, zN, zA, zB, zC])
      refine ld_ (v := .slice (some ⟨gv, 0, none⟩) S1.L.length cv) rfl (by rfl) (by rfl) (run_load_one ((QB.out.cell 1).trans rfl) Try.underlying51 rfl) ?_
      (try simp only [zP, zN, zA, zB, zC])
      refine pu_ (v := .int .i64 S1.L.length) (y_run (by rfl) (fun W => by go_simp)) ?_
      (try simp only [zP, zN, zA, zB, zC])
      refine pu_ (v := .bool true) (y_run (by rfl) (fun W => by have d := D123.out; go_simp)) ?_
      (try simp only [zP, zN, zA, zB, zC])
      refine nl_ (hK146 _ _ ?_); clear hK146 K146
      refine wp_cond_true rfl ?_
      refine wp_skip ?_
      refine th_norm (hK145 _ _ ?_); try clear hK145 K145
      refine sq_ (fun K147 hK147 => ?_)
      refine wp_block ?_
      refine s_ (fun K148 hK148 => ?_)
      refine pu_ (v := .pointer (some ⟨gq, 1, none⟩)) (y_run (by rfl) (fun W => by go_simp)) ?_
      (try simp only [zP, zN, zA, zB, zC])
      refine ld_ (v := .slice (some ⟨gv, 0, none⟩) S1.L.length cv) rfl (by rfl) (by rfl) (run_load_one ((QB.out.cell 1).trans rfl) Try.underlying51 rfl) ?_
      (try simp only [zP, zN, zA, zB, zC])
      refine pu_ (v := .int .i64 j) (y_move rfl (by rfl) (by rfl)) ?_
      (try simp only [zP, zN, zA, zB, zC])
      refine pu_ (v := .pointer (some ⟨gv, j * 28, none⟩)) (y_run (by rfl) (fun W => by have d := D123.out; go_simp)) ?_
      (try simp only [zP, zN, zA, zB, zC])
      refine pu_ (v := .pointer (some ⟨gv, j * 28 + 4, none⟩)) (y_run (by rfl) (fun W => by go_simp)) ?_
      (try simp only [zP, zN, zA, zB, zC])
      refine ld_ (v := .int .i64 o.t) rfl (by rfl) (by rfl) (run_load_one (op_at59 ho.out DF.out.1 4 (by simp [opC])) Try.underlying3 rfl) ?_
      (try simp only [zP, zN, zA, zB, zC])
      refine pu_ (v := .bool true) (y_run (by rfl) (fun W => by have d := HZ.out; go_simp)) ?_
      (try simp only [zP, zN, zA, zB, zC])
      refine nl_ (hK148 _ _ ?_); clear hK148 K148
      refine wp_cond_true rfl ?_
      refine r_ ?_
      refine pu_ (v := .int .i64 q) (y_move rfl (by rfl) (by rfl)) ?_
      (try simp only [zP, zN, zA, zB, zC])
      refine pu_ (v := .int .i64 (q + 1 : Nat)) (y_run (by rfl) (fun W => by have d := WQ.out; go_simp)) ?_
      (try simp only [zP, zN, zA, zB, zC])
      refine pu_ (v := .int .i64 (q + 1 : Nat)) (y_assign rfl (by rfl) (by rfl)) ?_
      (try simp only [zP, zN, zA, zB, zC])
      refine nl_ ?_
      refine ib_norm ?_
      refine th_norm (hK147 _ _ ?_); try clear hK147 K147
      refine r_ ?_
      refine pu_ (v := .int .i64 j) (y_move rfl (by rfl) (by rfl)) ?_
      (try simp only [zP, zN, zA, zB, zC])
      refine pu_ (v := .int .i64 (j + 1 : Nat)) (y_run (by rfl) (fun W => by have d := Wj.out; go_simp)) ?_
      (try simp only [zP, zN, zA, zB, zC])
      refine pu_ (v := .int .i64 (j + 1 : Nat)) (y_assign rfl (by rfl) (by rfl)) ?_
      (try simp only [zP, zN, zA, zB, zC])
      refine nl_ ?_
      exact th_norm (hK144 (jq - 1) _ _ (by have := jlt.out; have := hj.out; omega) ⟨j + 1, q + 1, fun us_ => (#[.slice (some A) len0 cap0, .int .i64 c, .int .i64 n, us 3, us 4, us 5, .bool false, .pointer (some ⟨b, 0, none⟩), .pointer (some ⟨gq, 0, none⟩), .int .i64 k, us 10, .int .i64 rn, .int .i64 rc, .int .i64 rc, .int .i64 (q + 1 : Nat), .int .i64 (j + 1 : Nat), us 16, us 17, us 18, us 19, us 20, us 21, us 22, us 23, us 24, us 25, us 26, us 27, us 28, us 29, us 30, us 31, us 32, us 33, us 34, us 35, us 36, us 37, us 38, us 39, us 40, us 41, us 42, us 43, us 44, us 45, us 46, us 47, us 48, us 49, us 50, us 51, us 52, us 53, us 54, us 55, us 56, us 57, us 58, us 59, us 60, us 61, us 62, us 63, us 64, us 65, us 66, us 67, us 68, us 69, us 70, us 71, us 72, us 73, us 74, us 75, us 76, us 77, us 78, us 79, us 80, us 81, us 82, us 83, us 84, us 85, us 86, us 87, us 88, us 89, us 90, us 91, us 92, us 93, us 94, us 95, us 96, us 97, us 98, us 99, us 100, us 101, us 102, us 103, us 104, us 105, us 106, us 107, us 108, us 109, us 110, us 111, us 112, us 113, us 114, us 115, us 116, us 117, us 118, .int .i64 j, .pointer (some ⟨gq, 1, none⟩), .slice (some ⟨gv, 0, none⟩) S1.L.length cv, .int .i64 S1.L.length, .bool true, .int .i64 j, .int .i64 (j + 1 : Nat), .pointer (some ⟨gq, 1, none⟩), .slice (some ⟨gv, 0, none⟩) S1.L.length cv, .int .i64 j, .pointer (some ⟨gv, j * 28, none⟩), .pointer (some ⟨gv, j * 28 + 4, none⟩), .int .i64 o.t, .bool true, .int .i64 q, .int .i64 (q + 1 : Nat), us 135, us 136, us 137, us 138, us 139, us 140, us 141, us 142, us 143, us 144, us 145, us 146, us 147, us 148, us 149, us 150, us 151, us 152, us 153, us 154, us 155, us 156, us 157, us 158, us 159, us 160, us 161, us 162, us 163, us 164, us 165, us 166, us 167, us 168, us 169, us 170, us 171, us 172, us 173, us 174, us 175, us 176, us 177, us 178, us 179, us 180, us 181, us 182, us 183, us 184, us 185, us 186, us 187, us 188, us 189, us 190, us 191, us 192, us 193, us 194, us 195, us 196, us 197, us 198, us 199, us 200, us 201, us 202, us 203, us 204, us 205, us 206, us 207] : Array Value).getD us_ undef, rfl, C0, BF, DF, QB, Lib.hid ⟨by have := jlt.out; omega, by have := jlt.out; have := hj.out; omega⟩, Lib.hid (by rw [open_succ ho.out, ← hq.out, HZ.out]; rfl)⟩)
    · have jlt := Lib.hid h.1
      obtain ⟨o, ho0, hz0⟩ := h.2
      have ho := Lib.hid ho0
      have HZ := Lib.hid hz0
      clear h ho0 hz0
      obtain ⟨gv, cv2, hv, -, -, -, -, -⟩ := DF.out.1.some_ (by have := jlt.out; omega)
      injection hv with hv1 _ hv3
      subst hv1 hv3
      have D123 := Lib.hid (show (j : Int) < (S1.L.length : Int) by have := jlt.out; omega)
      have Wj := Lib.hid (show IntKind.i64.wrap ((j : Int) + 1) = ((j + 1 : Nat) : Int) by rw [wr64 (by have := jlt.out; have := HL1.out; omega)]; omega)
      have WQ := Lib.hid (show IntKind.i64.wrap ((q : Int) + 1) = ((q + 1 : Nat) : Int) by rw [wr64 (by have h1 : openN (S1.L.take j) ≤ j := Nat.le_trans (open_le _) (by rw [List.length_take]; omega); have := hq.out; have := jlt.out; have := HL1.out; omega)]; omega)
      refine s_ (fun K149 hK149 => ?_)
      refine pu_ (v := .int .i64 j) (y_move rfl (by rfl) (by rfl)) ?_
      (try simp only [zP, zN, zA, zB, zC])
      refine pu_ (v := .pointer (some ⟨gq, 1, none⟩)) (y_run (by rfl) (fun W => by go_simp)) ?_
      (try simp only [zP, zN, zA, zB, zC])
      refine ld_ (v := .slice (some ⟨gv, 0, none⟩) S1.L.length cv) rfl (by rfl) (by rfl) (run_load_one ((QB.out.cell 1).trans rfl) Try.underlying51 rfl) ?_
      (try simp only [zP, zN, zA, zB, zC])
      refine pu_ (v := .int .i64 S1.L.length) (y_run (by rfl) (fun W => by go_simp)) ?_
      (try simp only [zP, zN, zA, zB, zC])
      refine pu_ (v := .bool true) (y_run (by rfl) (fun W => by have d := D123.out; go_simp)) ?_
      (try simp only [zP, zN, zA, zB, zC])
      refine nl_ (hK149 _ _ ?_); clear hK149 K149
      refine wp_cond_true rfl ?_
      refine wp_skip ?_
      refine th_norm (hK145 _ _ ?_); try clear hK145 K145
      refine sq_ (fun K150 hK150 => ?_)
      refine wp_block ?_
      refine s_ (fun K151 hK151 => ?_)
      refine pu_ (v := .pointer (some ⟨gq, 1, none⟩)) (y_run (by rfl) (fun W => by go_simp)) ?_
      (try simp only [zP, zN, zA, zB, zC])
      refine ld_ (v := .slice (some ⟨gv, 0, none⟩) S1.L.length cv) rfl (by rfl) (by rfl) (run_load_one ((QB.out.cell 1).trans rfl) Try.underlying51 rfl) ?_
      (try simp only [zP, zN, zA, zB, zC])
      refine pu_ (v := .int .i64 j) (y_move rfl (by rfl) (by rfl)) ?_
      (try simp only [zP, zN, zA, zB, zC])
      refine pu_ (v := .pointer (some ⟨gv, j * 28, none⟩)) (y_run (by rfl) (fun W => by have d := D123.out; go_simp)) ?_
      (try simp only [zP, zN, zA, zB, zC])
      refine pu_ (v := .pointer (some ⟨gv, j * 28 + 4, none⟩)) (y_run (by rfl) (fun W => by go_simp)) ?_
      (try simp only [zP, zN, zA, zB, zC])
      refine ld_ (v := .int .i64 o.t) rfl (by rfl) (by rfl) (run_load_one (op_at59 ho.out DF.out.1 4 (by simp [opC])) Try.underlying3 rfl) ?_
      (try simp only [zP, zN, zA, zB, zC])
      refine pu_ (v := .bool false) (y_run (by rfl) (fun W => by have d := HZ.out; go_simp)) ?_
      (try simp only [zP, zN, zA, zB, zC])
      refine nl_ (hK151 _ _ ?_); clear hK151 K151
      refine wp_cond_false rfl ?_
      refine wp_skip ?_
      refine ib_norm ?_
      refine th_norm (hK150 _ _ ?_); try clear hK150 K150
      refine r_ ?_
      refine pu_ (v := .int .i64 j) (y_move rfl (by rfl) (by rfl)) ?_
      (try simp only [zP, zN, zA, zB, zC])
      refine pu_ (v := .int .i64 (j + 1 : Nat)) (y_run (by rfl) (fun W => by have d := Wj.out; go_simp)) ?_
      (try simp only [zP, zN, zA, zB, zC])
      refine pu_ (v := .int .i64 (j + 1 : Nat)) (y_assign rfl (by rfl) (by rfl)) ?_
      (try simp only [zP, zN, zA, zB, zC])
      refine nl_ ?_
      exact th_norm (hK144 (jq - 1) _ _ (by have := jlt.out; have := hj.out; omega) ⟨j + 1, q, fun us_ => (#[.slice (some A) len0 cap0, .int .i64 c, .int .i64 n, us 3, us 4, us 5, .bool false, .pointer (some ⟨b, 0, none⟩), .pointer (some ⟨gq, 0, none⟩), .int .i64 k, us 10, .int .i64 rn, .int .i64 rc, .int .i64 rc, .int .i64 q, .int .i64 (j + 1 : Nat), us 16, us 17, us 18, us 19, us 20, us 21, us 22, us 23, us 24, us 25, us 26, us 27, us 28, us 29, us 30, us 31, us 32, us 33, us 34, us 35, us 36, us 37, us 38, us 39, us 40, us 41, us 42, us 43, us 44, us 45, us 46, us 47, us 48, us 49, us 50, us 51, us 52, us 53, us 54, us 55, us 56, us 57, us 58, us 59, us 60, us 61, us 62, us 63, us 64, us 65, us 66, us 67, us 68, us 69, us 70, us 71, us 72, us 73, us 74, us 75, us 76, us 77, us 78, us 79, us 80, us 81, us 82, us 83, us 84, us 85, us 86, us 87, us 88, us 89, us 90, us 91, us 92, us 93, us 94, us 95, us 96, us 97, us 98, us 99, us 100, us 101, us 102, us 103, us 104, us 105, us 106, us 107, us 108, us 109, us 110, us 111, us 112, us 113, us 114, us 115, us 116, us 117, us 118, .int .i64 j, .pointer (some ⟨gq, 1, none⟩), .slice (some ⟨gv, 0, none⟩) S1.L.length cv, .int .i64 S1.L.length, .bool true, .int .i64 j, .int .i64 (j + 1 : Nat), .pointer (some ⟨gq, 1, none⟩), .slice (some ⟨gv, 0, none⟩) S1.L.length cv, .int .i64 j, .pointer (some ⟨gv, j * 28, none⟩), .pointer (some ⟨gv, j * 28 + 4, none⟩), .int .i64 o.t, .bool false, us 133, us 134, us 135, us 136, us 137, us 138, us 139, us 140, us 141, us 142, us 143, us 144, us 145, us 146, us 147, us 148, us 149, us 150, us 151, us 152, us 153, us 154, us 155, us 156, us 157, us 158, us 159, us 160, us 161, us 162, us 163, us 164, us 165, us 166, us 167, us 168, us 169, us 170, us 171, us 172, us 173, us 174, us 175, us 176, us 177, us 178, us 179, us 180, us 181, us 182, us 183, us 184, us 185, us 186, us 187, us 188, us 189, us 190, us 191, us 192, us 193, us 194, us 195, us 196, us 197, us 198, us 199, us 200, us 201, us 202, us 203, us 204, us 205, us 206, us 207] : Array Value).getD us_ undef, rfl, C0, BF, DF, QB, Lib.hid ⟨by have := jlt.out; omega, by have := jlt.out; have := hj.out; omega⟩, Lib.hid (by rw [open_succ ho.out, ← hq.out, HZ.out]; rfl)⟩)
    · have D123 := Lib.hid (show ¬ j < S1.L.length by omega)
      have HOP := Lib.hid (show q = openN S1.L by rw [hq.out, h, List.take_length])
      clear h
      refine s_ (fun K152 hK152 => ?_)
      refine pu_ (v := .int .i64 j) (y_move rfl (by rfl) (by rfl)) ?_
      (try simp only [zP, zN, zA, zB, zC])
      refine pu_ (v := .pointer (some ⟨gq, 1, none⟩)) (y_run (by rfl) (fun W => by go_simp)) ?_
      (try simp only [zP, zN, zA, zB, zC])
      refine ld_ (v := .slice Av S1.L.length cv) rfl (by rfl) (by rfl) (run_load_one ((QB.out.cell 1).trans rfl) Try.underlying51 rfl) ?_
      (try simp only [zP, zN, zA, zB, zC])
      refine pu_ (v := .int .i64 S1.L.length) (y_run (by rfl) (fun W => by go_simp)) ?_
      (try simp only [zP, zN, zA, zB, zC])
      refine pu_ (v := .bool false) (y_run (by rfl) (fun W => by have d := D123.out; go_simp)) ?_
      (try simp only [zP, zN, zA, zB, zC])
      refine nl_ (hK152 _ _ ?_); clear hK152 K152
      refine wp_cond_false rfl ?_
      refine wp_exit ?_
      refine th_exit ?_
      refine th_exit ?_
      refine ib_exit ?_
      refine th_norm (hK141 _ _ ?_); try clear hK141 K141
      rcases hans.out with h | h
      · have D140 := Lib.hid (show (rc == 0) = true from beq_iff_eq.2 h.1)
        have D145 := Lib.hid h.2
        clear h
        refine s_ (fun K153 hK153 => ?_)
        refine pu_ (v := .int .i64 rc) (y_move rfl (by rfl) (by rfl)) ?_
        (try simp only [zP, zN, zA, zB, zC])
        refine pu_ (v := .int .i64 rc) (y_move rfl (by rfl) (by rfl)) ?_
        (try simp only [zP, zN, zA, zB, zC])
        refine pu_ (v := .bool false) (y_run (by rfl) (fun W => by go_simp)) ?_
        (try simp only [zP, zN, zA, zB, zC])
        refine pu_ (v := .bool false) (y_move rfl (by rfl) (by rfl)) ?_
        (try simp only [zP, zN, zA, zB, zC])
        refine pu_ (v := .int .i64 rc) (y_move rfl (by rfl) (by rfl)) ?_
        (try simp only [zP, zN, zA, zB, zC])
        refine pu_ (v := .bool true) (y_run (by rfl) (fun W => by have d := D140.out; go_simp)) ?_
        (try simp only [zP, zN, zA, zB, zC])
        refine pu_ (v := .bool true) (y_move rfl (by rfl) (by rfl)) ?_
        (try simp only [zP, zN, zA, zB, zC])
        refine pu_ (v := .int .i64 rn) (y_move rfl (by rfl) (by rfl)) ?_
        (try simp only [zP, zN, zA, zB, zC])
        refine pu_ (v := .pointer (some ⟨gq, 0, none⟩)) (y_run (by rfl) (fun W => by go_simp)) ?_
        (try simp only [zP, zN, zA, zB, zC])
        refine ld_ (v := .int .i64 S1.now) rfl (by rfl) (by rfl) (run_load_one ((QB.out.cell 0).trans rfl) Try.underlying3 rfl) ?_
        (try simp only [zP, zN, zA, zB, zC])
        refine pu_ (v := .bool false) (y_run (by rfl) (fun W => by have d := D145.out; go_simp)) ?_
        (try simp only [zP, zN, zA, zB, zC])
        refine pu_ (v := .bool false) (y_pick (t := true) (by rfl) rfl (by rfl) (by rfl)) ?_
        (try simp only [zP, zN, zA, zB, zC])
        refine pu_ (v := .bool false) (y_pick (t := false) (by rfl) rfl (by rfl) (by rfl)) ?_
        (try simp only [zP, zN, zA, zB, zC])
        refine pu_ (v := .bool false) (y_move rfl (by rfl) (by rfl)) ?_
        (try simp only [zP, zN, zA, zB, zC])
        refine pu_ (v := .int .i64 rc) (y_move rfl (by rfl) (by rfl)) ?_
        (try simp only [zP, zN, zA, zB, zC])
        refine pu_ (v := .bool false) (y_run (by rfl) (fun W => by have d := beq_iff_eq.1 D140.out; go_simp)) ?_
        (try simp only [zP, zN, zA, zB, zC])
        refine pu_ (v := .bool false) (y_move rfl (by rfl) (by rfl)) ?_
        (try simp only [zP, zN, zA, zB, zC])
        refine pu_ (y_off (by rfl)) ?_
        (try simp only [zP, zN, zA, zB, zC])
        refine pu_ (y_off (by rfl)) ?_
        (try simp only [zP, zN, zA, zB, zC])
        refine pu_ (v := .bool false) (y_pick (t := false) (by rfl) rfl (by rfl) (by rfl)) ?_
        (try simp only [zP, zN, zA, zB, zC])
        refine pu_ (v := .bool false) (y_pick (t := false) (by rfl) rfl (by rfl) (by rfl)) ?_
        (try simp only [zP, zN, zA, zB, zC])
        refine pu_ (v := .bool false) (y_move rfl (by rfl) (by rfl)) ?_
        (try simp only [zP, zN, zA, zB, zC])
        refine pu_ (v := .pointer (some ⟨b, 0, none⟩)) (y_move rfl (by rfl) (by rfl)) ?_
        (try simp only [zP, zN, zA, zB, zC])
        refine ef_ (fun K154 hK154 => ?_)
        refine e_call Try.func22 (by kernel_rfl) rfl #[.pointer (some ⟨b, 0, none⟩)] (by rfl) rfl rfl (by first | rfl | (simp only [List.map_toArray, List.map_cons, List.map_nil]; first | done | rfl)) ((open_l BF.out HL1.out.2.1)) ?_
        rintro en w156 ⟨rfl, cc155⟩
        refine ⟨_, rfl, ?_⟩
        have C0' := Lib.hid (show Ch [] w w156 from C0.out.trans' cc155 (fun x hx => absurd hx (by simp)))
        have BF' := Lib.hid (show BookL w156 w.heap.size Bs1 b (S1) from BF.out.ch cc155 (fun _ _ h => absurd h (by simp)))
        have DF' := Lib.hid (show DocIs w156 w.heap.size Bs1 (S1) (.slice Av S1.L.length cv) (u1) from DF.out.ch0 cc155)
        have QB' := Lib.hid (show Blk w156 gq (#[.int .i64 S1.now, .slice Av S1.L.length cv, u1]) 53 from cc155.blk QB.out nin_nil)
        clear C0 BF DF QB
        have C0 := C0'; clear C0'
        have BF := BF'; clear BF'
        have DF := DF'; clear DF'
        have QB := QB'; clear QB'
        clear cc155
        refine hK154 _ _ ?_; clear hK154 K154
        (try simp only [zP, zN, zA, zB, zC])
        refine pu_ (v := .int .i64 q) (y_move rfl (by rfl) (by rfl)) ?_
        (try simp only [zP, zN, zA, zB, zC])
        refine pu_ (v := .bool false) (y_run (by rfl) (fun W => by have d := HOP.out; go_simp)) ?_
        (try simp only [zP, zN, zA, zB, zC])
        refine pu_ (v := .bool false) (y_pick (t := false) (by rfl) rfl (by rfl) (by rfl)) ?_
        (try simp only [zP, zN, zA, zB, zC])
        refine pu_ (v := .bool false) (y_move rfl (by rfl) (by rfl)) ?_
        (try simp only [zP, zN, zA, zB, zC])
        refine pu_ (v := .pointer (some ⟨b, 0, none⟩)) (y_move rfl (by rfl) (by rfl)) ?_
        (try simp only [zP, zN, zA, zB, zC])
        refine ld_ (v := .agg (#[.int .i64 S1.now, .slice Av S1.L.length cv, u1])) rfl (by rfl) (by rfl) (run_loadVar_row _ _ 53 53 (#[.int .i64 S1.now, .slice Av S1.L.length cv, u1]) (0, 0) _ QB.out Try.underlying53 rfl (by kernel_rfl)) ?_
        (try simp only [zP, zN, zA, zB, zC])
        refine ef_ (fun K157 hK157 => ?_)
        refine e_call Try.func23 (by kernel_rfl) rfl #[.pointer (some ⟨b, 0, none⟩), .agg (#[.int .i64 S1.now, .slice Av S1.L.length cv, u1])] (by rfl) rfl rfl (by first | rfl | (simp only [List.map_toArray, List.map_cons, List.map_nil]; first | done | rfl)) ((same_all (Lib.hid HL1.out.2.1) (Lib.hid HL1.out.2.2) HOK2 (Lib.hid C0.out.below0) BF DF)) ?_
        rintro en w159 ⟨rfl, cc158⟩
        refine ⟨_, rfl, ?_⟩
        have C0' := Lib.hid (show Ch [] w w159 from C0.out.trans' cc158 (fun x hx => absurd hx (by simp)))
        have BF' := Lib.hid (show BookL w159 w.heap.size Bs1 b (S1) from BF.out.ch cc158 (fun _ _ h => absurd h (by simp)))
        have DF' := Lib.hid (show DocIs w159 w.heap.size Bs1 (S1) (.slice Av S1.L.length cv) (u1) from DF.out.ch0 cc158)
        have QB' := Lib.hid (show Blk w159 gq (#[.int .i64 S1.now, .slice Av S1.L.length cv, u1]) 53 from cc158.blk QB.out nin_nil)
        clear C0 BF DF QB
        have C0 := C0'; clear C0'
        have BF := BF'; clear BF'
        have DF := DF'; clear DF'
        have QB := QB'; clear QB'
        clear cc158
        refine hK157 _ _ ?_; clear hK157 K157
        (try simp only [zP, zN, zA, zB, zC])
        refine pu_ (v := .bool false) (y_run (by rfl) (fun W => by go_simp)) ?_
        (try simp only [zP, zN, zA, zB, zC])
        refine pu_ (v := .bool false) (y_pick (t := false) (by rfl) rfl (by rfl) (by rfl)) ?_
        (try simp only [zP, zN, zA, zB, zC])
        refine nl_ (hK153 _ _ ?_); clear hK153 K153
        refine wp_cond_false rfl ?_
        refine wp_skip ?_
        refine ib_norm ?_
        refine th_norm (hK49 _ _ ?_); try clear hK49 K49
        refine r_ ?_
        refine pu_ (v := .int .i64 k) (y_move rfl (by rfl) (by rfl)) ?_
        (try simp only [zP, zN, zA, zB, zC])
        refine pu_ (v := .int .i64 (k + 1 : Nat)) (y_run (by rfl) (fun W => by have d := WA.out; go_simp)) ?_
        (try simp only [zP, zN, zA, zB, zC])
        refine pu_ (v := .int .i64 (k + 1 : Nat)) (y_assign rfl (by rfl) (by rfl)) ?_
        (try simp only [zP, zN, zA, zB, zC])
        refine nl_ ?_
        exact th_norm (hK22 (kq - 1) _ _ (by have := hlt.out; have := hk.out; omega) ⟨k + 1, _, _, _, _, fun us_ => (#[.slice (some A) len0 cap0, .int .i64 c, .int .i64 n, us 3, us 4, us 5, .bool false, .pointer (some ⟨b, 0, none⟩), .pointer (some ⟨gq, 0, none⟩), .int .i64 (k + 1 : Nat), us 10, .int .i64 rn, .int .i64 rc, .int .i64 rc, .int .i64 q, .int .i64 j, us 16, us 17, us 18, us 19, us 20, us 21, us 22, us 23, us 24, us 25, us 26, us 27, us 28, us 29, us 30, .int .i64 k, .int .i64 (k + 1 : Nat), us 33, us 34, us 35, us 36, us 37, us 38, us 39, us 40, us 41, us 42, us 43, us 44, us 45, us 46, us 47, us 48, us 49, us 50, us 51, us 52, us 53, us 54, us 55, us 56, us 57, us 58, us 59, us 60, us 61, us 62, us 63, us 64, us 65, us 66, us 67, us 68, us 69, us 70, us 71, us 72, us 73, us 74, us 75, us 76, us 77, us 78, us 79, us 80, us 81, us 82, us 83, us 84, us 85, us 86, us 87, us 88, us 89, us 90, us 91, us 92, us 93, us 94, us 95, us 96, us 97, us 98, us 99, us 100, us 101, us 102, us 103, us 104, us 105, us 106, us 107, us 108, us 109, us 110, us 111, us 112, us 113, us 114, us 115, us 116, us 117, us 118, .int .i64 j, .pointer (some ⟨gq, 1, none⟩), .slice Av S1.L.length cv, .int .i64 S1.L.length, .bool false, us 124, us 125, us 126, us 127, us 128, us 129, us 130, us 131, us 132, us 133, us 134, .int .i64 rc, .int .i64 rc, .bool false, .bool false, .int .i64 rc, .bool true, .bool true, .int .i64 rn, .pointer (some ⟨gq, 0, none⟩), .int .i64 S1.now, .bool false, .bool false, .bool false, .bool false, .int .i64 rc, .bool false, .bool false, undef, undef, .bool false, .bool false, .bool false, .pointer (some ⟨b, 0, none⟩), .int .i64 (openN S1.L), .int .i64 q, .bool false, .bool false, .bool false, .pointer (some ⟨b, 0, none⟩), .agg (#[.int .i64 S1.now, .slice Av S1.L.length cv, u1]), .bool true, .bool false, .bool false, us 168, us 169, us 170, us 171, us 172, us 173, us 174, us 175, us 176, us 177, us 178, us 179, us 180, us 181, us 182, us 183, us 184, us 185, us 186, us 187, us 188, us 189, us 190, us 191, us 192, us 193, us 194, us 195, us 196, us 197, us 198, us 199, us 200, us 201, us 202, us 203, us 204, us 205, us 206, us 207] : Array Value).getD us_ undef, rfl, C0, BF, DF, QB, Lib.hid ⟨by have := hlt.out; omega, by have := hlt.out; omega, by have := hlt.out; have := hk.out; omega⟩, HT2, HOK2, hgq1⟩)
      · have D140 := Lib.hid h.1
        have D153 := Lib.hid h.2
        clear h
        refine s_ (fun K160 hK160 => ?_)
        refine pu_ (v := .int .i64 rc) (y_move rfl (by rfl) (by rfl)) ?_
        (try simp only [zP, zN, zA, zB, zC])
        refine pu_ (v := .int .i64 rc) (y_move rfl (by rfl) (by rfl)) ?_
        (try simp only [zP, zN, zA, zB, zC])
        refine pu_ (v := .bool false) (y_run (by rfl) (fun W => by go_simp)) ?_
        (try simp only [zP, zN, zA, zB, zC])
        refine pu_ (v := .bool false) (y_move rfl (by rfl) (by rfl)) ?_
        (try simp only [zP, zN, zA, zB, zC])
        refine pu_ (v := .int .i64 rc) (y_move rfl (by rfl) (by rfl)) ?_
        (try simp only [zP, zN, zA, zB, zC])
        refine pu_ (v := .bool false) (y_run (by rfl) (fun W => by have d := D140.out; go_simp)) ?_
        (try simp only [zP, zN, zA, zB, zC])
        refine pu_ (v := .bool false) (y_move rfl (by rfl) (by rfl)) ?_
        (try simp only [zP, zN, zA, zB, zC])
        refine pu_ (y_off (by rfl)) ?_
        (try simp only [zP, zN, zA, zB, zC])
        refine pu_ (y_off (by rfl)) ?_
        (try simp only [zP, zN, zA, zB, zC])
        refine pu_ (y_off (by rfl)) ?_
        (try simp only [zP, zN, zA, zB, zC])
        refine pu_ (y_off (by rfl)) ?_
        (try simp only [zP, zN, zA, zB, zC])
        refine pu_ (v := .bool false) (y_pick (t := false) (by rfl) rfl (by rfl) (by rfl)) ?_
        (try simp only [zP, zN, zA, zB, zC])
        refine pu_ (v := .bool false) (y_pick (t := false) (by rfl) rfl (by rfl) (by rfl)) ?_
        (try simp only [zP, zN, zA, zB, zC])
        refine pu_ (v := .bool false) (y_move rfl (by rfl) (by rfl)) ?_
        (try simp only [zP, zN, zA, zB, zC])
        refine pu_ (v := .int .i64 rc) (y_move rfl (by rfl) (by rfl)) ?_
        (try simp only [zP, zN, zA, zB, zC])
        refine pu_ (v := .bool true) (y_run (by rfl) (fun W => by have d := D140.out; go_simp)) ?_
        (try simp only [zP, zN, zA, zB, zC])
        refine pu_ (v := .bool true) (y_move rfl (by rfl) (by rfl)) ?_
        (try simp only [zP, zN, zA, zB, zC])
        refine pu_ (v := .int .i64 rn) (y_move rfl (by rfl) (by rfl)) ?_
        (try simp only [zP, zN, zA, zB, zC])
        refine pu_ (v := .bool false) (y_run (by rfl) (fun W => by have d := D153.out; go_simp)) ?_
        (try simp only [zP, zN, zA, zB, zC])
        refine pu_ (v := .bool false) (y_pick (t := true) (by rfl) rfl (by rfl) (by rfl)) ?_
        (try simp only [zP, zN, zA, zB, zC])
        refine pu_ (v := .bool false) (y_pick (t := false) (by rfl) rfl (by rfl) (by rfl)) ?_
        (try simp only [zP, zN, zA, zB, zC])
        refine pu_ (v := .bool false) (y_move rfl (by rfl) (by rfl)) ?_
        (try simp only [zP, zN, zA, zB, zC])
        refine pu_ (v := .pointer (some ⟨b, 0, none⟩)) (y_move rfl (by rfl) (by rfl)) ?_
        (try simp only [zP, zN, zA, zB, zC])
        refine ef_ (fun K161 hK161 => ?_)
        refine e_call Try.func22 (by kernel_rfl) rfl #[.pointer (some ⟨b, 0, none⟩)] (by rfl) rfl rfl (by first | rfl | (simp only [List.map_toArray, List.map_cons, List.map_nil]; first | done | rfl)) ((open_l BF.out HL1.out.2.1)) ?_
        rintro en w163 ⟨rfl, cc162⟩
        refine ⟨_, rfl, ?_⟩
        have C0' := Lib.hid (show Ch [] w w163 from C0.out.trans' cc162 (fun x hx => absurd hx (by simp)))
        have BF' := Lib.hid (show BookL w163 w.heap.size Bs1 b (S1) from BF.out.ch cc162 (fun _ _ h => absurd h (by simp)))
        have DF' := Lib.hid (show DocIs w163 w.heap.size Bs1 (S1) (.slice Av S1.L.length cv) (u1) from DF.out.ch0 cc162)
        have QB' := Lib.hid (show Blk w163 gq (#[.int .i64 S1.now, .slice Av S1.L.length cv, u1]) 53 from cc162.blk QB.out nin_nil)
        clear C0 BF DF QB
        have C0 := C0'; clear C0'
        have BF := BF'; clear BF'
        have DF := DF'; clear DF'
        have QB := QB'; clear QB'
        clear cc162
        refine hK161 _ _ ?_; clear hK161 K161
        (try simp only [zP, zN, zA, zB, zC])
        refine pu_ (v := .int .i64 q) (y_move rfl (by rfl) (by rfl)) ?_
        (try simp only [zP, zN, zA, zB, zC])
        refine pu_ (v := .bool false) (y_run (by rfl) (fun W => by have d := HOP.out; go_simp)) ?_
        (try simp only [zP, zN, zA, zB, zC])
        refine pu_ (v := .bool false) (y_pick (t := false) (by rfl) rfl (by rfl) (by rfl)) ?_
        (try simp only [zP, zN, zA, zB, zC])
        refine pu_ (v := .bool false) (y_move rfl (by rfl) (by rfl)) ?_
        (try simp only [zP, zN, zA, zB, zC])
        refine pu_ (v := .pointer (some ⟨b, 0, none⟩)) (y_move rfl (by rfl) (by rfl)) ?_
        (try simp only [zP, zN, zA, zB, zC])
        refine ld_ (v := .agg (#[.int .i64 S1.now, .slice Av S1.L.length cv, u1])) rfl (by rfl) (by rfl) (run_loadVar_row _ _ 53 53 (#[.int .i64 S1.now, .slice Av S1.L.length cv, u1]) (0, 0) _ QB.out Try.underlying53 rfl (by kernel_rfl)) ?_
        (try simp only [zP, zN, zA, zB, zC])
        refine ef_ (fun K164 hK164 => ?_)
        refine e_call Try.func23 (by kernel_rfl) rfl #[.pointer (some ⟨b, 0, none⟩), .agg (#[.int .i64 S1.now, .slice Av S1.L.length cv, u1])] (by rfl) rfl rfl (by first | rfl | (simp only [List.map_toArray, List.map_cons, List.map_nil]; first | done | rfl)) ((same_all (Lib.hid HL1.out.2.1) (Lib.hid HL1.out.2.2) HOK2 (Lib.hid C0.out.below0) BF DF)) ?_
        rintro en w166 ⟨rfl, cc165⟩
        refine ⟨_, rfl, ?_⟩
        have C0' := Lib.hid (show Ch [] w w166 from C0.out.trans' cc165 (fun x hx => absurd hx (by simp)))
        have BF' := Lib.hid (show BookL w166 w.heap.size Bs1 b (S1) from BF.out.ch cc165 (fun _ _ h => absurd h (by simp)))
        have DF' := Lib.hid (show DocIs w166 w.heap.size Bs1 (S1) (.slice Av S1.L.length cv) (u1) from DF.out.ch0 cc165)
        have QB' := Lib.hid (show Blk w166 gq (#[.int .i64 S1.now, .slice Av S1.L.length cv, u1]) 53 from cc165.blk QB.out nin_nil)
        clear C0 BF DF QB
        have C0 := C0'; clear C0'
        have BF := BF'; clear BF'
        have DF := DF'; clear DF'
        have QB := QB'; clear QB'
        clear cc165
        refine hK164 _ _ ?_; clear hK164 K164
        (try simp only [zP, zN, zA, zB, zC])
        refine pu_ (v := .bool false) (y_run (by rfl) (fun W => by go_simp)) ?_
        (try simp only [zP, zN, zA, zB, zC])
        refine pu_ (v := .bool false) (y_pick (t := false) (by rfl) rfl (by rfl) (by rfl)) ?_
        (try simp only [zP, zN, zA, zB, zC])
        refine nl_ (hK160 _ _ ?_); clear hK160 K160
        refine wp_cond_false rfl ?_
        refine wp_skip ?_
        refine ib_norm ?_
        refine th_norm (hK49 _ _ ?_); try clear hK49 K49
        refine r_ ?_
        refine pu_ (v := .int .i64 k) (y_move rfl (by rfl) (by rfl)) ?_
        (try simp only [zP, zN, zA, zB, zC])
        refine pu_ (v := .int .i64 (k + 1 : Nat)) (y_run (by rfl) (fun W => by have d := WA.out; go_simp)) ?_
        (try simp only [zP, zN, zA, zB, zC])
        refine pu_ (v := .int .i64 (k + 1 : Nat)) (y_assign rfl (by rfl) (by rfl)) ?_
        (try simp only [zP, zN, zA, zB, zC])
        refine nl_ ?_
        exact th_norm (hK22 (kq - 1) _ _ (by have := hlt.out; have := hk.out; omega) ⟨k + 1, _, _, _, _, fun us_ => (#[.slice (some A) len0 cap0, .int .i64 c, .int .i64 n, us 3, us 4, us 5, .bool false, .pointer (some ⟨b, 0, none⟩), .pointer (some ⟨gq, 0, none⟩), .int .i64 (k + 1 : Nat), us 10, .int .i64 rn, .int .i64 rc, .int .i64 rc, .int .i64 q, .int .i64 j, us 16, us 17, us 18, us 19, us 20, us 21, us 22, us 23, us 24, us 25, us 26, us 27, us 28, us 29, us 30, .int .i64 k, .int .i64 (k + 1 : Nat), us 33, us 34, us 35, us 36, us 37, us 38, us 39, us 40, us 41, us 42, us 43, us 44, us 45, us 46, us 47, us 48, us 49, us 50, us 51, us 52, us 53, us 54, us 55, us 56, us 57, us 58, us 59, us 60, us 61, us 62, us 63, us 64, us 65, us 66, us 67, us 68, us 69, us 70, us 71, us 72, us 73, us 74, us 75, us 76, us 77, us 78, us 79, us 80, us 81, us 82, us 83, us 84, us 85, us 86, us 87, us 88, us 89, us 90, us 91, us 92, us 93, us 94, us 95, us 96, us 97, us 98, us 99, us 100, us 101, us 102, us 103, us 104, us 105, us 106, us 107, us 108, us 109, us 110, us 111, us 112, us 113, us 114, us 115, us 116, us 117, us 118, .int .i64 j, .pointer (some ⟨gq, 1, none⟩), .slice Av S1.L.length cv, .int .i64 S1.L.length, .bool false, us 124, us 125, us 126, us 127, us 128, us 129, us 130, us 131, us 132, us 133, us 134, .int .i64 rc, .int .i64 rc, .bool false, .bool false, .int .i64 rc, .bool false, .bool false, undef, undef, undef, undef, .bool false, .bool false, .bool false, .int .i64 rc, .bool true, .bool true, .int .i64 rn, .bool false, .bool false, .bool false, .bool false, .pointer (some ⟨b, 0, none⟩), .int .i64 (openN S1.L), .int .i64 q, .bool false, .bool false, .bool false, .pointer (some ⟨b, 0, none⟩), .agg (#[.int .i64 S1.now, .slice Av S1.L.length cv, u1]), .bool true, .bool false, .bool false, us 168, us 169, us 170, us 171, us 172, us 173, us 174, us 175, us 176, us 177, us 178, us 179, us 180, us 181, us 182, us 183, us 184, us 185, us 186, us 187, us 188, us 189, us 190, us 191, us 192, us 193, us 194, us 195, us 196, us 197, us 198, us 199, us 200, us 201, us 202, us 203, us 204, us 205, us 206, us 207] : Array Value).getD us_ undef, rfl, C0, BF, DF, QB, Lib.hid ⟨by have := hlt.out; omega, by have := hlt.out; omega, by have := hlt.out; have := hk.out; omega⟩, HT2, HOK2, hgq1⟩)
  · have D26 := Lib.hid (show k < len0 by omega)
    have D29 := Lib.hid (show decide ((k : Int) < 80) = false from decide_eq_false (by omega))
    have HK80 := Lib.hid (show True from trivial)
    clear h
    refine s_ (fun K167 hK167 => ?_)
    refine pu_ (v := .int .i64 k) (y_move rfl (by rfl) (by rfl)) ?_
    (try simp only [zP, zN, zA, zB, zC])
    refine pu_ (v := .slice a0 len0 cap0) (y_move rfl (by rfl) (by rfl)) ?_
    (try simp only [zP, zN, zA, zB, zC])
    refine pu_ (v := .int .i64 len0) (y_run (by rfl) (fun W => by go_simp)) ?_
    (try simp only [zP, zN, zA, zB, zC])
    refine pu_ (v := .bool true) (y_run (by rfl) (fun W => by have d := D26.out; go_simp)) ?_
    (try simp only [zP, zN, zA, zB, zC])
    refine pu_ (v := .bool true) (y_move rfl (by rfl) (by rfl)) ?_
    (try simp only [zP, zN, zA, zB, zC])
    refine pu_ (v := .int .i64 k) (y_move rfl (by rfl) (by rfl)) ?_
    (try simp only [zP, zN, zA, zB, zC])
    refine pu_ (v := .bool false) (y_run (by rfl) (fun W => by have d := D29.out; go_simp)) ?_
    (try simp only [zP, zN, zA, zB, zC])
    refine pu_ (v := .bool false) (y_pick (t := true) (by rfl) rfl (by rfl) (by rfl)) ?_
    (try simp only [zP, zN, zA, zB, zC])
    refine nl_ (hK167 _ _ ?_); clear hK167 K167
    refine wp_cond_false rfl ?_
    refine wp_exit ?_
    refine th_exit ?_
    refine th_exit ?_
    refine ib_exit ?_
    refine th_norm (hK19 _ _ ?_); try clear hK19 K19
    rcases of_ways S c n with ⟨hix, hof⟩ | ⟨j, o, hix, ho0, hof⟩
    · have HSL := Lib.hid (show S.L.length ≤ 1000 by have := ht.out.1.len; have := ht.out.2; have := hk.out; omega)
      have HOF := Lib.hid hof
      have HIX := Lib.hid hix
      skip
      clear hof hix
      obtain ⟨Av, cv, hv, -, -⟩ := DF.out.1.slice
      subst hv
      refine s_ (fun K168 hK168 => ?_)
      refine pu_ (v := .pointer (some ⟨b, 0, none⟩)) (y_move rfl (by rfl) (by rfl)) ?_
      (try simp only [zP, zN, zA, zB, zC])
      refine pu_ (v := .int .i64 c) (y_move rfl (by rfl) (by rfl)) ?_
      (try simp only [zP, zN, zA, zB, zC])
      refine pu_ (v := .int .i64 n) (y_move rfl (by rfl) (by rfl)) ?_
      (try simp only [zP, zN, zA, zB, zC])
      refine ef_ (fun K169 hK169 => ?_)
      refine e_call Try.func24 (by kernel_rfl) rfl #[.pointer (some ⟨b, 0, none⟩), .int .i64 c, .int .i64 n] (by rfl) rfl rfl (by first | rfl | (simp only [List.map_toArray, List.map_cons, List.map_nil]; first | done | rfl)) ((by have h := of_l BF.out HKY.out HSL.out; rw [HOF.out] at h; exact h)) ?_
      rintro en w171 ⟨rfl, cc170⟩
      refine ⟨_, rfl, ?_⟩
      have C0' := Lib.hid (show Ch [] w w171 from C0.out.trans' cc170 (fun x hx => absurd hx (by simp)))
      have BF' := Lib.hid (show BookL w171 w.heap.size Bs b (S) from BF.out.ch cc170 (fun _ _ h => absurd h (by simp)))
      have DF' := Lib.hid (show DocIs w171 w.heap.size Bs (S) (.slice Av S.L.length cv) (u) from DF.out.ch0 cc170)
      have QB' := Lib.hid (show Blk w171 gq (#[.int .i64 S.now, .slice Av S.L.length cv, u]) 53 from cc170.blk QB.out nin_nil)
      clear C0 BF DF QB
      have C0 := C0'; clear C0'
      have BF := BF'; clear BF'
      have DF := DF'; clear DF'
      have QB := QB'; clear QB'
      clear cc170
      refine hK169 _ _ ?_; clear hK169 K169
      (try simp only [zP, zN, zA, zB, zC])
      refine pu_ (v := .tuple #[.agg (opC zO).toArray, .bool false]) (y_move rfl (by rfl) (by rfl)) ?_
      (try simp only [zP, zN, zA, zB, zC])
      refine pu_ (v := .agg (opC zO).toArray) (y_run (by rfl) (fun W => by go_simp)) ?_
      (try simp only [zP, zN, zA, zB, zC])
      refine pu_ (v := .bool false) (y_run (by rfl) (fun W => by go_simp)) ?_
      (try simp only [zP, zN, zA, zB, zC])
      refine ef_ (fun K172 hK172 => ?_)
      refine e_alloc (by rfl) rfl rfl (cs := #[.int .i64 0, .int .i64 0, .int .i64 0, .int .i64 0, .int .i64 0, .int .i64 0, .int .i64 0, .int .u64 0, .string ⟨#[]⟩, .slice none 0 0, .slice none 0 0, .slice none 0 0, .int .i64 0, .int .i64 0, .int .i64 0, .int .i64 0, .int .i64 0, .int .i64 0, .int .i64 0, .string ⟨#[]⟩, .slice none 0 0, .int .i64 0, .int .i64 0, .int .i64 0, .int .u64 0, .string ⟨#[]⟩, .slice none 0 0, .slice none 0 0]) (by kernel_rfl) ?_
      rintro g173 w174 HG175 B176 C177
      have nw178 := Lib.hid (show w.heap.size ≤ g173 by have := C0.out.size; have := HG175.out; omega)
      have hs179 := Lib.hid (show g173 ∉ Bs from BF.out.ne_new HG175)
      have C0' := Lib.hid (show Ch [] w w174 from C0.out.trans' C177 (fun x hx => absurd hx (by simp)))
      have BF' := Lib.hid (show BookL w174 w.heap.size Bs b (S) from BF.out.ch C177 (fun _ _ h => absurd h (by simp)))
      have DF' := Lib.hid (show DocIs w174 w.heap.size Bs (S) (.slice Av S.L.length cv) (u) from DF.out.ch0 C177)
      have QB' := Lib.hid (show Blk w174 gq (#[.int .i64 S.now, .slice Av S.L.length cv, u]) 53 from C177.blk QB.out nin_nil)
      clear C0 BF DF QB
      have C0 := C0'; clear C0'
      have BF := BF'; clear BF'
      have DF := DF'; clear DF'
      have QB := QB'; clear QB'
      have Fg173 := Lib.hid (show Blk w174 g173 (#[.int .i64 0, .int .i64 0, .int .i64 0, .int .i64 0, .int .i64 0, .int .i64 0, .int .i64 0, .int .u64 0, .string ⟨#[]⟩, .slice none 0 0, .slice none 0 0, .slice none 0 0, .int .i64 0, .int .i64 0, .int .i64 0, .int .i64 0, .int .i64 0, .int .i64 0, .int .i64 0, .string ⟨#[]⟩, .slice none 0 0, .int .i64 0, .int .i64 0, .int .i64 0, .int .u64 0, .string ⟨#[]⟩, .slice none 0 0, .slice none 0 0]) 49 from B176); clear B176 C177
      refine hK172 _ _ ?_; clear hK172 K172
      (try simp only [zP, zN, zA, zB, zC])
      refine ef_ (fun K180 hK180 => ?_)
      refine e_storeN (cells := (opC zO).toArray) (by rfl) rfl rfl (by rfl) (by rfl) Fg173.out (sz49 zO) (by rw [show (opC zO).toArray.size = 28 by rw [List.size_toArray, opC_len]]; rfl) (by simpa using opC_one zO) ?_
      rintro w181 B182 C183
      have C0' := Lib.hid (show Ch [] w w181 from C0.out.trans' C183 (inw_cons (.inr nw178.out) inw_nil))
      have BF' := Lib.hid (show BookL w181 w.heap.size Bs b (S) from BF.out.ch C183 (fun k hk hm => (List.mem_cons.1 hm).elim (fun e => hs179.out (e ▸ hk)) (fun h => (fun _ _ h => absurd h (by simp)) k hk h)))
      have DF' := Lib.hid (show DocIs w181 w.heap.size Bs (S) (.slice Av S.L.length cv) (u) from DF.out.ch C183 (rnin_cons (OwnS.ne DF.out.1 Fg173.out (by decide)) rnin_nil) (rnin_cons (OwnS.ne DF.out.2.1 Fg173.out (by decide)) rnin_nil))
      have QB' := Lib.hid (show Blk w181 gq (#[.int .i64 S.now, .slice Av S.L.length cv, u]) 53 from C183.blk QB.out (nin_cons (Blk.ne_type QB.out Fg173.out (by decide)) nin_nil))
      clear C0 BF DF QB
      have C0 := C0'; clear C0'
      have BF := BF'; clear BF'
      have DF := DF'; clear DF'
      have QB := QB'; clear QB'
      clear Fg173; have Fg173 := Lib.hid (show Blk w181 g173 ((opC zO).toArray) 49 from B182); clear B182 C183
      refine hK180 _ _ ?_; clear hK180 K180
      (try simp only [zP, zN, zA, zB, zC])
      refine pu_ (v := .bool false) (y_assign rfl (by rfl) (by rfl)) ?_
      (try simp only [zP, zN, zA, zB, zC])
      refine nl_ (hK168 _ _ ?_); clear hK168 K168
      refine s_ (fun K184 hK184 => ?_)
      refine ld_ (v := .agg (#[.int .i64 S.now, .slice Av S.L.length cv, u])) rfl (by rfl) (by rfl) (run_loadVar_row _ _ 53 53 (#[.int .i64 S.now, .slice Av S.L.length cv, u]) (0, 0) _ QB.out Try.underlying53 rfl (by kernel_rfl)) ?_
      (try simp only [zP, zN, zA, zB, zC])
      refine pu_ (v := .int .i64 c) (y_move rfl (by rfl) (by rfl)) ?_
      (try simp only [zP, zN, zA, zB, zC])
      refine pu_ (v := .int .i64 n) (y_move rfl (by rfl) (by rfl)) ?_
      (try simp only [zP, zN, zA, zB, zC])
      refine ef_ (fun K185 hK185 => ?_)
      refine e_call Try.func25 (by kernel_rfl) rfl #[.agg (#[.int .i64 S.now, .slice Av S.L.length cv, u]), .int .i64 c, .int .i64 n] (by rfl) rfl rfl (by first | rfl | (simp only [List.map_toArray, List.map_cons, List.map_nil]; first | done | rfl)) ((rix_none HSL (src_u DF.out.2.1.src) HIX (Lib.hid DF.out.1.src))) ?_
      rintro en w187 ⟨rfl, cc186⟩
      refine ⟨_, rfl, ?_⟩
      have C0' := Lib.hid (show Ch [] w w187 from C0.out.trans' cc186 (fun x hx => absurd hx (by simp)))
      have BF' := Lib.hid (show BookL w187 w.heap.size Bs b (S) from BF.out.ch cc186 (fun _ _ h => absurd h (by simp)))
      have DF' := Lib.hid (show DocIs w187 w.heap.size Bs (S) (.slice Av S.L.length cv) (u) from DF.out.ch0 cc186)
      have QB' := Lib.hid (show Blk w187 gq (#[.int .i64 S.now, .slice Av S.L.length cv, u]) 53 from cc186.blk QB.out nin_nil)
      have Fg173' := Lib.hid (show Blk w187 g173 ((opC zO).toArray) 49 from cc186.blk Fg173.out nin_nil)
      clear C0 BF DF QB Fg173
      have C0 := C0'; clear C0'
      have BF := BF'; clear BF'
      have DF := DF'; clear DF'
      have QB := QB'; clear QB'
      have Fg173 := Fg173'; clear Fg173'
      clear cc186
      refine hK185 _ _ ?_; clear hK185 K185
      (try simp only [zP, zN, zA, zB, zC])
      refine pu_ (v := .int .i64 (-1)) (y_assign rfl (by rfl) (by rfl)) ?_
      (try simp only [zP, zN, zA, zB, zC])
      refine nl_ (hK184 _ _ ?_); clear hK184 K184
      refine sq_ (fun K188 hK188 => ?_)
      refine startk_ (S := fun W => Blk W g173 ((opC zO).toArray) 49 ∧ True) (ds := []) #[false, false, false, false, false, false, false, false, false, false, false, false, false, false, false, false, false, false, false, false, false, false, false, false, false, false, false, false, false, false] (by kernel_rfl) rfl rfl (fun W c => ⟨c.blk Fg173.out nin_nil, trivial⟩) (fun w189 C190 hS191 => ?_)
      have C0' := Lib.hid (show Ch [] w w189 from C0.out.trans' C190 (fun x hx => absurd hx (by simp)))
      have BF' := Lib.hid (show BookL w189 w.heap.size Bs b (S) from BF.out.ch C190 (fun _ _ h => absurd h (by simp)))
      have DF' := Lib.hid (show DocIs w189 w.heap.size Bs (S) (.slice Av S.L.length cv) (u) from DF.out.ch0 C190)
      have QB' := Lib.hid (show Blk w189 gq (#[.int .i64 S.now, .slice Av S.L.length cv, u]) 53 from C190.blk QB.out nin_nil)
      have Fg173' := Lib.hid (show Blk w189 g173 ((opC zO).toArray) 49 from C190.blk Fg173.out nin_nil)
      clear C0 BF DF QB Fg173
      have C0 := C0'; clear C0'
      have BF := BF'; clear BF'
      have DF := DF'; clear DF'
      have QB := QB'; clear QB'
      have Fg173 := Fg173'; clear Fg173'
      clear C190
      refine pure_ (i := 0) (N := some 179) (v := .bool false) #[true, false, false, false, false, false, false, false, false, false, false, false, false, false, false, false, false, false, false, false, false, false, false, false, false, false, false, false, false, false] rfl rfl (by kernel_rfl) (fun c a w h => hP c a _ _ w h) (y_move rfl (by rfl) (by rfl)) rfl ?_
      (try simp only [zP, zN, zA, zB, zC])
      refine pure_ (i := 1) (N := some 180) (v := .int .i64 (-1)) #[true, true, false, false, false, false, false, false, false, false, false, false, false, false, false, false, false, false, false, false, false, false, false, false, false, false, false, false, false, false] rfl rfl (by kernel_rfl) (fun c a w h => hP c a _ _ w h) (y_move rfl (by rfl) (by rfl)) rfl ?_
      (try simp only [zP, zN, zA, zB, zC])
      refine pure_ (i := 2) (N := some 181) (v := .bool false) #[true, true, true, false, false, false, false, false, false, false, false, false, false, false, false, false, false, false, false, false, false, false, false, false, false, false, false, false, false, false] rfl rfl (by kernel_rfl) (fun c a w h => hP c a _ _ w h) (y_run (by rfl) (fun W => by go_simp)) rfl ?_
      (try simp only [zP, zN, zA, zB, zC])
      refine pure_ (i := 3) (N := some 182) (v := .bool true) #[true, true, true, true, false, false, false, false, false, false, false, false, false, false, false, false, false, false, false, false, false, false, false, false, false, false, false, false, false, false] rfl rfl (by kernel_rfl) (fun c a w h => hP c a _ _ w h) (y_run (by rfl) (fun W => by go_simp)) rfl ?_
      (try simp only [zP, zN, zA, zB, zC])
      refine pure_ (i := 4) (N := some 183) (v := .bool true) #[true, true, true, true, true, false, false, false, false, false, false, false, false, false, false, false, false, false, false, false, false, false, false, false, false, false, false, false, false, false] rfl rfl (by kernel_rfl) (fun c a w h => hP c a _ _ w h) (y_move rfl (by rfl) (by rfl)) rfl ?_
      (try simp only [zP, zN, zA, zB, zC])
      refine pure_ (i := 5) (N := some 184) (v := .int .i64 (-1)) #[true, true, true, true, true, true, false, false, false, false, false, false, false, false, false, false, false, false, false, false, false, false, false, false, false, false, false, false, false, false] rfl rfl (by kernel_rfl) (fun c a w h => hP c a _ _ w h) (y_move rfl (by rfl) (by rfl)) rfl ?_
      (try simp only [zP, zN, zA, zB, zC])
      refine pure_ (i := 6) (N := some 185) (v := .bool true) #[true, true, true, true, true, true, true, false, false, false, false, false, false, false, false, false, false, false, false, false, false, false, false, false, false, false, false, false, false, false] rfl rfl (by kernel_rfl) (fun c a w h => hP c a _ _ w h) (y_run (by rfl) (fun W => by go_simp)) rfl ?_
      (try simp only [zP, zN, zA, zB, zC])
      refine pure_ (i := 7) (N := some 186) (v := .bool true) #[true, true, true, true, true, true, true, true, false, false, false, false, false, false, false, false, false, false, false, false, false, false, false, false, false, false, false, false, false, false] rfl rfl (by kernel_rfl) (fun c a w h => hP c a _ _ w h) (y_move rfl (by rfl) (by rfl)) rfl ?_
      (try simp only [zP, zN, zA, zB, zC])
      refine take_ (i := 8) (N := some 187) (v := .agg (opC zO).toArray) #[true, true, true, true, true, true, true, true, true, false, false, false, false, false, false, false, false, false, false, false, false, false, false, false, false, false, false, false, false, false] rfl rfl (by kernel_rfl) (fun c a w h => hP c a _ _ w h) (y_load (p := ⟨g173, 0, none⟩) rfl (by rfl) (by rfl) (fun W hS => run_loadVar_row _ _ 49 49 ((opC zO).toArray) (0, 0) _ hS.1 Try.underlying49 rfl (sz49 zO))) hS191 rfl ?_
      (try simp only [zP, zN, zA, zB, zC])
      refine pure_ (i := 9) (N := some 188) (v := .agg (opC zO).toArray) #[true, true, true, true, true, true, true, true, true, true, false, false, false, false, false, false, false, false, false, false, false, false, false, false, false, false, false, false, false, false] rfl rfl (by kernel_rfl) (fun c a w h => hP c a _ _ w h) (y_build (vs := #[]) (by rfl) rfl (by first | rfl | (simp only [List.map_toArray, List.map_cons, List.map_nil]; first | done | rfl)) (by kernel_rfl)) rfl ?_
      (try simp only [zP, zN, zA, zB, zC])
      refine one_ (i := 10) (N := some 189) #[true, true, true, true, true, true, true, true, true, true, true, false, false, false, false, false, false, false, false, false, false, false, false, false, false, false, false, false, false, false] rfl rfl (by kernel_rfl) (by simp) (fun K192 hK192 => ?_)
      refine e_call Try.func26 (by kernel_rfl) rfl #[.agg (opC zO).toArray, .agg (opC zO).toArray] (by rfl) rfl rfl (by first | rfl | (simp only [List.map_toArray, List.map_cons, List.map_nil]; first | done | rfl)) ((is_all (zok w) C0.out.below0)) ?_
      rintro en w194 ⟨rfl, cc193⟩
      refine ⟨_, rfl, ?_⟩
      have C0' := Lib.hid (show Ch [] w w194 from C0.out.trans' cc193 (fun x hx => absurd hx (by simp)))
      have BF' := Lib.hid (show BookL w194 w.heap.size Bs b (S) from BF.out.ch cc193 (fun _ _ h => absurd h (by simp)))
      have DF' := Lib.hid (show DocIs w194 w.heap.size Bs (S) (.slice Av S.L.length cv) (u) from DF.out.ch0 cc193)
      have QB' := Lib.hid (show Blk w194 gq (#[.int .i64 S.now, .slice Av S.L.length cv, u]) 53 from cc193.blk QB.out nin_nil)
      have Fg173' := Lib.hid (show Blk w194 g173 ((opC zO).toArray) 49 from cc193.blk Fg173.out nin_nil)
      clear C0 BF DF QB Fg173
      have C0 := C0'; clear C0'
      have BF := BF'; clear BF'
      have DF := DF'; clear DF'
      have QB := QB'; clear QB'
      have Fg173 := Fg173'; clear Fg173'
      clear cc193
      refine hK192.out _ _ ⟨Fg173.out, trivial⟩ (fun hS195 => ?_); clear hK192 K192
      (try simp only [zP, zN, zA, zB, zC])
      refine pure_ (i := 11) (N := some 190) (v := .bool true) #[true, true, true, true, true, true, true, true, true, true, true, true, false, false, false, false, false, false, false, false, false, false, false, false, false, false, false, false, false, false] rfl rfl (by kernel_rfl) (fun c a w h => hP c a _ _ w h) (y_pick (t := true) (by rfl) rfl (by rfl) (by rfl)) rfl ?_
      (try simp only [zP, zN, zA, zB, zC])
      refine pure_ (i := 12) (N := some 191) (v := .bool true) #[true, true, true, true, true, true, true, true, true, true, true, true, true, false, false, false, false, false, false, false, false, false, false, false, false, false, false, false, false, false] rfl rfl (by kernel_rfl) (fun c a w h => hP c a _ _ w h) (y_move rfl (by rfl) (by rfl)) rfl ?_
      (try simp only [zP, zN, zA, zB, zC])
      refine pure_ (i := 13) (N := some 192) (v := undef) #[true, true, true, true, true, true, true, true, true, true, true, true, true, true, false, false, false, false, false, false, false, false, false, false, false, false, false, false, false, false] rfl rfl (by kernel_rfl) (fun c a w h => hP c a _ _ w h) (y_off (by rfl)) rfl ?_
      (try simp only [zP, zN, zA, zB, zC])
      refine pure_ (i := 14) (N := some 193) (v := undef) #[true, true, true, true, true, true, true, true, true, true, true, true, true, true, true, false, false, false, false, false, false, false, false, false, false, false, false, false, false, false] rfl rfl (by kernel_rfl) (fun c a w h => hP c a _ _ w h) (y_off (by rfl)) rfl ?_
      (try simp only [zP, zN, zA, zB, zC])
      refine pure_ (i := 15) (N := some 194) (v := undef) #[true, true, true, true, true, true, true, true, true, true, true, true, true, true, true, true, false, false, false, false, false, false, false, false, false, false, false, false, false, false] rfl rfl (by kernel_rfl) (fun c a w h => hP c a _ _ w h) (y_off (by rfl)) rfl ?_
      (try simp only [zP, zN, zA, zB, zC])
      refine pure_ (i := 16) (N := some 195) (v := undef) #[true, true, true, true, true, true, true, true, true, true, true, true, true, true, true, true, true, false, false, false, false, false, false, false, false, false, false, false, false, false] rfl rfl (by kernel_rfl) (fun c a w h => hP c a _ _ w h) (y_off (by rfl)) rfl ?_
      (try simp only [zP, zN, zA, zB, zC])
      refine pure_ (i := 17) (N := some 196) (v := undef) #[true, true, true, true, true, true, true, true, true, true, true, true, true, true, true, true, true, true, false, false, false, false, false, false, false, false, false, false, false, false] rfl rfl (by kernel_rfl) (fun c a w h => hP c a _ _ w h) (y_off (by rfl)) rfl ?_
      (try simp only [zP, zN, zA, zB, zC])
      refine pure_ (i := 18) (N := some 197) (v := undef) #[true, true, true, true, true, true, true, true, true, true, true, true, true, true, true, true, true, true, true, false, false, false, false, false, false, false, false, false, false, false] rfl rfl (by kernel_rfl) (fun c a w h => hP c a _ _ w h) (y_off (by rfl)) rfl ?_
      (try simp only [zP, zN, zA, zB, zC])
      refine pure_ (i := 19) (N := some 198) (v := undef) #[true, true, true, true, true, true, true, true, true, true, true, true, true, true, true, true, true, true, true, true, false, false, false, false, false, false, false, false, false, false] rfl rfl (by kernel_rfl) (fun c a w h => hP c a _ _ w h) (y_off (by rfl)) rfl ?_
      (try simp only [zP, zN, zA, zB, zC])
      refine pure_ (i := 20) (N := some 199) (v := undef) #[true, true, true, true, true, true, true, true, true, true, true, true, true, true, true, true, true, true, true, true, true, false, false, false, false, false, false, false, false, false] rfl rfl (by kernel_rfl) (fun c a w h => hP c a _ _ w h) (y_off (by rfl)) rfl ?_
      (try simp only [zP, zN, zA, zB, zC])
      refine pure_ (i := 21) (N := some 200) (v := undef) #[true, true, true, true, true, true, true, true, true, true, true, true, true, true, true, true, true, true, true, true, true, true, false, false, false, false, false, false, false, false] rfl rfl (by kernel_rfl) (fun c a w h => hP c a _ _ w h) (y_off (by rfl)) rfl ?_
      (try simp only [zP, zN, zA, zB, zC])
      refine pure_ (i := 22) (N := some 201) (v := undef) #[true, true, true, true, true, true, true, true, true, true, true, true, true, true, true, true, true, true, true, true, true, true, true, false, false, false, false, false, false, false] rfl rfl (by kernel_rfl) (fun c a w h => hP c a _ _ w h) (y_off (by rfl)) rfl ?_
      (try simp only [zP, zN, zA, zB, zC])
      refine pure_ (i := 23) (N := some 202) (v := undef) #[true, true, true, true, true, true, true, true, true, true, true, true, true, true, true, true, true, true, true, true, true, true, true, true, false, false, false, false, false, false] rfl rfl (by kernel_rfl) (fun c a w h => hP c a _ _ w h) (y_off (by rfl)) rfl ?_
      (try simp only [zP, zN, zA, zB, zC])
      refine pure_ (i := 24) (N := some 203) (v := .bool true) #[true, true, true, true, true, true, true, true, true, true, true, true, true, true, true, true, true, true, true, true, true, true, true, true, true, false, false, false, false, false] rfl rfl (by kernel_rfl) (fun c a w h => hP c a _ _ w h) (y_pick (t := true) (by rfl) rfl (by rfl) (by rfl)) rfl ?_
      (try simp only [zP, zN, zA, zB, zC])
      refine pure_ (i := 25) (N := some 204) (v := .bool true) #[true, true, true, true, true, true, true, true, true, true, true, true, true, true, true, true, true, true, true, true, true, true, true, true, true, true, false, false, false, false] rfl rfl (by kernel_rfl) (fun c a w h => hP c a _ _ w h) (y_pick (t := true) (by rfl) rfl (by rfl) (by rfl)) rfl ?_
      (try simp only [zP, zN, zA, zB, zC])
      refine pure_ (i := 26) (N := some 205) (v := .bool true) #[true, true, true, true, true, true, true, true, true, true, true, true, true, true, true, true, true, true, true, true, true, true, true, true, true, true, true, false, false, false] rfl rfl (by kernel_rfl) (fun c a w h => hP c a _ _ w h) (y_move rfl (by rfl) (by rfl)) rfl ?_
      (try simp only [zP, zN, zA, zB, zC])
      refine one_ (i := 27) (N := some 206) #[true, true, true, true, true, true, true, true, true, true, true, true, true, true, true, true, true, true, true, true, true, true, true, true, true, true, true, true, false, false] rfl rfl (by kernel_rfl) (by simp) (fun K196 hK196 => ?_)
      refine e_call Try.func8 (by kernel_rfl) rfl #[] (by rfl) rfl rfl (by first | rfl | (simp only [List.map_toArray, List.map_cons, List.map_nil]; first | done | rfl)) (works8 _) ?_
      rintro en w198 ⟨rfl, cc197⟩
      refine ⟨_, rfl, ?_⟩
      have C0' := Lib.hid (show Ch [] w w198 from C0.out.trans' cc197 (fun x hx => absurd hx (by simp)))
      have BF' := Lib.hid (show BookL w198 w.heap.size Bs b (S) from BF.out.ch cc197 (fun _ _ h => absurd h (by simp)))
      have DF' := Lib.hid (show DocIs w198 w.heap.size Bs (S) (.slice Av S.L.length cv) (u) from DF.out.ch0 cc197)
      have QB' := Lib.hid (show Blk w198 gq (#[.int .i64 S.now, .slice Av S.L.length cv, u]) 53 from cc197.blk QB.out nin_nil)
      have Fg173' := Lib.hid (show Blk w198 g173 ((opC zO).toArray) 49 from cc197.blk Fg173.out nin_nil)
      clear C0 BF DF QB Fg173
      have C0 := C0'; clear C0'
      have BF := BF'; clear BF'
      have DF := DF'; clear DF'
      have QB := QB'; clear QB'
      have Fg173 := Fg173'; clear Fg173'
      clear cc197
      refine hK196.out _ _ ⟨Fg173.out, trivial⟩ (fun hS199 => ?_); clear hK196 K196
      (try simp only [zP, zN, zA, zB, zC])
      refine pure_ (i := 28) (N := some 207) (v := .bool true) #[true, true, true, true, true, true, true, true, true, true, true, true, true, true, true, true, true, true, true, true, true, true, true, true, true, true, true, true, true, false] rfl rfl (by kernel_rfl) (fun c a w h => hP c a _ _ w h) (y_pick (t := true) (by rfl) rfl (by rfl) (by rfl)) rfl ?_
      (try simp only [zP, zN, zA, zB, zC])
      refine pure_ (i := 29) (N := some 6) (v := .bool true) #[true, true, true, true, true, true, true, true, true, true, true, true, true, true, true, true, true, true, true, true, true, true, true, true, true, true, true, true, true, true] rfl rfl (by kernel_rfl) (fun c a w h => hP c a _ _ w h) (y_assign rfl (by rfl) (by rfl)) rfl ?_
      (try simp only [zP, zN, zA, zB, zC])
      refine done_ (by kernel_rfl) (th_norm (hK188 _ _ ?_)); clear hK188 K188
      refine wp_ret ?_
      refine hQ _ _ _ ?_
      refine bodyPost_ret (res1 rfl (rdv_tmp (v := .bool true) (by rfl))) rfl ?_
      exact ⟨rfl, C0.out⟩
    · have HSL := Lib.hid (show S.L.length ≤ 1000 by have := ht.out.1.len; have := ht.out.2; have := hk.out; omega)
      have HOF := Lib.hid hof
      have HIX := Lib.hid hix
      have HO := Lib.hid ho0
      clear hof hix ho0
      obtain ⟨Av, cv, hv, -, -⟩ := DF.out.1.slice
      subst hv
      have HJL := Lib.hid (show j < S.L.length from (List.getElem?_eq_some_iff.1 HO.out).1)
      obtain ⟨gv, cv2, hv, -, -, -, -, -⟩ := DF.out.1.some_ (by have := HJL.out; omega)
      injection hv with hv1 _ hv3
      subst hv1 hv3
      have DJ := Lib.hid (show (j : Int) < (S.L.length : Int) by have := HJL.out; omega)
      refine s_ (fun K200 hK200 => ?_)
      refine pu_ (v := .pointer (some ⟨b, 0, none⟩)) (y_move rfl (by rfl) (by rfl)) ?_
      (try simp only [zP, zN, zA, zB, zC])
      refine pu_ (v := .int .i64 c) (y_move rfl (by rfl) (by rfl)) ?_
      (try simp only [zP, zN, zA, zB, zC])
      refine pu_ (v := .int .i64 n) (y_move rfl (by rfl) (by rfl)) ?_
      (try simp only [zP, zN, zA, zB, zC])
      refine ef_ (fun K201 hK201 => ?_)
      refine e_call Try.func24 (by kernel_rfl) rfl #[.pointer (some ⟨b, 0, none⟩), .int .i64 c, .int .i64 n] (by rfl) rfl rfl (by first | rfl | (simp only [List.map_toArray, List.map_cons, List.map_nil]; first | done | rfl)) ((by have h := of_l BF.out HKY.out HSL.out; rw [HOF.out] at h; exact h)) ?_
      rintro en w203 ⟨rfl, cc202⟩
      refine ⟨_, rfl, ?_⟩
      have C0' := Lib.hid (show Ch [] w w203 from C0.out.trans' cc202 (fun x hx => absurd hx (by simp)))
      have BF' := Lib.hid (show BookL w203 w.heap.size Bs b (S) from BF.out.ch cc202 (fun _ _ h => absurd h (by simp)))
      have DF' := Lib.hid (show DocIs w203 w.heap.size Bs (S) (.slice (some ⟨gv, 0, none⟩) S.L.length cv) (u) from DF.out.ch0 cc202)
      have QB' := Lib.hid (show Blk w203 gq (#[.int .i64 S.now, .slice (some ⟨gv, 0, none⟩) S.L.length cv, u]) 53 from cc202.blk QB.out nin_nil)
      clear C0 BF DF QB
      have C0 := C0'; clear C0'
      have BF := BF'; clear BF'
      have DF := DF'; clear DF'
      have QB := QB'; clear QB'
      clear cc202
      refine hK201 _ _ ?_; clear hK201 K201
      (try simp only [zP, zN, zA, zB, zC])
      refine pu_ (v := .tuple #[.agg (opC o).toArray, .bool true]) (y_move rfl (by rfl) (by rfl)) ?_
      (try simp only [zP, zN, zA, zB, zC])
      refine pu_ (v := .agg (opC o).toArray) (y_run (by rfl) (fun W => by go_simp)) ?_
      (try simp only [zP, zN, zA, zB, zC])
      refine pu_ (v := .bool true) (y_run (by rfl) (fun W => by go_simp)) ?_
      (try simp only [zP, zN, zA, zB, zC])
      refine ef_ (fun K204 hK204 => ?_)
      refine e_alloc (by rfl) rfl rfl (cs := #[.int .i64 0, .int .i64 0, .int .i64 0, .int .i64 0, .int .i64 0, .int .i64 0, .int .i64 0, .int .u64 0, .string ⟨#[]⟩, .slice none 0 0, .slice none 0 0, .slice none 0 0, .int .i64 0, .int .i64 0, .int .i64 0, .int .i64 0, .int .i64 0, .int .i64 0, .int .i64 0, .string ⟨#[]⟩, .slice none 0 0, .int .i64 0, .int .i64 0, .int .i64 0, .int .u64 0, .string ⟨#[]⟩, .slice none 0 0, .slice none 0 0]) (by kernel_rfl) ?_
      rintro g205 w206 HG207 B208 C209
      have nw210 := Lib.hid (show w.heap.size ≤ g205 by have := C0.out.size; have := HG207.out; omega)
      have hs211 := Lib.hid (show g205 ∉ Bs from BF.out.ne_new HG207)
      have C0' := Lib.hid (show Ch [] w w206 from C0.out.trans' C209 (fun x hx => absurd hx (by simp)))
      have BF' := Lib.hid (show BookL w206 w.heap.size Bs b (S) from BF.out.ch C209 (fun _ _ h => absurd h (by simp)))
      have DF' := Lib.hid (show DocIs w206 w.heap.size Bs (S) (.slice (some ⟨gv, 0, none⟩) S.L.length cv) (u) from DF.out.ch0 C209)
      have QB' := Lib.hid (show Blk w206 gq (#[.int .i64 S.now, .slice (some ⟨gv, 0, none⟩) S.L.length cv, u]) 53 from C209.blk QB.out nin_nil)
      clear C0 BF DF QB
      have C0 := C0'; clear C0'
      have BF := BF'; clear BF'
      have DF := DF'; clear DF'
      have QB := QB'; clear QB'
      have Fg205 := Lib.hid (show Blk w206 g205 (#[.int .i64 0, .int .i64 0, .int .i64 0, .int .i64 0, .int .i64 0, .int .i64 0, .int .i64 0, .int .u64 0, .string ⟨#[]⟩, .slice none 0 0, .slice none 0 0, .slice none 0 0, .int .i64 0, .int .i64 0, .int .i64 0, .int .i64 0, .int .i64 0, .int .i64 0, .int .i64 0, .string ⟨#[]⟩, .slice none 0 0, .int .i64 0, .int .i64 0, .int .i64 0, .int .u64 0, .string ⟨#[]⟩, .slice none 0 0, .slice none 0 0]) 49 from B208); clear B208 C209
      refine hK204 _ _ ?_; clear hK204 K204
      (try simp only [zP, zN, zA, zB, zC])
      refine ef_ (fun K212 hK212 => ?_)
      refine e_storeN (cells := (opC o).toArray) (by rfl) rfl rfl (by rfl) (by rfl) Fg205.out (sz49 o) (by rw [show (opC o).toArray.size = 28 by rw [List.size_toArray, opC_len]]; rfl) (by simpa using opC_one o) ?_
      rintro w213 B214 C215
      have C0' := Lib.hid (show Ch [] w w213 from C0.out.trans' C215 (inw_cons (.inr nw210.out) inw_nil))
      have BF' := Lib.hid (show BookL w213 w.heap.size Bs b (S) from BF.out.ch C215 (fun k hk hm => (List.mem_cons.1 hm).elim (fun e => hs211.out (e ▸ hk)) (fun h => (fun _ _ h => absurd h (by simp)) k hk h)))
      have DF' := Lib.hid (show DocIs w213 w.heap.size Bs (S) (.slice (some ⟨gv, 0, none⟩) S.L.length cv) (u) from DF.out.ch C215 (rnin_cons (OwnS.ne DF.out.1 Fg205.out (by decide)) rnin_nil) (rnin_cons (OwnS.ne DF.out.2.1 Fg205.out (by decide)) rnin_nil))
      have QB' := Lib.hid (show Blk w213 gq (#[.int .i64 S.now, .slice (some ⟨gv, 0, none⟩) S.L.length cv, u]) 53 from C215.blk QB.out (nin_cons (Blk.ne_type QB.out Fg205.out (by decide)) nin_nil))
      clear C0 BF DF QB
      have C0 := C0'; clear C0'
      have BF := BF'; clear BF'
      have DF := DF'; clear DF'
      have QB := QB'; clear QB'
      clear Fg205; have Fg205 := Lib.hid (show Blk w213 g205 ((opC o).toArray) 49 from B214); clear B214 C215
      refine hK212 _ _ ?_; clear hK212 K212
      (try simp only [zP, zN, zA, zB, zC])
      refine pu_ (v := .bool true) (y_assign rfl (by rfl) (by rfl)) ?_
      (try simp only [zP, zN, zA, zB, zC])
      refine nl_ (hK200 _ _ ?_); clear hK200 K200
      refine s_ (fun K216 hK216 => ?_)
      refine ld_ (v := .agg (#[.int .i64 S.now, .slice (some ⟨gv, 0, none⟩) S.L.length cv, u])) rfl (by rfl) (by rfl) (run_loadVar_row _ _ 53 53 (#[.int .i64 S.now, .slice (some ⟨gv, 0, none⟩) S.L.length cv, u]) (0, 0) _ QB.out Try.underlying53 rfl (by kernel_rfl)) ?_
      (try simp only [zP, zN, zA, zB, zC])
      refine pu_ (v := .int .i64 c) (y_move rfl (by rfl) (by rfl)) ?_
      (try simp only [zP, zN, zA, zB, zC])
      refine pu_ (v := .int .i64 n) (y_move rfl (by rfl) (by rfl)) ?_
      (try simp only [zP, zN, zA, zB, zC])
      refine ef_ (fun K217 hK217 => ?_)
      refine e_call Try.func25 (by kernel_rfl) rfl #[.agg (#[.int .i64 S.now, .slice (some ⟨gv, 0, none⟩) S.L.length cv, u]), .int .i64 c, .int .i64 n] (by rfl) rfl rfl (by first | rfl | (simp only [List.map_toArray, List.map_cons, List.map_nil]; first | done | rfl)) ((rix_some HSL (src_u DF.out.2.1.src) HIX (Lib.hid DF.out.1.src))) ?_
      rintro en w219 ⟨rfl, cc218⟩
      refine ⟨_, rfl, ?_⟩
      have C0' := Lib.hid (show Ch [] w w219 from C0.out.trans' cc218 (fun x hx => absurd hx (by simp)))
      have BF' := Lib.hid (show BookL w219 w.heap.size Bs b (S) from BF.out.ch cc218 (fun _ _ h => absurd h (by simp)))
      have DF' := Lib.hid (show DocIs w219 w.heap.size Bs (S) (.slice (some ⟨gv, 0, none⟩) S.L.length cv) (u) from DF.out.ch0 cc218)
      have QB' := Lib.hid (show Blk w219 gq (#[.int .i64 S.now, .slice (some ⟨gv, 0, none⟩) S.L.length cv, u]) 53 from cc218.blk QB.out nin_nil)
      have Fg205' := Lib.hid (show Blk w219 g205 ((opC o).toArray) 49 from cc218.blk Fg205.out nin_nil)
      clear C0 BF DF QB Fg205
      have C0 := C0'; clear C0'
      have BF := BF'; clear BF'
      have DF := DF'; clear DF'
      have QB := QB'; clear QB'
      have Fg205 := Fg205'; clear Fg205'
      clear cc218
      refine hK217 _ _ ?_; clear hK217 K217
      (try simp only [zP, zN, zA, zB, zC])
      refine pu_ (v := .int .i64 j) (y_assign rfl (by rfl) (by rfl)) ?_
      (try simp only [zP, zN, zA, zB, zC])
      refine nl_ (hK216 _ _ ?_); clear hK216 K216
      refine sq_ (fun K220 hK220 => ?_)
      refine startk_ (S := fun W => DocIs W w.heap.size Bs (S) (.slice (some ⟨gv, 0, none⟩) S.L.length cv) (u) ∧ Blk W gq (#[.int .i64 S.now, .slice (some ⟨gv, 0, none⟩) S.L.length cv, u]) 53 ∧ Blk W g205 ((opC o).toArray) 49 ∧ True) (ds := []) #[false, false, false, false, false, false, false, false, false, false, false, false, false, false, false, false, false, false, false, false, false, false, false, false, false, false, false, false, false, false] (by kernel_rfl) rfl rfl (fun W c => ⟨DF.out.ch0 c, c.blk QB.out nin_nil, c.blk Fg205.out nin_nil, trivial⟩) (fun w221 C222 hS223 => ?_)
      have C0' := Lib.hid (show Ch [] w w221 from C0.out.trans' C222 (fun x hx => absurd hx (by simp)))
      have BF' := Lib.hid (show BookL w221 w.heap.size Bs b (S) from BF.out.ch C222 (fun _ _ h => absurd h (by simp)))
      have DF' := Lib.hid (show DocIs w221 w.heap.size Bs (S) (.slice (some ⟨gv, 0, none⟩) S.L.length cv) (u) from DF.out.ch0 C222)
      have QB' := Lib.hid (show Blk w221 gq (#[.int .i64 S.now, .slice (some ⟨gv, 0, none⟩) S.L.length cv, u]) 53 from C222.blk QB.out nin_nil)
      have Fg205' := Lib.hid (show Blk w221 g205 ((opC o).toArray) 49 from C222.blk Fg205.out nin_nil)
      clear C0 BF DF QB Fg205
      have C0 := C0'; clear C0'
      have BF := BF'; clear BF'
      have DF := DF'; clear DF'
      have QB := QB'; clear QB'
      have Fg205 := Fg205'; clear Fg205'
      clear C222
      refine pure_ (i := 0) (N := some 179) (v := .bool true) #[true, false, false, false, false, false, false, false, false, false, false, false, false, false, false, false, false, false, false, false, false, false, false, false, false, false, false, false, false, false] rfl rfl (by kernel_rfl) (fun c a w h => hP c a _ _ w h) (y_move rfl (by rfl) (by rfl)) rfl ?_
      (try simp only [zP, zN, zA, zB, zC])
      refine pure_ (i := 1) (N := some 180) (v := .int .i64 j) #[true, true, false, false, false, false, false, false, false, false, false, false, false, false, false, false, false, false, false, false, false, false, false, false, false, false, false, false, false, false] rfl rfl (by kernel_rfl) (fun c a w h => hP c a _ _ w h) (y_move rfl (by rfl) (by rfl)) rfl ?_
      (try simp only [zP, zN, zA, zB, zC])
      refine pure_ (i := 2) (N := some 181) (v := .bool true) #[true, true, true, false, false, false, false, false, false, false, false, false, false, false, false, false, false, false, false, false, false, false, false, false, false, false, false, false, false, false] rfl rfl (by kernel_rfl) (fun c a w h => hP c a _ _ w h) (y_run (by rfl) (fun W => by go_simp)) rfl ?_
      (try simp only [zP, zN, zA, zB, zC])
      refine pure_ (i := 3) (N := some 182) (v := .bool true) #[true, true, true, true, false, false, false, false, false, false, false, false, false, false, false, false, false, false, false, false, false, false, false, false, false, false, false, false, false, false] rfl rfl (by kernel_rfl) (fun c a w h => hP c a _ _ w h) (y_run (by rfl) (fun W => by go_simp)) rfl ?_
      (try simp only [zP, zN, zA, zB, zC])
      refine pure_ (i := 4) (N := some 183) (v := .bool true) #[true, true, true, true, true, false, false, false, false, false, false, false, false, false, false, false, false, false, false, false, false, false, false, false, false, false, false, false, false, false] rfl rfl (by kernel_rfl) (fun c a w h => hP c a _ _ w h) (y_move rfl (by rfl) (by rfl)) rfl ?_
      (try simp only [zP, zN, zA, zB, zC])
      refine pure_ (i := 5) (N := some 184) (v := .int .i64 j) #[true, true, true, true, true, true, false, false, false, false, false, false, false, false, false, false, false, false, false, false, false, false, false, false, false, false, false, false, false, false] rfl rfl (by kernel_rfl) (fun c a w h => hP c a _ _ w h) (y_move rfl (by rfl) (by rfl)) rfl ?_
      (try simp only [zP, zN, zA, zB, zC])
      refine pure_ (i := 6) (N := some 185) (v := .bool false) #[true, true, true, true, true, true, true, false, false, false, false, false, false, false, false, false, false, false, false, false, false, false, false, false, false, false, false, false, false, false] rfl rfl (by kernel_rfl) (fun c a w h => hP c a _ _ w h) (y_run (by rfl) (fun W => by go_simp)) rfl ?_
      (try simp only [zP, zN, zA, zB, zC])
      refine pure_ (i := 7) (N := some 186) (v := .bool false) #[true, true, true, true, true, true, true, true, false, false, false, false, false, false, false, false, false, false, false, false, false, false, false, false, false, false, false, false, false, false] rfl rfl (by kernel_rfl) (fun c a w h => hP c a _ _ w h) (y_move rfl (by rfl) (by rfl)) rfl ?_
      (try simp only [zP, zN, zA, zB, zC])
      refine pure_ (i := 8) (N := some 187) (v := undef) #[true, true, true, true, true, true, true, true, true, false, false, false, false, false, false, false, false, false, false, false, false, false, false, false, false, false, false, false, false, false] rfl rfl (by kernel_rfl) (fun c a w h => hP c a _ _ w h) (y_off (by rfl)) rfl ?_
      (try simp only [zP, zN, zA, zB, zC])
      refine pure_ (i := 9) (N := some 188) (v := undef) #[true, true, true, true, true, true, true, true, true, true, false, false, false, false, false, false, false, false, false, false, false, false, false, false, false, false, false, false, false, false] rfl rfl (by kernel_rfl) (fun c a w h => hP c a _ _ w h) (y_off (by rfl)) rfl ?_
      (try simp only [zP, zN, zA, zB, zC])
      refine pure_ (i := 10) (N := some 189) (v := undef) #[true, true, true, true, true, true, true, true, true, true, true, false, false, false, false, false, false, false, false, false, false, false, false, false, false, false, false, false, false, false] rfl rfl (by kernel_rfl) (fun c a w h => hP c a _ _ w h) (y_off (by rfl)) rfl ?_
      (try simp only [zP, zN, zA, zB, zC])
      refine pure_ (i := 11) (N := some 190) (v := .bool false) #[true, true, true, true, true, true, true, true, true, true, true, true, false, false, false, false, false, false, false, false, false, false, false, false, false, false, false, false, false, false] rfl rfl (by kernel_rfl) (fun c a w h => hP c a _ _ w h) (y_pick (t := false) (by rfl) rfl (by rfl) (by rfl)) rfl ?_
      (try simp only [zP, zN, zA, zB, zC])
      refine pure_ (i := 12) (N := some 191) (v := .bool false) #[true, true, true, true, true, true, true, true, true, true, true, true, true, false, false, false, false, false, false, false, false, false, false, false, false, false, false, false, false, false] rfl rfl (by kernel_rfl) (fun c a w h => hP c a _ _ w h) (y_move rfl (by rfl) (by rfl)) rfl ?_
      (try simp only [zP, zN, zA, zB, zC])
      refine pure_ (i := 13) (N := some 192) (v := .int .i64 j) #[true, true, true, true, true, true, true, true, true, true, true, true, true, true, false, false, false, false, false, false, false, false, false, false, false, false, false, false, false, false] rfl rfl (by kernel_rfl) (fun c a w h => hP c a _ _ w h) (y_move rfl (by rfl) (by rfl)) rfl ?_
      (try simp only [zP, zN, zA, zB, zC])
      refine pure_ (i := 14) (N := some 193) (v := .bool true) #[true, true, true, true, true, true, true, true, true, true, true, true, true, true, true, false, false, false, false, false, false, false, false, false, false, false, false, false, false, false] rfl rfl (by kernel_rfl) (fun c a w h => hP c a _ _ w h) (y_run (by rfl) (fun W => by go_simp)) rfl ?_
      (try simp only [zP, zN, zA, zB, zC])
      refine pure_ (i := 15) (N := some 194) (v := .bool true) #[true, true, true, true, true, true, true, true, true, true, true, true, true, true, true, true, false, false, false, false, false, false, false, false, false, false, false, false, false, false] rfl rfl (by kernel_rfl) (fun c a w h => hP c a _ _ w h) (y_move rfl (by rfl) (by rfl)) rfl ?_
      (try simp only [zP, zN, zA, zB, zC])
      refine take_ (i := 16) (N := some 195) (v := .agg (opC o).toArray) #[true, true, true, true, true, true, true, true, true, true, true, true, true, true, true, true, true, false, false, false, false, false, false, false, false, false, false, false, false, false] rfl rfl (by kernel_rfl) (fun c a w h => hP c a _ _ w h) (y_load (p := ⟨g205, 0, none⟩) rfl (by rfl) (by rfl) (fun W hS => run_loadVar_row _ _ 49 49 ((opC o).toArray) (0, 0) _ hS.2.2.1 Try.underlying49 rfl (sz49 o))) hS223 rfl ?_
      (try simp only [zP, zN, zA, zB, zC])
      refine pure_ (i := 17) (N := some 196) (v := .pointer (some ⟨gq, 1, none⟩)) #[true, true, true, true, true, true, true, true, true, true, true, true, true, true, true, true, true, true, false, false, false, false, false, false, false, false, false, false, false, false] rfl rfl (by kernel_rfl) (fun c a w h => hP c a _ _ w h) (y_run (by rfl) (fun W => by go_simp)) rfl ?_
      (try simp only [zP, zN, zA, zB, zC])
      refine take_ (i := 18) (N := some 197) (v := .slice (some ⟨gv, 0, none⟩) S.L.length cv) #[true, true, true, true, true, true, true, true, true, true, true, true, true, true, true, true, true, true, true, false, false, false, false, false, false, false, false, false, false, false] rfl rfl (by kernel_rfl) (fun c a w h => hP c a _ _ w h) (y_load (p := ⟨gq, 1, none⟩) rfl (by rfl) (by rfl) (fun W hS => run_load_one ((hS.2.1.cell 1).trans rfl) Try.underlying51 rfl)) hS223 rfl ?_
      (try simp only [zP, zN, zA, zB, zC])
      refine pure_ (i := 19) (N := some 198) (v := .int .i64 j) #[true, true, true, true, true, true, true, true, true, true, true, true, true, true, true, true, true, true, true, true, false, false, false, false, false, false, false, false, false, false] rfl rfl (by kernel_rfl) (fun c a w h => hP c a _ _ w h) (y_move rfl (by rfl) (by rfl)) rfl ?_
      (try simp only [zP, zN, zA, zB, zC])
      refine pure_ (i := 20) (N := some 199) (v := .pointer (some ⟨gv, j * 28, none⟩)) #[true, true, true, true, true, true, true, true, true, true, true, true, true, true, true, true, true, true, true, true, true, false, false, false, false, false, false, false, false, false] rfl rfl (by kernel_rfl) (fun c a w h => hP c a _ _ w h) (y_run (by rfl) (fun W => by have d := DJ.out; go_simp)) rfl ?_
      (try simp only [zP, zN, zA, zB, zC])
      refine take_ (i := 21) (N := some 200) (v := .agg (opC o).toArray) #[true, true, true, true, true, true, true, true, true, true, true, true, true, true, true, true, true, true, true, true, true, true, false, false, false, false, false, false, false, false] rfl rfl (by kernel_rfl) (fun c a w h => hP c a _ _ w h) (y_load (p := ⟨gv, j * 28, none⟩) rfl (by rfl) (by rfl) (fun W hS => run_loadVar_at (op_cells59 HO.out hS.1.1) Try.underlying59 rfl (by rw [opC_len]; kernel_rfl))) hS223 rfl ?_
      (try simp only [zP, zN, zA, zB, zC])
      refine one_ (i := 22) (N := some 201) #[true, true, true, true, true, true, true, true, true, true, true, true, true, true, true, true, true, true, true, true, true, true, true, false, false, false, false, false, false, false] rfl rfl (by kernel_rfl) (by simp) (fun K224 hK224 => ?_)
      refine e_call Try.func26 (by kernel_rfl) rfl #[.agg (opC o).toArray, .agg (opC o).toArray] (by rfl) rfl rfl (by first | rfl | (simp only [List.map_toArray, List.map_cons, List.map_nil]; first | done | rfl)) ((is_all (hok.out _ (List.mem_of_getElem? HO.out)) C0.out.below0)) ?_
      rintro en w226 ⟨rfl, cc225⟩
      refine ⟨_, rfl, ?_⟩
      have C0' := Lib.hid (show Ch [] w w226 from C0.out.trans' cc225 (fun x hx => absurd hx (by simp)))
      have BF' := Lib.hid (show BookL w226 w.heap.size Bs b (S) from BF.out.ch cc225 (fun _ _ h => absurd h (by simp)))
      have DF' := Lib.hid (show DocIs w226 w.heap.size Bs (S) (.slice (some ⟨gv, 0, none⟩) S.L.length cv) (u) from DF.out.ch0 cc225)
      have QB' := Lib.hid (show Blk w226 gq (#[.int .i64 S.now, .slice (some ⟨gv, 0, none⟩) S.L.length cv, u]) 53 from cc225.blk QB.out nin_nil)
      have Fg205' := Lib.hid (show Blk w226 g205 ((opC o).toArray) 49 from cc225.blk Fg205.out nin_nil)
      clear C0 BF DF QB Fg205
      have C0 := C0'; clear C0'
      have BF := BF'; clear BF'
      have DF := DF'; clear DF'
      have QB := QB'; clear QB'
      have Fg205 := Fg205'; clear Fg205'
      clear cc225
      refine hK224.out _ _ ⟨DF.out, QB.out, Fg205.out, trivial⟩ (fun hS227 => ?_); clear hK224 K224
      (try simp only [zP, zN, zA, zB, zC])
      refine pure_ (i := 23) (N := some 202) (v := .bool true) #[true, true, true, true, true, true, true, true, true, true, true, true, true, true, true, true, true, true, true, true, true, true, true, true, false, false, false, false, false, false] rfl rfl (by kernel_rfl) (fun c a w h => hP c a _ _ w h) (y_pick (t := true) (by rfl) rfl (by rfl) (by rfl)) rfl ?_
      (try simp only [zP, zN, zA, zB, zC])
      refine pure_ (i := 24) (N := some 203) (v := .bool true) #[true, true, true, true, true, true, true, true, true, true, true, true, true, true, true, true, true, true, true, true, true, true, true, true, true, false, false, false, false, false] rfl rfl (by kernel_rfl) (fun c a w h => hP c a _ _ w h) (y_pick (t := false) (by rfl) rfl (by rfl) (by rfl)) rfl ?_
      (try simp only [zP, zN, zA, zB, zC])
      refine pure_ (i := 25) (N := some 204) (v := .bool true) #[true, true, true, true, true, true, true, true, true, true, true, true, true, true, true, true, true, true, true, true, true, true, true, true, true, true, false, false, false, false] rfl rfl (by kernel_rfl) (fun c a w h => hP c a _ _ w h) (y_pick (t := true) (by rfl) rfl (by rfl) (by rfl)) rfl ?_
      (try simp only [zP, zN, zA, zB, zC])
      refine pure_ (i := 26) (N := some 205) (v := .bool true) #[true, true, true, true, true, true, true, true, true, true, true, true, true, true, true, true, true, true, true, true, true, true, true, true, true, true, true, false, false, false] rfl rfl (by kernel_rfl) (fun c a w h => hP c a _ _ w h) (y_move rfl (by rfl) (by rfl)) rfl ?_
      (try simp only [zP, zN, zA, zB, zC])
      refine one_ (i := 27) (N := some 206) #[true, true, true, true, true, true, true, true, true, true, true, true, true, true, true, true, true, true, true, true, true, true, true, true, true, true, true, true, false, false] rfl rfl (by kernel_rfl) (by simp) (fun K228 hK228 => ?_)
      refine e_call Try.func8 (by kernel_rfl) rfl #[] (by rfl) rfl rfl (by first | rfl | (simp only [List.map_toArray, List.map_cons, List.map_nil]; first | done | rfl)) (works8 _) ?_
      rintro en w230 ⟨rfl, cc229⟩
      refine ⟨_, rfl, ?_⟩
      have C0' := Lib.hid (show Ch [] w w230 from C0.out.trans' cc229 (fun x hx => absurd hx (by simp)))
      have BF' := Lib.hid (show BookL w230 w.heap.size Bs b (S) from BF.out.ch cc229 (fun _ _ h => absurd h (by simp)))
      have DF' := Lib.hid (show DocIs w230 w.heap.size Bs (S) (.slice (some ⟨gv, 0, none⟩) S.L.length cv) (u) from DF.out.ch0 cc229)
      have QB' := Lib.hid (show Blk w230 gq (#[.int .i64 S.now, .slice (some ⟨gv, 0, none⟩) S.L.length cv, u]) 53 from cc229.blk QB.out nin_nil)
      have Fg205' := Lib.hid (show Blk w230 g205 ((opC o).toArray) 49 from cc229.blk Fg205.out nin_nil)
      clear C0 BF DF QB Fg205
      have C0 := C0'; clear C0'
      have BF := BF'; clear BF'
      have DF := DF'; clear DF'
      have QB := QB'; clear QB'
      have Fg205 := Fg205'; clear Fg205'
      clear cc229
      refine hK228.out _ _ ⟨DF.out, QB.out, Fg205.out, trivial⟩ (fun hS231 => ?_); clear hK228 K228
      (try simp only [zP, zN, zA, zB, zC])
      refine pure_ (i := 28) (N := some 207) (v := .bool true) #[true, true, true, true, true, true, true, true, true, true, true, true, true, true, true, true, true, true, true, true, true, true, true, true, true, true, true, true, true, false] rfl rfl (by kernel_rfl) (fun c a w h => hP c a _ _ w h) (y_pick (t := true) (by rfl) rfl (by rfl) (by rfl)) rfl ?_
      (try simp only [zP, zN, zA, zB, zC])
      refine pure_ (i := 29) (N := some 6) (v := .bool true) #[true, true, true, true, true, true, true, true, true, true, true, true, true, true, true, true, true, true, true, true, true, true, true, true, true, true, true, true, true, true] rfl rfl (by kernel_rfl) (fun c a w h => hP c a _ _ w h) (y_assign rfl (by rfl) (by rfl)) rfl ?_
      (try simp only [zP, zN, zA, zB, zC])
      refine done_ (by kernel_rfl) (th_norm (hK220 _ _ ?_)); clear hK220 K220
      refine wp_ret ?_
      refine hQ _ _ _ ?_
      refine bodyPost_ret (res1 rfl (rdv_tmp (v := .bool true) (by rfl))) rfl ?_
      exact ⟨rfl, C0.out⟩
  · have D26 := Lib.hid (show ¬ k < len0 by omega)
    clear h
    refine s_ (fun K232 hK232 => ?_)
    refine pu_ (v := .int .i64 k) (y_move rfl (by rfl) (by rfl)) ?_
    (try simp only [zP, zN, zA, zB, zC])
    refine pu_ (v := .slice a0 len0 cap0) (y_move rfl (by rfl) (by rfl)) ?_
    (try simp only [zP, zN, zA, zB, zC])
    refine pu_ (v := .int .i64 len0) (y_run (by rfl) (fun W => by go_simp)) ?_
    (try simp only [zP, zN, zA, zB, zC])
    refine pu_ (v := .bool false) (y_run (by rfl) (fun W => by have d := D26.out; go_simp)) ?_
    (try simp only [zP, zN, zA, zB, zC])
    refine pu_ (v := .bool false) (y_move rfl (by rfl) (by rfl)) ?_
    (try simp only [zP, zN, zA, zB, zC])
    refine pu_ (y_off (by rfl)) ?_
    (try simp only [zP, zN, zA, zB, zC])
    refine pu_ (y_off (by rfl)) ?_
    (try simp only [zP, zN, zA, zB, zC])
    refine pu_ (v := .bool false) (y_pick (t := false) (by rfl) rfl (by rfl) (by rfl)) ?_
    (try simp only [zP, zN, zA, zB, zC])
    refine nl_ (hK232 _ _ ?_); clear hK232 K232
    refine wp_cond_false rfl ?_
    refine wp_exit ?_
    refine th_exit ?_
    refine th_exit ?_
    refine ib_exit ?_
    refine th_norm (hK19 _ _ ?_); try clear hK19 K19
    rcases of_ways S c n with ⟨hix, hof⟩ | ⟨j, o, hix, ho0, hof⟩
    · have HSL := Lib.hid (show S.L.length ≤ 1000 by have := ht.out.1.len; have := ht.out.2; have := hk.out; omega)
      have HOF := Lib.hid hof
      have HIX := Lib.hid hix
      skip
      clear hof hix
      obtain ⟨Av, cv, hv, -, -⟩ := DF.out.1.slice
      subst hv
      refine s_ (fun K233 hK233 => ?_)
      refine pu_ (v := .pointer (some ⟨b, 0, none⟩)) (y_move rfl (by rfl) (by rfl)) ?_
      (try simp only [zP, zN, zA, zB, zC])
      refine pu_ (v := .int .i64 c) (y_move rfl (by rfl) (by rfl)) ?_
      (try simp only [zP, zN, zA, zB, zC])
      refine pu_ (v := .int .i64 n) (y_move rfl (by rfl) (by rfl)) ?_
      (try simp only [zP, zN, zA, zB, zC])
      refine ef_ (fun K234 hK234 => ?_)
      refine e_call Try.func24 (by kernel_rfl) rfl #[.pointer (some ⟨b, 0, none⟩), .int .i64 c, .int .i64 n] (by rfl) rfl rfl (by first | rfl | (simp only [List.map_toArray, List.map_cons, List.map_nil]; first | done | rfl)) ((by have h := of_l BF.out HKY.out HSL.out; rw [HOF.out] at h; exact h)) ?_
      rintro en w236 ⟨rfl, cc235⟩
      refine ⟨_, rfl, ?_⟩
      have C0' := Lib.hid (show Ch [] w w236 from C0.out.trans' cc235 (fun x hx => absurd hx (by simp)))
      have BF' := Lib.hid (show BookL w236 w.heap.size Bs b (S) from BF.out.ch cc235 (fun _ _ h => absurd h (by simp)))
      have DF' := Lib.hid (show DocIs w236 w.heap.size Bs (S) (.slice Av S.L.length cv) (u) from DF.out.ch0 cc235)
      have QB' := Lib.hid (show Blk w236 gq (#[.int .i64 S.now, .slice Av S.L.length cv, u]) 53 from cc235.blk QB.out nin_nil)
      clear C0 BF DF QB
      have C0 := C0'; clear C0'
      have BF := BF'; clear BF'
      have DF := DF'; clear DF'
      have QB := QB'; clear QB'
      clear cc235
      refine hK234 _ _ ?_; clear hK234 K234
      (try simp only [zP, zN, zA, zB, zC])
      refine pu_ (v := .tuple #[.agg (opC zO).toArray, .bool false]) (y_move rfl (by rfl) (by rfl)) ?_
      (try simp only [zP, zN, zA, zB, zC])
      refine pu_ (v := .agg (opC zO).toArray) (y_run (by rfl) (fun W => by go_simp)) ?_
      (try simp only [zP, zN, zA, zB, zC])
      refine pu_ (v := .bool false) (y_run (by rfl) (fun W => by go_simp)) ?_
      (try simp only [zP, zN, zA, zB, zC])
      refine ef_ (fun K237 hK237 => ?_)
      refine e_alloc (by rfl) rfl rfl (cs := #[.int .i64 0, .int .i64 0, .int .i64 0, .int .i64 0, .int .i64 0, .int .i64 0, .int .i64 0, .int .u64 0, .string ⟨#[]⟩, .slice none 0 0, .slice none 0 0, .slice none 0 0, .int .i64 0, .int .i64 0, .int .i64 0, .int .i64 0, .int .i64 0, .int .i64 0, .int .i64 0, .string ⟨#[]⟩, .slice none 0 0, .int .i64 0, .int .i64 0, .int .i64 0, .int .u64 0, .string ⟨#[]⟩, .slice none 0 0, .slice none 0 0]) (by kernel_rfl) ?_
      rintro g238 w239 HG240 B241 C242
      have nw243 := Lib.hid (show w.heap.size ≤ g238 by have := C0.out.size; have := HG240.out; omega)
      have hs244 := Lib.hid (show g238 ∉ Bs from BF.out.ne_new HG240)
      have C0' := Lib.hid (show Ch [] w w239 from C0.out.trans' C242 (fun x hx => absurd hx (by simp)))
      have BF' := Lib.hid (show BookL w239 w.heap.size Bs b (S) from BF.out.ch C242 (fun _ _ h => absurd h (by simp)))
      have DF' := Lib.hid (show DocIs w239 w.heap.size Bs (S) (.slice Av S.L.length cv) (u) from DF.out.ch0 C242)
      have QB' := Lib.hid (show Blk w239 gq (#[.int .i64 S.now, .slice Av S.L.length cv, u]) 53 from C242.blk QB.out nin_nil)
      clear C0 BF DF QB
      have C0 := C0'; clear C0'
      have BF := BF'; clear BF'
      have DF := DF'; clear DF'
      have QB := QB'; clear QB'
      have Fg238 := Lib.hid (show Blk w239 g238 (#[.int .i64 0, .int .i64 0, .int .i64 0, .int .i64 0, .int .i64 0, .int .i64 0, .int .i64 0, .int .u64 0, .string ⟨#[]⟩, .slice none 0 0, .slice none 0 0, .slice none 0 0, .int .i64 0, .int .i64 0, .int .i64 0, .int .i64 0, .int .i64 0, .int .i64 0, .int .i64 0, .string ⟨#[]⟩, .slice none 0 0, .int .i64 0, .int .i64 0, .int .i64 0, .int .u64 0, .string ⟨#[]⟩, .slice none 0 0, .slice none 0 0]) 49 from B241); clear B241 C242
      refine hK237 _ _ ?_; clear hK237 K237
      (try simp only [zP, zN, zA, zB, zC])
      refine ef_ (fun K245 hK245 => ?_)
      refine e_storeN (cells := (opC zO).toArray) (by rfl) rfl rfl (by rfl) (by rfl) Fg238.out (sz49 zO) (by rw [show (opC zO).toArray.size = 28 by rw [List.size_toArray, opC_len]]; rfl) (by simpa using opC_one zO) ?_
      rintro w246 B247 C248
      have C0' := Lib.hid (show Ch [] w w246 from C0.out.trans' C248 (inw_cons (.inr nw243.out) inw_nil))
      have BF' := Lib.hid (show BookL w246 w.heap.size Bs b (S) from BF.out.ch C248 (fun k hk hm => (List.mem_cons.1 hm).elim (fun e => hs244.out (e ▸ hk)) (fun h => (fun _ _ h => absurd h (by simp)) k hk h)))
      have DF' := Lib.hid (show DocIs w246 w.heap.size Bs (S) (.slice Av S.L.length cv) (u) from DF.out.ch C248 (rnin_cons (OwnS.ne DF.out.1 Fg238.out (by decide)) rnin_nil) (rnin_cons (OwnS.ne DF.out.2.1 Fg238.out (by decide)) rnin_nil))
      have QB' := Lib.hid (show Blk w246 gq (#[.int .i64 S.now, .slice Av S.L.length cv, u]) 53 from C248.blk QB.out (nin_cons (Blk.ne_type QB.out Fg238.out (by decide)) nin_nil))
      clear C0 BF DF QB
      have C0 := C0'; clear C0'
      have BF := BF'; clear BF'
      have DF := DF'; clear DF'
      have QB := QB'; clear QB'
      clear Fg238; have Fg238 := Lib.hid (show Blk w246 g238 ((opC zO).toArray) 49 from B247); clear B247 C248
      refine hK245 _ _ ?_; clear hK245 K245
      (try simp only [zP, zN, zA, zB, zC])
      refine pu_ (v := .bool false) (y_assign rfl (by rfl) (by rfl)) ?_
      (try simp only [zP, zN, zA, zB, zC])
      refine nl_ (hK233 _ _ ?_); clear hK233 K233
      refine s_ (fun K249 hK249 => ?_)
      refine ld_ (v := .agg (#[.int .i64 S.now, .slice Av S.L.length cv, u])) rfl (by rfl) (by rfl) (run_loadVar_row _ _ 53 53 (#[.int .i64 S.now, .slice Av S.L.length cv, u]) (0, 0) _ QB.out Try.underlying53 rfl (by kernel_rfl)) ?_
      (try simp only [zP, zN, zA, zB, zC])
      refine pu_ (v := .int .i64 c) (y_move rfl (by rfl) (by rfl)) ?_
      (try simp only [zP, zN, zA, zB, zC])
      refine pu_ (v := .int .i64 n) (y_move rfl (by rfl) (by rfl)) ?_
      (try simp only [zP, zN, zA, zB, zC])
      refine ef_ (fun K250 hK250 => ?_)
      refine e_call Try.func25 (by kernel_rfl) rfl #[.agg (#[.int .i64 S.now, .slice Av S.L.length cv, u]), .int .i64 c, .int .i64 n] (by rfl) rfl rfl (by first | rfl | (simp only [List.map_toArray, List.map_cons, List.map_nil]; first | done | rfl)) ((rix_none HSL (src_u DF.out.2.1.src) HIX (Lib.hid DF.out.1.src))) ?_
      rintro en w252 ⟨rfl, cc251⟩
      refine ⟨_, rfl, ?_⟩
      have C0' := Lib.hid (show Ch [] w w252 from C0.out.trans' cc251 (fun x hx => absurd hx (by simp)))
      have BF' := Lib.hid (show BookL w252 w.heap.size Bs b (S) from BF.out.ch cc251 (fun _ _ h => absurd h (by simp)))
      have DF' := Lib.hid (show DocIs w252 w.heap.size Bs (S) (.slice Av S.L.length cv) (u) from DF.out.ch0 cc251)
      have QB' := Lib.hid (show Blk w252 gq (#[.int .i64 S.now, .slice Av S.L.length cv, u]) 53 from cc251.blk QB.out nin_nil)
      have Fg238' := Lib.hid (show Blk w252 g238 ((opC zO).toArray) 49 from cc251.blk Fg238.out nin_nil)
      clear C0 BF DF QB Fg238
      have C0 := C0'; clear C0'
      have BF := BF'; clear BF'
      have DF := DF'; clear DF'
      have QB := QB'; clear QB'
      have Fg238 := Fg238'; clear Fg238'
      clear cc251
      refine hK250 _ _ ?_; clear hK250 K250
      (try simp only [zP, zN, zA, zB, zC])
      refine pu_ (v := .int .i64 (-1)) (y_assign rfl (by rfl) (by rfl)) ?_
      (try simp only [zP, zN, zA, zB, zC])
      refine nl_ (hK249 _ _ ?_); clear hK249 K249
      refine sq_ (fun K253 hK253 => ?_)
      refine startk_ (S := fun W => Blk W g238 ((opC zO).toArray) 49 ∧ True) (ds := []) #[false, false, false, false, false, false, false, false, false, false, false, false, false, false, false, false, false, false, false, false, false, false, false, false, false, false, false, false, false, false] (by kernel_rfl) rfl rfl (fun W c => ⟨c.blk Fg238.out nin_nil, trivial⟩) (fun w254 C255 hS256 => ?_)
      have C0' := Lib.hid (show Ch [] w w254 from C0.out.trans' C255 (fun x hx => absurd hx (by simp)))
      have BF' := Lib.hid (show BookL w254 w.heap.size Bs b (S) from BF.out.ch C255 (fun _ _ h => absurd h (by simp)))
      have DF' := Lib.hid (show DocIs w254 w.heap.size Bs (S) (.slice Av S.L.length cv) (u) from DF.out.ch0 C255)
      have QB' := Lib.hid (show Blk w254 gq (#[.int .i64 S.now, .slice Av S.L.length cv, u]) 53 from C255.blk QB.out nin_nil)
      have Fg238' := Lib.hid (show Blk w254 g238 ((opC zO).toArray) 49 from C255.blk Fg238.out nin_nil)
      clear C0 BF DF QB Fg238
      have C0 := C0'; clear C0'
      have BF := BF'; clear BF'
      have DF := DF'; clear DF'
      have QB := QB'; clear QB'
      have Fg238 := Fg238'; clear Fg238'
      clear C255
      refine pure_ (i := 0) (N := some 179) (v := .bool false) #[true, false, false, false, false, false, false, false, false, false, false, false, false, false, false, false, false, false, false, false, false, false, false, false, false, false, false, false, false, false] rfl rfl (by kernel_rfl) (fun c a w h => hP c a _ _ w h) (y_move rfl (by rfl) (by rfl)) rfl ?_
      (try simp only [zP, zN, zA, zB, zC])
      refine pure_ (i := 1) (N := some 180) (v := .int .i64 (-1)) #[true, true, false, false, false, false, false, false, false, false, false, false, false, false, false, false, false, false, false, false, false, false, false, false, false, false, false, false, false, false] rfl rfl (by kernel_rfl) (fun c a w h => hP c a _ _ w h) (y_move rfl (by rfl) (by rfl)) rfl ?_
      (try simp only [zP, zN, zA, zB, zC])
      refine pure_ (i := 2) (N := some 181) (v := .bool false) #[true, true, true, false, false, false, false, false, false, false, false, false, false, false, false, false, false, false, false, false, false, false, false, false, false, false, false, false, false, false] rfl rfl (by kernel_rfl) (fun c a w h => hP c a _ _ w h) (y_run (by rfl) (fun W => by go_simp)) rfl ?_
      (try simp only [zP, zN, zA, zB, zC])
      refine pure_ (i := 3) (N := some 182) (v := .bool true) #[true, true, true, true, false, false, false, false, false, false, false, false, false, false, false, false, false, false, false, false, false, false, false, false, false, false, false, false, false, false] rfl rfl (by kernel_rfl) (fun c a w h => hP c a _ _ w h) (y_run (by rfl) (fun W => by go_simp)) rfl ?_
      (try simp only [zP, zN, zA, zB, zC])
      refine pure_ (i := 4) (N := some 183) (v := .bool true) #[true, true, true, true, true, false, false, false, false, false, false, false, false, false, false, false, false, false, false, false, false, false, false, false, false, false, false, false, false, false] rfl rfl (by kernel_rfl) (fun c a w h => hP c a _ _ w h) (y_move rfl (by rfl) (by rfl)) rfl ?_
      (try simp only [zP, zN, zA, zB, zC])
      refine pure_ (i := 5) (N := some 184) (v := .int .i64 (-1)) #[true, true, true, true, true, true, false, false, false, false, false, false, false, false, false, false, false, false, false, false, false, false, false, false, false, false, false, false, false, false] rfl rfl (by kernel_rfl) (fun c a w h => hP c a _ _ w h) (y_move rfl (by rfl) (by rfl)) rfl ?_
      (try simp only [zP, zN, zA, zB, zC])
      refine pure_ (i := 6) (N := some 185) (v := .bool true) #[true, true, true, true, true, true, true, false, false, false, false, false, false, false, false, false, false, false, false, false, false, false, false, false, false, false, false, false, false, false] rfl rfl (by kernel_rfl) (fun c a w h => hP c a _ _ w h) (y_run (by rfl) (fun W => by go_simp)) rfl ?_
      (try simp only [zP, zN, zA, zB, zC])
      refine pure_ (i := 7) (N := some 186) (v := .bool true) #[true, true, true, true, true, true, true, true, false, false, false, false, false, false, false, false, false, false, false, false, false, false, false, false, false, false, false, false, false, false] rfl rfl (by kernel_rfl) (fun c a w h => hP c a _ _ w h) (y_move rfl (by rfl) (by rfl)) rfl ?_
      (try simp only [zP, zN, zA, zB, zC])
      refine take_ (i := 8) (N := some 187) (v := .agg (opC zO).toArray) #[true, true, true, true, true, true, true, true, true, false, false, false, false, false, false, false, false, false, false, false, false, false, false, false, false, false, false, false, false, false] rfl rfl (by kernel_rfl) (fun c a w h => hP c a _ _ w h) (y_load (p := ⟨g238, 0, none⟩) rfl (by rfl) (by rfl) (fun W hS => run_loadVar_row _ _ 49 49 ((opC zO).toArray) (0, 0) _ hS.1 Try.underlying49 rfl (sz49 zO))) hS256 rfl ?_
      (try simp only [zP, zN, zA, zB, zC])
      refine pure_ (i := 9) (N := some 188) (v := .agg (opC zO).toArray) #[true, true, true, true, true, true, true, true, true, true, false, false, false, false, false, false, false, false, false, false, false, false, false, false, false, false, false, false, false, false] rfl rfl (by kernel_rfl) (fun c a w h => hP c a _ _ w h) (y_build (vs := #[]) (by rfl) rfl (by first | rfl | (simp only [List.map_toArray, List.map_cons, List.map_nil]; first | done | rfl)) (by kernel_rfl)) rfl ?_
      (try simp only [zP, zN, zA, zB, zC])
      refine one_ (i := 10) (N := some 189) #[true, true, true, true, true, true, true, true, true, true, true, false, false, false, false, false, false, false, false, false, false, false, false, false, false, false, false, false, false, false] rfl rfl (by kernel_rfl) (by simp) (fun K257 hK257 => ?_)
      refine e_call Try.func26 (by kernel_rfl) rfl #[.agg (opC zO).toArray, .agg (opC zO).toArray] (by rfl) rfl rfl (by first | rfl | (simp only [List.map_toArray, List.map_cons, List.map_nil]; first | done | rfl)) ((is_all (zok w) C0.out.below0)) ?_
      rintro en w259 ⟨rfl, cc258⟩
      refine ⟨_, rfl, ?_⟩
      have C0' := Lib.hid (show Ch [] w w259 from C0.out.trans' cc258 (fun x hx => absurd hx (by simp)))
      have BF' := Lib.hid (show BookL w259 w.heap.size Bs b (S) from BF.out.ch cc258 (fun _ _ h => absurd h (by simp)))
      have DF' := Lib.hid (show DocIs w259 w.heap.size Bs (S) (.slice Av S.L.length cv) (u) from DF.out.ch0 cc258)
      have QB' := Lib.hid (show Blk w259 gq (#[.int .i64 S.now, .slice Av S.L.length cv, u]) 53 from cc258.blk QB.out nin_nil)
      have Fg238' := Lib.hid (show Blk w259 g238 ((opC zO).toArray) 49 from cc258.blk Fg238.out nin_nil)
      clear C0 BF DF QB Fg238
      have C0 := C0'; clear C0'
      have BF := BF'; clear BF'
      have DF := DF'; clear DF'
      have QB := QB'; clear QB'
      have Fg238 := Fg238'; clear Fg238'
      clear cc258
      refine hK257.out _ _ ⟨Fg238.out, trivial⟩ (fun hS260 => ?_); clear hK257 K257
      (try simp only [zP, zN, zA, zB, zC])
      refine pure_ (i := 11) (N := some 190) (v := .bool true) #[true, true, true, true, true, true, true, true, true, true, true, true, false, false, false, false, false, false, false, false, false, false, false, false, false, false, false, false, false, false] rfl rfl (by kernel_rfl) (fun c a w h => hP c a _ _ w h) (y_pick (t := true) (by rfl) rfl (by rfl) (by rfl)) rfl ?_
      (try simp only [zP, zN, zA, zB, zC])
      refine pure_ (i := 12) (N := some 191) (v := .bool true) #[true, true, true, true, true, true, true, true, true, true, true, true, true, false, false, false, false, false, false, false, false, false, false, false, false, false, false, false, false, false] rfl rfl (by kernel_rfl) (fun c a w h => hP c a _ _ w h) (y_move rfl (by rfl) (by rfl)) rfl ?_
      (try simp only [zP, zN, zA, zB, zC])
      refine pure_ (i := 13) (N := some 192) (v := undef) #[true, true, true, true, true, true, true, true, true, true, true, true, true, true, false, false, false, false, false, false, false, false, false, false, false, false, false, false, false, false] rfl rfl (by kernel_rfl) (fun c a w h => hP c a _ _ w h) (y_off (by rfl)) rfl ?_
      (try simp only [zP, zN, zA, zB, zC])
      refine pure_ (i := 14) (N := some 193) (v := undef) #[true, true, true, true, true, true, true, true, true, true, true, true, true, true, true, false, false, false, false, false, false, false, false, false, false, false, false, false, false, false] rfl rfl (by kernel_rfl) (fun c a w h => hP c a _ _ w h) (y_off (by rfl)) rfl ?_
      (try simp only [zP, zN, zA, zB, zC])
      refine pure_ (i := 15) (N := some 194) (v := undef) #[true, true, true, true, true, true, true, true, true, true, true, true, true, true, true, true, false, false, false, false, false, false, false, false, false, false, false, false, false, false] rfl rfl (by kernel_rfl) (fun c a w h => hP c a _ _ w h) (y_off (by rfl)) rfl ?_
      (try simp only [zP, zN, zA, zB, zC])
      refine pure_ (i := 16) (N := some 195) (v := undef) #[true, true, true, true, true, true, true, true, true, true, true, true, true, true, true, true, true, false, false, false, false, false, false, false, false, false, false, false, false, false] rfl rfl (by kernel_rfl) (fun c a w h => hP c a _ _ w h) (y_off (by rfl)) rfl ?_
      (try simp only [zP, zN, zA, zB, zC])
      refine pure_ (i := 17) (N := some 196) (v := undef) #[true, true, true, true, true, true, true, true, true, true, true, true, true, true, true, true, true, true, false, false, false, false, false, false, false, false, false, false, false, false] rfl rfl (by kernel_rfl) (fun c a w h => hP c a _ _ w h) (y_off (by rfl)) rfl ?_
      (try simp only [zP, zN, zA, zB, zC])
      refine pure_ (i := 18) (N := some 197) (v := undef) #[true, true, true, true, true, true, true, true, true, true, true, true, true, true, true, true, true, true, true, false, false, false, false, false, false, false, false, false, false, false] rfl rfl (by kernel_rfl) (fun c a w h => hP c a _ _ w h) (y_off (by rfl)) rfl ?_
      (try simp only [zP, zN, zA, zB, zC])
      refine pure_ (i := 19) (N := some 198) (v := undef) #[true, true, true, true, true, true, true, true, true, true, true, true, true, true, true, true, true, true, true, true, false, false, false, false, false, false, false, false, false, false] rfl rfl (by kernel_rfl) (fun c a w h => hP c a _ _ w h) (y_off (by rfl)) rfl ?_
      (try simp only [zP, zN, zA, zB, zC])
      refine pure_ (i := 20) (N := some 199) (v := undef) #[true, true, true, true, true, true, true, true, true, true, true, true, true, true, true, true, true, true, true, true, true, false, false, false, false, false, false, false, false, false] rfl rfl (by kernel_rfl) (fun c a w h => hP c a _ _ w h) (y_off (by rfl)) rfl ?_
      (try simp only [zP, zN, zA, zB, zC])
      refine pure_ (i := 21) (N := some 200) (v := undef) #[true, true, true, true, true, true, true, true, true, true, true, true, true, true, true, true, true, true, true, true, true, true, false, false, false, false, false, false, false, false] rfl rfl (by kernel_rfl) (fun c a w h => hP c a _ _ w h) (y_off (by rfl)) rfl ?_
      (try simp only [zP, zN, zA, zB, zC])
      refine pure_ (i := 22) (N := some 201) (v := undef) #[true, true, true, true, true, true, true, true, true, true, true, true, true, true, true, true, true, true, true, true, true, true, true, false, false, false, false, false, false, false] rfl rfl (by kernel_rfl) (fun c a w h => hP c a _ _ w h) (y_off (by rfl)) rfl ?_
      (try simp only [zP, zN, zA, zB, zC])
      refine pure_ (i := 23) (N := some 202) (v := undef) #[true, true, true, true, true, true, true, true, true, true, true, true, true, true, true, true, true, true, true, true, true, true, true, true, false, false, false, false, false, false] rfl rfl (by kernel_rfl) (fun c a w h => hP c a _ _ w h) (y_off (by rfl)) rfl ?_
      (try simp only [zP, zN, zA, zB, zC])
      refine pure_ (i := 24) (N := some 203) (v := .bool true) #[true, true, true, true, true, true, true, true, true, true, true, true, true, true, true, true, true, true, true, true, true, true, true, true, true, false, false, false, false, false] rfl rfl (by kernel_rfl) (fun c a w h => hP c a _ _ w h) (y_pick (t := true) (by rfl) rfl (by rfl) (by rfl)) rfl ?_
      (try simp only [zP, zN, zA, zB, zC])
      refine pure_ (i := 25) (N := some 204) (v := .bool true) #[true, true, true, true, true, true, true, true, true, true, true, true, true, true, true, true, true, true, true, true, true, true, true, true, true, true, false, false, false, false] rfl rfl (by kernel_rfl) (fun c a w h => hP c a _ _ w h) (y_pick (t := true) (by rfl) rfl (by rfl) (by rfl)) rfl ?_
      (try simp only [zP, zN, zA, zB, zC])
      refine pure_ (i := 26) (N := some 205) (v := .bool true) #[true, true, true, true, true, true, true, true, true, true, true, true, true, true, true, true, true, true, true, true, true, true, true, true, true, true, true, false, false, false] rfl rfl (by kernel_rfl) (fun c a w h => hP c a _ _ w h) (y_move rfl (by rfl) (by rfl)) rfl ?_
      (try simp only [zP, zN, zA, zB, zC])
      refine one_ (i := 27) (N := some 206) #[true, true, true, true, true, true, true, true, true, true, true, true, true, true, true, true, true, true, true, true, true, true, true, true, true, true, true, true, false, false] rfl rfl (by kernel_rfl) (by simp) (fun K261 hK261 => ?_)
      refine e_call Try.func8 (by kernel_rfl) rfl #[] (by rfl) rfl rfl (by first | rfl | (simp only [List.map_toArray, List.map_cons, List.map_nil]; first | done | rfl)) (works8 _) ?_
      rintro en w263 ⟨rfl, cc262⟩
      refine ⟨_, rfl, ?_⟩
      have C0' := Lib.hid (show Ch [] w w263 from C0.out.trans' cc262 (fun x hx => absurd hx (by simp)))
      have BF' := Lib.hid (show BookL w263 w.heap.size Bs b (S) from BF.out.ch cc262 (fun _ _ h => absurd h (by simp)))
      have DF' := Lib.hid (show DocIs w263 w.heap.size Bs (S) (.slice Av S.L.length cv) (u) from DF.out.ch0 cc262)
      have QB' := Lib.hid (show Blk w263 gq (#[.int .i64 S.now, .slice Av S.L.length cv, u]) 53 from cc262.blk QB.out nin_nil)
      have Fg238' := Lib.hid (show Blk w263 g238 ((opC zO).toArray) 49 from cc262.blk Fg238.out nin_nil)
      clear C0 BF DF QB Fg238
      have C0 := C0'; clear C0'
      have BF := BF'; clear BF'
      have DF := DF'; clear DF'
      have QB := QB'; clear QB'
      have Fg238 := Fg238'; clear Fg238'
      clear cc262
      refine hK261.out _ _ ⟨Fg238.out, trivial⟩ (fun hS264 => ?_); clear hK261 K261
      (try simp only [zP, zN, zA, zB, zC])
      refine pure_ (i := 28) (N := some 207) (v := .bool true) #[true, true, true, true, true, true, true, true, true, true, true, true, true, true, true, true, true, true, true, true, true, true, true, true, true, true, true, true, true, false] rfl rfl (by kernel_rfl) (fun c a w h => hP c a _ _ w h) (y_pick (t := true) (by rfl) rfl (by rfl) (by rfl)) rfl ?_
      (try simp only [zP, zN, zA, zB, zC])
      refine pure_ (i := 29) (N := some 6) (v := .bool true) #[true, true, true, true, true, true, true, true, true, true, true, true, true, true, true, true, true, true, true, true, true, true, true, true, true, true, true, true, true, true] rfl rfl (by kernel_rfl) (fun c a w h => hP c a _ _ w h) (y_assign rfl (by rfl) (by rfl)) rfl ?_
      (try simp only [zP, zN, zA, zB, zC])
      refine done_ (by kernel_rfl) (th_norm (hK253 _ _ ?_)); clear hK253 K253
      refine wp_ret ?_
      refine hQ _ _ _ ?_
      refine bodyPost_ret (res1 rfl (rdv_tmp (v := .bool true) (by rfl))) rfl ?_
      exact ⟨rfl, C0.out⟩
    · have HSL := Lib.hid (show S.L.length ≤ 1000 by have := ht.out.1.len; have := ht.out.2; have := hk.out; omega)
      have HOF := Lib.hid hof
      have HIX := Lib.hid hix
      have HO := Lib.hid ho0
      clear hof hix ho0
      obtain ⟨Av, cv, hv, -, -⟩ := DF.out.1.slice
      subst hv
      have HJL := Lib.hid (show j < S.L.length from (List.getElem?_eq_some_iff.1 HO.out).1)
      obtain ⟨gv, cv2, hv, -, -, -, -, -⟩ := DF.out.1.some_ (by have := HJL.out; omega)
      injection hv with hv1 _ hv3
      subst hv1 hv3
      have DJ := Lib.hid (show (j : Int) < (S.L.length : Int) by have := HJL.out; omega)
      refine s_ (fun K265 hK265 => ?_)
      refine pu_ (v := .pointer (some ⟨b, 0, none⟩)) (y_move rfl (by rfl) (by rfl)) ?_
      (try simp only [zP, zN, zA, zB, zC])
      refine pu_ (v := .int .i64 c) (y_move rfl (by rfl) (by rfl)) ?_
      (try simp only [zP, zN, zA, zB, zC])
      refine pu_ (v := .int .i64 n) (y_move rfl (by rfl) (by rfl)) ?_
      (try simp only [zP, zN, zA, zB, zC])
      refine ef_ (fun K266 hK266 => ?_)
      refine e_call Try.func24 (by kernel_rfl) rfl #[.pointer (some ⟨b, 0, none⟩), .int .i64 c, .int .i64 n] (by rfl) rfl rfl (by first | rfl | (simp only [List.map_toArray, List.map_cons, List.map_nil]; first | done | rfl)) ((by have h := of_l BF.out HKY.out HSL.out; rw [HOF.out] at h; exact h)) ?_
      rintro en w268 ⟨rfl, cc267⟩
      refine ⟨_, rfl, ?_⟩
      have C0' := Lib.hid (show Ch [] w w268 from C0.out.trans' cc267 (fun x hx => absurd hx (by simp)))
      have BF' := Lib.hid (show BookL w268 w.heap.size Bs b (S) from BF.out.ch cc267 (fun _ _ h => absurd h (by simp)))
      have DF' := Lib.hid (show DocIs w268 w.heap.size Bs (S) (.slice (some ⟨gv, 0, none⟩) S.L.length cv) (u) from DF.out.ch0 cc267)
      have QB' := Lib.hid (show Blk w268 gq (#[.int .i64 S.now, .slice (some ⟨gv, 0, none⟩) S.L.length cv, u]) 53 from cc267.blk QB.out nin_nil)
      clear C0 BF DF QB
      have C0 := C0'; clear C0'
      have BF := BF'; clear BF'
      have DF := DF'; clear DF'
      have QB := QB'; clear QB'
      clear cc267
      refine hK266 _ _ ?_; clear hK266 K266
      (try simp only [zP, zN, zA, zB, zC])
      refine pu_ (v := .tuple #[.agg (opC o).toArray, .bool true]) (y_move rfl (by rfl) (by rfl)) ?_
      (try simp only [zP, zN, zA, zB, zC])
      refine pu_ (v := .agg (opC o).toArray) (y_run (by rfl) (fun W => by go_simp)) ?_
      (try simp only [zP, zN, zA, zB, zC])
      refine pu_ (v := .bool true) (y_run (by rfl) (fun W => by go_simp)) ?_
      (try simp only [zP, zN, zA, zB, zC])
      refine ef_ (fun K269 hK269 => ?_)
      refine e_alloc (by rfl) rfl rfl (cs := #[.int .i64 0, .int .i64 0, .int .i64 0, .int .i64 0, .int .i64 0, .int .i64 0, .int .i64 0, .int .u64 0, .string ⟨#[]⟩, .slice none 0 0, .slice none 0 0, .slice none 0 0, .int .i64 0, .int .i64 0, .int .i64 0, .int .i64 0, .int .i64 0, .int .i64 0, .int .i64 0, .string ⟨#[]⟩, .slice none 0 0, .int .i64 0, .int .i64 0, .int .i64 0, .int .u64 0, .string ⟨#[]⟩, .slice none 0 0, .slice none 0 0]) (by kernel_rfl) ?_
      rintro g270 w271 HG272 B273 C274
      have nw275 := Lib.hid (show w.heap.size ≤ g270 by have := C0.out.size; have := HG272.out; omega)
      have hs276 := Lib.hid (show g270 ∉ Bs from BF.out.ne_new HG272)
      have C0' := Lib.hid (show Ch [] w w271 from C0.out.trans' C274 (fun x hx => absurd hx (by simp)))
      have BF' := Lib.hid (show BookL w271 w.heap.size Bs b (S) from BF.out.ch C274 (fun _ _ h => absurd h (by simp)))
      have DF' := Lib.hid (show DocIs w271 w.heap.size Bs (S) (.slice (some ⟨gv, 0, none⟩) S.L.length cv) (u) from DF.out.ch0 C274)
      have QB' := Lib.hid (show Blk w271 gq (#[.int .i64 S.now, .slice (some ⟨gv, 0, none⟩) S.L.length cv, u]) 53 from C274.blk QB.out nin_nil)
      clear C0 BF DF QB
      have C0 := C0'; clear C0'
      have BF := BF'; clear BF'
      have DF := DF'; clear DF'
      have QB := QB'; clear QB'
      have Fg270 := Lib.hid (show Blk w271 g270 (#[.int .i64 0, .int .i64 0, .int .i64 0, .int .i64 0, .int .i64 0, .int .i64 0, .int .i64 0, .int .u64 0, .string ⟨#[]⟩, .slice none 0 0, .slice none 0 0, .slice none 0 0, .int .i64 0, .int .i64 0, .int .i64 0, .int .i64 0, .int .i64 0, .int .i64 0, .int .i64 0, .string ⟨#[]⟩, .slice none 0 0, .int .i64 0, .int .i64 0, .int .i64 0, .int .u64 0, .string ⟨#[]⟩, .slice none 0 0, .slice none 0 0]) 49 from B273); clear B273 C274
      refine hK269 _ _ ?_; clear hK269 K269
      (try simp only [zP, zN, zA, zB, zC])
      refine ef_ (fun K277 hK277 => ?_)
      refine e_storeN (cells := (opC o).toArray) (by rfl) rfl rfl (by rfl) (by rfl) Fg270.out (sz49 o) (by rw [show (opC o).toArray.size = 28 by rw [List.size_toArray, opC_len]]; rfl) (by simpa using opC_one o) ?_
      rintro w278 B279 C280
      have C0' := Lib.hid (show Ch [] w w278 from C0.out.trans' C280 (inw_cons (.inr nw275.out) inw_nil))
      have BF' := Lib.hid (show BookL w278 w.heap.size Bs b (S) from BF.out.ch C280 (fun k hk hm => (List.mem_cons.1 hm).elim (fun e => hs276.out (e ▸ hk)) (fun h => (fun _ _ h => absurd h (by simp)) k hk h)))
      have DF' := Lib.hid (show DocIs w278 w.heap.size Bs (S) (.slice (some ⟨gv, 0, none⟩) S.L.length cv) (u) from DF.out.ch C280 (rnin_cons (OwnS.ne DF.out.1 Fg270.out (by decide)) rnin_nil) (rnin_cons (OwnS.ne DF.out.2.1 Fg270.out (by decide)) rnin_nil))
      have QB' := Lib.hid (show Blk w278 gq (#[.int .i64 S.now, .slice (some ⟨gv, 0, none⟩) S.L.length cv, u]) 53 from C280.blk QB.out (nin_cons (Blk.ne_type QB.out Fg270.out (by decide)) nin_nil))
      clear C0 BF DF QB
      have C0 := C0'; clear C0'
      have BF := BF'; clear BF'
      have DF := DF'; clear DF'
      have QB := QB'; clear QB'
      clear Fg270; have Fg270 := Lib.hid (show Blk w278 g270 ((opC o).toArray) 49 from B279); clear B279 C280
      refine hK277 _ _ ?_; clear hK277 K277
      (try simp only [zP, zN, zA, zB, zC])
      refine pu_ (v := .bool true) (y_assign rfl (by rfl) (by rfl)) ?_
      (try simp only [zP, zN, zA, zB, zC])
      refine nl_ (hK265 _ _ ?_); clear hK265 K265
      refine s_ (fun K281 hK281 => ?_)
      refine ld_ (v := .agg (#[.int .i64 S.now, .slice (some ⟨gv, 0, none⟩) S.L.length cv, u])) rfl (by rfl) (by rfl) (run_loadVar_row _ _ 53 53 (#[.int .i64 S.now, .slice (some ⟨gv, 0, none⟩) S.L.length cv, u]) (0, 0) _ QB.out Try.underlying53 rfl (by kernel_rfl)) ?_
      (try simp only [zP, zN, zA, zB, zC])
      refine pu_ (v := .int .i64 c) (y_move rfl (by rfl) (by rfl)) ?_
      (try simp only [zP, zN, zA, zB, zC])
      refine pu_ (v := .int .i64 n) (y_move rfl (by rfl) (by rfl)) ?_
      (try simp only [zP, zN, zA, zB, zC])
      refine ef_ (fun K282 hK282 => ?_)
      refine e_call Try.func25 (by kernel_rfl) rfl #[.agg (#[.int .i64 S.now, .slice (some ⟨gv, 0, none⟩) S.L.length cv, u]), .int .i64 c, .int .i64 n] (by rfl) rfl rfl (by first | rfl | (simp only [List.map_toArray, List.map_cons, List.map_nil]; first | done | rfl)) ((rix_some HSL (src_u DF.out.2.1.src) HIX (Lib.hid DF.out.1.src))) ?_
      rintro en w284 ⟨rfl, cc283⟩
      refine ⟨_, rfl, ?_⟩
      have C0' := Lib.hid (show Ch [] w w284 from C0.out.trans' cc283 (fun x hx => absurd hx (by simp)))
      have BF' := Lib.hid (show BookL w284 w.heap.size Bs b (S) from BF.out.ch cc283 (fun _ _ h => absurd h (by simp)))
      have DF' := Lib.hid (show DocIs w284 w.heap.size Bs (S) (.slice (some ⟨gv, 0, none⟩) S.L.length cv) (u) from DF.out.ch0 cc283)
      have QB' := Lib.hid (show Blk w284 gq (#[.int .i64 S.now, .slice (some ⟨gv, 0, none⟩) S.L.length cv, u]) 53 from cc283.blk QB.out nin_nil)
      have Fg270' := Lib.hid (show Blk w284 g270 ((opC o).toArray) 49 from cc283.blk Fg270.out nin_nil)
      clear C0 BF DF QB Fg270
      have C0 := C0'; clear C0'
      have BF := BF'; clear BF'
      have DF := DF'; clear DF'
      have QB := QB'; clear QB'
      have Fg270 := Fg270'; clear Fg270'
      clear cc283
      refine hK282 _ _ ?_; clear hK282 K282
      (try simp only [zP, zN, zA, zB, zC])
      refine pu_ (v := .int .i64 j) (y_assign rfl (by rfl) (by rfl)) ?_
      (try simp only [zP, zN, zA, zB, zC])
      refine nl_ (hK281 _ _ ?_); clear hK281 K281
      refine sq_ (fun K285 hK285 => ?_)
      refine startk_ (S := fun W => DocIs W w.heap.size Bs (S) (.slice (some ⟨gv, 0, none⟩) S.L.length cv) (u) ∧ Blk W gq (#[.int .i64 S.now, .slice (some ⟨gv, 0, none⟩) S.L.length cv, u]) 53 ∧ Blk W g270 ((opC o).toArray) 49 ∧ True) (ds := []) #[false, false, false, false, false, false, false, false, false, false, false, false, false, false, false, false, false, false, false, false, false, false, false, false, false, false, false, false, false, false] (by kernel_rfl) rfl rfl (fun W c => ⟨DF.out.ch0 c, c.blk QB.out nin_nil, c.blk Fg270.out nin_nil, trivial⟩) (fun w286 C287 hS288 => ?_)
      have C0' := Lib.hid (show Ch [] w w286 from C0.out.trans' C287 (fun x hx => absurd hx (by simp)))
      have BF' := Lib.hid (show BookL w286 w.heap.size Bs b (S) from BF.out.ch C287 (fun _ _ h => absurd h (by simp)))
      have DF' := Lib.hid (show DocIs w286 w.heap.size Bs (S) (.slice (some ⟨gv, 0, none⟩) S.L.length cv) (u) from DF.out.ch0 C287)
      have QB' := Lib.hid (show Blk w286 gq (#[.int .i64 S.now, .slice (some ⟨gv, 0, none⟩) S.L.length cv, u]) 53 from C287.blk QB.out nin_nil)
      have Fg270' := Lib.hid (show Blk w286 g270 ((opC o).toArray) 49 from C287.blk Fg270.out nin_nil)
      clear C0 BF DF QB Fg270
      have C0 := C0'; clear C0'
      have BF := BF'; clear BF'
      have DF := DF'; clear DF'
      have QB := QB'; clear QB'
      have Fg270 := Fg270'; clear Fg270'
      clear C287
      refine pure_ (i := 0) (N := some 179) (v := .bool true) #[true, false, false, false, false, false, false, false, false, false, false, false, false, false, false, false, false, false, false, false, false, false, false, false, false, false, false, false, false, false] rfl rfl (by kernel_rfl) (fun c a w h => hP c a _ _ w h) (y_move rfl (by rfl) (by rfl)) rfl ?_
      (try simp only [zP, zN, zA, zB, zC])
      refine pure_ (i := 1) (N := some 180) (v := .int .i64 j) #[true, true, false, false, false, false, false, false, false, false, false, false, false, false, false, false, false, false, false, false, false, false, false, false, false, false, false, false, false, false] rfl rfl (by kernel_rfl) (fun c a w h => hP c a _ _ w h) (y_move rfl (by rfl) (by rfl)) rfl ?_
      (try simp only [zP, zN, zA, zB, zC])
      refine pure_ (i := 2) (N := some 181) (v := .bool true) #[true, true, true, false, false, false, false, false, false, false, false, false, false, false, false, false, false, false, false, false, false, false, false, false, false, false, false, false, false, false] rfl rfl (by kernel_rfl) (fun c a w h => hP c a _ _ w h) (y_run (by rfl) (fun W => by go_simp)) rfl ?_
      (try simp only [zP, zN, zA, zB, zC])
      refine pure_ (i := 3) (N := some 182) (v := .bool true) #[true, true, true, true, false, false, false, false, false, false, false, false, false, false, false, false, false, false, false, false, false, false, false, false, false, false, false, false, false, false] rfl rfl (by kernel_rfl) (fun c a w h => hP c a _ _ w h) (y_run (by rfl) (fun W => by go_simp)) rfl ?_
      (try simp only [zP, zN, zA, zB, zC])
      refine pure_ (i := 4) (N := some 183) (v := .bool true) #[true, true, true, true, true, false, false, false, false, false, false, false, false, false, false, false, false, false, false, false, false, false, false, false, false, false, false, false, false, false] rfl rfl (by kernel_rfl) (fun c a w h => hP c a _ _ w h) (y_move rfl (by rfl) (by rfl)) rfl ?_
      (try simp only [zP, zN, zA, zB, zC])
      refine pure_ (i := 5) (N := some 184) (v := .int .i64 j) #[true, true, true, true, true, true, false, false, false, false, false, false, false, false, false, false, false, false, false, false, false, false, false, false, false, false, false, false, false, false] rfl rfl (by kernel_rfl) (fun c a w h => hP c a _ _ w h) (y_move rfl (by rfl) (by rfl)) rfl ?_
      (try simp only [zP, zN, zA, zB, zC])
      refine pure_ (i := 6) (N := some 185) (v := .bool false) #[true, true, true, true, true, true, true, false, false, false, false, false, false, false, false, false, false, false, false, false, false, false, false, false, false, false, false, false, false, false] rfl rfl (by kernel_rfl) (fun c a w h => hP c a _ _ w h) (y_run (by rfl) (fun W => by go_simp)) rfl ?_
      (try simp only [zP, zN, zA, zB, zC])
      refine pure_ (i := 7) (N := some 186) (v := .bool false) #[true, true, true, true, true, true, true, true, false, false, false, false, false, false, false, false, false, false, false, false, false, false, false, false, false, false, false, false, false, false] rfl rfl (by kernel_rfl) (fun c a w h => hP c a _ _ w h) (y_move rfl (by rfl) (by rfl)) rfl ?_
      (try simp only [zP, zN, zA, zB, zC])
      refine pure_ (i := 8) (N := some 187) (v := undef) #[true, true, true, true, true, true, true, true, true, false, false, false, false, false, false, false, false, false, false, false, false, false, false, false, false, false, false, false, false, false] rfl rfl (by kernel_rfl) (fun c a w h => hP c a _ _ w h) (y_off (by rfl)) rfl ?_
      (try simp only [zP, zN, zA, zB, zC])
      refine pure_ (i := 9) (N := some 188) (v := undef) #[true, true, true, true, true, true, true, true, true, true, false, false, false, false, false, false, false, false, false, false, false, false, false, false, false, false, false, false, false, false] rfl rfl (by kernel_rfl) (fun c a w h => hP c a _ _ w h) (y_off (by rfl)) rfl ?_
      (try simp only [zP, zN, zA, zB, zC])
      refine pure_ (i := 10) (N := some 189) (v := undef) #[true, true, true, true, true, true, true, true, true, true, true, false, false, false, false, false, false, false, false, false, false, false, false, false, false, false, false, false, false, false] rfl rfl (by kernel_rfl) (fun c a w h => hP c a _ _ w h) (y_off (by rfl)) rfl ?_
      (try simp only [zP, zN, zA, zB, zC])
      refine pure_ (i := 11) (N := some 190) (v := .bool false) #[true, true, true, true, true, true, true, true, true, true, true, true, false, false, false, false, false, false, false, false, false, false, false, false, false, false, false, false, false, false] rfl rfl (by kernel_rfl) (fun c a w h => hP c a _ _ w h) (y_pick (t := false) (by rfl) rfl (by rfl) (by rfl)) rfl ?_
      (try simp only [zP, zN, zA, zB, zC])
      refine pure_ (i := 12) (N := some 191) (v := .bool false) #[true, true, true, true, true, true, true, true, true, true, true, true, true, false, false, false, false, false, false, false, false, false, false, false, false, false, false, false, false, false] rfl rfl (by kernel_rfl) (fun c a w h => hP c a _ _ w h) (y_move rfl (by rfl) (by rfl)) rfl ?_
      (try simp only [zP, zN, zA, zB, zC])
      refine pure_ (i := 13) (N := some 192) (v := .int .i64 j) #[true, true, true, true, true, true, true, true, true, true, true, true, true, true, false, false, false, false, false, false, false, false, false, false, false, false, false, false, false, false] rfl rfl (by kernel_rfl) (fun c a w h => hP c a _ _ w h) (y_move rfl (by rfl) (by rfl)) rfl ?_
      (try simp only [zP, zN, zA, zB, zC])
      refine pure_ (i := 14) (N := some 193) (v := .bool true) #[true, true, true, true, true, true, true, true, true, true, true, true, true, true, true, false, false, false, false, false, false, false, false, false, false, false, false, false, false, false] rfl rfl (by kernel_rfl) (fun c a w h => hP c a _ _ w h) (y_run (by rfl) (fun W => by go_simp)) rfl ?_
      (try simp only [zP, zN, zA, zB, zC])
      refine pure_ (i := 15) (N := some 194) (v := .bool true) #[true, true, true, true, true, true, true, true, true, true, true, true, true, true, true, true, false, false, false, false, false, false, false, false, false, false, false, false, false, false] rfl rfl (by kernel_rfl) (fun c a w h => hP c a _ _ w h) (y_move rfl (by rfl) (by rfl)) rfl ?_
      (try simp only [zP, zN, zA, zB, zC])
      refine take_ (i := 16) (N := some 195) (v := .agg (opC o).toArray) #[true, true, true, true, true, true, true, true, true, true, true, true, true, true, true, true, true, false, false, false, false, false, false, false, false, false, false, false, false, false] rfl rfl (by kernel_rfl) (fun c a w h => hP c a _ _ w h) (y_load (p := ⟨g270, 0, none⟩) rfl (by rfl) (by rfl) (fun W hS => run_loadVar_row _ _ 49 49 ((opC o).toArray) (0, 0) _ hS.2.2.1 Try.underlying49 rfl (sz49 o))) hS288 rfl ?_
      (try simp only [zP, zN, zA, zB, zC])
      refine pure_ (i := 17) (N := some 196) (v := .pointer (some ⟨gq, 1, none⟩)) #[true, true, true, true, true, true, true, true, true, true, true, true, true, true, true, true, true, true, false, false, false, false, false, false, false, false, false, false, false, false] rfl rfl (by kernel_rfl) (fun c a w h => hP c a _ _ w h) (y_run (by rfl) (fun W => by go_simp)) rfl ?_
      (try simp only [zP, zN, zA, zB, zC])
      refine take_ (i := 18) (N := some 197) (v := .slice (some ⟨gv, 0, none⟩) S.L.length cv) #[true, true, true, true, true, true, true, true, true, true, true, true, true, true, true, true, true, true, true, false, false, false, false, false, false, false, false, false, false, false] rfl rfl (by kernel_rfl) (fun c a w h => hP c a _ _ w h) (y_load (p := ⟨gq, 1, none⟩) rfl (by rfl) (by rfl) (fun W hS => run_load_one ((hS.2.1.cell 1).trans rfl) Try.underlying51 rfl)) hS288 rfl ?_
      (try simp only [zP, zN, zA, zB, zC])
      refine pure_ (i := 19) (N := some 198) (v := .int .i64 j) #[true, true, true, true, true, true, true, true, true, true, true, true, true, true, true, true, true, true, true, true, false, false, false, false, false, false, false, false, false, false] rfl rfl (by kernel_rfl) (fun c a w h => hP c a _ _ w h) (y_move rfl (by rfl) (by rfl)) rfl ?_
      (try simp only [zP, zN, zA, zB, zC])
      refine pure_ (i := 20) (N := some 199) (v := .pointer (some ⟨gv, j * 28, none⟩)) #[true, true, true, true, true, true, true, true, true, true, true, true, true, true, true, true, true, true, true, true, true, false, false, false, false, false, false, false, false, false] rfl rfl (by kernel_rfl) (fun c a w h => hP c a _ _ w h) (y_run (by rfl) (fun W => by have d := DJ.out; go_simp)) rfl ?_
      (try simp only [zP, zN, zA, zB, zC])
      refine take_ (i := 21) (N := some 200) (v := .agg (opC o).toArray) #[true, true, true, true, true, true, true, true, true, true, true, true, true, true, true, true, true, true, true, true, true, true, false, false, false, false, false, false, false, false] rfl rfl (by kernel_rfl) (fun c a w h => hP c a _ _ w h) (y_load (p := ⟨gv, j * 28, none⟩) rfl (by rfl) (by rfl) (fun W hS => run_loadVar_at (op_cells59 HO.out hS.1.1) Try.underlying59 rfl (by rw [opC_len]; kernel_rfl))) hS288 rfl ?_
      (try simp only [zP, zN, zA, zB, zC])
      refine one_ (i := 22) (N := some 201) #[true, true, true, true, true, true, true, true, true, true, true, true, true, true, true, true, true, true, true, true, true, true, true, false, false, false, false, false, false, false] rfl rfl (by kernel_rfl) (by simp) (fun K289 hK289 => ?_)
      refine e_call Try.func26 (by kernel_rfl) rfl #[.agg (opC o).toArray, .agg (opC o).toArray] (by rfl) rfl rfl (by first | rfl | (simp only [List.map_toArray, List.map_cons, List.map_nil]; first | done | rfl)) ((is_all (hok.out _ (List.mem_of_getElem? HO.out)) C0.out.below0)) ?_
      rintro en w291 ⟨rfl, cc290⟩
      refine ⟨_, rfl, ?_⟩
      have C0' := Lib.hid (show Ch [] w w291 from C0.out.trans' cc290 (fun x hx => absurd hx (by simp)))
      have BF' := Lib.hid (show BookL w291 w.heap.size Bs b (S) from BF.out.ch cc290 (fun _ _ h => absurd h (by simp)))
      have DF' := Lib.hid (show DocIs w291 w.heap.size Bs (S) (.slice (some ⟨gv, 0, none⟩) S.L.length cv) (u) from DF.out.ch0 cc290)
      have QB' := Lib.hid (show Blk w291 gq (#[.int .i64 S.now, .slice (some ⟨gv, 0, none⟩) S.L.length cv, u]) 53 from cc290.blk QB.out nin_nil)
      have Fg270' := Lib.hid (show Blk w291 g270 ((opC o).toArray) 49 from cc290.blk Fg270.out nin_nil)
      clear C0 BF DF QB Fg270
      have C0 := C0'; clear C0'
      have BF := BF'; clear BF'
      have DF := DF'; clear DF'
      have QB := QB'; clear QB'
      have Fg270 := Fg270'; clear Fg270'
      clear cc290
      refine hK289.out _ _ ⟨DF.out, QB.out, Fg270.out, trivial⟩ (fun hS292 => ?_); clear hK289 K289
      (try simp only [zP, zN, zA, zB, zC])
      refine pure_ (i := 23) (N := some 202) (v := .bool true) #[true, true, true, true, true, true, true, true, true, true, true, true, true, true, true, true, true, true, true, true, true, true, true, true, false, false, false, false, false, false] rfl rfl (by kernel_rfl) (fun c a w h => hP c a _ _ w h) (y_pick (t := true) (by rfl) rfl (by rfl) (by rfl)) rfl ?_
      (try simp only [zP, zN, zA, zB, zC])
      refine pure_ (i := 24) (N := some 203) (v := .bool true) #[true, true, true, true, true, true, true, true, true, true, true, true, true, true, true, true, true, true, true, true, true, true, true, true, true, false, false, false, false, false] rfl rfl (by kernel_rfl) (fun c a w h => hP c a _ _ w h) (y_pick (t := false) (by rfl) rfl (by rfl) (by rfl)) rfl ?_
      (try simp only [zP, zN, zA, zB, zC])
      refine pure_ (i := 25) (N := some 204) (v := .bool true) #[true, true, true, true, true, true, true, true, true, true, true, true, true, true, true, true, true, true, true, true, true, true, true, true, true, true, false, false, false, false] rfl rfl (by kernel_rfl) (fun c a w h => hP c a _ _ w h) (y_pick (t := true) (by rfl) rfl (by rfl) (by rfl)) rfl ?_
      (try simp only [zP, zN, zA, zB, zC])
      refine pure_ (i := 26) (N := some 205) (v := .bool true) #[true, true, true, true, true, true, true, true, true, true, true, true, true, true, true, true, true, true, true, true, true, true, true, true, true, true, true, false, false, false] rfl rfl (by kernel_rfl) (fun c a w h => hP c a _ _ w h) (y_move rfl (by rfl) (by rfl)) rfl ?_
      (try simp only [zP, zN, zA, zB, zC])
      refine one_ (i := 27) (N := some 206) #[true, true, true, true, true, true, true, true, true, true, true, true, true, true, true, true, true, true, true, true, true, true, true, true, true, true, true, true, false, false] rfl rfl (by kernel_rfl) (by simp) (fun K293 hK293 => ?_)
      refine e_call Try.func8 (by kernel_rfl) rfl #[] (by rfl) rfl rfl (by first | rfl | (simp only [List.map_toArray, List.map_cons, List.map_nil]; first | done | rfl)) (works8 _) ?_
      rintro en w295 ⟨rfl, cc294⟩
      refine ⟨_, rfl, ?_⟩
      have C0' := Lib.hid (show Ch [] w w295 from C0.out.trans' cc294 (fun x hx => absurd hx (by simp)))
      have BF' := Lib.hid (show BookL w295 w.heap.size Bs b (S) from BF.out.ch cc294 (fun _ _ h => absurd h (by simp)))
      have DF' := Lib.hid (show DocIs w295 w.heap.size Bs (S) (.slice (some ⟨gv, 0, none⟩) S.L.length cv) (u) from DF.out.ch0 cc294)
      have QB' := Lib.hid (show Blk w295 gq (#[.int .i64 S.now, .slice (some ⟨gv, 0, none⟩) S.L.length cv, u]) 53 from cc294.blk QB.out nin_nil)
      have Fg270' := Lib.hid (show Blk w295 g270 ((opC o).toArray) 49 from cc294.blk Fg270.out nin_nil)
      clear C0 BF DF QB Fg270
      have C0 := C0'; clear C0'
      have BF := BF'; clear BF'
      have DF := DF'; clear DF'
      have QB := QB'; clear QB'
      have Fg270 := Fg270'; clear Fg270'
      clear cc294
      refine hK293.out _ _ ⟨DF.out, QB.out, Fg270.out, trivial⟩ (fun hS296 => ?_); clear hK293 K293
      (try simp only [zP, zN, zA, zB, zC])
      refine pure_ (i := 28) (N := some 207) (v := .bool true) #[true, true, true, true, true, true, true, true, true, true, true, true, true, true, true, true, true, true, true, true, true, true, true, true, true, true, true, true, true, false] rfl rfl (by kernel_rfl) (fun c a w h => hP c a _ _ w h) (y_pick (t := true) (by rfl) rfl (by rfl) (by rfl)) rfl ?_
      (try simp only [zP, zN, zA, zB, zC])
      refine pure_ (i := 29) (N := some 6) (v := .bool true) #[true, true, true, true, true, true, true, true, true, true, true, true, true, true, true, true, true, true, true, true, true, true, true, true, true, true, true, true, true, true] rfl rfl (by kernel_rfl) (fun c a w h => hP c a _ _ w h) (y_assign rfl (by rfl) (by rfl)) rfl ?_
      (try simp only [zP, zN, zA, zB, zC])
      refine done_ (by kernel_rfl) (th_norm (hK285 _ _ ?_)); clear hK285 K285
      refine wp_ret ?_
      refine hQ _ _ _ ?_
      refine bodyPost_ret (res1 rfl (rdv_tmp (v := .bool true) (by rfl))) rfl ?_
      exact ⟨rfl, C0.out⟩
end
end Go.Proofs.Ytggcpbnlblbpjaa.L
