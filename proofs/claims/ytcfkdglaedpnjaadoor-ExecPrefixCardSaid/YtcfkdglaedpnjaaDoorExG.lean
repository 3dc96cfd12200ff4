/- The walk of the law ExecPrefix. -/
import Derived.Test.YtcfkdglaedpnjaaDoorExY
namespace Go.Proofs.YtcfkdglaedpnjaaDoor.V
open Go Go.RowKit Go.Proofs.YtcfkdglaedpnjaaDoor.K Go.Proofs.YtcfkdglaedpnjaaDoor.R Go.Proofs.YtcfkdglaedpnjaaDoorW.PrintLast
set_option linter.unusedVariables false
set_option linter.unusedSimpArgs false
set_option maxRecDepth 100000
set_option maxHeartbeats 6000000
section
variable {w : World}
theorem info9 : (Tryd.prog.info? 9).map (fun i => (i.zero, i.size, i.bytes)) = some (some (.string ⟨#[]⟩), 1, 16) := by kernel_rfl
theorem prefix_ {A : Option Addr} {z : Nat} {L : List HA} (HTB : Hid (Tabs w)) (HOK : Hid (∀ o ∈ L, IntOk o.n)) (SL : Hid (SrcIs w (.slice A L.length z) (L.length) (L.flatMap actC) 6)) :
    Calls Tryd.prog 3 #[.slice A L.length z] w fun en w' => en = .returned (.bool true) ∧ Ch [] w w' := by
  have C0 := Lib.hid (Ch.refl [] w)
  obtain ⟨i9, I9⟩ := Info.of info9
  go_enter Tryd.func3, Tryd.ntmps3
  refine q_ (fun Q hQ hP => ?_)
  refine s_ (fun K1 hK1 => ?_)
  refine pu_ (v := .bool false) (y_assign rfl (by rfl) (by rfl)) ?_
  (try simp only [zP, zN, zA, zB, zC])
  refine nl_ (hK1 _ _ ?_); clear hK1 K1
  refine sq_ (fun K2 hK2 => ?_)
  refine s_ (fun K3 hK3 => ?_)
  refine ef_ (fun K4 hK4 => ?_)
  refine e_call Tryd.func6 (by kernel_rfl) rfl #[] (by rfl) rfl rfl (by first | rfl | (simp only [List.map_toArray, List.map_cons, List.map_nil]; first | done | rfl)) ((works_ HTB)) ?_
  rintro en w6 ⟨rfl, cc5⟩
  refine ⟨_, rfl, ?_⟩
  have C0' := Lib.hid (show Ch [] w w6 from C0.out.trans' cc5 (fun x hx => absurd hx (by simp)))
  have SL' := Lib.hid (show SrcIs w6 (.slice A L.length z) (L.length) (L.flatMap actC) 6 from SL.out.chx cc5 xnin_nil)
  clear C0 SL
  have C0 := C0'; clear C0'
  have SL := SL'; clear SL'
  clear cc5
  refine hK4 _ _ ?_; clear hK4 K4
  (try simp only [zP, zN, zA, zB, zC])
  refine pu_ (v := .bool false) (y_run (by rfl) (fun W => by go_simp)) ?_
  (try simp only [zP, zN, zA, zB, zC])
  refine nl_ (hK3 _ _ ?_); clear hK3 K3
  refine wp_cond_false rfl ?_
  refine wp_skip ?_
  refine th_norm (hK2 _ _ ?_); try clear hK2 K2
  refine s_ (fun K7 hK7 => ?_)
  refine ef_ (fun K8 hK8 => ?_)
  refine e_call Tryd.func7 (by kernel_rfl) rfl #[] (by rfl) rfl rfl (by first | rfl | (simp only [List.map_toArray, List.map_cons, List.map_nil]; first | done | rfl)) ((new_l (lo := w.heap.size) C0.out.size)) ?_
  rintro en w9 ⟨x, rfl, bk, hge, cc⟩
  refine ⟨_, rfl, ?_⟩
  have hxsN := Lib.hid (show ∀ k_, k_ ∈ xb (.slice A L.length z) → k_ ∉ [x] from fun k_ hk_ hm_ => by have h8 := SL.out.lt (by decide) k_ hk_; rw [List.mem_singleton.1 hm_] at h8; omega)
  have C0' := Lib.hid (show Ch [] w w9 from C0.out.trans' cc (fun x hx => absurd hx (by simp)))
  have SL' := Lib.hid (show SrcIs w9 (.slice A L.length z) (L.length) (L.flatMap actC) 6 from SL.out.chx cc xnin_nil)
  clear C0 SL
  have C0 := C0'; clear C0'
  have SL := SL'; clear SL'
  have EX := Lib.hid (show ExIs w9 w.heap.size [x] x (64 * 0) (⟨[], 0⟩) from bk)
  clear bk cc
  refine hK8 _ _ ?_; clear hK8 K8
  (try simp only [zP, zN, zA, zB, zC])
  refine pu_ (v := .pointer (some ⟨x, 0, none⟩)) (y_assign rfl (by rfl) (by rfl)) ?_
  (try simp only [zP, zN, zA, zB, zC])
  refine nl_ (hK7 _ _ ?_); clear hK7 K7
  refine sq_ (fun K10 hK10 => ?_)
  refine s_ (fun K11 hK11 => ?_)
  refine pu_ (v := .pointer (some ⟨x, 0, none⟩)) (y_move rfl (by rfl) (by rfl)) ?_
  (try simp only [zP, zN, zA, zB, zC])
  refine pu_ (v := .bool false) (y_run (by rfl) (fun W => by first | (go_simp; done) | (go_simp; rfl) | (go_simp; decide))) ?_
  (try simp only [zP, zN, zA, zB, zC])
  refine nl_ (hK11 _ _ ?_); clear hK11 K11
  refine wp_cond_false rfl ?_
  refine wp_skip ?_
  refine th_norm (hK10 _ _ ?_); try clear hK10 K10
  refine cutk_ (fun (a' : Act) (w' : World) => ∃ (gw : Nat), ∃ (gr : Nat), ∃ (us : Nat → Value), a' = ⟨#[.slice A L.length z, us 1, .bool false, .pointer (some ⟨x, 0, none⟩), .slice (some ⟨gw, 0, none⟩) 200 200, .slice (some ⟨gr, 0, none⟩) 200 200, us 6, us 7, us 8, us 9, us 10, us 11, us 12, us 13, us 14, us 15, us 16, us 17, us 18, us 19, us 20, us 21, us 22, us 23, us 24, us 25, us 26, us 27, us 28, us 29, us 30, us 31, us 32, us 33, us 34, us 35, us 36, us 37, us 38, us 39, us 40, us 41, us 42, us 43, us 44, us 45, us 46, us 47, us 48, us 49, us 50, us 51, us 52, us 53, us 54, us 55, us 56, us 57, us 58, us 59, us 60, us 61, us 62, us 63, us 64, us 65, us 66, us 67, us 68, us 69, us 70, us 71, us 72, us 73, us 74, us 75, us 76, us 77, us 78, us 79, us 80, us 81, us 82, us 83, us 84, us 85, us 86, us 87, us 88, us 89, us 90, us 91, us 92, us 93, us 94, us 95, us 96, us 97, us 98, us 99, us 100, us 101, us 102, us 103, us 104, us 105, us 106, us 107, us 108, us 109, us 110, us 111, us 112, us 113, us 114, us 115, us 116, us 117, us 118, us 119, us 120, us 121, us 122, us 123, us 124, us 125, us 126, us 127, us 128, us 129, us 130, us 131, us 132, us 133, us 134, us 135, us 136, us 137, us 138, us 139, us 140, us 141, us 142, us 143, us 144, us 145, us 146, us 147, us 148, us 149, us 150, us 151, us 152, us 153, us 154, us 155, us 156, us 157, us 158, us 159, us 160, us 161, us 162, us 163, us 164, us 165, us 166, us 167, us 168, us 169, us 170, us 171, us 172, us 173, us 174, us 175, us 176, us 177, us 178, us 179, us 180, us 181, us 182, us 183, us 184, us 185, us 186, us 187, us 188, us 189, us 190, us 191, us 192, us 193, us 194, us 195, us 196, us 197, us 198], []⟩ ∧ Hid (Ch [] w w') ∧ Hid (SrcIs w' (.slice A L.length z) (L.length) (L.flatMap actC) 6) ∧ Hid (ExIs w' w.heap.size [x] x (64 * 0) (⟨[], 0⟩)) ∧ Hid (OwnS w' w.heap.size 9 1 (.slice (some ⟨gw, 0, none⟩) 200 200) (200) ((List.replicate 200 (⟨#[]⟩ : ByteArray)).flatMap strC)) ∧ Hid (OwnS w' w.heap.size 9 1 (.slice (some ⟨gr, 0, none⟩) 200 200) (200) ((List.replicate 200 (⟨#[]⟩ : ByteArray)).flatMap strC)) ∧ Hid (∀ k_, k_ ∈ rl (.slice (some ⟨gw, 0, none⟩) 200 200) → k_ ∉ rl (.slice (some ⟨gr, 0, none⟩) 200 200)) ∧ Hid (∀ k_, k_ ∈ rl (.slice (some ⟨gw, 0, none⟩) 200 200) → k_ ∉ [x]) ∧ Hid (∀ k_, k_ ∈ rl (.slice (some ⟨gr, 0, none⟩) 200 200) → k_ ∉ [x]) ∧ Hid (∀ k_, k_ ∈ xb (.slice A L.length z) → k_ ∉ rl (.slice (some ⟨gw, 0, none⟩) 200 200)) ∧ Hid (∀ k_, k_ ∈ xb (.slice A L.length z) → k_ ∉ rl (.slice (some ⟨gr, 0, none⟩) 200 200))) (fun K12 hK12 => ?_) ?_
  · refine startk_ (S := fun W => True) (ds := []) #[false, false, false, false] (by kernel_rfl) rfl rfl (fun W c => trivial) (fun w14 C15 hS16 => ?_)
    have C0' := Lib.hid (show Ch [] w w14 from C0.out.trans' C15 (fun x hx => absurd hx (by simp)))
    have SL' := Lib.hid (show SrcIs w14 (.slice A L.length z) (L.length) (L.flatMap actC) 6 from SL.out.chx C15 xnin_nil)
    have EX' := Lib.hid (show ExIs w14 w.heap.size [x] x (64 * 0) (⟨[], 0⟩) from EX.out.ch C15 (fun _ _ h => absurd h (by simp)))
    clear C0 SL EX
    have C0 := C0'; clear C0'
    have SL := SL'; clear SL'
    have EX := EX'; clear EX'
    clear C15
    refine two_ (i := 0) (j := 1) (Ni := some 22) (Nj := some 23) #[true, false, false, false] #[false, true, false, false] rfl rfl rfl rfl (by kernel_rfl) (by simp) (by simp) (fun K17 hK17 => ?_) (fun K18 hK18 => ?_)
    · refine e_make1 (by rfl) rfl rfl Tryd.underlying26 I9 rfl w.heap.size 200 (by rfl) (by rfl) C0.out.size (by decide) (by decide) ?_
      rintro gw w19 HG22 O20 C21
      have nw23 := Lib.hid (show w.heap.size ≤ gw by have := C0.out.size; have := HG22.out; omega)
      have nx24 := Lib.hid (SL.out.ne_new (by decide) HG22)
      have hs25 := Lib.hid (show gw ∉ [x] from fun hk => by have h8 := (EX.out.lt _ hk).2; have := HG22.out; omega)
      have rw26 := Lib.hid (show ∀ z_, z_ ∈ rl (.slice (some ⟨gw, 0, none⟩) 200 200) → z_ ∈ [] ∨ w.heap.size ≤ z_ from fun x hx => .inr (by have := (new_row HG22) x hx; have := C0.out.size; omega))
      have xr27 := Lib.hid (show ∀ k, k ∈ xb (.slice A L.length z) → k ∉ rl (.slice (some ⟨gw, 0, none⟩) 200 200) from fun k hk hm => by have := (new_row HG22) k hm; have := SL.out.lt (by decide) k hk; omega)
      have hs28 := Lib.hid (show ∀ k_, k_ ∈ rl (.slice (some ⟨gw, 0, none⟩) 200 200) → k_ ∉ [x] from fun k_ hk_ hB_ => by have h8 := new_row HG22 k_ hk_; have h7 := (EX.out.lt _ hB_).2; omega)
      have C0' := Lib.hid (show Ch [] w w19 from C0.out.trans' C21 (fun x hx => absurd hx (by simp)))
      have SL' := Lib.hid (show SrcIs w19 (.slice A L.length z) (L.length) (L.flatMap actC) 6 from SL.out.chx C21 xnin_nil)
      have EX' := Lib.hid (show ExIs w19 w.heap.size [x] x (64 * 0) (⟨[], 0⟩) from EX.out.ch C21 (fun _ _ h => absurd h (by simp)))
      clear C0 SL EX
      have C0 := C0'; clear C0'
      have SL := SL'; clear SL'
      have EX := EX'; clear EX'
      clear C21
      have OW := Lib.hid (show OwnS w19 w.heap.size 9 1 (.slice (some ⟨gw, 0, none⟩) 200 200) (200) ((List.replicate 200 (⟨#[]⟩ : ByteArray)).flatMap strC) from by have h9 := O20; rw [show List.replicate 200 (Value.string ⟨#[]⟩) = (List.replicate 200 (⟨#[]⟩ : ByteArray)).flatMap strC from by rfl] at h9; exact h9); clear O20
      refine hK17.out _ _ trivial (fun hS29 => ?_); clear hK17 K17
      (try simp only [zP, zN, zA, zB, zC])
      refine pure_ (i := 2) (N := some 4) (v := .slice (some ⟨gw, 0, none⟩) 200 200) #[true, false, true, false] rfl rfl (by kernel_rfl) (fun c a w h => hP c a _ _ w h) (y_assign rfl (by rfl) (by rfl)) rfl ?_
      (try simp only [zP, zN, zA, zB, zC])
      refine one_ (i := 1) (N := some 23) #[true, true, true, false] rfl rfl (by kernel_rfl) (by simp) (fun K30 hK30 => ?_)
      refine e_make1 (by rfl) rfl rfl Tryd.underlying26 I9 rfl w.heap.size 200 (by rfl) (by rfl) C0.out.size (by decide) (by decide) ?_
      rintro gr w31 HG34 O32 C33
      have nw35 := Lib.hid (show w.heap.size ≤ gr by have := C0.out.size; have := HG34.out; omega)
      have nx36 := Lib.hid (SL.out.ne_new (by decide) HG34)
      have hs37 := Lib.hid (show gr ∉ [x] from fun hk => by have h8 := (EX.out.lt _ hk).2; have := HG34.out; omega)
      have nr38 := Lib.hid (OW.out.ne_new HG34)
      have rw39 := Lib.hid (show ∀ z_, z_ ∈ rl (.slice (some ⟨gr, 0, none⟩) 200 200) → z_ ∈ [] ∨ w.heap.size ≤ z_ from fun x hx => .inr (by have := (new_row HG34) x hx; have := C0.out.size; omega))
      have xr40 := Lib.hid (show ∀ k, k ∈ xb (.slice A L.length z) → k ∉ rl (.slice (some ⟨gr, 0, none⟩) 200 200) from fun k hk hm => by have := (new_row HG34) k hm; have := SL.out.lt (by decide) k hk; omega)
      have rr41 := Lib.hid (show ∀ k, k ∈ rl (.slice (some ⟨gw, 0, none⟩) 200 200) → k ∉ rl (.slice (some ⟨gr, 0, none⟩) 200 200) from fun k hk hm => by have := (new_row HG34) k hm; have := (OW.out.lt k hk).2; omega)
      have hs42 := Lib.hid (show ∀ k_, k_ ∈ rl (.slice (some ⟨gr, 0, none⟩) 200 200) → k_ ∉ [x] from fun k_ hk_ hB_ => by have h8 := new_row HG34 k_ hk_; have h7 := (EX.out.lt _ hB_).2; omega)
      have C0' := Lib.hid (show Ch [] w w31 from C0.out.trans' C33 (fun x hx => absurd hx (by simp)))
      have SL' := Lib.hid (show SrcIs w31 (.slice A L.length z) (L.length) (L.flatMap actC) 6 from SL.out.chx C33 xnin_nil)
      have EX' := Lib.hid (show ExIs w31 w.heap.size [x] x (64 * 0) (⟨[], 0⟩) from EX.out.ch C33 (fun _ _ h => absurd h (by simp)))
      have OW' := Lib.hid (show OwnS w31 w.heap.size 9 1 (.slice (some ⟨gw, 0, none⟩) 200 200) (200) ((List.replicate 200 (⟨#[]⟩ : ByteArray)).flatMap strC) from OW.out.ch C33 rnin_nil)
      clear C0 SL EX OW
      have C0 := C0'; clear C0'
      have SL := SL'; clear SL'
      have EX := EX'; clear EX'
      have OW := OW'; clear OW'
      clear C33
      have OR := Lib.hid (show OwnS w31 w.heap.size 9 1 (.slice (some ⟨gr, 0, none⟩) 200 200) (200) ((List.replicate 200 (⟨#[]⟩ : ByteArray)).flatMap strC) from by have h9 := O32; rw [show List.replicate 200 (Value.string ⟨#[]⟩) = (List.replicate 200 (⟨#[]⟩ : ByteArray)).flatMap strC from by rfl] at h9; exact h9); clear O32
      refine hK30.out _ _ trivial (fun hS43 => ?_); clear hK30 K30
      (try simp only [zP, zN, zA, zB, zC])
      refine pure_ (i := 3) (N := some 5) (v := .slice (some ⟨gr, 0, none⟩) 200 200) #[true, true, true, true] rfl rfl (by kernel_rfl) (fun c a w h => hP c a _ _ w h) (y_assign rfl (by rfl) (by rfl)) rfl ?_
      (try simp only [zP, zN, zA, zB, zC])
      refine done_ (by kernel_rfl) ?_
      exact th_norm (hK12 _ _ ⟨gw, gr, fun us_ => (#[.slice A L.length z, undef, .bool false, .pointer (some ⟨x, 0, none⟩), .slice (some ⟨gw, 0, none⟩) 200 200, .slice (some ⟨gr, 0, none⟩) 200 200, undef, undef, undef, undef, undef, undef, undef, undef, undef, undef, undef, .bool true, .bool false, .pointer (some ⟨x, 0, none⟩), .pointer (some ⟨x, 0, none⟩), .bool false, .slice (some ⟨gw, 0, none⟩) 200 200, .slice (some ⟨gr, 0, none⟩) 200 200, undef, undef, undef, undef, undef, undef, undef, undef, undef, undef, undef, undef, undef, undef, undef, undef, undef, undef, undef, undef, undef, undef, undef, undef, undef, undef, undef, undef, undef, undef, undef, undef, undef, undef, undef, undef, undef, undef, undef, undef, undef, undef, undef, undef, undef, undef, undef, undef, undef, undef, undef, undef, undef, undef, undef, undef, undef, undef, undef, undef, undef, undef, undef, undef, undef, undef, undef, undef, undef, undef, undef, undef, undef, undef, undef, undef, undef, undef, undef, undef, undef, undef, undef, undef, undef, undef, undef, undef, undef, undef, undef, undef, undef, undef, undef, undef, undef, undef, undef, undef, undef, undef, undef, undef, undef, undef, undef, undef, undef, undef, undef, undef, undef, undef, undef, undef, undef, undef, undef, undef, undef, undef, undef, undef, undef, undef, undef, undef, undef, undef, undef, undef, undef, undef, undef, undef, undef, undef, undef, undef, undef, undef, undef, undef, undef, undef, undef, undef, undef, undef, undef, undef, undef, undef, undef, undef, undef, undef, undef, undef, undef, undef, undef, undef, undef, undef, undef, undef, undef, undef, undef, undef, undef, undef, undef] : Array Value).getD us_ undef, rfl, C0, SL, EX, OW, OR, Lib.hid (rr41.out), hs28, hs42, Lib.hid (xr27.out), Lib.hid (xr40.out)⟩)
    · refine e_make1 (by rfl) rfl rfl Tryd.underlying26 I9 rfl w.heap.size 200 (by rfl) (by rfl) C0.out.size (by decide) (by decide) ?_
      rintro gr w44 HG47 O45 C46
      have nw48 := Lib.hid (show w.heap.size ≤ gr by have := C0.out.size; have := HG47.out; omega)
      have nx49 := Lib.hid (SL.out.ne_new (by decide) HG47)
      have hs50 := Lib.hid (show gr ∉ [x] from fun hk => by have h8 := (EX.out.lt _ hk).2; have := HG47.out; omega)
      have rw51 := Lib.hid (show ∀ z_, z_ ∈ rl (.slice (some ⟨gr, 0, none⟩) 200 200) → z_ ∈ [] ∨ w.heap.size ≤ z_ from fun x hx => .inr (by have := (new_row HG47) x hx; have := C0.out.size; omega))
      have xr52 := Lib.hid (show ∀ k, k ∈ xb (.slice A L.length z) → k ∉ rl (.slice (some ⟨gr, 0, none⟩) 200 200) from fun k hk hm => by have := (new_row HG47) k hm; have := SL.out.lt (by decide) k hk; omega)
      have hs53 := Lib.hid (show ∀ k_, k_ ∈ rl (.slice (some ⟨gr, 0, none⟩) 200 200) → k_ ∉ [x] from fun k_ hk_ hB_ => by have h8 := new_row HG47 k_ hk_; have h7 := (EX.out.lt _ hB_).2; omega)
      have C0' := Lib.hid (show Ch [] w w44 from C0.out.trans' C46 (fun x hx => absurd hx (by simp)))
      have SL' := Lib.hid (show SrcIs w44 (.slice A L.length z) (L.length) (L.flatMap actC) 6 from SL.out.chx C46 xnin_nil)
      have EX' := Lib.hid (show ExIs w44 w.heap.size [x] x (64 * 0) (⟨[], 0⟩) from EX.out.ch C46 (fun _ _ h => absurd h (by simp)))
      clear C0 SL EX
      have C0 := C0'; clear C0'
      have SL := SL'; clear SL'
      have EX := EX'; clear EX'
      clear C46
      have OR := Lib.hid (show OwnS w44 w.heap.size 9 1 (.slice (some ⟨gr, 0, none⟩) 200 200) (200) ((List.replicate 200 (⟨#[]⟩ : ByteArray)).flatMap strC) from by have h9 := O45; rw [show List.replicate 200 (Value.string ⟨#[]⟩) = (List.replicate 200 (⟨#[]⟩ : ByteArray)).flatMap strC from by rfl] at h9; exact h9); clear O45
      refine hK18.out _ _ trivial (fun hS54 => ?_); clear hK18 K18
      (try simp only [zP, zN, zA, zB, zC])
      refine one_ (i := 0) (N := some 22) #[true, true, false, false] rfl rfl (by kernel_rfl) (by simp) (fun K55 hK55 => ?_)
      refine e_make1 (by rfl) rfl rfl Tryd.underlying26 I9 rfl w.heap.size 200 (by rfl) (by rfl) C0.out.size (by decide) (by decide) ?_
      rintro gw w56 HG59 O57 C58
      have nw60 := Lib.hid (show w.heap.size ≤ gw by have := C0.out.size; have := HG59.out; omega)
      have nx61 := Lib.hid (SL.out.ne_new (by decide) HG59)
      have hs62 := Lib.hid (show gw ∉ [x] from fun hk => by have h8 := (EX.out.lt _ hk).2; have := HG59.out; omega)
      have nr63 := Lib.hid (OR.out.ne_new HG59)
      have rw64 := Lib.hid (show ∀ z_, z_ ∈ rl (.slice (some ⟨gw, 0, none⟩) 200 200) → z_ ∈ [] ∨ w.heap.size ≤ z_ from fun x hx => .inr (by have := (new_row HG59) x hx; have := C0.out.size; omega))
      have xr65 := Lib.hid (show ∀ k, k ∈ xb (.slice A L.length z) → k ∉ rl (.slice (some ⟨gw, 0, none⟩) 200 200) from fun k hk hm => by have := (new_row HG59) k hm; have := SL.out.lt (by decide) k hk; omega)
      have rr66 := Lib.hid (show ∀ k, k ∈ rl (.slice (some ⟨gr, 0, none⟩) 200 200) → k ∉ rl (.slice (some ⟨gw, 0, none⟩) 200 200) from fun k hk hm => by have := (new_row HG59) k hm; have := (OR.out.lt k hk).2; omega)
      have hs67 := Lib.hid (show ∀ k_, k_ ∈ rl (.slice (some ⟨gw, 0, none⟩) 200 200) → k_ ∉ [x] from fun k_ hk_ hB_ => by have h8 := new_row HG59 k_ hk_; have h7 := (EX.out.lt _ hB_).2; omega)
      have C0' := Lib.hid (show Ch [] w w56 from C0.out.trans' C58 (fun x hx => absurd hx (by simp)))
      have SL' := Lib.hid (show SrcIs w56 (.slice A L.length z) (L.length) (L.flatMap actC) 6 from SL.out.chx C58 xnin_nil)
      have EX' := Lib.hid (show ExIs w56 w.heap.size [x] x (64 * 0) (⟨[], 0⟩) from EX.out.ch C58 (fun _ _ h => absurd h (by simp)))
      have OR' := Lib.hid (show OwnS w56 w.heap.size 9 1 (.slice (some ⟨gr, 0, none⟩) 200 200) (200) ((List.replicate 200 (⟨#[]⟩ : ByteArray)).flatMap strC) from OR.out.ch C58 rnin_nil)
      clear C0 SL EX OR
      have C0 := C0'; clear C0'
      have SL := SL'; clear SL'
      have EX := EX'; clear EX'
      have OR := OR'; clear OR'
      clear C58
      have OW := Lib.hid (show OwnS w56 w.heap.size 9 1 (.slice (some ⟨gw, 0, none⟩) 200 200) (200) ((List.replicate 200 (⟨#[]⟩ : ByteArray)).flatMap strC) from by have h9 := O57; rw [show List.replicate 200 (Value.string ⟨#[]⟩) = (List.replicate 200 (⟨#[]⟩ : ByteArray)).flatMap strC from by rfl] at h9; exact h9); clear O57
      refine hK55.out _ _ trivial (fun hS68 => ?_); clear hK55 K55
      (try simp only [zP, zN, zA, zB, zC])
      refine pure_ (i := 2) (N := some 4) (v := .slice (some ⟨gw, 0, none⟩) 200 200) #[true, true, true, false] rfl rfl (by kernel_rfl) (fun c a w h => hP c a _ _ w h) (y_assign rfl (by rfl) (by rfl)) rfl ?_
      (try simp only [zP, zN, zA, zB, zC])
      refine pure_ (i := 3) (N := some 5) (v := .slice (some ⟨gr, 0, none⟩) 200 200) #[true, true, true, true] rfl rfl (by kernel_rfl) (fun c a w h => hP c a _ _ w h) (y_assign rfl (by rfl) (by rfl)) rfl ?_
      (try simp only [zP, zN, zA, zB, zC])
      refine done_ (by kernel_rfl) ?_
      exact th_norm (hK12 _ _ ⟨gw, gr, fun us_ => (#[.slice A L.length z, undef, .bool false, .pointer (some ⟨x, 0, none⟩), .slice (some ⟨gw, 0, none⟩) 200 200, .slice (some ⟨gr, 0, none⟩) 200 200, undef, undef, undef, undef, undef, undef, undef, undef, undef, undef, undef, .bool true, .bool false, .pointer (some ⟨x, 0, none⟩), .pointer (some ⟨x, 0, none⟩), .bool false, .slice (some ⟨gw, 0, none⟩) 200 200, .slice (some ⟨gr, 0, none⟩) 200 200, undef, undef, undef, undef, undef, undef, undef, undef, undef, undef, undef, undef, undef, undef, undef, undef, undef, undef, undef, undef, undef, undef, undef, undef, undef, undef, undef, undef, undef, undef, undef, undef, undef, undef, undef, undef, undef, undef, undef, undef, undef, undef, undef, undef, undef, undef, undef, undef, undef, undef, undef, undef, undef, undef, undef, undef, undef, undef, undef, undef, undef, undef, undef, undef, undef, undef, undef, undef, undef, undef, undef, undef, undef, undef, undef, undef, undef, undef, undef, undef, undef, undef, undef, undef, undef, undef, undef, undef, undef, undef, undef, undef, undef, undef, undef, undef, undef, undef, undef, undef, undef, undef, undef, undef, undef, undef, undef, undef, undef, undef, undef, undef, undef, undef, undef, undef, undef, undef, undef, undef, undef, undef, undef, undef, undef, undef, undef, undef, undef, undef, undef, undef, undef, undef, undef, undef, undef, undef, undef, undef, undef, undef, undef, undef, undef, undef, undef, undef, undef, undef, undef, undef, undef, undef, undef, undef, undef, undef, undef, undef, undef, undef, undef, undef, undef, undef, undef, undef, undef, undef, undef, undef, undef, undef, undef] : Array Value).getD us_ undef, rfl, C0, SL, EX, OW, OR, Lib.hid ((fun k hk hm => rr66.out k hm hk)), hs67, hs53, Lib.hid (xr65.out), Lib.hid (xr52.out)⟩)
  rintro _ w13 ⟨gw, gr, us, rfl, C0, SL, EX, OW, OR, hrr, hrsw, hrsr, hxw, hxr⟩
  refine cutk_ (fun (a' : Act) (w' : World) => ∃ (k : Nat), ∃ (Bs : List Nat), ∃ (E : HX), ∃ (lw : List ByteArray), ∃ (lr : List ByteArray), ∃ (us : Nat → Value), a' = ⟨#[us 0, us 1, .bool false, .pointer (some ⟨x, 0, none⟩), .slice (some ⟨gw, 0, none⟩) 200 200, .slice (some ⟨gr, 0, none⟩) 200 200, us 6, us 7, us 8, us 9, us 10, us 11, us 12, us 13, us 14, us 15, us 16, us 17, us 18, us 19, us 20, us 21, us 22, us 23, us 24, us 25, us 26, us 27, us 28, us 29, us 30, us 31, us 32, us 33, us 34, us 35, us 36, us 37, us 38, us 39, us 40, us 41, us 42, us 43, us 44, us 45, us 46, us 47, us 48, us 49, us 50, us 51, us 52, us 53, us 54, us 55, us 56, us 57, us 58, us 59, us 60, us 61, us 62, us 63, us 64, us 65, us 66, us 67, us 68, us 69, us 70, us 71, us 72, us 73, us 74, us 75, us 76, us 77, us 78, us 79, us 80, us 81, us 82, us 83, us 84, us 85, us 86, us 87, us 88, us 89, us 90, us 91, us 92, us 93, us 94, us 95, us 96, us 97, us 98, us 99, us 100, us 101, us 102, us 103, us 104, us 105, us 106, us 107, us 108, us 109, us 110, us 111, us 112, us 113, us 114, us 115, us 116, us 117, us 118, us 119, us 120, us 121, us 122, us 123, us 124, us 125, us 126, us 127, us 128, us 129, us 130, us 131, us 132, us 133, us 134, us 135, us 136, us 137, us 138, us 139, us 140, us 141, us 142, us 143, us 144, us 145, us 146, us 147, us 148, us 149, us 150, us 151, us 152, us 153, us 154, us 155, us 156, us 157, us 158, us 159, us 160, us 161, us 162, us 163, us 164, us 165, us 166, us 167, us 168, us 169, us 170, us 171, us 172, us 173, us 174, us 175, us 176, us 177, us 178, us 179, us 180, us 181, us 182, us 183, us 184, us 185, us 186, us 187, us 188, us 189, us 190, us 191, us 192, us 193, us 194, us 195, us 196, us 197, us 198], []⟩ ∧ Hid (Ch [] w w') ∧ Hid (ExIs w' w.heap.size Bs x (64 * k) (E)) ∧ Hid (OwnS w' w.heap.size 9 1 (.slice (some ⟨gw, 0, none⟩) 200 200) (200) ((lw).flatMap strC)) ∧ Hid (OwnS w' w.heap.size 9 1 (.slice (some ⟨gr, 0, none⟩) 200 200) (200) ((lr).flatMap strC)) ∧ Hid (k ≤ 100) ∧ Hid (Few E k) ∧ Hid (lw.length = 200 ∧ lr.length = 200) ∧ Hid (PInv E (fW lw) (fW lr)) ∧ Hid (∀ t ∈ lw, t.size ≤ 400 * k) ∧ Hid (∀ t ∈ lr, t.size ≤ 400 * k) ∧ Hid (∀ k_, k_ ∈ rl (.slice (some ⟨gw, 0, none⟩) 200 200) → k_ ∉ Bs) ∧ Hid (∀ k_, k_ ∈ rl (.slice (some ⟨gr, 0, none⟩) 200 200) → k_ ∉ Bs)) (fun K69 hK69 => ?_) ?_
  · refine s_ (fun K71 hK71 => ?_)
    refine pu_ (v := .int .i64 0) (y_assign rfl (by rfl) (by rfl)) ?_
    (try simp only [zP, zN, zA, zB, zC])
    refine nl_ (hK71 _ _ ?_); clear hK71 K71
    refine wp_block ?_
    refine loopk_ (fun (kq : Nat) (a' : Act) (w' : World) => ∃ (k : Nat), ∃ (Bs : List Nat), ∃ (E : HX), ∃ (lw : List ByteArray), ∃ (lr : List ByteArray), ∃ (us : Nat → Value), a' = ⟨#[.slice A L.length z, us 1, .bool false, .pointer (some ⟨x, 0, none⟩), .slice (some ⟨gw, 0, none⟩) 200 200, .slice (some ⟨gr, 0, none⟩) 200 200, .int .i64 k, us 7, us 8, us 9, us 10, us 11, us 12, us 13, us 14, us 15, us 16, us 17, us 18, us 19, us 20, us 21, us 22, us 23, us 24, us 25, us 26, us 27, us 28, us 29, us 30, us 31, us 32, us 33, us 34, us 35, us 36, us 37, us 38, us 39, us 40, us 41, us 42, us 43, us 44, us 45, us 46, us 47, us 48, us 49, us 50, us 51, us 52, us 53, us 54, us 55, us 56, us 57, us 58, us 59, us 60, us 61, us 62, us 63, us 64, us 65, us 66, us 67, us 68, us 69, us 70, us 71, us 72, us 73, us 74, us 75, us 76, us 77, us 78, us 79, us 80, us 81, us 82, us 83, us 84, us 85, us 86, us 87, us 88, us 89, us 90, us 91, us 92, us 93, us 94, us 95, us 96, us 97, us 98, us 99, us 100, us 101, us 102, us 103, us 104, us 105, us 106, us 107, us 108, us 109, us 110, us 111, us 112, us 113, us 114, us 115, us 116, us 117, us 118, us 119, us 120, us 121, us 122, us 123, us 124, us 125, us 126, us 127, us 128, us 129, us 130, us 131, us 132, us 133, us 134, us 135, us 136, us 137, us 138, us 139, us 140, us 141, us 142, us 143, us 144, us 145, us 146, us 147, us 148, us 149, us 150, us 151, us 152, us 153, us 154, us 155, us 156, us 157, us 158, us 159, us 160, us 161, us 162, us 163, us 164, us 165, us 166, us 167, us 168, us 169, us 170, us 171, us 172, us 173, us 174, us 175, us 176, us 177, us 178, us 179, us 180, us 181, us 182, us 183, us 184, us 185, us 186, us 187, us 188, us 189, us 190, us 191, us 192, us 193, us 194, us 195, us 196, us 197, us 198], []⟩ ∧ Hid (Ch [] w w') ∧ Hid (ExIs w' w.heap.size Bs x (64 * k) (E)) ∧ Hid (OwnS w' w.heap.size 9 1 (.slice (some ⟨gw, 0, none⟩) 200 200) (200) ((lw).flatMap strC)) ∧ Hid (OwnS w' w.heap.size 9 1 (.slice (some ⟨gr, 0, none⟩) 200 200) (200) ((lr).flatMap strC)) ∧ Hid (SrcIs w' (.slice A L.length z) (L.length) (L.flatMap actC) 6) ∧ Hid (k ≤ L.length ∧ k ≤ 100 ∧ kq + k = L.length) ∧ Hid (Few E k) ∧ Hid (lw.length = 200 ∧ lr.length = 200) ∧ Hid (PInv E (fW lw) (fW lr)) ∧ Hid (∀ t ∈ lw, t.size ≤ 400 * k) ∧ Hid (∀ t ∈ lr, t.size ≤ 400 * k) ∧ Hid (∀ k_, k_ ∈ rl (.slice (some ⟨gw, 0, none⟩) 200 200) → k_ ∉ Bs) ∧ Hid (∀ k_, k_ ∈ rl (.slice (some ⟨gr, 0, none⟩) 200 200) → k_ ∉ Bs) ∧ Hid (∀ k_, k_ ∈ xb (.slice A L.length z) → k_ ∉ Bs) ∧ Hid (∀ k_, k_ ∈ xb (.slice A L.length z) → k_ ∉ rl (.slice (some ⟨gw, 0, none⟩) 200 200)) ∧ Hid (∀ k_, k_ ∈ xb (.slice A L.length z) → k_ ∉ rl (.slice (some ⟨gr, 0, none⟩) 200 200))) (L.length) (⟨0, [x], ⟨[], 0⟩, List.replicate 200 (⟨#[]⟩ : ByteArray), List.replicate 200 (⟨#[]⟩ : ByteArray), fun us_ => (#[.slice A L.length z, us 1, .bool false, .pointer (some ⟨x, 0, none⟩), .slice (some ⟨gw, 0, none⟩) 200 200, .slice (some ⟨gr, 0, none⟩) 200 200, .int .i64 0, us 7, us 8, us 9, us 10, us 11, us 12, us 13, us 14, us 15, us 16, us 17, us 18, us 19, us 20, us 21, us 22, us 23, us 24, us 25, us 26, us 27, us 28, us 29, us 30, us 31, us 32, us 33, us 34, us 35, us 36, us 37, us 38, us 39, us 40, us 41, us 42, us 43, us 44, us 45, us 46, us 47, us 48, us 49, us 50, us 51, us 52, us 53, us 54, us 55, us 56, us 57, us 58, us 59, us 60, us 61, us 62, us 63, us 64, us 65, us 66, us 67, us 68, us 69, us 70, us 71, us 72, us 73, us 74, us 75, us 76, us 77, us 78, us 79, us 80, us 81, us 82, us 83, us 84, us 85, us 86, us 87, us 88, us 89, us 90, us 91, us 92, us 93, us 94, us 95, us 96, us 97, us 98, us 99, us 100, us 101, us 102, us 103, us 104, us 105, us 106, us 107, us 108, us 109, us 110, us 111, us 112, us 113, us 114, us 115, us 116, us 117, us 118, us 119, us 120, us 121, us 122, us 123, us 124, us 125, us 126, us 127, us 128, us 129, us 130, us 131, us 132, us 133, us 134, us 135, us 136, us 137, us 138, us 139, us 140, us 141, us 142, us 143, us 144, us 145, us 146, us 147, us 148, us 149, us 150, us 151, us 152, us 153, us 154, us 155, us 156, us 157, us 158, us 159, us 160, us 161, us 162, us 163, us 164, us 165, us 166, us 167, us 168, us 169, us 170, us 171, us 172, us 173, us 174, us 175, us 176, us 177, us 178, us 179, us 180, us 181, us 182, us 183, us 184, us 185, us 186, us 187, us 188, us 189, us 190, us 191, us 192, us 193, us 194, us 195, us 196, us 197, us 198] : Array Value).getD us_ undef, rfl, C0, EX, OW, OR, SL, Lib.hid ⟨by omega, by omega, by omega⟩, Lib.hid ⟨by show 0 ≤ 8; omega, by show 0 ≤ 0; omega⟩, Lib.hid ⟨List.length_replicate, List.length_replicate⟩, Lib.hid (by rw [fW_new]; exact pinv_new), Lib.hid (fun t ht => by rw [(List.mem_replicate.1 ht).2]; exact Nat.zero_le _), Lib.hid (fun t ht => by rw [(List.mem_replicate.1 ht).2]; exact Nat.zero_le _), hrsw, hrsr, hxsN, Lib.hid (hxw.out), Lib.hid (hxr.out)⟩) ?_
    rintro kq _ w72 ⟨k, Bs, E, lw, lr, us, rfl, C0, EX, OW, OR, SL, hk, hfew, hln, hpi, hzw, hzr, hrsw, hrsr, hxs, hxw, hxr⟩ K73 hK73
    refine sq_ (fun K74 hK74 => ?_)
    rcases (show (∃ o, L[k]? = some o ∧ k < L.length ∧ k < 100) ∨ (k < L.length ∧ 100 ≤ k) ∨ k = L.length by rcases at_ways' hk.out.1 with ⟨o, ho0, hlt0⟩ | h; rcases (show k < 100 ∨ 100 ≤ k by omega) with h1 | h1; exact .inl ⟨o, ho0, hlt0, h1⟩; exact .inr (.inl ⟨hlt0, h1⟩); exact .inr (.inr h)) with ⟨o, ho0, hlt0, h1⟩ | ⟨hl_, h1⟩ | h
    · have hlt := Lib.hid (And.intro hlt0 h1)
      have ho := Lib.hid ho0
      clear hlt0 ho0 h1
      obtain ⟨a, hsm_a⟩ := src_some SL.out (by have := hlt.out; omega)
      subst hsm_a
      have D27 := Lib.hid (show (k : Int) < (L.length : Int) by have := hlt.out; omega)
      have D30 := Lib.hid (show (k : Int) < (100 : Int) by have := hlt.out; omega)
      have Wk := Lib.hid (show IntKind.i64.wrap ((k : Int) + 1) = ((k + 1 : Nat) : Int) by rw [wr64 (by have := hlt.out; omega)]; omega)
      have hok := Lib.hid (HOK.out o (List.mem_of_getElem? ho.out))
      refine s_ (fun K75 hK75 => ?_)
      refine pu_ (v := .int .i64 k) (y_move rfl (by rfl) (by rfl)) ?_
      (try simp only [zP, zN, zA, zB, zC])
      refine pu_ (v := .slice (some a) L.length z) (y_move rfl (by rfl) (by rfl)) ?_
      (try simp only [zP, zN, zA, zB, zC])
      refine pu_ (v := .int .i64 L.length) (y_run (by rfl) (fun W => by go_simp)) ?_
      (try simp only [zP, zN, zA, zB, zC])
      refine pu_ (v := .bool true) (y_run (by rfl) (fun W => by have d := D27.out; go_simp)) ?_
      (try simp only [zP, zN, zA, zB, zC])
      refine pu_ (v := .bool true) (y_move rfl (by rfl) (by rfl)) ?_
      (try simp only [zP, zN, zA, zB, zC])
      refine pu_ (v := .int .i64 k) (y_move rfl (by rfl) (by rfl)) ?_
      (try simp only [zP, zN, zA, zB, zC])
      refine pu_ (v := .bool true) (y_run (by rfl) (fun W => by have d := D30.out; go_simp)) ?_
      (try simp only [zP, zN, zA, zB, zC])
      refine pu_ (v := .bool true) (y_pick (t := true) (by rfl) rfl (by rfl) (by rfl)) ?_
      (try simp only [zP, zN, zA, zB, zC])
      refine nl_ (hK75 _ _ ?_); clear hK75 K75
      refine wp_cond_true rfl ?_
      refine wp_skip ?_
      refine th_norm (hK74 _ _ ?_); try clear hK74 K74
      refine sq_ (fun K76 hK76 => ?_)
      refine wp_block ?_
      refine s_ (fun K77 hK77 => ?_)
      refine pu_ (v := .slice (some a) L.length z) (y_move rfl (by rfl) (by rfl)) ?_
      (try simp only [zP, zN, zA, zB, zC])
      refine pu_ (v := .int .i64 k) (y_move rfl (by rfl) (by rfl)) ?_
      (try simp only [zP, zN, zA, zB, zC])
      refine pu_ (v := .pointer (some (a.add (k * 6)))) (y_run (by rfl) (fun W => by have d := D27.out; go_simp)) ?_
      (try simp only [zP, zN, zA, zB, zC])
      refine ld_ (v := .agg #[.int .i64 o.kind, .int .i64 o.id, .int .i64 o.box, .int .i64 o.ctr, .int .i64 o.n, .string o.s]) rfl (by rfl) (by rfl) (run_loadVar_at (cs := actC o) (src_at actC_len SL.out ho.out) Tryd.underlying28 rfl (by kernel_rfl)) ?_
      (try simp only [zP, zN, zA, zB, zC])
      refine ef_ (fun K78 hK78 => ?_)
      refine e_alloc (by rfl) rfl rfl (cs := #[.int .i64 0, .int .i64 0, .int .i64 0, .int .i64 0, .int .i64 0, .string ⟨#[]⟩]) (by kernel_rfl) ?_
      rintro g79 w80 HG81 B82 C83
      have nw84 := Lib.hid (show w.heap.size ≤ g79 by have := C0.out.size; have := HG81.out; omega)
      have hs85 := Lib.hid (show g79 ∉ Bs from fun hk => by have h8 := (EX.out.lt _ hk).2; have := HG81.out; omega)
      have nx86 := Lib.hid (SL.out.ne_new (by decide) HG81)
      have C0' := Lib.hid (show Ch [] w w80 from C0.out.trans' C83 (fun x hx => absurd hx (by simp)))
      have EX' := Lib.hid (show ExIs w80 w.heap.size Bs x (64 * k) (E) from EX.out.ch C83 (fun _ _ h => absurd h (by simp)))
      have OW' := Lib.hid (show OwnS w80 w.heap.size 9 1 (.slice (some ⟨gw, 0, none⟩) 200 200) (200) ((lw).flatMap strC) from OW.out.ch C83 rnin_nil)
      have OR' := Lib.hid (show OwnS w80 w.heap.size 9 1 (.slice (some ⟨gr, 0, none⟩) 200 200) (200) ((lr).flatMap strC) from OR.out.ch C83 rnin_nil)
      have SL' := Lib.hid (show SrcIs w80 (.slice (some a) L.length z) (L.length) (L.flatMap actC) 6 from SL.out.chx C83 xnin_nil)
      clear C0 EX OW OR SL
      have C0 := C0'; clear C0'
      have EX := EX'; clear EX'
      have OW := OW'; clear OW'
      have OR := OR'; clear OR'
      have SL := SL'; clear SL'
      have Fg79 := Lib.hid (show Blk w80 g79 (#[.int .i64 0, .int .i64 0, .int .i64 0, .int .i64 0, .int .i64 0, .string ⟨#[]⟩]) 28 from B82); clear B82 C83
      refine hK78 _ _ ?_; clear hK78 K78
      (try simp only [zP, zN, zA, zB, zC])
      refine ef_ (fun K87 hK87 => ?_)
      refine e_storeN (cells := #[.int .i64 o.kind, .int .i64 o.id, .int .i64 o.box, .int .i64 o.ctr, .int .i64 o.n, .string o.s]) (by rfl) rfl rfl (by rfl) (by rfl) Fg79.out (by kernel_rfl) (by rfl) (ones_cons rfl (ones_cons rfl (ones_cons rfl (ones_cons rfl (ones_cons rfl (ones_cons rfl ones_nil)))))) ?_
      rintro w88 B89 C90
      have C0' := Lib.hid (show Ch [] w w88 from C0.out.trans' C90 (inw_cons (.inr nw84.out) inw_nil))
      have EX' := Lib.hid (show ExIs w88 w.heap.size Bs x (64 * k) (E) from EX.out.ch C90 (fun k hk hm => (List.mem_cons.1 hm).elim (fun e => hs85.out (e ▸ hk)) (fun h => (fun _ _ h => absurd h (by simp)) k hk h)))
      have OW' := Lib.hid (show OwnS w88 w.heap.size 9 1 (.slice (some ⟨gw, 0, none⟩) 200 200) (200) ((lw).flatMap strC) from OW.out.ch C90 (rnin_cons (OW.out.ne Fg79.out (by decide)) rnin_nil))
      have OR' := Lib.hid (show OwnS w88 w.heap.size 9 1 (.slice (some ⟨gr, 0, none⟩) 200 200) (200) ((lr).flatMap strC) from OR.out.ch C90 (rnin_cons (OR.out.ne Fg79.out (by decide)) rnin_nil))
      have SL' := Lib.hid (show SrcIs w88 (.slice (some a) L.length z) (L.length) (L.flatMap actC) 6 from SL.out.chx C90 (xnin_cons nx86.out xnin_nil))
      clear C0 EX OW OR SL
      have C0 := C0'; clear C0'
      have EX := EX'; clear EX'
      have OW := OW'; clear OW'
      have OR := OR'; clear OR'
      have SL := SL'; clear SL'
      clear Fg79; have Fg79 := Lib.hid (show Blk w88 g79 (#[.int .i64 o.kind, .int .i64 o.id, .int .i64 o.box, .int .i64 o.ctr, .int .i64 o.n, .string o.s]) 28 from B89); clear B89 C90
      refine hK87 _ _ ?_; clear hK87 K87
      (try simp only [zP, zN, zA, zB, zC])
      refine nl_ (hK77 _ _ ?_); clear hK77 K77
      refine sq_ (fun K91 hK91 => ?_)
      rcases (show 300 < o.s.size ∨ o.s.size ≤ 300 by omega) with h | h
      · have HSZ := Lib.hid h
        have D41 := Lib.hid (show  (300 : Int) < (o.s.size : Int) by have := HSZ.out; omega)
        clear h
        refine s_ (fun K92 hK92 => ?_)
        refine pu_ (v := .pointer (some ⟨g79, 5, none⟩)) (y_run (by rfl) (fun W => by go_simp)) ?_
        (try simp only [zP, zN, zA, zB, zC])
        refine ld_ (v := .string o.s) rfl (by rfl) (by rfl) (run_load_one ((Fg79.out.cell 5).trans rfl) Tryd.underlying9 rfl) ?_
        (try simp only [zP, zN, zA, zB, zC])
        refine pu_ (v := .int .i64 o.s.size) (y_run (by rfl) (fun W => by go_simp)) ?_
        (try simp only [zP, zN, zA, zB, zC])
        refine pu_ (v := .bool true) (y_run (by rfl) (fun W => by have d := D41.out; go_simp)) ?_
        (try simp only [zP, zN, zA, zB, zC])
        refine nl_ (hK92 _ _ ?_); clear hK92 K92
        refine wp_cond_true rfl ?_
        refine s_ (fun K93 hK93 => ?_)
        refine pu_ (v := .bool true) (y_assign rfl (by rfl) (by rfl)) ?_
        (try simp only [zP, zN, zA, zB, zC])
        refine nl_ (hK93 _ _ ?_); clear hK93 K93
        refine wp_ret ?_
        refine th_ret ?_
        refine ib_ret ?_
        refine th_ret ?_
        refine th_ret ?_
        refine ib_ret ?_
        refine th_ret ?_
        refine hQ _ _ _ ?_
        refine bodyPost_ret (res1 rfl (rdv_tmp (v := .bool true) (by rfl))) rfl ?_
        exact ⟨rfl, C0.out⟩
      · have HSZ := Lib.hid h
        have D41 := Lib.hid (show ¬ (300 : Int) < (o.s.size : Int) by have := HSZ.out; omega)
        clear h
        refine s_ (fun K94 hK94 => ?_)
        refine pu_ (v := .pointer (some ⟨g79, 5, none⟩)) (y_run (by rfl) (fun W => by go_simp)) ?_
        (try simp only [zP, zN, zA, zB, zC])
        refine ld_ (v := .string o.s) rfl (by rfl) (by rfl) (run_load_one ((Fg79.out.cell 5).trans rfl) Tryd.underlying9 rfl) ?_
        (try simp only [zP, zN, zA, zB, zC])
        refine pu_ (v := .int .i64 o.s.size) (y_run (by rfl) (fun W => by go_simp)) ?_
        (try simp only [zP, zN, zA, zB, zC])
        refine pu_ (v := .bool false) (y_run (by rfl) (fun W => by have d := D41.out; go_simp)) ?_
        (try simp only [zP, zN, zA, zB, zC])
        refine nl_ (hK94 _ _ ?_); clear hK94 K94
        refine wp_cond_false rfl ?_
        refine wp_skip ?_
        refine th_norm (hK91 _ _ ?_); try clear hK91 K91
        refine s_ (fun K95 hK95 => ?_)
        refine pu_ (v := .pointer (some ⟨g79, 0, none⟩)) (y_run (by rfl) (fun W => by go_simp)) ?_
        (try simp only [zP, zN, zA, zB, zC])
        refine ld_ (v := .int .i64 o.kind) rfl (by rfl) (by rfl) (run_load_one ((Fg79.out.cell 0).trans rfl) Tryd.underlying3 rfl) ?_
        (try simp only [zP, zN, zA, zB, zC])
        refine nl_ (hK95 _ _ ?_); clear hK95 K95
        refine wp_block ?_
        rcases (show o.kind = 0 ∨ (o.kind = 1 ∧ (writeR E o.id o.s).2 = 0) ∨ (o.kind = 1 ∧ ¬ (writeR E o.id o.s).2 = 0) ∨ (o.kind = 2 ∧ (readR E o.id o.n).2 = 0) ∨ (o.kind = 2 ∧ ¬ (readR E o.id o.n).2 = 0) ∨ o.kind = 3 ∨ o.kind = 4 ∨ (¬ o.kind = 0 ∧ ¬ o.kind = 1 ∧ ¬ o.kind = 2 ∧ ¬ o.kind = 3 ∧ ¬ o.kind = 4) by omega) with h | ⟨h, h2⟩ | ⟨h, h2⟩ | ⟨h, h2⟩ | ⟨h, h2⟩ | h | h | h
        · have D51 := Lib.hid (show  o.kind = 0 by omega)
          clear h
          refine s_ (fun K96 hK96 => ?_)
          refine pu_ (v := .bool true) (y_run (by rfl) (fun W => by have d := D51.out; go_simp)) ?_
          (try simp only [zP, zN, zA, zB, zC])
          refine pu_ (v := .bool true) (y_assign rfl (by rfl) (by rfl)) ?_
          (try simp only [zP, zN, zA, zB, zC])
          refine nl_ (hK96 _ _ ?_); clear hK96 K96
          refine wp_cond_true rfl ?_
          refine r_ ?_
          refine pu_ (v := .pointer (some ⟨x, 0, none⟩)) (y_move rfl (by rfl) (by rfl)) ?_
          (try simp only [zP, zN, zA, zB, zC])
          refine pu_ (v := .pointer (some ⟨g79, 2, none⟩)) (y_run (by rfl) (fun W => by go_simp)) ?_
          (try simp only [zP, zN, zA, zB, zC])
          refine ld_ (v := .int .i64 o.box) rfl (by rfl) (by rfl) (run_load_one ((Fg79.out.cell 2).trans rfl) Tryd.underlying3 rfl) ?_
          (try simp only [zP, zN, zA, zB, zC])
          refine pu_ (v := .pointer (some ⟨g79, 3, none⟩)) (y_run (by rfl) (fun W => by go_simp)) ?_
          (try simp only [zP, zN, zA, zB, zC])
          refine ld_ (v := .int .i64 o.ctr) rfl (by rfl) (by rfl) (run_load_one ((Fg79.out.cell 3).trans rfl) Tryd.underlying3 rfl) ?_
          (try simp only [zP, zN, zA, zB, zC])
          refine ef_ (fun K97 hK97 => ?_)
          refine e_call Tryd.func8 (by kernel_rfl) rfl #[.pointer (some ⟨x, 0, none⟩), .int .i64 o.box, .int .i64 o.ctr] (by rfl) rfl rfl (by first | rfl | (simp only [List.map_toArray, List.map_cons, List.map_nil]; first | done | rfl)) ((open_l (bx := o.box) (ct := o.ctr) EX.out (by have := hfew.out.1; omega) (by have := hfew.out.2; have := hlt.out; omega) C0.out.size)) ?_
          rintro en w99 ⟨rfl, Bs98, bk, cc, bel⟩
          refine ⟨_, rfl, ?_⟩
          have hs100 := Lib.hid (show g79 ∉ Bs98 from fun h9 => (bel _ h9).elim hs85.out (fun h8 => by have := Fg79.out.lt; omega))
          have hr101 := Lib.hid (show ∀ k_, k_ ∈ rl (.slice (some ⟨gw, 0, none⟩) 200 200) → k_ ∉ Bs98 from fun k_ hk_ hB_ => (bel k_ hB_).elim (hrsw.out k_ hk_) (fun h8 => by have := (OW.out.lt k_ hk_).2; omega))
          have hr102 := Lib.hid (show ∀ k_, k_ ∈ rl (.slice (some ⟨gr, 0, none⟩) 200 200) → k_ ∉ Bs98 from fun k_ hk_ hB_ => (bel k_ hB_).elim (hrsr.out k_ hk_) (fun h8 => by have := (OR.out.lt k_ hk_).2; omega))
          have hr103 := Lib.hid (show ∀ k_, k_ ∈ xb (.slice (some a) L.length z) → k_ ∉ Bs98 from fun k_ hk_ hB_ => (bel k_ hB_).elim (hxs.out k_ hk_) (fun h8 => by have := SL.out.lt (by decide) k_ hk_; omega))
          have C0' := Lib.hid (show Ch [] w w99 from C0.out.trans' cc (fun x hx => .inr (EX.out.lt x hx).1))
          have OW' := Lib.hid (show OwnS w99 w.heap.size 9 1 (.slice (some ⟨gw, 0, none⟩) 200 200) (200) ((lw).flatMap strC) from OW.out.ch cc hrsw.out)
          have OR' := Lib.hid (show OwnS w99 w.heap.size 9 1 (.slice (some ⟨gr, 0, none⟩) 200 200) (200) ((lr).flatMap strC) from OR.out.ch cc hrsr.out)
          have SL' := Lib.hid (show SrcIs w99 (.slice (some a) L.length z) (L.length) (L.flatMap actC) 6 from SL.out.chx cc hxs.out)
          have Fg79' := Lib.hid (show Blk w99 g79 (#[.int .i64 o.kind, .int .i64 o.id, .int .i64 o.box, .int .i64 o.ctr, .int .i64 o.n, .string o.s]) 28 from cc.blk Fg79.out hs85.out)
          clear C0 OW OR SL Fg79
          have C0 := C0'; clear C0'
          have OW := OW'; clear OW'
          have OR := OR'; clear OR'
          have SL := SL'; clear SL'
          have Fg79 := Fg79'; clear Fg79'
          clear EX cc bel
          have EX := Lib.hid (show ExIs w99 w.heap.size Bs98 x (64 * k) (openS E o.box o.ctr) from bk)
          clear bk
          refine hK97 _ _ ?_; clear hK97 K97
          (try simp only [zP, zN, zA, zB, zC])
          refine nl_ ?_
          refine ib_norm ?_
          refine ib_norm ?_
          refine th_norm (hK76 _ _ ?_); try clear hK76 K76
          refine r_ ?_
          refine pu_ (v := .int .i64 k) (y_move rfl (by rfl) (by rfl)) ?_
          (try simp only [zP, zN, zA, zB, zC])
          refine pu_ (v := .int .i64 (k + 1 : Nat)) (y_run (by rfl) (fun W => by have d := Wk.out; go_simp)) ?_
          (try simp only [zP, zN, zA, zB, zC])
          refine pu_ (v := .int .i64 (k + 1 : Nat)) (y_assign rfl (by rfl) (by rfl)) ?_
          (try simp only [zP, zN, zA, zB, zC])
          refine nl_ ?_
          exact th_norm (hK73 (kq - 1) _ _ (by have := hlt.out; have := hk.out; omega) ⟨k + 1, Bs98, openS E o.box o.ctr, lw, lr, fun us_ => (#[.slice (some a) L.length z, us 1, .bool false, .pointer (some ⟨x, 0, none⟩), .slice (some ⟨gw, 0, none⟩) 200 200, .slice (some ⟨gr, 0, none⟩) 200 200, .int .i64 (k + 1 : Nat), .pointer (some ⟨g79, 0, none⟩), us 8, us 9, us 10, us 11, us 12, us 13, us 14, us 15, us 16, us 17, us 18, us 19, us 20, us 21, us 22, us 23, .int .i64 k, .slice (some a) L.length z, .int .i64 L.length, .bool true, .bool true, .int .i64 k, .bool true, .bool true, .int .i64 k, .int .i64 (k + 1 : Nat), .slice (some a) L.length z, .int .i64 k, .pointer (some (a.add (k * 6))), .agg #[.int .i64 o.kind, .int .i64 o.id, .int .i64 o.box, .int .i64 o.ctr, .int .i64 o.n, .string o.s], .pointer (some ⟨g79, 5, none⟩), .string o.s, .int .i64 o.s.size, .bool false, .pointer (some ⟨g79, 0, none⟩), .int .i64 o.kind, us 44, us 45, us 46, us 47, us 48, us 49, .bool true, .bool true, .pointer (some ⟨x, 0, none⟩), .pointer (some ⟨g79, 2, none⟩), .int .i64 o.box, .pointer (some ⟨g79, 3, none⟩), .int .i64 o.ctr, .tuple #[.int .i64 (openR E).1, .int .i64 (openR E).2], us 58, us 59, us 60, us 61, us 62, us 63, us 64, us 65, us 66, us 67, us 68, us 69, us 70, us 71, us 72, us 73, us 74, us 75, us 76, us 77, us 78, us 79, us 80, us 81, us 82, us 83, us 84, us 85, us 86, us 87, us 88, us 89, us 90, us 91, us 92, us 93, us 94, us 95, us 96, us 97, us 98, us 99, us 100, us 101, us 102, us 103, us 104, us 105, us 106, us 107, us 108, us 109, us 110, us 111, us 112, us 113, us 114, us 115, us 116, us 117, us 118, us 119, us 120, us 121, us 122, us 123, us 124, us 125, us 126, us 127, us 128, us 129, us 130, us 131, us 132, us 133, us 134, us 135, us 136, us 137, us 138, us 139, us 140, us 141, us 142, us 143, us 144, us 145, us 146, us 147, us 148, us 149, us 150, us 151, us 152, us 153, us 154, us 155, us 156, us 157, us 158, us 159, us 160, us 161, us 162, us 163, us 164, us 165, us 166, us 167, us 168, us 169, us 170, us 171, us 172, us 173, us 174, us 175, us 176, us 177, us 178, us 179, us 180, us 181, us 182, us 183, us 184, us 185, us 186, us 187, us 188, us 189, us 190, us 191, us 192, us 193, us 194, us 195, us 196, us 197, us 198] : Array Value).getD us_ undef, rfl, C0, Lib.hid (EX.out.up (by omega)), OW, OR, SL, Lib.hid ⟨by have := hlt.out; omega, by have := hlt.out; omega, by have := hlt.out; have := hk.out; omega⟩, Lib.hid (few_open hfew.out o.box o.ctr), Lib.hid ⟨hln.out.1, hln.out.2⟩, Lib.hid (open_p hpi.out o.box o.ctr), Lib.hid (sz_up hzw.out (by omega)), Lib.hid (sz_up hzr.out (by omega)), hr101, hr102, hr103, Lib.hid (hxw.out), Lib.hid (hxr.out)⟩)
        · have D51 := Lib.hid (show ¬ o.kind = 0 by omega)
          have D59 := Lib.hid (show  o.kind = 1 by omega)
          clear h
          obtain ⟨n, hn1, hn2⟩ := write_n E o.id o.s
          have HWN := Lib.hid hn1
          have HNZ := Lib.hid hn2
          clear hn1 hn2
          have HWC := Lib.hid h2
          clear h2
          obtain ⟨i, hi1, hi2, hi3⟩ := nat_of (write_id hpi.out HWC.out)
          have hi4 := hfew.out.2
          have HI := Lib.hid hi1
          have HIB := Lib.hid (show 1 ≤ i ∧ i < 200 by have := hlt.out; omega)
          clear hi1 hi2 hi3 hi4
          obtain ⟨tw, ht1, ht2⟩ := txt hln.out.1 HIB.out.2
          have HTW := Lib.hid ht1
          have HTZ := Lib.hid (hzw.out _ ht2)
          clear ht1 ht2
          have D74 := Lib.hid (show (0 : Int) < o.id by have := HI.out; have := HIB.out; omega)
          have D79 := Lib.hid (show o.id < 200 by have := HI.out; have := HIB.out; omega)
          have D83 := Lib.hid (show (0 : Int) ≤ (n : Int) by omega)
          have D90 := Lib.hid (show (n : Int) ≤ (o.s.size : Int) by have := HNZ.out; omega)
          have HXZ := Lib.hid (show (o.s.extract 0 n).size ≤ 300 by rw [ByteArray.size_extract]; have := HSZ.out; omega)
          have D101 := Lib.hid (show tw.size + min n o.s.size ≤ 9223372036854775807 by have := HTZ.out; have := HSZ.out; have := hlt.out; omega)
          have D95 := Lib.hid (show (i : Int) < 200 by have := HIB.out; omega)
          refine s_ (fun K104 hK104 => ?_)
          refine pu_ (v := .bool false) (y_run (by rfl) (fun W => by have d := D51.out; go_simp)) ?_
          (try simp only [zP, zN, zA, zB, zC])
          refine pu_ (v := .bool false) (y_assign rfl (by rfl) (by rfl)) ?_
          (try simp only [zP, zN, zA, zB, zC])
          refine nl_ (hK104 _ _ ?_); clear hK104 K104
          refine wp_cond_false rfl ?_
          refine s_ (fun K105 hK105 => ?_)
          refine pu_ (v := .bool true) (y_run (by rfl) (fun W => by have d := D59.out; go_simp)) ?_
          (try simp only [zP, zN, zA, zB, zC])
          refine pu_ (v := .bool true) (y_assign rfl (by rfl) (by rfl)) ?_
          (try simp only [zP, zN, zA, zB, zC])
          refine nl_ (hK105 _ _ ?_); clear hK105 K105
          refine wp_cond_true rfl ?_
          refine s_ (fun K106 hK106 => ?_)
          refine pu_ (v := .pointer (some ⟨x, 0, none⟩)) (y_move rfl (by rfl) (by rfl)) ?_
          (try simp only [zP, zN, zA, zB, zC])
          refine pu_ (v := .pointer (some ⟨g79, 1, none⟩)) (y_run (by rfl) (fun W => by go_simp)) ?_
          (try simp only [zP, zN, zA, zB, zC])
          refine ld_ (v := .int .i64 o.id) rfl (by rfl) (by rfl) (run_load_one ((Fg79.out.cell 1).trans rfl) Tryd.underlying3 rfl) ?_
          (try simp only [zP, zN, zA, zB, zC])
          refine pu_ (v := .pointer (some ⟨g79, 5, none⟩)) (y_run (by rfl) (fun W => by go_simp)) ?_
          (try simp only [zP, zN, zA, zB, zC])
          refine ld_ (v := .string o.s) rfl (by rfl) (by rfl) (run_load_one ((Fg79.out.cell 5).trans rfl) Tryd.underlying9 rfl) ?_
          (try simp only [zP, zN, zA, zB, zC])
          refine ef_ (fun K107 hK107 => ?_)
          refine e_call Tryd.func9 (by kernel_rfl) rfl #[.pointer (some ⟨x, 0, none⟩), .int .i64 o.id, .string o.s] (by rfl) rfl rfl (by first | rfl | (simp only [List.map_toArray, List.map_cons, List.map_nil]; first | done | rfl)) ((by have h9 := write_l (id := o.id) (t := o.s) EX.out (by have := hfew.out.1; omega) (by have := hlt.out; omega) (by have := HSZ.out; omega); rw [HWN.out, HWC.out] at h9; exact h9)) ?_
          rintro en w109 ⟨rfl, Bs108, bk, cc, bel⟩
          refine ⟨_, rfl, ?_⟩
          have hs110 := Lib.hid (show g79 ∉ Bs108 from fun h9 => (bel _ h9).elim hs85.out (fun h8 => by have := Fg79.out.lt; omega))
          have hr111 := Lib.hid (show ∀ k_, k_ ∈ rl (.slice (some ⟨gw, 0, none⟩) 200 200) → k_ ∉ Bs108 from fun k_ hk_ hB_ => (bel k_ hB_).elim (hrsw.out k_ hk_) (fun h8 => by have := (OW.out.lt k_ hk_).2; omega))
          have hr112 := Lib.hid (show ∀ k_, k_ ∈ rl (.slice (some ⟨gr, 0, none⟩) 200 200) → k_ ∉ Bs108 from fun k_ hk_ hB_ => (bel k_ hB_).elim (hrsr.out k_ hk_) (fun h8 => by have := (OR.out.lt k_ hk_).2; omega))
          have hr113 := Lib.hid (show ∀ k_, k_ ∈ xb (.slice (some a) L.length z) → k_ ∉ Bs108 from fun k_ hk_ hB_ => (bel k_ hB_).elim (hxs.out k_ hk_) (fun h8 => by have := SL.out.lt (by decide) k_ hk_; omega))
          have C0' := Lib.hid (show Ch [] w w109 from C0.out.trans' cc (fun x hx => .inr (EX.out.lt x hx).1))
          have OW' := Lib.hid (show OwnS w109 w.heap.size 9 1 (.slice (some ⟨gw, 0, none⟩) 200 200) (200) ((lw).flatMap strC) from OW.out.ch cc hrsw.out)
          have OR' := Lib.hid (show OwnS w109 w.heap.size 9 1 (.slice (some ⟨gr, 0, none⟩) 200 200) (200) ((lr).flatMap strC) from OR.out.ch cc hrsr.out)
          have SL' := Lib.hid (show SrcIs w109 (.slice (some a) L.length z) (L.length) (L.flatMap actC) 6 from SL.out.chx cc hxs.out)
          have Fg79' := Lib.hid (show Blk w109 g79 (#[.int .i64 o.kind, .int .i64 o.id, .int .i64 o.box, .int .i64 o.ctr, .int .i64 o.n, .string o.s]) 28 from cc.blk Fg79.out hs85.out)
          clear C0 OW OR SL Fg79
          have C0 := C0'; clear C0'
          have OW := OW'; clear OW'
          have OR := OR'; clear OR'
          have SL := SL'; clear SL'
          have Fg79 := Fg79'; clear Fg79'
          clear EX cc bel
          have EX := Lib.hid (show ExIs w109 w.heap.size Bs108 x (64 * k + 64) (writeS E o.id o.s) from bk)
          clear bk
          refine hK107 _ _ ?_; clear hK107 K107
          (try simp only [zP, zN, zA, zB, zC])
          refine pu_ (v := .tuple #[.int .i64 n, .int .i64 0]) (y_move rfl (by rfl) (by rfl)) ?_
          (try simp only [zP, zN, zA, zB, zC])
          refine pu_ (v := .int .i64 n) (y_run (by rfl) (fun W => by go_simp)) ?_
          (try simp only [zP, zN, zA, zB, zC])
          refine pu_ (v := .int .i64 0) (y_run (by rfl) (fun W => by go_simp)) ?_
          (try simp only [zP, zN, zA, zB, zC])
          refine pu_ (v := .int .i64 n) (y_assign rfl (by rfl) (by rfl)) ?_
          (try simp only [zP, zN, zA, zB, zC])
          refine pu_ (v := .int .i64 0) (y_assign rfl (by rfl) (by rfl)) ?_
          (try simp only [zP, zN, zA, zB, zC])
          refine nl_ (hK106 _ _ ?_); clear hK106 K106
          refine s_ (fun K114 hK114 => ?_)
          refine pu_ (v := .int .i64 0) (y_move rfl (by rfl) (by rfl)) ?_
          (try simp only [zP, zN, zA, zB, zC])
          refine pu_ (v := .bool true) (y_run (by rfl) (fun W => by first | (go_simp; done) | (go_simp; rfl) | (go_simp; decide))) ?_
          (try simp only [zP, zN, zA, zB, zC])
          refine pu_ (v := .bool true) (y_move rfl (by rfl) (by rfl)) ?_
          (try simp only [zP, zN, zA, zB, zC])
          refine pu_ (v := .pointer (some ⟨g79, 1, none⟩)) (y_run (by rfl) (fun W => by go_simp)) ?_
          (try simp only [zP, zN, zA, zB, zC])
          refine ld_ (v := .int .i64 o.id) rfl (by rfl) (by rfl) (run_load_one ((Fg79.out.cell 1).trans rfl) Tryd.underlying3 rfl) ?_
          (try simp only [zP, zN, zA, zB, zC])
          refine pu_ (v := .bool true) (y_run (by rfl) (fun W => by have d := D74.out; go_simp)) ?_
          (try simp only [zP, zN, zA, zB, zC])
          refine pu_ (v := .bool true) (y_pick (t := true) (by rfl) rfl (by rfl) (by rfl)) ?_
          (try simp only [zP, zN, zA, zB, zC])
          refine pu_ (v := .bool true) (y_move rfl (by rfl) (by rfl)) ?_
          (try simp only [zP, zN, zA, zB, zC])
          refine pu_ (v := .pointer (some ⟨g79, 1, none⟩)) (y_run (by rfl) (fun W => by go_simp)) ?_
          (try simp only [zP, zN, zA, zB, zC])
          refine ld_ (v := .int .i64 o.id) rfl (by rfl) (by rfl) (run_load_one ((Fg79.out.cell 1).trans rfl) Tryd.underlying3 rfl) ?_
          (try simp only [zP, zN, zA, zB, zC])
          refine pu_ (v := .bool true) (y_run (by rfl) (fun W => by have d := D79.out; go_simp)) ?_
          (try simp only [zP, zN, zA, zB, zC])
          refine pu_ (v := .bool true) (y_pick (t := true) (by rfl) rfl (by rfl) (by rfl)) ?_
          (try simp only [zP, zN, zA, zB, zC])
          refine pu_ (v := .bool true) (y_move rfl (by rfl) (by rfl)) ?_
          (try simp only [zP, zN, zA, zB, zC])
          refine pu_ (v := .int .i64 n) (y_move rfl (by rfl) (by rfl)) ?_
          (try simp only [zP, zN, zA, zB, zC])
          refine pu_ (v := .bool true) (y_run (by rfl) (fun W => by have d := D83.out; go_simp)) ?_
          (try simp only [zP, zN, zA, zB, zC])
          refine pu_ (v := .bool true) (y_pick (t := true) (by rfl) rfl (by rfl) (by rfl)) ?_
          (try simp only [zP, zN, zA, zB, zC])
          refine pu_ (v := .bool true) (y_move rfl (by rfl) (by rfl)) ?_
          (try simp only [zP, zN, zA, zB, zC])
          refine pu_ (v := .int .i64 n) (y_move rfl (by rfl) (by rfl)) ?_
          (try simp only [zP, zN, zA, zB, zC])
          refine pu_ (v := .pointer (some ⟨g79, 5, none⟩)) (y_run (by rfl) (fun W => by go_simp)) ?_
          (try simp only [zP, zN, zA, zB, zC])
          refine ld_ (v := .string o.s) rfl (by rfl) (by rfl) (run_load_one ((Fg79.out.cell 5).trans rfl) Tryd.underlying9 rfl) ?_
          (try simp only [zP, zN, zA, zB, zC])
          refine pu_ (v := .int .i64 o.s.size) (y_run (by rfl) (fun W => by go_simp)) ?_
          (try simp only [zP, zN, zA, zB, zC])
          refine pu_ (v := .bool true) (y_run (by rfl) (fun W => by have d := D90.out; go_simp)) ?_
          (try simp only [zP, zN, zA, zB, zC])
          refine pu_ (v := .bool true) (y_pick (t := true) (by rfl) rfl (by rfl) (by rfl)) ?_
          (try simp only [zP, zN, zA, zB, zC])
          refine nl_ (hK114 _ _ ?_); clear hK114 K114
          refine wp_cond_true rfl ?_
          refine startk_ (S := fun W => OwnS W w.heap.size 9 1 (.slice (some ⟨gw, 0, none⟩) 200 200) (200) ((lw).flatMap strC) ∧ Blk W g79 (#[.int .i64 o.kind, .int .i64 o.id, .int .i64 o.box, .int .i64 o.ctr, .int .i64 o.n, .string o.s]) 28 ∧ True) (ds := [11]) #[false, false, false, false, false, false, false, false, false, false, false, false] (by kernel_rfl) rfl rfl (fun W c => ⟨OW.out.ch c rnin_nil, c.blk Fg79.out nin_nil, trivial⟩) (fun w115 C116 hS117 => ?_)
          have C0' := Lib.hid (show Ch [] w w115 from C0.out.trans' C116 (fun x hx => absurd hx (by simp)))
          have EX' := Lib.hid (show ExIs w115 w.heap.size Bs108 x (64 * k + 64) (writeS E o.id o.s) from EX.out.ch C116 (fun _ _ h => absurd h (by simp)))
          have OW' := Lib.hid (show OwnS w115 w.heap.size 9 1 (.slice (some ⟨gw, 0, none⟩) 200 200) (200) ((lw).flatMap strC) from OW.out.ch C116 rnin_nil)
          have OR' := Lib.hid (show OwnS w115 w.heap.size 9 1 (.slice (some ⟨gr, 0, none⟩) 200 200) (200) ((lr).flatMap strC) from OR.out.ch C116 rnin_nil)
          have SL' := Lib.hid (show SrcIs w115 (.slice (some a) L.length z) (L.length) (L.flatMap actC) 6 from SL.out.chx C116 xnin_nil)
          have Fg79' := Lib.hid (show Blk w115 g79 (#[.int .i64 o.kind, .int .i64 o.id, .int .i64 o.box, .int .i64 o.ctr, .int .i64 o.n, .string o.s]) 28 from C116.blk Fg79.out nin_nil)
          clear C0 EX OW OR SL Fg79
          have C0 := C0'; clear C0'
          have EX := EX'; clear EX'
          have OW := OW'; clear OW'
          have OR := OR'; clear OR'
          have SL := SL'; clear SL'
          have Fg79 := Fg79'; clear Fg79'
          clear C116
          refine pure_ (i := 0) (N := some 92) (v := .slice (some ⟨gw, 0, none⟩) 200 200) #[true, false, false, false, false, false, false, false, false, false, false, false] rfl rfl (by kernel_rfl) (fun c a w h => hP c a _ _ w h) (y_move rfl (by rfl) (by rfl)) rfl ?_
          (try simp only [zP, zN, zA, zB, zC])
          refine pure_ (i := 1) (N := some 93) (v := .pointer (some ⟨g79, 1, none⟩)) #[true, true, false, false, false, false, false, false, false, false, false, false] rfl rfl (by kernel_rfl) (fun c a w h => hP c a _ _ w h) (y_run (by rfl) (fun W => by go_simp)) rfl ?_
          (try simp only [zP, zN, zA, zB, zC])
          refine take_ (i := 2) (N := some 94) (v := .int .i64 o.id) #[true, true, true, false, false, false, false, false, false, false, false, false] rfl rfl (by kernel_rfl) (fun c a w h => hP c a _ _ w h) (y_load (p := ⟨g79, 1, none⟩) rfl (by rfl) (by rfl) (fun W hS => run_load_one ((hS.2.1.cell 1).trans rfl) Tryd.underlying3 rfl)) hS117 rfl ?_
          (try simp only [zP, zN, zA, zB, zC])
          refine pure_ (i := 3) (N := some 95) (v := .pointer (some ⟨gw, i, none⟩)) #[true, true, true, true, false, false, false, false, false, false, false, false] rfl rfl (by kernel_rfl) (fun c a w h => hP c a _ _ w h) (y_run (by rfl) (fun W => by have d3 := D95.out; rw [HI.out]; go_simp)) rfl ?_
          (try simp only [zP, zN, zA, zB, zC])
          refine take_ (i := 4) (N := some 96) (v := .string tw) #[true, true, true, true, true, false, false, false, false, false, false, false] rfl rfl (by kernel_rfl) (fun c a w h => hP c a _ _ w h) (y_load (p := ⟨gw, i, none⟩) rfl (by rfl) (by rfl) (fun W hS => run_load_one (own_cell hS.1 (flat_at HTW.out)) Tryd.underlying9 rfl)) hS117 rfl ?_
          (try simp only [zP, zN, zA, zB, zC])
          refine pure_ (i := 5) (N := some 97) (v := .pointer (some ⟨g79, 5, none⟩)) #[true, true, true, true, true, true, false, false, false, false, false, false] rfl rfl (by kernel_rfl) (fun c a w h => hP c a _ _ w h) (y_run (by rfl) (fun W => by go_simp)) rfl ?_
          (try simp only [zP, zN, zA, zB, zC])
          refine take_ (i := 6) (N := some 98) (v := .string o.s) #[true, true, true, true, true, true, true, false, false, false, false, false] rfl rfl (by kernel_rfl) (fun c a w h => hP c a _ _ w h) (y_load (p := ⟨g79, 5, none⟩) rfl (by rfl) (by rfl) (fun W hS => run_load_one ((hS.2.1.cell 5).trans rfl) Tryd.underlying9 rfl)) hS117 rfl ?_
          (try simp only [zP, zN, zA, zB, zC])
          refine pure_ (i := 7) (N := some 99) (v := .int .i64 n) #[true, true, true, true, true, true, true, true, false, false, false, false] rfl rfl (by kernel_rfl) (fun c a w h => hP c a _ _ w h) (y_move rfl (by rfl) (by rfl)) rfl ?_
          (try simp only [zP, zN, zA, zB, zC])
          refine pure_ (i := 8) (N := some 100) (v := .string (o.s.extract 0 n)) #[true, true, true, true, true, true, true, true, true, false, false, false] rfl rfl (by kernel_rfl) (fun c a w h => hP c a _ _ w h) (y_run (by rfl) (fun W => by have d := D90.out; go_simp)) rfl ?_
          (try simp only [zP, zN, zA, zB, zC])
          refine pure_ (i := 9) (N := some 101) (v := .string (tw ++ o.s.extract 0 n)) #[true, true, true, true, true, true, true, true, true, true, false, false] rfl rfl (by kernel_rfl) (fun c a w h => hP c a _ _ w h) (y_run (by rfl) (fun W => by have d := D101.out; go_simp)) rfl ?_
          (try simp only [zP, zN, zA, zB, zC])
          refine pure_ (i := 10) (N := some 102) (v := .pointer (some ⟨gw, i, none⟩)) #[true, true, true, true, true, true, true, true, true, true, true, false] rfl rfl (by kernel_rfl) (fun c a w h => hP c a _ _ w h) (y_run (by rfl) (fun W => by have d3 := D95.out; rw [HI.out]; go_simp)) rfl ?_
          (try simp only [zP, zN, zA, zB, zC])
          refine last_ (i := 11) (N := none) #[true, true, true, true, true, true, true, true, true, true, true, true] rfl rfl (by kernel_rfl) (by simp) (fun K118 hK118 => ?_)
          refine e_storeS1 (by rfl) rfl rfl OW.out i (.string (tw ++ o.s.extract 0 n)) (by rfl) (by rfl) (by kernel_rfl) (by have := HIB.out; omega) rfl ?_
          rintro w119 O120 C121
          have RC121 := Lib.hid (show Ch (rl (.slice (some ⟨gw, 0, none⟩) 200 200)) w115 w119 from by rw [rl_some _ _ _ (by decide)]; exact C121)
          have C0' := Lib.hid (show Ch [] w w119 from C0.out.trans' RC121.out (fun x hx => .inr (OW.out.lt x hx).1))
          have EX' := Lib.hid (show ExIs w119 w.heap.size Bs108 x (64 * k + 64) (writeS E o.id o.s) from EX.out.ch RC121.out (fun k hk hm => hr111.out k hm hk))
          have OR' := Lib.hid (show OwnS w119 w.heap.size 9 1 (.slice (some ⟨gr, 0, none⟩) 200 200) (200) ((lr).flatMap strC) from OR.out.ch RC121.out (fun k hk hm => hrr.out k hm hk))
          have SL' := Lib.hid (show SrcIs w119 (.slice (some a) L.length z) (L.length) (L.flatMap actC) 6 from SL.out.chx RC121.out hxw.out)
          have Fg79' := Lib.hid (show Blk w119 g79 (#[.int .i64 o.kind, .int .i64 o.id, .int .i64 o.box, .int .i64 o.ctr, .int .i64 o.n, .string o.s]) 28 from RC121.out.blk Fg79.out (OW.out.ne Fg79.out (by decide)))
          clear C0 EX OR SL Fg79
          have C0 := C0'; clear C0'
          have EX := EX'; clear EX'
          have OR := OR'; clear OR'
          have SL := SL'; clear SL'
          have Fg79 := Fg79'; clear Fg79'
          clear OW
          have OW := Lib.hid (show OwnS w119 w.heap.size 9 1 (.slice (some ⟨gw, 0, none⟩) 200 200) (200) ((lw.set i (tw ++ o.s.extract 0 n)).flatMap strC) from by have h9 := O120; rw [flat_set] at h9; exact h9); clear O120 C121 RC121
          refine hK118.out _ _ ?_; clear hK118 K118
          (try simp only [zP, zN, zA, zB, zC])
          refine done_ (by kernel_rfl) ?_
          refine ib_norm ?_
          refine ib_norm ?_
          refine th_norm (hK76 _ _ ?_); try clear hK76 K76
          refine r_ ?_
          refine pu_ (v := .int .i64 k) (y_move rfl (by rfl) (by rfl)) ?_
          (try simp only [zP, zN, zA, zB, zC])
          refine pu_ (v := .int .i64 (k + 1 : Nat)) (y_run (by rfl) (fun W => by have d := Wk.out; go_simp)) ?_
          (try simp only [zP, zN, zA, zB, zC])
          refine pu_ (v := .int .i64 (k + 1 : Nat)) (y_assign rfl (by rfl) (by rfl)) ?_
          (try simp only [zP, zN, zA, zB, zC])
          refine nl_ ?_
          exact th_norm (hK73 (kq - 1) _ _ (by have := hlt.out; have := hk.out; omega) ⟨k + 1, Bs108, writeS E o.id o.s, lw.set i (tw ++ o.s.extract 0 n), lr, fun us_ => (#[.slice (some a) L.length z, us 1, .bool false, .pointer (some ⟨x, 0, none⟩), .slice (some ⟨gw, 0, none⟩) 200 200, .slice (some ⟨gr, 0, none⟩) 200 200, .int .i64 (k + 1 : Nat), .pointer (some ⟨g79, 0, none⟩), .int .i64 n, .int .i64 0, us 10, us 11, us 12, us 13, us 14, us 15, us 16, us 17, us 18, us 19, us 20, us 21, us 22, us 23, .int .i64 k, .slice (some a) L.length z, .int .i64 L.length, .bool true, .bool true, .int .i64 k, .bool true, .bool true, .int .i64 k, .int .i64 (k + 1 : Nat), .slice (some a) L.length z, .int .i64 k, .pointer (some (a.add (k * 6))), .agg #[.int .i64 o.kind, .int .i64 o.id, .int .i64 o.box, .int .i64 o.ctr, .int .i64 o.n, .string o.s], .pointer (some ⟨g79, 5, none⟩), .string o.s, .int .i64 o.s.size, .bool false, .pointer (some ⟨g79, 0, none⟩), .int .i64 o.kind, us 44, us 45, us 46, us 47, us 48, us 49, .bool false, .bool false, us 52, us 53, us 54, us 55, us 56, us 57, .bool true, .bool true, .tuple #[.int .i64 n, .int .i64 0], .pointer (some ⟨x, 0, none⟩), .pointer (some ⟨g79, 1, none⟩), .int .i64 o.id, .pointer (some ⟨g79, 5, none⟩), .string o.s, .tuple #[.int .i64 n, .int .i64 0], .int .i64 n, .int .i64 0, .int .i64 0, .bool true, .bool true, .pointer (some ⟨g79, 1, none⟩), .int .i64 o.id, .bool true, .bool true, .bool true, .pointer (some ⟨g79, 1, none⟩), .int .i64 o.id, .bool true, .bool true, .bool true, .int .i64 n, .bool true, .bool true, .bool true, .int .i64 n, .pointer (some ⟨g79, 5, none⟩), .string o.s, .int .i64 o.s.size, .bool true, .bool true, .slice (some ⟨gw, 0, none⟩) 200 200, .pointer (some ⟨g79, 1, none⟩), .int .i64 o.id, .pointer (some ⟨gw, i, none⟩), .string tw, .pointer (some ⟨g79, 5, none⟩), .string o.s, .int .i64 n, .string (o.s.extract 0 n), .string (tw ++ o.s.extract 0 n), .pointer (some ⟨gw, i, none⟩), us 103, us 104, us 105, us 106, us 107, us 108, us 109, us 110, us 111, us 112, us 113, us 114, us 115, us 116, us 117, us 118, us 119, us 120, us 121, us 122, us 123, us 124, us 125, us 126, us 127, us 128, us 129, us 130, us 131, us 132, us 133, us 134, us 135, us 136, us 137, us 138, us 139, us 140, us 141, us 142, us 143, us 144, us 145, us 146, us 147, us 148, us 149, us 150, us 151, us 152, us 153, us 154, us 155, us 156, us 157, us 158, us 159, us 160, us 161, us 162, us 163, us 164, us 165, us 166, us 167, us 168, us 169, us 170, us 171, us 172, us 173, us 174, us 175, us 176, us 177, us 178, us 179, us 180, us 181, us 182, us 183, us 184, us 185, us 186, us 187, us 188, us 189, us 190, us 191, us 192, us 193, us 194, us 195, us 196, us 197, us 198] : Array Value).getD us_ undef, rfl, C0, Lib.hid (EX.out.up (by omega)), OW, OR, SL, Lib.hid ⟨by have := hlt.out; omega, by have := hlt.out; omega, by have := hlt.out; have := hk.out; omega⟩, Lib.hid (few_write hfew.out o.id o.s), Lib.hid ⟨by rw [List.length_set]; exact hln.out.1, hln.out.2⟩, Lib.hid (wrote_p hpi.out HI.out HTW.out HWC.out HWN.out), Lib.hid (sz_set hzw.out (by omega) (by rw [ByteArray.size_append]; have := HTZ.out; have := HXZ.out; omega)), Lib.hid (sz_up hzr.out (by omega)), hr111, hr112, hr113, Lib.hid (hxw.out), Lib.hid (hxr.out)⟩)
        · have D51 := Lib.hid (show ¬ o.kind = 0 by omega)
          have D59 := Lib.hid (show  o.kind = 1 by omega)
          clear h
          obtain ⟨n, hn1, hn2⟩ := write_n E o.id o.s
          have HWN := Lib.hid hn1
          have HNZ := Lib.hid hn2
          clear hn1 hn2
          have HWC := Lib.hid h2
          clear h2
          have D70 := Lib.hid HWC.out
          refine s_ (fun K122 hK122 => ?_)
          refine pu_ (v := .bool false) (y_run (by rfl) (fun W => by have d := D51.out; go_simp)) ?_
          (try simp only [zP, zN, zA, zB, zC])
          refine pu_ (v := .bool false) (y_assign rfl (by rfl) (by rfl)) ?_
          (try simp only [zP, zN, zA, zB, zC])
          refine nl_ (hK122 _ _ ?_); clear hK122 K122
          refine wp_cond_false rfl ?_
          refine s_ (fun K123 hK123 => ?_)
          refine pu_ (v := .bool true) (y_run (by rfl) (fun W => by have d := D59.out; go_simp)) ?_
          (try simp only [zP, zN, zA, zB, zC])
          refine pu_ (v := .bool true) (y_assign rfl (by rfl) (by rfl)) ?_
          (try simp only [zP, zN, zA, zB, zC])
          refine nl_ (hK123 _ _ ?_); clear hK123 K123
          refine wp_cond_true rfl ?_
          refine s_ (fun K124 hK124 => ?_)
          refine pu_ (v := .pointer (some ⟨x, 0, none⟩)) (y_move rfl (by rfl) (by rfl)) ?_
          (try simp only [zP, zN, zA, zB, zC])
          refine pu_ (v := .pointer (some ⟨g79, 1, none⟩)) (y_run (by rfl) (fun W => by go_simp)) ?_
          (try simp only [zP, zN, zA, zB, zC])
          refine ld_ (v := .int .i64 o.id) rfl (by rfl) (by rfl) (run_load_one ((Fg79.out.cell 1).trans rfl) Tryd.underlying3 rfl) ?_
          (try simp only [zP, zN, zA, zB, zC])
          refine pu_ (v := .pointer (some ⟨g79, 5, none⟩)) (y_run (by rfl) (fun W => by go_simp)) ?_
          (try simp only [zP, zN, zA, zB, zC])
          refine ld_ (v := .string o.s) rfl (by rfl) (by rfl) (run_load_one ((Fg79.out.cell 5).trans rfl) Tryd.underlying9 rfl) ?_
          (try simp only [zP, zN, zA, zB, zC])
          refine ef_ (fun K125 hK125 => ?_)
          refine e_call Tryd.func9 (by kernel_rfl) rfl #[.pointer (some ⟨x, 0, none⟩), .int .i64 o.id, .string o.s] (by rfl) rfl rfl (by first | rfl | (simp only [List.map_toArray, List.map_cons, List.map_nil]; first | done | rfl)) ((by have h9 := write_l (id := o.id) (t := o.s) EX.out (by have := hfew.out.1; omega) (by have := hlt.out; omega) (by have := HSZ.out; omega); rw [HWN.out] at h9; exact h9)) ?_
          rintro en w127 ⟨rfl, Bs126, bk, cc, bel⟩
          refine ⟨_, rfl, ?_⟩
          have hs128 := Lib.hid (show g79 ∉ Bs126 from fun h9 => (bel _ h9).elim hs85.out (fun h8 => by have := Fg79.out.lt; omega))
          have hr129 := Lib.hid (show ∀ k_, k_ ∈ rl (.slice (some ⟨gw, 0, none⟩) 200 200) → k_ ∉ Bs126 from fun k_ hk_ hB_ => (bel k_ hB_).elim (hrsw.out k_ hk_) (fun h8 => by have := (OW.out.lt k_ hk_).2; omega))
          have hr130 := Lib.hid (show ∀ k_, k_ ∈ rl (.slice (some ⟨gr, 0, none⟩) 200 200) → k_ ∉ Bs126 from fun k_ hk_ hB_ => (bel k_ hB_).elim (hrsr.out k_ hk_) (fun h8 => by have := (OR.out.lt k_ hk_).2; omega))
          have hr131 := Lib.hid (show ∀ k_, k_ ∈ xb (.slice (some a) L.length z) → k_ ∉ Bs126 from fun k_ hk_ hB_ => (bel k_ hB_).elim (hxs.out k_ hk_) (fun h8 => by have := SL.out.lt (by decide) k_ hk_; omega))
          have C0' := Lib.hid (show Ch [] w w127 from C0.out.trans' cc (fun x hx => .inr (EX.out.lt x hx).1))
          have OW' := Lib.hid (show OwnS w127 w.heap.size 9 1 (.slice (some ⟨gw, 0, none⟩) 200 200) (200) ((lw).flatMap strC) from OW.out.ch cc hrsw.out)
          have OR' := Lib.hid (show OwnS w127 w.heap.size 9 1 (.slice (some ⟨gr, 0, none⟩) 200 200) (200) ((lr).flatMap strC) from OR.out.ch cc hrsr.out)
          have SL' := Lib.hid (show SrcIs w127 (.slice (some a) L.length z) (L.length) (L.flatMap actC) 6 from SL.out.chx cc hxs.out)
          have Fg79' := Lib.hid (show Blk w127 g79 (#[.int .i64 o.kind, .int .i64 o.id, .int .i64 o.box, .int .i64 o.ctr, .int .i64 o.n, .string o.s]) 28 from cc.blk Fg79.out hs85.out)
          clear C0 OW OR SL Fg79
          have C0 := C0'; clear C0'
          have OW := OW'; clear OW'
          have OR := OR'; clear OR'
          have SL := SL'; clear SL'
          have Fg79 := Fg79'; clear Fg79'
          clear EX cc bel
          have EX := Lib.hid (show ExIs w127 w.heap.size Bs126 x (64 * k + 64) (writeS E o.id o.s) from bk)
          clear bk
          refine hK125 _ _ ?_; clear hK125 K125
          (try simp only [zP, zN, zA, zB, zC])
          refine pu_ (v := .tuple #[.int .i64 n, .int .i64 (writeR E o.id o.s).2]) (y_move rfl (by rfl) (by rfl)) ?_
          (try simp only [zP, zN, zA, zB, zC])
          refine pu_ (v := .int .i64 n) (y_run (by rfl) (fun W => by go_simp)) ?_
          (try simp only [zP, zN, zA, zB, zC])
          refine pu_ (v := .int .i64 (writeR E o.id o.s).2) (y_run (by rfl) (fun W => by go_simp)) ?_
          (try simp only [zP, zN, zA, zB, zC])
          refine pu_ (v := .int .i64 n) (y_assign rfl (by rfl) (by rfl)) ?_
          (try simp only [zP, zN, zA, zB, zC])
          refine pu_ (v := .int .i64 (writeR E o.id o.s).2) (y_assign rfl (by rfl) (by rfl)) ?_
          (try simp only [zP, zN, zA, zB, zC])
          refine nl_ (hK124 _ _ ?_); clear hK124 K124
          refine s_ (fun K132 hK132 => ?_)
          refine pu_ (v := .int .i64 (writeR E o.id o.s).2) (y_move rfl (by rfl) (by rfl)) ?_
          (try simp only [zP, zN, zA, zB, zC])
          refine pu_ (v := .bool false) (y_run (by rfl) (fun W => by have d := D70.out; go_simp)) ?_
          (try simp only [zP, zN, zA, zB, zC])
          refine pu_ (v := .bool false) (y_move rfl (by rfl) (by rfl)) ?_
          (try simp only [zP, zN, zA, zB, zC])
          refine pu_ (y_off (by rfl)) ?_
          (try simp only [zP, zN, zA, zB, zC])
          refine pu_ (y_off (by rfl)) ?_
          (try simp only [zP, zN, zA, zB, zC])
          refine pu_ (y_off (by rfl)) ?_
          (try simp only [zP, zN, zA, zB, zC])
          refine pu_ (v := .bool false) (y_pick (t := false) (by rfl) rfl (by rfl) (by rfl)) ?_
          (try simp only [zP, zN, zA, zB, zC])
          refine pu_ (v := .bool false) (y_move rfl (by rfl) (by rfl)) ?_
          (try simp only [zP, zN, zA, zB, zC])
          refine pu_ (y_off (by rfl)) ?_
          (try simp only [zP, zN, zA, zB, zC])
          refine pu_ (y_off (by rfl)) ?_
          (try simp only [zP, zN, zA, zB, zC])
          refine pu_ (y_off (by rfl)) ?_
          (try simp only [zP, zN, zA, zB, zC])
          refine pu_ (v := .bool false) (y_pick (t := false) (by rfl) rfl (by rfl) (by rfl)) ?_
          (try simp only [zP, zN, zA, zB, zC])
          refine pu_ (v := .bool false) (y_move rfl (by rfl) (by rfl)) ?_
          (try simp only [zP, zN, zA, zB, zC])
          refine pu_ (y_off (by rfl)) ?_
          (try simp only [zP, zN, zA, zB, zC])
          refine pu_ (y_off (by rfl)) ?_
          (try simp only [zP, zN, zA, zB, zC])
          refine pu_ (v := .bool false) (y_pick (t := false) (by rfl) rfl (by rfl) (by rfl)) ?_
          (try simp only [zP, zN, zA, zB, zC])
          refine pu_ (v := .bool false) (y_move rfl (by rfl) (by rfl)) ?_
          (try simp only [zP, zN, zA, zB, zC])
          refine pu_ (y_off (by rfl)) ?_
          (try simp only [zP, zN, zA, zB, zC])
          refine pu_ (y_off (by rfl)) ?_
          (try simp only [zP, zN, zA, zB, zC])
          refine pu_ (y_off (by rfl)) ?_
          (try simp only [zP, zN, zA, zB, zC])
          refine pu_ (y_off (by rfl)) ?_
          (try simp only [zP, zN, zA, zB, zC])
          refine pu_ (y_off (by rfl)) ?_
          (try simp only [zP, zN, zA, zB, zC])
          refine pu_ (v := .bool false) (y_pick (t := false) (by rfl) rfl (by rfl) (by rfl)) ?_
          (try simp only [zP, zN, zA, zB, zC])
          refine nl_ (hK132 _ _ ?_); clear hK132 K132
          refine wp_cond_false rfl ?_
          refine wp_skip ?_
          refine ib_norm ?_
          refine ib_norm ?_
          refine th_norm (hK76 _ _ ?_); try clear hK76 K76
          refine r_ ?_
          refine pu_ (v := .int .i64 k) (y_move rfl (by rfl) (by rfl)) ?_
          (try simp only [zP, zN, zA, zB, zC])
          refine pu_ (v := .int .i64 (k + 1 : Nat)) (y_run (by rfl) (fun W => by have d := Wk.out; go_simp)) ?_
          (try simp only [zP, zN, zA, zB, zC])
          refine pu_ (v := .int .i64 (k + 1 : Nat)) (y_assign rfl (by rfl) (by rfl)) ?_
          (try simp only [zP, zN, zA, zB, zC])
          refine nl_ ?_
          exact th_norm (hK73 (kq - 1) _ _ (by have := hlt.out; have := hk.out; omega) ⟨k + 1, Bs126, writeS E o.id o.s, lw, lr, fun us_ => (#[.slice (some a) L.length z, us 1, .bool false, .pointer (some ⟨x, 0, none⟩), .slice (some ⟨gw, 0, none⟩) 200 200, .slice (some ⟨gr, 0, none⟩) 200 200, .int .i64 (k + 1 : Nat), .pointer (some ⟨g79, 0, none⟩), .int .i64 n, .int .i64 (writeR E o.id o.s).2, us 10, us 11, us 12, us 13, us 14, us 15, us 16, us 17, us 18, us 19, us 20, us 21, us 22, us 23, .int .i64 k, .slice (some a) L.length z, .int .i64 L.length, .bool true, .bool true, .int .i64 k, .bool true, .bool true, .int .i64 k, .int .i64 (k + 1 : Nat), .slice (some a) L.length z, .int .i64 k, .pointer (some (a.add (k * 6))), .agg #[.int .i64 o.kind, .int .i64 o.id, .int .i64 o.box, .int .i64 o.ctr, .int .i64 o.n, .string o.s], .pointer (some ⟨g79, 5, none⟩), .string o.s, .int .i64 o.s.size, .bool false, .pointer (some ⟨g79, 0, none⟩), .int .i64 o.kind, us 44, us 45, us 46, us 47, us 48, us 49, .bool false, .bool false, us 52, us 53, us 54, us 55, us 56, us 57, .bool true, .bool true, .tuple #[.int .i64 n, .int .i64 (writeR E o.id o.s).2], .pointer (some ⟨x, 0, none⟩), .pointer (some ⟨g79, 1, none⟩), .int .i64 o.id, .pointer (some ⟨g79, 5, none⟩), .string o.s, .tuple #[.int .i64 n, .int .i64 (writeR E o.id o.s).2], .int .i64 n, .int .i64 (writeR E o.id o.s).2, .int .i64 (writeR E o.id o.s).2, .bool false, .bool false, undef, undef, undef, .bool false, .bool false, undef, undef, undef, .bool false, .bool false, undef, undef, .bool false, .bool false, undef, undef, undef, undef, undef, .bool false, us 92, us 93, us 94, us 95, us 96, us 97, us 98, us 99, us 100, us 101, us 102, us 103, us 104, us 105, us 106, us 107, us 108, us 109, us 110, us 111, us 112, us 113, us 114, us 115, us 116, us 117, us 118, us 119, us 120, us 121, us 122, us 123, us 124, us 125, us 126, us 127, us 128, us 129, us 130, us 131, us 132, us 133, us 134, us 135, us 136, us 137, us 138, us 139, us 140, us 141, us 142, us 143, us 144, us 145, us 146, us 147, us 148, us 149, us 150, us 151, us 152, us 153, us 154, us 155, us 156, us 157, us 158, us 159, us 160, us 161, us 162, us 163, us 164, us 165, us 166, us 167, us 168, us 169, us 170, us 171, us 172, us 173, us 174, us 175, us 176, us 177, us 178, us 179, us 180, us 181, us 182, us 183, us 184, us 185, us 186, us 187, us 188, us 189, us 190, us 191, us 192, us 193, us 194, us 195, us 196, us 197, us 198] : Array Value).getD us_ undef, rfl, C0, Lib.hid (EX.out.up (by omega)), OW, OR, SL, Lib.hid ⟨by have := hlt.out; omega, by have := hlt.out; omega, by have := hlt.out; have := hk.out; omega⟩, Lib.hid (few_write hfew.out o.id o.s), Lib.hid ⟨hln.out.1, hln.out.2⟩, Lib.hid (wrote_n hpi.out HWC.out), Lib.hid (sz_up hzw.out (by omega)), Lib.hid (sz_up hzr.out (by omega)), hr129, hr130, hr131, Lib.hid (hxw.out), Lib.hid (hxr.out)⟩)
        · have D51 := Lib.hid (show ¬ o.kind = 0 by omega)
          have D59 := Lib.hid (show ¬ o.kind = 1 by omega)
          have D104 := Lib.hid (show  o.kind = 2 by omega)
          clear h
          have HRC := Lib.hid h2
          clear h2
          have HRZ := Lib.hid (read_size (id := o.id) (m := o.n) EX.out.qs)
          obtain ⟨i, hi1, hi2, hi3⟩ := nat_of (read_id hpi.out HRC.out)
          have hi4 := hfew.out.2
          have HI := Lib.hid hi1
          have HIB := Lib.hid (show 1 ≤ i ∧ i < 200 by have := hlt.out; omega)
          clear hi1 hi2 hi3 hi4
          obtain ⟨tw, ht1, ht2⟩ := txt hln.out.2 HIB.out.2
          have HTW := Lib.hid ht1
          have HTZ := Lib.hid (hzr.out _ ht2)
          clear ht1 ht2
          have D119 := Lib.hid (show (0 : Int) < o.id by have := HI.out; have := HIB.out; omega)
          have D124 := Lib.hid (show o.id < 200 by have := HI.out; have := HIB.out; omega)
          have D95 := Lib.hid (show (i : Int) < 200 by have := HIB.out; omega)
          have D132 := Lib.hid (show tw.size + (readR E o.id o.n).1.size ≤ 9223372036854775807 by have := HTZ.out; have := HRZ.out; have := hlt.out; omega)
          refine s_ (fun K133 hK133 => ?_)
          refine pu_ (v := .bool false) (y_run (by rfl) (fun W => by have d := D51.out; go_simp)) ?_
          (try simp only [zP, zN, zA, zB, zC])
          refine pu_ (v := .bool false) (y_assign rfl (by rfl) (by rfl)) ?_
          (try simp only [zP, zN, zA, zB, zC])
          refine nl_ (hK133 _ _ ?_); clear hK133 K133
          refine wp_cond_false rfl ?_
          refine s_ (fun K134 hK134 => ?_)
          refine pu_ (v := .bool false) (y_run (by rfl) (fun W => by have d := D59.out; go_simp)) ?_
          (try simp only [zP, zN, zA, zB, zC])
          refine pu_ (v := .bool false) (y_assign rfl (by rfl) (by rfl)) ?_
          (try simp only [zP, zN, zA, zB, zC])
          refine nl_ (hK134 _ _ ?_); clear hK134 K134
          refine wp_cond_false rfl ?_
          refine s_ (fun K135 hK135 => ?_)
          refine pu_ (v := .bool true) (y_run (by rfl) (fun W => by have d := D104.out; go_simp)) ?_
          (try simp only [zP, zN, zA, zB, zC])
          refine pu_ (v := .bool true) (y_assign rfl (by rfl) (by rfl)) ?_
          (try simp only [zP, zN, zA, zB, zC])
          refine nl_ (hK135 _ _ ?_); clear hK135 K135
          refine wp_cond_true rfl ?_
          refine s_ (fun K136 hK136 => ?_)
          refine pu_ (v := .pointer (some ⟨x, 0, none⟩)) (y_move rfl (by rfl) (by rfl)) ?_
          (try simp only [zP, zN, zA, zB, zC])
          refine pu_ (v := .pointer (some ⟨g79, 1, none⟩)) (y_run (by rfl) (fun W => by go_simp)) ?_
          (try simp only [zP, zN, zA, zB, zC])
          refine ld_ (v := .int .i64 o.id) rfl (by rfl) (by rfl) (run_load_one ((Fg79.out.cell 1).trans rfl) Tryd.underlying3 rfl) ?_
          (try simp only [zP, zN, zA, zB, zC])
          refine pu_ (v := .pointer (some ⟨g79, 4, none⟩)) (y_run (by rfl) (fun W => by go_simp)) ?_
          (try simp only [zP, zN, zA, zB, zC])
          refine ld_ (v := .int .i64 o.n) rfl (by rfl) (by rfl) (run_load_one ((Fg79.out.cell 4).trans rfl) Tryd.underlying3 rfl) ?_
          (try simp only [zP, zN, zA, zB, zC])
          refine ef_ (fun K137 hK137 => ?_)
          refine e_call Tryd.func10 (by kernel_rfl) rfl #[.pointer (some ⟨x, 0, none⟩), .int .i64 o.id, .int .i64 o.n] (by rfl) rfl rfl (by first | rfl | (simp only [List.map_toArray, List.map_cons, List.map_nil]; first | done | rfl)) ((by have h9 := read_l (id := o.id) (m := o.n) EX.out (by have := hfew.out.1; omega) (by have := hlt.out; omega) hok.out; rw [HRC.out] at h9; exact h9)) ?_
          rintro en w139 ⟨rfl, Bs138, bk, cc, bel⟩
          refine ⟨_, rfl, ?_⟩
          have hs140 := Lib.hid (show g79 ∉ Bs138 from fun h9 => (bel _ h9).elim hs85.out (fun h8 => by have := Fg79.out.lt; omega))
          have hr141 := Lib.hid (show ∀ k_, k_ ∈ rl (.slice (some ⟨gw, 0, none⟩) 200 200) → k_ ∉ Bs138 from fun k_ hk_ hB_ => (bel k_ hB_).elim (hrsw.out k_ hk_) (fun h8 => by have := (OW.out.lt k_ hk_).2; omega))
          have hr142 := Lib.hid (show ∀ k_, k_ ∈ rl (.slice (some ⟨gr, 0, none⟩) 200 200) → k_ ∉ Bs138 from fun k_ hk_ hB_ => (bel k_ hB_).elim (hrsr.out k_ hk_) (fun h8 => by have := (OR.out.lt k_ hk_).2; omega))
          have hr143 := Lib.hid (show ∀ k_, k_ ∈ xb (.slice (some a) L.length z) → k_ ∉ Bs138 from fun k_ hk_ hB_ => (bel k_ hB_).elim (hxs.out k_ hk_) (fun h8 => by have := SL.out.lt (by decide) k_ hk_; omega))
          have C0' := Lib.hid (show Ch [] w w139 from C0.out.trans' cc (fun x hx => .inr (EX.out.lt x hx).1))
          have OW' := Lib.hid (show OwnS w139 w.heap.size 9 1 (.slice (some ⟨gw, 0, none⟩) 200 200) (200) ((lw).flatMap strC) from OW.out.ch cc hrsw.out)
          have OR' := Lib.hid (show OwnS w139 w.heap.size 9 1 (.slice (some ⟨gr, 0, none⟩) 200 200) (200) ((lr).flatMap strC) from OR.out.ch cc hrsr.out)
          have SL' := Lib.hid (show SrcIs w139 (.slice (some a) L.length z) (L.length) (L.flatMap actC) 6 from SL.out.chx cc hxs.out)
          have Fg79' := Lib.hid (show Blk w139 g79 (#[.int .i64 o.kind, .int .i64 o.id, .int .i64 o.box, .int .i64 o.ctr, .int .i64 o.n, .string o.s]) 28 from cc.blk Fg79.out hs85.out)
          clear C0 OW OR SL Fg79
          have C0 := C0'; clear C0'
          have OW := OW'; clear OW'
          have OR := OR'; clear OR'
          have SL := SL'; clear SL'
          have Fg79 := Fg79'; clear Fg79'
          clear EX cc bel
          have EX := Lib.hid (show ExIs w139 w.heap.size Bs138 x (64 * k) (readS E o.id o.n) from bk)
          clear bk
          refine hK137 _ _ ?_; clear hK137 K137
          (try simp only [zP, zN, zA, zB, zC])
          refine pu_ (v := .tuple #[.string (readR E o.id o.n).1, .int .i64 0]) (y_move rfl (by rfl) (by rfl)) ?_
          (try simp only [zP, zN, zA, zB, zC])
          refine pu_ (v := .string (readR E o.id o.n).1) (y_run (by rfl) (fun W => by go_simp)) ?_
          (try simp only [zP, zN, zA, zB, zC])
          refine pu_ (v := .int .i64 0) (y_run (by rfl) (fun W => by go_simp)) ?_
          (try simp only [zP, zN, zA, zB, zC])
          refine pu_ (v := .string (readR E o.id o.n).1) (y_assign rfl (by rfl) (by rfl)) ?_
          (try simp only [zP, zN, zA, zB, zC])
          refine pu_ (v := .int .i64 0) (y_assign rfl (by rfl) (by rfl)) ?_
          (try simp only [zP, zN, zA, zB, zC])
          refine nl_ (hK136 _ _ ?_); clear hK136 K136
          refine s_ (fun K144 hK144 => ?_)
          refine pu_ (v := .int .i64 0) (y_move rfl (by rfl) (by rfl)) ?_
          (try simp only [zP, zN, zA, zB, zC])
          refine pu_ (v := .bool true) (y_run (by rfl) (fun W => by first | (go_simp; done) | (go_simp; rfl) | (go_simp; decide))) ?_
          (try simp only [zP, zN, zA, zB, zC])
          refine pu_ (v := .bool true) (y_move rfl (by rfl) (by rfl)) ?_
          (try simp only [zP, zN, zA, zB, zC])
          refine pu_ (v := .pointer (some ⟨g79, 1, none⟩)) (y_run (by rfl) (fun W => by go_simp)) ?_
          (try simp only [zP, zN, zA, zB, zC])
          refine ld_ (v := .int .i64 o.id) rfl (by rfl) (by rfl) (run_load_one ((Fg79.out.cell 1).trans rfl) Tryd.underlying3 rfl) ?_
          (try simp only [zP, zN, zA, zB, zC])
          refine pu_ (v := .bool true) (y_run (by rfl) (fun W => by have d := D119.out; go_simp)) ?_
          (try simp only [zP, zN, zA, zB, zC])
          refine pu_ (v := .bool true) (y_pick (t := true) (by rfl) rfl (by rfl) (by rfl)) ?_
          (try simp only [zP, zN, zA, zB, zC])
          refine pu_ (v := .bool true) (y_move rfl (by rfl) (by rfl)) ?_
          (try simp only [zP, zN, zA, zB, zC])
          refine pu_ (v := .pointer (some ⟨g79, 1, none⟩)) (y_run (by rfl) (fun W => by go_simp)) ?_
          (try simp only [zP, zN, zA, zB, zC])
          refine ld_ (v := .int .i64 o.id) rfl (by rfl) (by rfl) (run_load_one ((Fg79.out.cell 1).trans rfl) Tryd.underlying3 rfl) ?_
          (try simp only [zP, zN, zA, zB, zC])
          refine pu_ (v := .bool true) (y_run (by rfl) (fun W => by have d := D124.out; go_simp)) ?_
          (try simp only [zP, zN, zA, zB, zC])
          refine pu_ (v := .bool true) (y_pick (t := true) (by rfl) rfl (by rfl) (by rfl)) ?_
          (try simp only [zP, zN, zA, zB, zC])
          refine nl_ (hK144 _ _ ?_); clear hK144 K144
          refine wp_cond_true rfl ?_
          refine r_ ?_
          refine pu_ (v := .slice (some ⟨gr, 0, none⟩) 200 200) (y_move rfl (by rfl) (by rfl)) ?_
          (try simp only [zP, zN, zA, zB, zC])
          refine pu_ (v := .pointer (some ⟨g79, 1, none⟩)) (y_run (by rfl) (fun W => by go_simp)) ?_
          (try simp only [zP, zN, zA, zB, zC])
          refine ld_ (v := .int .i64 o.id) rfl (by rfl) (by rfl) (run_load_one ((Fg79.out.cell 1).trans rfl) Tryd.underlying3 rfl) ?_
          (try simp only [zP, zN, zA, zB, zC])
          refine pu_ (v := .pointer (some ⟨gr, i, none⟩)) (y_run (by rfl) (fun W => by have d3 := D95.out; rw [HI.out]; go_simp)) ?_
          (try simp only [zP, zN, zA, zB, zC])
          refine ld_ (v := .string tw) rfl (by rfl) (by rfl) (run_load_one (own_cell OR.out (flat_at HTW.out)) Tryd.underlying9 rfl) ?_
          (try simp only [zP, zN, zA, zB, zC])
          refine pu_ (v := .string (readR E o.id o.n).1) (y_move rfl (by rfl) (by rfl)) ?_
          (try simp only [zP, zN, zA, zB, zC])
          refine pu_ (v := .string (tw ++ (readR E o.id o.n).1)) (y_run (by rfl) (fun W => by have d := D132.out; go_simp)) ?_
          (try simp only [zP, zN, zA, zB, zC])
          refine pu_ (v := .pointer (some ⟨gr, i, none⟩)) (y_run (by rfl) (fun W => by have d3 := D95.out; rw [HI.out]; go_simp)) ?_
          (try simp only [zP, zN, zA, zB, zC])
          refine ef_ (fun K145 hK145 => ?_)
          refine e_storeS1 (by rfl) rfl rfl OR.out i (.string (tw ++ (readR E o.id o.n).1)) (by rfl) (by rfl) (by kernel_rfl) (by have := HIB.out; omega) rfl ?_
          rintro w146 O147 C148
          have RC148 := Lib.hid (show Ch (rl (.slice (some ⟨gr, 0, none⟩) 200 200)) w139 w146 from by rw [rl_some _ _ _ (by decide)]; exact C148)
          have C0' := Lib.hid (show Ch [] w w146 from C0.out.trans' RC148.out (fun x hx => .inr (OR.out.lt x hx).1))
          have EX' := Lib.hid (show ExIs w146 w.heap.size Bs138 x (64 * k) (readS E o.id o.n) from EX.out.ch RC148.out (fun k hk hm => hr142.out k hm hk))
          have OW' := Lib.hid (show OwnS w146 w.heap.size 9 1 (.slice (some ⟨gw, 0, none⟩) 200 200) (200) ((lw).flatMap strC) from OW.out.ch RC148.out hrr.out)
          have SL' := Lib.hid (show SrcIs w146 (.slice (some a) L.length z) (L.length) (L.flatMap actC) 6 from SL.out.chx RC148.out hxr.out)
          have Fg79' := Lib.hid (show Blk w146 g79 (#[.int .i64 o.kind, .int .i64 o.id, .int .i64 o.box, .int .i64 o.ctr, .int .i64 o.n, .string o.s]) 28 from RC148.out.blk Fg79.out (OR.out.ne Fg79.out (by decide)))
          clear C0 EX OW SL Fg79
          have C0 := C0'; clear C0'
          have EX := EX'; clear EX'
          have OW := OW'; clear OW'
          have SL := SL'; clear SL'
          have Fg79 := Fg79'; clear Fg79'
          clear OR
          have OR := Lib.hid (show OwnS w146 w.heap.size 9 1 (.slice (some ⟨gr, 0, none⟩) 200 200) (200) ((lr.set i (tw ++ (readR E o.id o.n).1)).flatMap strC) from by have h9 := O147; rw [flat_set] at h9; exact h9); clear O147 C148 RC148
          refine hK145 _ _ ?_; clear hK145 K145
          (try simp only [zP, zN, zA, zB, zC])
          refine nl_ ?_
          refine ib_norm ?_
          refine ib_norm ?_
          refine th_norm (hK76 _ _ ?_); try clear hK76 K76
          refine r_ ?_
          refine pu_ (v := .int .i64 k) (y_move rfl (by rfl) (by rfl)) ?_
          (try simp only [zP, zN, zA, zB, zC])
          refine pu_ (v := .int .i64 (k + 1 : Nat)) (y_run (by rfl) (fun W => by have d := Wk.out; go_simp)) ?_
          (try simp only [zP, zN, zA, zB, zC])
          refine pu_ (v := .int .i64 (k + 1 : Nat)) (y_assign rfl (by rfl) (by rfl)) ?_
          (try simp only [zP, zN, zA, zB, zC])
          refine nl_ ?_
          exact th_norm (hK73 (kq - 1) _ _ (by have := hlt.out; have := hk.out; omega) ⟨k + 1, Bs138, readS E o.id o.n, lw, lr.set i (tw ++ (readR E o.id o.n).1), fun us_ => (#[.slice (some a) L.length z, us 1, .bool false, .pointer (some ⟨x, 0, none⟩), .slice (some ⟨gw, 0, none⟩) 200 200, .slice (some ⟨gr, 0, none⟩) 200 200, .int .i64 (k + 1 : Nat), .pointer (some ⟨g79, 0, none⟩), us 8, us 9, .string (readR E o.id o.n).1, .int .i64 0, us 12, us 13, us 14, us 15, us 16, us 17, us 18, us 19, us 20, us 21, us 22, us 23, .int .i64 k, .slice (some a) L.length z, .int .i64 L.length, .bool true, .bool true, .int .i64 k, .bool true, .bool true, .int .i64 k, .int .i64 (k + 1 : Nat), .slice (some a) L.length z, .int .i64 k, .pointer (some (a.add (k * 6))), .agg #[.int .i64 o.kind, .int .i64 o.id, .int .i64 o.box, .int .i64 o.ctr, .int .i64 o.n, .string o.s], .pointer (some ⟨g79, 5, none⟩), .string o.s, .int .i64 o.s.size, .bool false, .pointer (some ⟨g79, 0, none⟩), .int .i64 o.kind, us 44, us 45, us 46, us 47, us 48, us 49, .bool false, .bool false, us 52, us 53, us 54, us 55, us 56, us 57, .bool false, .bool false, us 60, us 61, us 62, us 63, us 64, us 65, us 66, us 67, us 68, us 69, us 70, us 71, us 72, us 73, us 74, us 75, us 76, us 77, us 78, us 79, us 80, us 81, us 82, us 83, us 84, us 85, us 86, us 87, us 88, us 89, us 90, us 91, us 92, us 93, us 94, us 95, us 96, us 97, us 98, us 99, us 100, us 101, us 102, .bool true, .bool true, .tuple #[.string (readR E o.id o.n).1, .int .i64 0], .pointer (some ⟨x, 0, none⟩), .pointer (some ⟨g79, 1, none⟩), .int .i64 o.id, .pointer (some ⟨g79, 4, none⟩), .int .i64 o.n, .tuple #[.string (readR E o.id o.n).1, .int .i64 0], .string (readR E o.id o.n).1, .int .i64 0, .int .i64 0, .bool true, .bool true, .pointer (some ⟨g79, 1, none⟩), .int .i64 o.id, .bool true, .bool true, .bool true, .pointer (some ⟨g79, 1, none⟩), .int .i64 o.id, .bool true, .bool true, .slice (some ⟨gr, 0, none⟩) 200 200, .pointer (some ⟨g79, 1, none⟩), .int .i64 o.id, .pointer (some ⟨gr, i, none⟩), .string tw, .string (readR E o.id o.n).1, .string (tw ++ (readR E o.id o.n).1), .pointer (some ⟨gr, i, none⟩), us 134, us 135, us 136, us 137, us 138, us 139, us 140, us 141, us 142, us 143, us 144, us 145, us 146, us 147, us 148, us 149, us 150, us 151, us 152, us 153, us 154, us 155, us 156, us 157, us 158, us 159, us 160, us 161, us 162, us 163, us 164, us 165, us 166, us 167, us 168, us 169, us 170, us 171, us 172, us 173, us 174, us 175, us 176, us 177, us 178, us 179, us 180, us 181, us 182, us 183, us 184, us 185, us 186, us 187, us 188, us 189, us 190, us 191, us 192, us 193, us 194, us 195, us 196, us 197, us 198] : Array Value).getD us_ undef, rfl, C0, Lib.hid (EX.out.up (by omega)), OW, OR, SL, Lib.hid ⟨by have := hlt.out; omega, by have := hlt.out; omega, by have := hlt.out; have := hk.out; omega⟩, Lib.hid (few_read hfew.out o.id o.n), Lib.hid ⟨hln.out.1, by rw [List.length_set]; exact hln.out.2⟩, Lib.hid (reads_p hpi.out HI.out HTW.out HRC.out), Lib.hid (sz_up hzw.out (by omega)), Lib.hid (sz_set hzr.out (by omega) (by rw [ByteArray.size_append]; have := HTZ.out; have := HRZ.out; omega)), hr141, hr142, hr143, Lib.hid (hxw.out), Lib.hid (hxr.out)⟩)
        · have D51 := Lib.hid (show ¬ o.kind = 0 by omega)
          have D59 := Lib.hid (show ¬ o.kind = 1 by omega)
          have D104 := Lib.hid (show  o.kind = 2 by omega)
          clear h
          have HRC := Lib.hid h2
          clear h2
          have HRZ := Lib.hid (read_size (id := o.id) (m := o.n) EX.out.qs)
          have D115 := Lib.hid HRC.out
          refine s_ (fun K149 hK149 => ?_)
          refine pu_ (v := .bool false) (y_run (by rfl) (fun W => by have d := D51.out; go_simp)) ?_
          (try simp only [zP, zN, zA, zB, zC])
          refine pu_ (v := .bool false) (y_assign rfl (by rfl) (by rfl)) ?_
          (try simp only [zP, zN, zA, zB, zC])
          refine nl_ (hK149 _ _ ?_); clear hK149 K149
          refine wp_cond_false rfl ?_
          refine s_ (fun K150 hK150 => ?_)
          refine pu_ (v := .bool false) (y_run (by rfl) (fun W => by have d := D59.out; go_simp)) ?_
          (try simp only [zP, zN, zA, zB, zC])
          refine pu_ (v := .bool false) (y_assign rfl (by rfl) (by rfl)) ?_
          (try simp only [zP, zN, zA, zB, zC])
          refine nl_ (hK150 _ _ ?_); clear hK150 K150
          refine wp_cond_false rfl ?_
          refine s_ (fun K151 hK151 => ?_)
          refine pu_ (v := .bool true) (y_run (by rfl) (fun W => by have d := D104.out; go_simp)) ?_
          (try simp only [zP, zN, zA, zB, zC])
          refine pu_ (v := .bool true) (y_assign rfl (by rfl) (by rfl)) ?_
          (try simp only [zP, zN, zA, zB, zC])
          refine nl_ (hK151 _ _ ?_); clear hK151 K151
          refine wp_cond_true rfl ?_
          refine s_ (fun K152 hK152 => ?_)
          refine pu_ (v := .pointer (some ⟨x, 0, none⟩)) (y_move rfl (by rfl) (by rfl)) ?_
          (try simp only [zP, zN, zA, zB, zC])
          refine pu_ (v := .pointer (some ⟨g79, 1, none⟩)) (y_run (by rfl) (fun W => by go_simp)) ?_
          (try simp only [zP, zN, zA, zB, zC])
          refine ld_ (v := .int .i64 o.id) rfl (by rfl) (by rfl) (run_load_one ((Fg79.out.cell 1).trans rfl) Tryd.underlying3 rfl) ?_
          (try simp only [zP, zN, zA, zB, zC])
          refine pu_ (v := .pointer (some ⟨g79, 4, none⟩)) (y_run (by rfl) (fun W => by go_simp)) ?_
          (try simp only [zP, zN, zA, zB, zC])
          refine ld_ (v := .int .i64 o.n) rfl (by rfl) (by rfl) (run_load_one ((Fg79.out.cell 4).trans rfl) Tryd.underlying3 rfl) ?_
          (try simp only [zP, zN, zA, zB, zC])
          refine ef_ (fun K153 hK153 => ?_)
          refine e_call Tryd.func10 (by kernel_rfl) rfl #[.pointer (some ⟨x, 0, none⟩), .int .i64 o.id, .int .i64 o.n] (by rfl) rfl rfl (by first | rfl | (simp only [List.map_toArray, List.map_cons, List.map_nil]; first | done | rfl)) ((by have h9 := read_l (id := o.id) (m := o.n) EX.out (by have := hfew.out.1; omega) (by have := hlt.out; omega) hok.out; exact h9)) ?_
          rintro en w155 ⟨rfl, Bs154, bk, cc, bel⟩
          refine ⟨_, rfl, ?_⟩
          have hs156 := Lib.hid (show g79 ∉ Bs154 from fun h9 => (bel _ h9).elim hs85.out (fun h8 => by have := Fg79.out.lt; omega))
          have hr157 := Lib.hid (show ∀ k_, k_ ∈ rl (.slice (some ⟨gw, 0, none⟩) 200 200) → k_ ∉ Bs154 from fun k_ hk_ hB_ => (bel k_ hB_).elim (hrsw.out k_ hk_) (fun h8 => by have := (OW.out.lt k_ hk_).2; omega))
          have hr158 := Lib.hid (show ∀ k_, k_ ∈ rl (.slice (some ⟨gr, 0, none⟩) 200 200) → k_ ∉ Bs154 from fun k_ hk_ hB_ => (bel k_ hB_).elim (hrsr.out k_ hk_) (fun h8 => by have := (OR.out.lt k_ hk_).2; omega))
          have hr159 := Lib.hid (show ∀ k_, k_ ∈ xb (.slice (some a) L.length z) → k_ ∉ Bs154 from fun k_ hk_ hB_ => (bel k_ hB_).elim (hxs.out k_ hk_) (fun h8 => by have := SL.out.lt (by decide) k_ hk_; omega))
          have C0' := Lib.hid (show Ch [] w w155 from C0.out.trans' cc (fun x hx => .inr (EX.out.lt x hx).1))
          have OW' := Lib.hid (show OwnS w155 w.heap.size 9 1 (.slice (some ⟨gw, 0, none⟩) 200 200) (200) ((lw).flatMap strC) from OW.out.ch cc hrsw.out)
          have OR' := Lib.hid (show OwnS w155 w.heap.size 9 1 (.slice (some ⟨gr, 0, none⟩) 200 200) (200) ((lr).flatMap strC) from OR.out.ch cc hrsr.out)
          have SL' := Lib.hid (show SrcIs w155 (.slice (some a) L.length z) (L.length) (L.flatMap actC) 6 from SL.out.chx cc hxs.out)
          have Fg79' := Lib.hid (show Blk w155 g79 (#[.int .i64 o.kind, .int .i64 o.id, .int .i64 o.box, .int .i64 o.ctr, .int .i64 o.n, .string o.s]) 28 from cc.blk Fg79.out hs85.out)
          clear C0 OW OR SL Fg79
          have C0 := C0'; clear C0'
          have OW := OW'; clear OW'
          have OR := OR'; clear OR'
          have SL := SL'; clear SL'
          have Fg79 := Fg79'; clear Fg79'
          clear EX cc bel
          have EX := Lib.hid (show ExIs w155 w.heap.size Bs154 x (64 * k) (readS E o.id o.n) from bk)
          clear bk
          refine hK153 _ _ ?_; clear hK153 K153
          (try simp only [zP, zN, zA, zB, zC])
          refine pu_ (v := .tuple #[.string (readR E o.id o.n).1, .int .i64 (readR E o.id o.n).2]) (y_move rfl (by rfl) (by rfl)) ?_
          (try simp only [zP, zN, zA, zB, zC])
          refine pu_ (v := .string (readR E o.id o.n).1) (y_run (by rfl) (fun W => by go_simp)) ?_
          (try simp only [zP, zN, zA, zB, zC])
          refine pu_ (v := .int .i64 (readR E o.id o.n).2) (y_run (by rfl) (fun W => by go_simp)) ?_
          (try simp only [zP, zN, zA, zB, zC])
          refine pu_ (v := .string (readR E o.id o.n).1) (y_assign rfl (by rfl) (by rfl)) ?_
          (try simp only [zP, zN, zA, zB, zC])
          refine pu_ (v := .int .i64 (readR E o.id o.n).2) (y_assign rfl (by rfl) (by rfl)) ?_
          (try simp only [zP, zN, zA, zB, zC])
          refine nl_ (hK152 _ _ ?_); clear hK152 K152
          refine s_ (fun K160 hK160 => ?_)
          refine pu_ (v := .int .i64 (readR E o.id o.n).2) (y_move rfl (by rfl) (by rfl)) ?_
          (try simp only [zP, zN, zA, zB, zC])
          refine pu_ (v := .bool false) (y_run (by rfl) (fun W => by have d := D115.out; go_simp)) ?_
          (try simp only [zP, zN, zA, zB, zC])
          refine pu_ (v := .bool false) (y_move rfl (by rfl) (by rfl)) ?_
          (try simp only [zP, zN, zA, zB, zC])
          refine pu_ (y_off (by rfl)) ?_
          (try simp only [zP, zN, zA, zB, zC])
          refine pu_ (y_off (by rfl)) ?_
          (try simp only [zP, zN, zA, zB, zC])
          refine pu_ (y_off (by rfl)) ?_
          (try simp only [zP, zN, zA, zB, zC])
          refine pu_ (v := .bool false) (y_pick (t := false) (by rfl) rfl (by rfl) (by rfl)) ?_
          (try simp only [zP, zN, zA, zB, zC])
          refine pu_ (v := .bool false) (y_move rfl (by rfl) (by rfl)) ?_
          (try simp only [zP, zN, zA, zB, zC])
          refine pu_ (y_off (by rfl)) ?_
          (try simp only [zP, zN, zA, zB, zC])
          refine pu_ (y_off (by rfl)) ?_
          (try simp only [zP, zN, zA, zB, zC])
          refine pu_ (y_off (by rfl)) ?_
          (try simp only [zP, zN, zA, zB, zC])
          refine pu_ (v := .bool false) (y_pick (t := false) (by rfl) rfl (by rfl) (by rfl)) ?_
          (try simp only [zP, zN, zA, zB, zC])
          refine nl_ (hK160 _ _ ?_); clear hK160 K160
          refine wp_cond_false rfl ?_
          refine wp_skip ?_
          refine ib_norm ?_
          refine ib_norm ?_
          refine th_norm (hK76 _ _ ?_); try clear hK76 K76
          refine r_ ?_
          refine pu_ (v := .int .i64 k) (y_move rfl (by rfl) (by rfl)) ?_
          (try simp only [zP, zN, zA, zB, zC])
          refine pu_ (v := .int .i64 (k + 1 : Nat)) (y_run (by rfl) (fun W => by have d := Wk.out; go_simp)) ?_
          (try simp only [zP, zN, zA, zB, zC])
          refine pu_ (v := .int .i64 (k + 1 : Nat)) (y_assign rfl (by rfl) (by rfl)) ?_
          (try simp only [zP, zN, zA, zB, zC])
          refine nl_ ?_
          exact th_norm (hK73 (kq - 1) _ _ (by have := hlt.out; have := hk.out; omega) ⟨k + 1, Bs154, readS E o.id o.n, lw, lr, fun us_ => (#[.slice (some a) L.length z, us 1, .bool false, .pointer (some ⟨x, 0, none⟩), .slice (some ⟨gw, 0, none⟩) 200 200, .slice (some ⟨gr, 0, none⟩) 200 200, .int .i64 (k + 1 : Nat), .pointer (some ⟨g79, 0, none⟩), us 8, us 9, .string (readR E o.id o.n).1, .int .i64 (readR E o.id o.n).2, us 12, us 13, us 14, us 15, us 16, us 17, us 18, us 19, us 20, us 21, us 22, us 23, .int .i64 k, .slice (some a) L.length z, .int .i64 L.length, .bool true, .bool true, .int .i64 k, .bool true, .bool true, .int .i64 k, .int .i64 (k + 1 : Nat), .slice (some a) L.length z, .int .i64 k, .pointer (some (a.add (k * 6))), .agg #[.int .i64 o.kind, .int .i64 o.id, .int .i64 o.box, .int .i64 o.ctr, .int .i64 o.n, .string o.s], .pointer (some ⟨g79, 5, none⟩), .string o.s, .int .i64 o.s.size, .bool false, .pointer (some ⟨g79, 0, none⟩), .int .i64 o.kind, us 44, us 45, us 46, us 47, us 48, us 49, .bool false, .bool false, us 52, us 53, us 54, us 55, us 56, us 57, .bool false, .bool false, us 60, us 61, us 62, us 63, us 64, us 65, us 66, us 67, us 68, us 69, us 70, us 71, us 72, us 73, us 74, us 75, us 76, us 77, us 78, us 79, us 80, us 81, us 82, us 83, us 84, us 85, us 86, us 87, us 88, us 89, us 90, us 91, us 92, us 93, us 94, us 95, us 96, us 97, us 98, us 99, us 100, us 101, us 102, .bool true, .bool true, .tuple #[.string (readR E o.id o.n).1, .int .i64 (readR E o.id o.n).2], .pointer (some ⟨x, 0, none⟩), .pointer (some ⟨g79, 1, none⟩), .int .i64 o.id, .pointer (some ⟨g79, 4, none⟩), .int .i64 o.n, .tuple #[.string (readR E o.id o.n).1, .int .i64 (readR E o.id o.n).2], .string (readR E o.id o.n).1, .int .i64 (readR E o.id o.n).2, .int .i64 (readR E o.id o.n).2, .bool false, .bool false, undef, undef, undef, .bool false, .bool false, undef, undef, undef, .bool false, us 126, us 127, us 128, us 129, us 130, us 131, us 132, us 133, us 134, us 135, us 136, us 137, us 138, us 139, us 140, us 141, us 142, us 143, us 144, us 145, us 146, us 147, us 148, us 149, us 150, us 151, us 152, us 153, us 154, us 155, us 156, us 157, us 158, us 159, us 160, us 161, us 162, us 163, us 164, us 165, us 166, us 167, us 168, us 169, us 170, us 171, us 172, us 173, us 174, us 175, us 176, us 177, us 178, us 179, us 180, us 181, us 182, us 183, us 184, us 185, us 186, us 187, us 188, us 189, us 190, us 191, us 192, us 193, us 194, us 195, us 196, us 197, us 198] : Array Value).getD us_ undef, rfl, C0, Lib.hid (EX.out.up (by omega)), OW, OR, SL, Lib.hid ⟨by have := hlt.out; omega, by have := hlt.out; omega, by have := hlt.out; have := hk.out; omega⟩, Lib.hid (few_read hfew.out o.id o.n), Lib.hid ⟨hln.out.1, hln.out.2⟩, Lib.hid (reads_n hpi.out HRC.out), Lib.hid (sz_up hzw.out (by omega)), Lib.hid (sz_up hzr.out (by omega)), hr157, hr158, hr159, Lib.hid (hxw.out), Lib.hid (hxr.out)⟩)
        · have D51 := Lib.hid (show ¬ o.kind = 0 by omega)
          have D59 := Lib.hid (show ¬ o.kind = 1 by omega)
          have D104 := Lib.hid (show ¬ o.kind = 2 by omega)
          have D135 := Lib.hid (show  o.kind = 3 by omega)
          clear h
          refine s_ (fun K161 hK161 => ?_)
          refine pu_ (v := .bool false) (y_run (by rfl) (fun W => by have d := D51.out; go_simp)) ?_
          (try simp only [zP, zN, zA, zB, zC])
          refine pu_ (v := .bool false) (y_assign rfl (by rfl) (by rfl)) ?_
          (try simp only [zP, zN, zA, zB, zC])
          refine nl_ (hK161 _ _ ?_); clear hK161 K161
          refine wp_cond_false rfl ?_
          refine s_ (fun K162 hK162 => ?_)
          refine pu_ (v := .bool false) (y_run (by rfl) (fun W => by have d := D59.out; go_simp)) ?_
          (try simp only [zP, zN, zA, zB, zC])
          refine pu_ (v := .bool false) (y_assign rfl (by rfl) (by rfl)) ?_
          (try simp only [zP, zN, zA, zB, zC])
          refine nl_ (hK162 _ _ ?_); clear hK162 K162
          refine wp_cond_false rfl ?_
          refine s_ (fun K163 hK163 => ?_)
          refine pu_ (v := .bool false) (y_run (by rfl) (fun W => by have d := D104.out; go_simp)) ?_
          (try simp only [zP, zN, zA, zB, zC])
          refine pu_ (v := .bool false) (y_assign rfl (by rfl) (by rfl)) ?_
          (try simp only [zP, zN, zA, zB, zC])
          refine nl_ (hK163 _ _ ?_); clear hK163 K163
          refine wp_cond_false rfl ?_
          refine s_ (fun K164 hK164 => ?_)
          refine pu_ (v := .bool true) (y_run (by rfl) (fun W => by have d := D135.out; go_simp)) ?_
          (try simp only [zP, zN, zA, zB, zC])
          refine pu_ (v := .bool true) (y_assign rfl (by rfl) (by rfl)) ?_
          (try simp only [zP, zN, zA, zB, zC])
          refine nl_ (hK164 _ _ ?_); clear hK164 K164
          refine wp_cond_true rfl ?_
          refine r_ ?_
          refine pu_ (v := .pointer (some ⟨x, 0, none⟩)) (y_move rfl (by rfl) (by rfl)) ?_
          (try simp only [zP, zN, zA, zB, zC])
          refine pu_ (v := .pointer (some ⟨g79, 1, none⟩)) (y_run (by rfl) (fun W => by go_simp)) ?_
          (try simp only [zP, zN, zA, zB, zC])
          refine ld_ (v := .int .i64 o.id) rfl (by rfl) (by rfl) (run_load_one ((Fg79.out.cell 1).trans rfl) Tryd.underlying3 rfl) ?_
          (try simp only [zP, zN, zA, zB, zC])
          refine pu_ (v := .pointer (some ⟨g79, 4, none⟩)) (y_run (by rfl) (fun W => by go_simp)) ?_
          (try simp only [zP, zN, zA, zB, zC])
          refine ld_ (v := .int .i64 o.n) rfl (by rfl) (by rfl) (run_load_one ((Fg79.out.cell 4).trans rfl) Tryd.underlying3 rfl) ?_
          (try simp only [zP, zN, zA, zB, zC])
          refine ef_ (fun K165 hK165 => ?_)
          refine e_call Tryd.func11 (by kernel_rfl) rfl #[.pointer (some ⟨x, 0, none⟩), .int .i64 o.id, .int .i64 o.n] (by rfl) rfl rfl (by first | rfl | (simp only [List.map_toArray, List.map_cons, List.map_nil]; first | done | rfl)) ((turn_l (w0 := w) (id := o.id) (m := o.n) EX.out (by have := hfew.out.1; omega) (by have := hlt.out; omega) hok.out HTB.out rfl C0.out.below0)) ?_
          rintro en w167 ⟨rfl, Bs166, bk, cc, bel⟩
          refine ⟨_, rfl, ?_⟩
          have hs168 := Lib.hid (show g79 ∉ Bs166 from fun h9 => (bel _ h9).elim hs85.out (fun h8 => by have := Fg79.out.lt; omega))
          have hr169 := Lib.hid (show ∀ k_, k_ ∈ rl (.slice (some ⟨gw, 0, none⟩) 200 200) → k_ ∉ Bs166 from fun k_ hk_ hB_ => (bel k_ hB_).elim (hrsw.out k_ hk_) (fun h8 => by have := (OW.out.lt k_ hk_).2; omega))
          have hr170 := Lib.hid (show ∀ k_, k_ ∈ rl (.slice (some ⟨gr, 0, none⟩) 200 200) → k_ ∉ Bs166 from fun k_ hk_ hB_ => (bel k_ hB_).elim (hrsr.out k_ hk_) (fun h8 => by have := (OR.out.lt k_ hk_).2; omega))
          have hr171 := Lib.hid (show ∀ k_, k_ ∈ xb (.slice (some a) L.length z) → k_ ∉ Bs166 from fun k_ hk_ hB_ => (bel k_ hB_).elim (hxs.out k_ hk_) (fun h8 => by have := SL.out.lt (by decide) k_ hk_; omega))
          have C0' := Lib.hid (show Ch [] w w167 from C0.out.trans' cc (fun x hx => .inr (EX.out.lt x hx).1))
          have OW' := Lib.hid (show OwnS w167 w.heap.size 9 1 (.slice (some ⟨gw, 0, none⟩) 200 200) (200) ((lw).flatMap strC) from OW.out.ch cc hrsw.out)
          have OR' := Lib.hid (show OwnS w167 w.heap.size 9 1 (.slice (some ⟨gr, 0, none⟩) 200 200) (200) ((lr).flatMap strC) from OR.out.ch cc hrsr.out)
          have SL' := Lib.hid (show SrcIs w167 (.slice (some a) L.length z) (L.length) (L.flatMap actC) 6 from SL.out.chx cc hxs.out)
          have Fg79' := Lib.hid (show Blk w167 g79 (#[.int .i64 o.kind, .int .i64 o.id, .int .i64 o.box, .int .i64 o.ctr, .int .i64 o.n, .string o.s]) 28 from cc.blk Fg79.out hs85.out)
          clear C0 OW OR SL Fg79
          have C0 := C0'; clear C0'
          have OW := OW'; clear OW'
          have OR := OR'; clear OR'
          have SL := SL'; clear SL'
          have Fg79 := Fg79'; clear Fg79'
          clear EX cc bel
          have EX := Lib.hid (show ExIs w167 w.heap.size Bs166 x (64 * k + 64) (turnS E o.id o.n) from bk)
          clear bk
          refine hK165 _ _ ?_; clear hK165 K165
          (try simp only [zP, zN, zA, zB, zC])
          refine nl_ ?_
          refine ib_norm ?_
          refine ib_norm ?_
          refine th_norm (hK76 _ _ ?_); try clear hK76 K76
          refine r_ ?_
          refine pu_ (v := .int .i64 k) (y_move rfl (by rfl) (by rfl)) ?_
          (try simp only [zP, zN, zA, zB, zC])
          refine pu_ (v := .int .i64 (k + 1 : Nat)) (y_run (by rfl) (fun W => by have d := Wk.out; go_simp)) ?_
          (try simp only [zP, zN, zA, zB, zC])
          refine pu_ (v := .int .i64 (k + 1 : Nat)) (y_assign rfl (by rfl) (by rfl)) ?_
          (try simp only [zP, zN, zA, zB, zC])
          refine nl_ ?_
          exact th_norm (hK73 (kq - 1) _ _ (by have := hlt.out; have := hk.out; omega) ⟨k + 1, Bs166, turnS E o.id o.n, lw, lr, fun us_ => (#[.slice (some a) L.length z, us 1, .bool false, .pointer (some ⟨x, 0, none⟩), .slice (some ⟨gw, 0, none⟩) 200 200, .slice (some ⟨gr, 0, none⟩) 200 200, .int .i64 (k + 1 : Nat), .pointer (some ⟨g79, 0, none⟩), us 8, us 9, us 10, us 11, us 12, us 13, us 14, us 15, us 16, us 17, us 18, us 19, us 20, us 21, us 22, us 23, .int .i64 k, .slice (some a) L.length z, .int .i64 L.length, .bool true, .bool true, .int .i64 k, .bool true, .bool true, .int .i64 k, .int .i64 (k + 1 : Nat), .slice (some a) L.length z, .int .i64 k, .pointer (some (a.add (k * 6))), .agg #[.int .i64 o.kind, .int .i64 o.id, .int .i64 o.box, .int .i64 o.ctr, .int .i64 o.n, .string o.s], .pointer (some ⟨g79, 5, none⟩), .string o.s, .int .i64 o.s.size, .bool false, .pointer (some ⟨g79, 0, none⟩), .int .i64 o.kind, us 44, us 45, us 46, us 47, us 48, us 49, .bool false, .bool false, us 52, us 53, us 54, us 55, us 56, us 57, .bool false, .bool false, us 60, us 61, us 62, us 63, us 64, us 65, us 66, us 67, us 68, us 69, us 70, us 71, us 72, us 73, us 74, us 75, us 76, us 77, us 78, us 79, us 80, us 81, us 82, us 83, us 84, us 85, us 86, us 87, us 88, us 89, us 90, us 91, us 92, us 93, us 94, us 95, us 96, us 97, us 98, us 99, us 100, us 101, us 102, .bool false, .bool false, us 105, us 106, us 107, us 108, us 109, us 110, us 111, us 112, us 113, us 114, us 115, us 116, us 117, us 118, us 119, us 120, us 121, us 122, us 123, us 124, us 125, us 126, us 127, us 128, us 129, us 130, us 131, us 132, us 133, .bool true, .bool true, .pointer (some ⟨x, 0, none⟩), .pointer (some ⟨g79, 1, none⟩), .int .i64 o.id, .pointer (some ⟨g79, 4, none⟩), .int .i64 o.n, .int .i64 (turnR E o.id o.n), us 142, us 143, us 144, us 145, us 146, us 147, us 148, us 149, us 150, us 151, us 152, us 153, us 154, us 155, us 156, us 157, us 158, us 159, us 160, us 161, us 162, us 163, us 164, us 165, us 166, us 167, us 168, us 169, us 170, us 171, us 172, us 173, us 174, us 175, us 176, us 177, us 178, us 179, us 180, us 181, us 182, us 183, us 184, us 185, us 186, us 187, us 188, us 189, us 190, us 191, us 192, us 193, us 194, us 195, us 196, us 197, us 198] : Array Value).getD us_ undef, rfl, C0, Lib.hid (EX.out.up (by omega)), OW, OR, SL, Lib.hid ⟨by have := hlt.out; omega, by have := hlt.out; omega, by have := hlt.out; have := hk.out; omega⟩, Lib.hid (few_turn hfew.out o.id o.n), Lib.hid ⟨hln.out.1, hln.out.2⟩, Lib.hid (turn_p hpi.out o.id o.n), Lib.hid (sz_up hzw.out (by omega)), Lib.hid (sz_up hzr.out (by omega)), hr169, hr170, hr171, Lib.hid (hxw.out), Lib.hid (hxr.out)⟩)
        · have D51 := Lib.hid (show ¬ o.kind = 0 by omega)
          have D59 := Lib.hid (show ¬ o.kind = 1 by omega)
          have D104 := Lib.hid (show ¬ o.kind = 2 by omega)
          have D135 := Lib.hid (show ¬ o.kind = 3 by omega)
          have D143 := Lib.hid (show  o.kind = 4 by omega)
          clear h
          refine s_ (fun K172 hK172 => ?_)
          refine pu_ (v := .bool false) (y_run (by rfl) (fun W => by have d := D51.out; go_simp)) ?_
          (try simp only [zP, zN, zA, zB, zC])
          refine pu_ (v := .bool false) (y_assign rfl (by rfl) (by rfl)) ?_
          (try simp only [zP, zN, zA, zB, zC])
          refine nl_ (hK172 _ _ ?_); clear hK172 K172
          refine wp_cond_false rfl ?_
          refine s_ (fun K173 hK173 => ?_)
          refine pu_ (v := .bool false) (y_run (by rfl) (fun W => by have d := D59.out; go_simp)) ?_
          (try simp only [zP, zN, zA, zB, zC])
          refine pu_ (v := .bool false) (y_assign rfl (by rfl) (by rfl)) ?_
          (try simp only [zP, zN, zA, zB, zC])
          refine nl_ (hK173 _ _ ?_); clear hK173 K173
          refine wp_cond_false rfl ?_
          refine s_ (fun K174 hK174 => ?_)
          refine pu_ (v := .bool false) (y_run (by rfl) (fun W => by have d := D104.out; go_simp)) ?_
          (try simp only [zP, zN, zA, zB, zC])
          refine pu_ (v := .bool false) (y_assign rfl (by rfl) (by rfl)) ?_
          (try simp only [zP, zN, zA, zB, zC])
          refine nl_ (hK174 _ _ ?_); clear hK174 K174
          refine wp_cond_false rfl ?_
          refine s_ (fun K175 hK175 => ?_)
          refine pu_ (v := .bool false) (y_run (by rfl) (fun W => by have d := D135.out; go_simp)) ?_
          (try simp only [zP, zN, zA, zB, zC])
          refine pu_ (v := .bool false) (y_assign rfl (by rfl) (by rfl)) ?_
          (try simp only [zP, zN, zA, zB, zC])
          refine nl_ (hK175 _ _ ?_); clear hK175 K175
          refine wp_cond_false rfl ?_
          refine s_ (fun K176 hK176 => ?_)
          refine pu_ (v := .bool true) (y_run (by rfl) (fun W => by have d := D143.out; go_simp)) ?_
          (try simp only [zP, zN, zA, zB, zC])
          refine pu_ (v := .bool true) (y_assign rfl (by rfl) (by rfl)) ?_
          (try simp only [zP, zN, zA, zB, zC])
          refine nl_ (hK176 _ _ ?_); clear hK176 K176
          refine wp_cond_true rfl ?_
          refine r_ ?_
          refine pu_ (v := .pointer (some ⟨x, 0, none⟩)) (y_move rfl (by rfl) (by rfl)) ?_
          (try simp only [zP, zN, zA, zB, zC])
          refine pu_ (v := .pointer (some ⟨g79, 1, none⟩)) (y_run (by rfl) (fun W => by go_simp)) ?_
          (try simp only [zP, zN, zA, zB, zC])
          refine ld_ (v := .int .i64 o.id) rfl (by rfl) (by rfl) (run_load_one ((Fg79.out.cell 1).trans rfl) Tryd.underlying3 rfl) ?_
          (try simp only [zP, zN, zA, zB, zC])
          refine ef_ (fun K177 hK177 => ?_)
          refine e_call Tryd.func12 (by kernel_rfl) rfl #[.pointer (some ⟨x, 0, none⟩), .int .i64 o.id] (by rfl) rfl rfl (by first | rfl | (simp only [List.map_toArray, List.map_cons, List.map_nil]; first | done | rfl)) ((close_l (id := o.id) EX.out (by have := hfew.out.1; omega) C0.out.size)) ?_
          rintro en w179 ⟨rfl, Bs178, bk, cc, bel⟩
          refine ⟨_, rfl, ?_⟩
          have hs180 := Lib.hid (show g79 ∉ Bs178 from fun h9 => (bel _ h9).elim hs85.out (fun h8 => by have := Fg79.out.lt; omega))
          have hr181 := Lib.hid (show ∀ k_, k_ ∈ rl (.slice (some ⟨gw, 0, none⟩) 200 200) → k_ ∉ Bs178 from fun k_ hk_ hB_ => (bel k_ hB_).elim (hrsw.out k_ hk_) (fun h8 => by have := (OW.out.lt k_ hk_).2; omega))
          have hr182 := Lib.hid (show ∀ k_, k_ ∈ rl (.slice (some ⟨gr, 0, none⟩) 200 200) → k_ ∉ Bs178 from fun k_ hk_ hB_ => (bel k_ hB_).elim (hrsr.out k_ hk_) (fun h8 => by have := (OR.out.lt k_ hk_).2; omega))
          have hr183 := Lib.hid (show ∀ k_, k_ ∈ xb (.slice (some a) L.length z) → k_ ∉ Bs178 from fun k_ hk_ hB_ => (bel k_ hB_).elim (hxs.out k_ hk_) (fun h8 => by have := SL.out.lt (by decide) k_ hk_; omega))
          have C0' := Lib.hid (show Ch [] w w179 from C0.out.trans' cc (fun x hx => .inr (EX.out.lt x hx).1))
          have OW' := Lib.hid (show OwnS w179 w.heap.size 9 1 (.slice (some ⟨gw, 0, none⟩) 200 200) (200) ((lw).flatMap strC) from OW.out.ch cc hrsw.out)
          have OR' := Lib.hid (show OwnS w179 w.heap.size 9 1 (.slice (some ⟨gr, 0, none⟩) 200 200) (200) ((lr).flatMap strC) from OR.out.ch cc hrsr.out)
          have SL' := Lib.hid (show SrcIs w179 (.slice (some a) L.length z) (L.length) (L.flatMap actC) 6 from SL.out.chx cc hxs.out)
          have Fg79' := Lib.hid (show Blk w179 g79 (#[.int .i64 o.kind, .int .i64 o.id, .int .i64 o.box, .int .i64 o.ctr, .int .i64 o.n, .string o.s]) 28 from cc.blk Fg79.out hs85.out)
          clear C0 OW OR SL Fg79
          have C0 := C0'; clear C0'
          have OW := OW'; clear OW'
          have OR := OR'; clear OR'
          have SL := SL'; clear SL'
          have Fg79 := Fg79'; clear Fg79'
          clear EX cc bel
          have EX := Lib.hid (show ExIs w179 w.heap.size Bs178 x (64 * k) (closeS E o.id) from bk)
          clear bk
          refine hK177 _ _ ?_; clear hK177 K177
          (try simp only [zP, zN, zA, zB, zC])
          refine nl_ ?_
          refine ib_norm ?_
          refine ib_norm ?_
          refine th_norm (hK76 _ _ ?_); try clear hK76 K76
          refine r_ ?_
          refine pu_ (v := .int .i64 k) (y_move rfl (by rfl) (by rfl)) ?_
          (try simp only [zP, zN, zA, zB, zC])
          refine pu_ (v := .int .i64 (k + 1 : Nat)) (y_run (by rfl) (fun W => by have d := Wk.out; go_simp)) ?_
          (try simp only [zP, zN, zA, zB, zC])
          refine pu_ (v := .int .i64 (k + 1 : Nat)) (y_assign rfl (by rfl) (by rfl)) ?_
          (try simp only [zP, zN, zA, zB, zC])
          refine nl_ ?_
          exact th_norm (hK73 (kq - 1) _ _ (by have := hlt.out; have := hk.out; omega) ⟨k + 1, Bs178, closeS E o.id, lw, lr, fun us_ => (#[.slice (some a) L.length z, us 1, .bool false, .pointer (some ⟨x, 0, none⟩), .slice (some ⟨gw, 0, none⟩) 200 200, .slice (some ⟨gr, 0, none⟩) 200 200, .int .i64 (k + 1 : Nat), .pointer (some ⟨g79, 0, none⟩), us 8, us 9, us 10, us 11, us 12, us 13, us 14, us 15, us 16, us 17, us 18, us 19, us 20, us 21, us 22, us 23, .int .i64 k, .slice (some a) L.length z, .int .i64 L.length, .bool true, .bool true, .int .i64 k, .bool true, .bool true, .int .i64 k, .int .i64 (k + 1 : Nat), .slice (some a) L.length z, .int .i64 k, .pointer (some (a.add (k * 6))), .agg #[.int .i64 o.kind, .int .i64 o.id, .int .i64 o.box, .int .i64 o.ctr, .int .i64 o.n, .string o.s], .pointer (some ⟨g79, 5, none⟩), .string o.s, .int .i64 o.s.size, .bool false, .pointer (some ⟨g79, 0, none⟩), .int .i64 o.kind, us 44, us 45, us 46, us 47, us 48, us 49, .bool false, .bool false, us 52, us 53, us 54, us 55, us 56, us 57, .bool false, .bool false, us 60, us 61, us 62, us 63, us 64, us 65, us 66, us 67, us 68, us 69, us 70, us 71, us 72, us 73, us 74, us 75, us 76, us 77, us 78, us 79, us 80, us 81, us 82, us 83, us 84, us 85, us 86, us 87, us 88, us 89, us 90, us 91, us 92, us 93, us 94, us 95, us 96, us 97, us 98, us 99, us 100, us 101, us 102, .bool false, .bool false, us 105, us 106, us 107, us 108, us 109, us 110, us 111, us 112, us 113, us 114, us 115, us 116, us 117, us 118, us 119, us 120, us 121, us 122, us 123, us 124, us 125, us 126, us 127, us 128, us 129, us 130, us 131, us 132, us 133, .bool false, .bool false, us 136, us 137, us 138, us 139, us 140, us 141, .bool true, .bool true, .pointer (some ⟨x, 0, none⟩), .pointer (some ⟨g79, 1, none⟩), .int .i64 o.id, .int .i64 (closeR E o.id), us 148, us 149, us 150, us 151, us 152, us 153, us 154, us 155, us 156, us 157, us 158, us 159, us 160, us 161, us 162, us 163, us 164, us 165, us 166, us 167, us 168, us 169, us 170, us 171, us 172, us 173, us 174, us 175, us 176, us 177, us 178, us 179, us 180, us 181, us 182, us 183, us 184, us 185, us 186, us 187, us 188, us 189, us 190, us 191, us 192, us 193, us 194, us 195, us 196, us 197, us 198] : Array Value).getD us_ undef, rfl, C0, Lib.hid (EX.out.up (by omega)), OW, OR, SL, Lib.hid ⟨by have := hlt.out; omega, by have := hlt.out; omega, by have := hlt.out; have := hk.out; omega⟩, Lib.hid (few_close hfew.out o.id), Lib.hid ⟨hln.out.1, hln.out.2⟩, Lib.hid (close_p hpi.out o.id), Lib.hid (sz_up hzw.out (by omega)), Lib.hid (sz_up hzr.out (by omega)), hr181, hr182, hr183, Lib.hid (hxw.out), Lib.hid (hxr.out)⟩)
        · have D51 := Lib.hid (show ¬ o.kind = 0 by omega)
          have D59 := Lib.hid (show ¬ o.kind = 1 by omega)
          have D104 := Lib.hid (show ¬ o.kind = 2 by omega)
          have D135 := Lib.hid (show ¬ o.kind = 3 by omega)
          have D143 := Lib.hid (show ¬ o.kind = 4 by omega)
          clear h
          refine s_ (fun K184 hK184 => ?_)
          refine pu_ (v := .bool false) (y_run (by rfl) (fun W => by have d := D51.out; go_simp)) ?_
          (try simp only [zP, zN, zA, zB, zC])
          refine pu_ (v := .bool false) (y_assign rfl (by rfl) (by rfl)) ?_
          (try simp only [zP, zN, zA, zB, zC])
          refine nl_ (hK184 _ _ ?_); clear hK184 K184
          refine wp_cond_false rfl ?_
          refine s_ (fun K185 hK185 => ?_)
          refine pu_ (v := .bool false) (y_run (by rfl) (fun W => by have d := D59.out; go_simp)) ?_
          (try simp only [zP, zN, zA, zB, zC])
          refine pu_ (v := .bool false) (y_assign rfl (by rfl) (by rfl)) ?_
          (try simp only [zP, zN, zA, zB, zC])
          refine nl_ (hK185 _ _ ?_); clear hK185 K185
          refine wp_cond_false rfl ?_
          refine s_ (fun K186 hK186 => ?_)
          refine pu_ (v := .bool false) (y_run (by rfl) (fun W => by have d := D104.out; go_simp)) ?_
          (try simp only [zP, zN, zA, zB, zC])
          refine pu_ (v := .bool false) (y_assign rfl (by rfl) (by rfl)) ?_
          (try simp only [zP, zN, zA, zB, zC])
          refine nl_ (hK186 _ _ ?_); clear hK186 K186
          refine wp_cond_false rfl ?_
          refine s_ (fun K187 hK187 => ?_)
          refine pu_ (v := .bool false) (y_run (by rfl) (fun W => by have d := D135.out; go_simp)) ?_
          (try simp only [zP, zN, zA, zB, zC])
          refine pu_ (v := .bool false) (y_assign rfl (by rfl) (by rfl)) ?_
          (try simp only [zP, zN, zA, zB, zC])
          refine nl_ (hK187 _ _ ?_); clear hK187 K187
          refine wp_cond_false rfl ?_
          refine s_ (fun K188 hK188 => ?_)
          refine pu_ (v := .bool false) (y_run (by rfl) (fun W => by have d := D143.out; go_simp)) ?_
          (try simp only [zP, zN, zA, zB, zC])
          refine pu_ (v := .bool false) (y_assign rfl (by rfl) (by rfl)) ?_
          (try simp only [zP, zN, zA, zB, zC])
          refine nl_ (hK188 _ _ ?_); clear hK188 K188
          refine wp_cond_false rfl ?_
          refine r_ ?_
          refine pu_ (v := .pointer (some ⟨x, 0, none⟩)) (y_move rfl (by rfl) (by rfl)) ?_
          (try simp only [zP, zN, zA, zB, zC])
          refine pu_ (v := .pointer (some ⟨g79, 2, none⟩)) (y_run (by rfl) (fun W => by go_simp)) ?_
          (try simp only [zP, zN, zA, zB, zC])
          refine ld_ (v := .int .i64 o.box) rfl (by rfl) (by rfl) (run_load_one ((Fg79.out.cell 2).trans rfl) Tryd.underlying3 rfl) ?_
          (try simp only [zP, zN, zA, zB, zC])
          refine pu_ (v := .pointer (some ⟨g79, 3, none⟩)) (y_run (by rfl) (fun W => by go_simp)) ?_
          (try simp only [zP, zN, zA, zB, zC])
          refine ld_ (v := .int .i64 o.ctr) rfl (by rfl) (by rfl) (run_load_one ((Fg79.out.cell 3).trans rfl) Tryd.underlying3 rfl) ?_
          (try simp only [zP, zN, zA, zB, zC])
          refine ef_ (fun K189 hK189 => ?_)
          refine e_call Tryd.func13 (by kernel_rfl) rfl #[.pointer (some ⟨x, 0, none⟩), .int .i64 o.box, .int .i64 o.ctr] (by rfl) rfl rfl (by first | rfl | (simp only [List.map_toArray, List.map_cons, List.map_nil]; first | done | rfl)) ((end_l (bx := o.box) (ct := o.ctr) EX.out (by have := hfew.out.1; omega))) ?_
          rintro en w191 ⟨rfl, Bs190, bk, cc, bel⟩
          refine ⟨_, rfl, ?_⟩
          have hs192 := Lib.hid (show g79 ∉ Bs190 from fun h9 => (bel _ h9).elim hs85.out (fun h8 => by have := Fg79.out.lt; omega))
          have hr193 := Lib.hid (show ∀ k_, k_ ∈ rl (.slice (some ⟨gw, 0, none⟩) 200 200) → k_ ∉ Bs190 from fun k_ hk_ hB_ => (bel k_ hB_).elim (hrsw.out k_ hk_) (fun h8 => by have := (OW.out.lt k_ hk_).2; omega))
          have hr194 := Lib.hid (show ∀ k_, k_ ∈ rl (.slice (some ⟨gr, 0, none⟩) 200 200) → k_ ∉ Bs190 from fun k_ hk_ hB_ => (bel k_ hB_).elim (hrsr.out k_ hk_) (fun h8 => by have := (OR.out.lt k_ hk_).2; omega))
          have hr195 := Lib.hid (show ∀ k_, k_ ∈ xb (.slice (some a) L.length z) → k_ ∉ Bs190 from fun k_ hk_ hB_ => (bel k_ hB_).elim (hxs.out k_ hk_) (fun h8 => by have := SL.out.lt (by decide) k_ hk_; omega))
          have C0' := Lib.hid (show Ch [] w w191 from C0.out.trans' cc (fun x hx => .inr (EX.out.lt x hx).1))
          have OW' := Lib.hid (show OwnS w191 w.heap.size 9 1 (.slice (some ⟨gw, 0, none⟩) 200 200) (200) ((lw).flatMap strC) from OW.out.ch cc hrsw.out)
          have OR' := Lib.hid (show OwnS w191 w.heap.size 9 1 (.slice (some ⟨gr, 0, none⟩) 200 200) (200) ((lr).flatMap strC) from OR.out.ch cc hrsr.out)
          have SL' := Lib.hid (show SrcIs w191 (.slice (some a) L.length z) (L.length) (L.flatMap actC) 6 from SL.out.chx cc hxs.out)
          have Fg79' := Lib.hid (show Blk w191 g79 (#[.int .i64 o.kind, .int .i64 o.id, .int .i64 o.box, .int .i64 o.ctr, .int .i64 o.n, .string o.s]) 28 from cc.blk Fg79.out hs85.out)
          clear C0 OW OR SL Fg79
          have C0 := C0'; clear C0'
          have OW := OW'; clear OW'
          have OR := OR'; clear OR'
          have SL := SL'; clear SL'
          have Fg79 := Fg79'; clear Fg79'
          clear EX cc bel
          have EX := Lib.hid (show ExIs w191 w.heap.size Bs190 x (64 * k) (endSS E o.box o.ctr) from bk)
          clear bk
          refine hK189 _ _ ?_; clear hK189 K189
          (try simp only [zP, zN, zA, zB, zC])
          refine nl_ ?_
          refine ib_norm ?_
          refine ib_norm ?_
          refine th_norm (hK76 _ _ ?_); try clear hK76 K76
          refine r_ ?_
          refine pu_ (v := .int .i64 k) (y_move rfl (by rfl) (by rfl)) ?_
          (try simp only [zP, zN, zA, zB, zC])
          refine pu_ (v := .int .i64 (k + 1 : Nat)) (y_run (by rfl) (fun W => by have d := Wk.out; go_simp)) ?_
          (try simp only [zP, zN, zA, zB, zC])
          refine pu_ (v := .int .i64 (k + 1 : Nat)) (y_assign rfl (by rfl) (by rfl)) ?_
          (try simp only [zP, zN, zA, zB, zC])
          refine nl_ ?_
          exact th_norm (hK73 (kq - 1) _ _ (by have := hlt.out; have := hk.out; omega) ⟨k + 1, Bs190, endSS E o.box o.ctr, lw, lr, fun us_ => (#[.slice (some a) L.length z, us 1, .bool false, .pointer (some ⟨x, 0, none⟩), .slice (some ⟨gw, 0, none⟩) 200 200, .slice (some ⟨gr, 0, none⟩) 200 200, .int .i64 (k + 1 : Nat), .pointer (some ⟨g79, 0, none⟩), us 8, us 9, us 10, us 11, us 12, us 13, us 14, us 15, us 16, us 17, us 18, us 19, us 20, us 21, us 22, us 23, .int .i64 k, .slice (some a) L.length z, .int .i64 L.length, .bool true, .bool true, .int .i64 k, .bool true, .bool true, .int .i64 k, .int .i64 (k + 1 : Nat), .slice (some a) L.length z, .int .i64 k, .pointer (some (a.add (k * 6))), .agg #[.int .i64 o.kind, .int .i64 o.id, .int .i64 o.box, .int .i64 o.ctr, .int .i64 o.n, .string o.s], .pointer (some ⟨g79, 5, none⟩), .string o.s, .int .i64 o.s.size, .bool false, .pointer (some ⟨g79, 0, none⟩), .int .i64 o.kind, .pointer (some ⟨x, 0, none⟩), .pointer (some ⟨g79, 2, none⟩), .int .i64 o.box, .pointer (some ⟨g79, 3, none⟩), .int .i64 o.ctr, .int .i64 (endR E o.box o.ctr), .bool false, .bool false, us 52, us 53, us 54, us 55, us 56, us 57, .bool false, .bool false, us 60, us 61, us 62, us 63, us 64, us 65, us 66, us 67, us 68, us 69, us 70, us 71, us 72, us 73, us 74, us 75, us 76, us 77, us 78, us 79, us 80, us 81, us 82, us 83, us 84, us 85, us 86, us 87, us 88, us 89, us 90, us 91, us 92, us 93, us 94, us 95, us 96, us 97, us 98, us 99, us 100, us 101, us 102, .bool false, .bool false, us 105, us 106, us 107, us 108, us 109, us 110, us 111, us 112, us 113, us 114, us 115, us 116, us 117, us 118, us 119, us 120, us 121, us 122, us 123, us 124, us 125, us 126, us 127, us 128, us 129, us 130, us 131, us 132, us 133, .bool false, .bool false, us 136, us 137, us 138, us 139, us 140, us 141, .bool false, .bool false, us 144, us 145, us 146, us 147, us 148, us 149, us 150, us 151, us 152, us 153, us 154, us 155, us 156, us 157, us 158, us 159, us 160, us 161, us 162, us 163, us 164, us 165, us 166, us 167, us 168, us 169, us 170, us 171, us 172, us 173, us 174, us 175, us 176, us 177, us 178, us 179, us 180, us 181, us 182, us 183, us 184, us 185, us 186, us 187, us 188, us 189, us 190, us 191, us 192, us 193, us 194, us 195, us 196, us 197, us 198] : Array Value).getD us_ undef, rfl, C0, Lib.hid (EX.out.up (by omega)), OW, OR, SL, Lib.hid ⟨by have := hlt.out; omega, by have := hlt.out; omega, by have := hlt.out; have := hk.out; omega⟩, Lib.hid (few_end hfew.out o.box o.ctr), Lib.hid ⟨hln.out.1, hln.out.2⟩, Lib.hid (end_p hpi.out o.box o.ctr), Lib.hid (sz_up hzw.out (by omega)), Lib.hid (sz_up hzr.out (by omega)), hr193, hr194, hr195, Lib.hid (hxw.out), Lib.hid (hxr.out)⟩)
    · have hg := Lib.hid h1
      clear h1
      have D27 := Lib.hid (show (k : Int) < (L.length : Int) by have := hl_; omega)
      have D30 := Lib.hid (show ¬ (k : Int) < 100 by have := hg.out; omega)
      clear hl_
      refine s_ (fun K196 hK196 => ?_)
      refine pu_ (v := .int .i64 k) (y_move rfl (by rfl) (by rfl)) ?_
      (try simp only [zP, zN, zA, zB, zC])
      refine pu_ (v := .slice A L.length z) (y_move rfl (by rfl) (by rfl)) ?_
      (try simp only [zP, zN, zA, zB, zC])
      refine pu_ (v := .int .i64 L.length) (y_run (by rfl) (fun W => by go_simp)) ?_
      (try simp only [zP, zN, zA, zB, zC])
      refine pu_ (v := .bool true) (y_run (by rfl) (fun W => by have d := D27.out; go_simp)) ?_
      (try simp only [zP, zN, zA, zB, zC])
      refine pu_ (v := .bool true) (y_move rfl (by rfl) (by rfl)) ?_
      (try simp only [zP, zN, zA, zB, zC])
      refine pu_ (v := .int .i64 k) (y_move rfl (by rfl) (by rfl)) ?_
      (try simp only [zP, zN, zA, zB, zC])
      refine pu_ (v := .bool false) (y_run (by rfl) (fun W => by have d := D30.out; go_simp)) ?_
      (try simp only [zP, zN, zA, zB, zC])
      refine pu_ (v := .bool false) (y_pick (t := true) (by rfl) rfl (by rfl) (by rfl)) ?_
      (try simp only [zP, zN, zA, zB, zC])
      refine nl_ (hK196 _ _ ?_); clear hK196 K196
      refine wp_cond_false rfl ?_
      refine wp_exit ?_
      refine th_exit ?_
      refine th_exit ?_
      refine ib_exit ?_
      exact th_norm (hK69 _ _ ⟨k, Bs, E, lw, lr, fun us_ => (#[.slice A L.length z, us 1, .bool false, .pointer (some ⟨x, 0, none⟩), .slice (some ⟨gw, 0, none⟩) 200 200, .slice (some ⟨gr, 0, none⟩) 200 200, .int .i64 k, us 7, us 8, us 9, us 10, us 11, us 12, us 13, us 14, us 15, us 16, us 17, us 18, us 19, us 20, us 21, us 22, us 23, .int .i64 k, .slice A L.length z, .int .i64 L.length, .bool true, .bool true, .int .i64 k, .bool false, .bool false, us 32, us 33, us 34, us 35, us 36, us 37, us 38, us 39, us 40, us 41, us 42, us 43, us 44, us 45, us 46, us 47, us 48, us 49, us 50, us 51, us 52, us 53, us 54, us 55, us 56, us 57, us 58, us 59, us 60, us 61, us 62, us 63, us 64, us 65, us 66, us 67, us 68, us 69, us 70, us 71, us 72, us 73, us 74, us 75, us 76, us 77, us 78, us 79, us 80, us 81, us 82, us 83, us 84, us 85, us 86, us 87, us 88, us 89, us 90, us 91, us 92, us 93, us 94, us 95, us 96, us 97, us 98, us 99, us 100, us 101, us 102, us 103, us 104, us 105, us 106, us 107, us 108, us 109, us 110, us 111, us 112, us 113, us 114, us 115, us 116, us 117, us 118, us 119, us 120, us 121, us 122, us 123, us 124, us 125, us 126, us 127, us 128, us 129, us 130, us 131, us 132, us 133, us 134, us 135, us 136, us 137, us 138, us 139, us 140, us 141, us 142, us 143, us 144, us 145, us 146, us 147, us 148, us 149, us 150, us 151, us 152, us 153, us 154, us 155, us 156, us 157, us 158, us 159, us 160, us 161, us 162, us 163, us 164, us 165, us 166, us 167, us 168, us 169, us 170, us 171, us 172, us 173, us 174, us 175, us 176, us 177, us 178, us 179, us 180, us 181, us 182, us 183, us 184, us 185, us 186, us 187, us 188, us 189, us 190, us 191, us 192, us 193, us 194, us 195, us 196, us 197, us 198] : Array Value).getD us_ undef, rfl, C0, EX, OW, OR, Lib.hid hk.out.2.1, hfew, hln, hpi, hzw, hzr, hrsw, hrsr⟩)
    · have D27 := Lib.hid (show ¬ k < L.length by have := h; omega)
      clear h
      refine s_ (fun K197 hK197 => ?_)
      refine pu_ (v := .int .i64 k) (y_move rfl (by rfl) (by rfl)) ?_
      (try simp only [zP, zN, zA, zB, zC])
      refine pu_ (v := .slice A L.length z) (y_move rfl (by rfl) (by rfl)) ?_
      (try simp only [zP, zN, zA, zB, zC])
      refine pu_ (v := .int .i64 L.length) (y_run (by rfl) (fun W => by go_simp)) ?_
      (try simp only [zP, zN, zA, zB, zC])
      refine pu_ (v := .bool false) (y_run (by rfl) (fun W => by have d := D27.out; go_simp)) ?_
      (try simp only [zP, zN, zA, zB, zC])
      refine pu_ (v := .bool false) (y_move rfl (by rfl) (by rfl)) ?_
      (try simp only [zP, zN, zA, zB, zC])
      refine pu_ (y_off (by rfl)) ?_
      (try simp only [zP, zN, zA, zB, zC])
      refine pu_ (y_off (by rfl)) ?_
      (try simp only [zP, zN, zA, zB, zC])
      refine pu_ (v := .bool false) (y_pick (t := false) (by rfl) rfl (by rfl) (by rfl)) ?_
      (try simp only [zP, zN, zA, zB, zC])
      refine nl_ (hK197 _ _ ?_); clear hK197 K197
      refine wp_cond_false rfl ?_
      refine wp_exit ?_
      refine th_exit ?_
      refine th_exit ?_
      refine ib_exit ?_
      exact th_norm (hK69 _ _ ⟨k, Bs, E, lw, lr, fun us_ => (#[.slice A L.length z, us 1, .bool false, .pointer (some ⟨x, 0, none⟩), .slice (some ⟨gw, 0, none⟩) 200 200, .slice (some ⟨gr, 0, none⟩) 200 200, .int .i64 k, us 7, us 8, us 9, us 10, us 11, us 12, us 13, us 14, us 15, us 16, us 17, us 18, us 19, us 20, us 21, us 22, us 23, .int .i64 k, .slice A L.length z, .int .i64 L.length, .bool false, .bool false, undef, undef, .bool false, us 32, us 33, us 34, us 35, us 36, us 37, us 38, us 39, us 40, us 41, us 42, us 43, us 44, us 45, us 46, us 47, us 48, us 49, us 50, us 51, us 52, us 53, us 54, us 55, us 56, us 57, us 58, us 59, us 60, us 61, us 62, us 63, us 64, us 65, us 66, us 67, us 68, us 69, us 70, us 71, us 72, us 73, us 74, us 75, us 76, us 77, us 78, us 79, us 80, us 81, us 82, us 83, us 84, us 85, us 86, us 87, us 88, us 89, us 90, us 91, us 92, us 93, us 94, us 95, us 96, us 97, us 98, us 99, us 100, us 101, us 102, us 103, us 104, us 105, us 106, us 107, us 108, us 109, us 110, us 111, us 112, us 113, us 114, us 115, us 116, us 117, us 118, us 119, us 120, us 121, us 122, us 123, us 124, us 125, us 126, us 127, us 128, us 129, us 130, us 131, us 132, us 133, us 134, us 135, us 136, us 137, us 138, us 139, us 140, us 141, us 142, us 143, us 144, us 145, us 146, us 147, us 148, us 149, us 150, us 151, us 152, us 153, us 154, us 155, us 156, us 157, us 158, us 159, us 160, us 161, us 162, us 163, us 164, us 165, us 166, us 167, us 168, us 169, us 170, us 171, us 172, us 173, us 174, us 175, us 176, us 177, us 178, us 179, us 180, us 181, us 182, us 183, us 184, us 185, us 186, us 187, us 188, us 189, us 190, us 191, us 192, us 193, us 194, us 195, us 196, us 197, us 198] : Array Value).getD us_ undef, rfl, C0, EX, OW, OR, Lib.hid hk.out.2.1, hfew, hln, hpi, hzw, hzr, hrsw, hrsr⟩)
  rintro _ w70 ⟨k, Bs, E, lw, lr, us, rfl, C0, EX, OW, OR, hk, hfew, hln, hpi, hzw, hzr, hrsw, hrsr⟩
  refine sq_ (fun K198 hK198 => ?_)
  refine s_ (fun K199 hK199 => ?_)
  refine pu_ (v := .int .i64 1) (y_assign rfl (by rfl) (by rfl)) ?_
  (try simp only [zP, zN, zA, zB, zC])
  refine nl_ (hK199 _ _ ?_); clear hK199 K199
  refine wp_block ?_
  refine loopk_ (fun (kq : Nat) (a' : Act) (w' : World) => ∃ (j : Nat), ∃ (Bt : List Nat), ∃ (F : HX), ∃ (R : Nat → List UInt8), ∃ (us : Nat → Value), a' = ⟨#[us 0, us 1, .bool false, .pointer (some ⟨x, 0, none⟩), .slice (some ⟨gw, 0, none⟩) 200 200, .slice (some ⟨gr, 0, none⟩) 200 200, us 6, us 7, us 8, us 9, us 10, us 11, .int .i64 j, us 13, us 14, us 15, us 16, us 17, us 18, us 19, us 20, us 21, us 22, us 23, us 24, us 25, us 26, us 27, us 28, us 29, us 30, us 31, us 32, us 33, us 34, us 35, us 36, us 37, us 38, us 39, us 40, us 41, us 42, us 43, us 44, us 45, us 46, us 47, us 48, us 49, us 50, us 51, us 52, us 53, us 54, us 55, us 56, us 57, us 58, us 59, us 60, us 61, us 62, us 63, us 64, us 65, us 66, us 67, us 68, us 69, us 70, us 71, us 72, us 73, us 74, us 75, us 76, us 77, us 78, us 79, us 80, us 81, us 82, us 83, us 84, us 85, us 86, us 87, us 88, us 89, us 90, us 91, us 92, us 93, us 94, us 95, us 96, us 97, us 98, us 99, us 100, us 101, us 102, us 103, us 104, us 105, us 106, us 107, us 108, us 109, us 110, us 111, us 112, us 113, us 114, us 115, us 116, us 117, us 118, us 119, us 120, us 121, us 122, us 123, us 124, us 125, us 126, us 127, us 128, us 129, us 130, us 131, us 132, us 133, us 134, us 135, us 136, us 137, us 138, us 139, us 140, us 141, us 142, us 143, us 144, us 145, us 146, us 147, us 148, us 149, us 150, us 151, us 152, us 153, us 154, us 155, us 156, us 157, us 158, us 159, us 160, us 161, us 162, us 163, us 164, us 165, us 166, us 167, us 168, us 169, us 170, us 171, us 172, us 173, us 174, us 175, us 176, us 177, us 178, us 179, us 180, us 181, us 182, us 183, us 184, us 185, us 186, us 187, us 188, us 189, us 190, us 191, us 192, us 193, us 194, us 195, us 196, us 197, us 198], []⟩ ∧ Hid (Ch [] w w') ∧ Hid (ExIs w' w.heap.size Bt x ((64 * k + 320 * j)) (F)) ∧ Hid (OwnS w' w.heap.size 9 1 (.slice (some ⟨gw, 0, none⟩) 200 200) (200) ((lw).flatMap strC)) ∧ Hid (OwnS w' w.heap.size 9 1 (.slice (some ⟨gr, 0, none⟩) 200 200) (200) ((lr).flatMap strC)) ∧ Hid (1 ≤ j ∧ j ≤ 200 ∧ kq + j = 200) ∧ Hid (F.L.length ≤ 8) ∧ Hid (PInv F (fW lw) R) ∧ Hid (∀ i, j ≤ i → R i = fW lr i) ∧ Hid (∀ k_, k_ ∈ rl (.slice (some ⟨gw, 0, none⟩) 200 200) → k_ ∉ Bt) ∧ Hid (∀ k_, k_ ∈ rl (.slice (some ⟨gr, 0, none⟩) 200 200) → k_ ∉ Bt)) (199) (⟨1, Bs, E, fW lr, fun us_ => (#[us 0, us 1, .bool false, .pointer (some ⟨x, 0, none⟩), .slice (some ⟨gw, 0, none⟩) 200 200, .slice (some ⟨gr, 0, none⟩) 200 200, us 6, us 7, us 8, us 9, us 10, us 11, .int .i64 1, us 13, us 14, us 15, us 16, us 17, us 18, us 19, us 20, us 21, us 22, us 23, us 24, us 25, us 26, us 27, us 28, us 29, us 30, us 31, us 32, us 33, us 34, us 35, us 36, us 37, us 38, us 39, us 40, us 41, us 42, us 43, us 44, us 45, us 46, us 47, us 48, us 49, us 50, us 51, us 52, us 53, us 54, us 55, us 56, us 57, us 58, us 59, us 60, us 61, us 62, us 63, us 64, us 65, us 66, us 67, us 68, us 69, us 70, us 71, us 72, us 73, us 74, us 75, us 76, us 77, us 78, us 79, us 80, us 81, us 82, us 83, us 84, us 85, us 86, us 87, us 88, us 89, us 90, us 91, us 92, us 93, us 94, us 95, us 96, us 97, us 98, us 99, us 100, us 101, us 102, us 103, us 104, us 105, us 106, us 107, us 108, us 109, us 110, us 111, us 112, us 113, us 114, us 115, us 116, us 117, us 118, us 119, us 120, us 121, us 122, us 123, us 124, us 125, us 126, us 127, us 128, us 129, us 130, us 131, us 132, us 133, us 134, us 135, us 136, us 137, us 138, us 139, us 140, us 141, us 142, us 143, us 144, us 145, us 146, us 147, us 148, us 149, us 150, us 151, us 152, us 153, us 154, us 155, us 156, us 157, us 158, us 159, us 160, us 161, us 162, us 163, us 164, us 165, us 166, us 167, us 168, us 169, us 170, us 171, us 172, us 173, us 174, us 175, us 176, us 177, us 178, us 179, us 180, us 181, us 182, us 183, us 184, us 185, us 186, us 187, us 188, us 189, us 190, us 191, us 192, us 193, us 194, us 195, us 196, us 197, us 198] : Array Value).getD us_ undef, rfl, C0, Lib.hid (EX.out.up (by omega)), OW, OR, Lib.hid ⟨by omega, by omega, by omega⟩, Lib.hid hfew.out.1, hpi, Lib.hid (fun i _ => rfl), hrsw, hrsr⟩) ?_
  rintro kq _ w200 ⟨j, Bt, F, R, us, rfl, C0, EX, OW, OR, hj, hF, hPI, hRR, hrsw2, hrsr2⟩ K201 hK201
  refine sq_ (fun K202 hK202 => ?_)
  rcases (show j < 200 ∨ ¬ j < 200 by omega) with h | h
  · have hlt := Lib.hid h
    clear h
    have D149 := Lib.hid (show (j : Int) < (200 : Int) by have := hlt.out; omega)
    have Wj := Lib.hid (show IntKind.i64.wrap ((j : Int) + 1) = ((j + 1 : Nat) : Int) by rw [wr64 (by have := hlt.out; omega)]; omega)
    obtain ⟨tw, ht1, ht2⟩ := txt hln.out.1 hlt.out
    have HTW := Lib.hid ht1
    have HTZ := Lib.hid (hzw.out _ ht2)
    clear ht1 ht2
    obtain ⟨tr, ht1, ht2⟩ := txt hln.out.2 hlt.out
    have HTR := Lib.hid ht1
    clear ht1 ht2
    obtain ⟨cw, hcw⟩ : ∃ cw, cw = str (tw.data.toList.map upB) := ⟨_, rfl⟩
    have HCW := Lib.hid hcw
    clear hcw
    have HRJ := Lib.hid (show R j = tr.data.toList from (hRR.out j (Nat.le_refl _)).trans (fW_at HTR.out))
    obtain ⟨cz, hcz⟩ := pre_of hPI.out (fW_at HTW.out) HRJ.out
    have HPR := Lib.hid (ext_pre (HCW.out.trans hcz))
    clear hcz
    have HCZ := Lib.hid (show cw.size ≤ 40000 by rw [HCW.out, str_size, List.length_map, Array.length_toList]; have := HTZ.out; have := hk.out; show tw.size ≤ _; omega)
    have D164 := Lib.hid (show ¬ (cw.size : Int) < (tr.size : Int) by have := HPR.out.1; omega)
    have D172 := Lib.hid (show (tr.size : Int) ≤ (cw.size : Int) by have := HPR.out.1; omega)
    have D177 := Lib.hid HPR.out.2
    refine s_ (fun K203 hK203 => ?_)
    refine pu_ (v := .int .i64 j) (y_move rfl (by rfl) (by rfl)) ?_
    (try simp only [zP, zN, zA, zB, zC])
    refine pu_ (v := .bool true) (y_run (by rfl) (fun W => by have d := D149.out; go_simp)) ?_
    (try simp only [zP, zN, zA, zB, zC])
    refine nl_ (hK203 _ _ ?_); clear hK203 K203
    refine wp_cond_true rfl ?_
    refine wp_skip ?_
    refine th_norm (hK202 _ _ ?_); try clear hK202 K202
    refine sq_ (fun K204 hK204 => ?_)
    refine wp_block ?_
    refine s_ (fun K205 hK205 => ?_)
    refine pu_ (v := .slice (some ⟨gw, 0, none⟩) 200 200) (y_move rfl (by rfl) (by rfl)) ?_
    (try simp only [zP, zN, zA, zB, zC])
    refine pu_ (v := .int .i64 j) (y_move rfl (by rfl) (by rfl)) ?_
    (try simp only [zP, zN, zA, zB, zC])
    refine pu_ (v := .pointer (some ⟨gw, j, none⟩)) (y_run (by rfl) (fun W => by have d := D149.out; go_simp)) ?_
    (try simp only [zP, zN, zA, zB, zC])
    refine ld_ (v := .string tw) rfl (by rfl) (by rfl) (run_load_one (own_cell OW.out (flat_at HTW.out)) Tryd.underlying9 rfl) ?_
    (try simp only [zP, zN, zA, zB, zC])
    refine ef_ (fun K206 hK206 => ?_)
    refine e_call Tryd.func14 (by kernel_rfl) rfl #[.string tw] (by rfl) rfl rfl (by first | rfl | (simp only [List.map_toArray, List.map_cons, List.map_nil]; first | done | rfl)) ((show Calls Tryd.prog 14 #[.string tw] w200 (fun en w2_ => en = .returned (.string cw) ∧ Ch [] w200 w2_) from by have h9 := capital_ (w := w200) (t := tw) (Lib.hid (by have := HTZ.out; have := hk.out; omega)); rw [← HCW.out] at h9; exact h9)) ?_
    rintro en w208 ⟨rfl, cc207⟩
    refine ⟨_, rfl, ?_⟩
    have C0' := Lib.hid (show Ch [] w w208 from C0.out.trans' cc207 (fun x hx => absurd hx (by simp)))
    have EX' := Lib.hid (show ExIs w208 w.heap.size Bt x ((64 * k + 320 * j)) (F) from EX.out.ch cc207 (fun _ _ h => absurd h (by simp)))
    have OW' := Lib.hid (show OwnS w208 w.heap.size 9 1 (.slice (some ⟨gw, 0, none⟩) 200 200) (200) ((lw).flatMap strC) from OW.out.ch cc207 rnin_nil)
    have OR' := Lib.hid (show OwnS w208 w.heap.size 9 1 (.slice (some ⟨gr, 0, none⟩) 200 200) (200) ((lr).flatMap strC) from OR.out.ch cc207 rnin_nil)
    clear C0 EX OW OR
    have C0 := C0'; clear C0'
    have EX := EX'; clear EX'
    have OW := OW'; clear OW'
    have OR := OR'; clear OR'
    clear cc207
    refine hK206 _ _ ?_; clear hK206 K206
    (try simp only [zP, zN, zA, zB, zC])
    refine pu_ (v := .string cw) (y_assign rfl (by rfl) (by rfl)) ?_
    (try simp only [zP, zN, zA, zB, zC])
    refine nl_ (hK205 _ _ ?_); clear hK205 K205
    refine sq_ (fun K209 hK209 => ?_)
    refine sq_ (fun K210 hK210 => ?_)
    refine startk_ (S := fun W => OwnS W w.heap.size 9 1 (.slice (some ⟨gr, 0, none⟩) 200 200) (200) ((lr).flatMap strC) ∧ True) (ds := []) #[false, false, false, false, false, false, false, false, false, false, false, false, false, false, false, false, false, false, false, false, false, false] (by kernel_rfl) rfl rfl (fun W c => ⟨OR.out.ch c rnin_nil, trivial⟩) (fun w211 C212 hS213 => ?_)
    have C0' := Lib.hid (show Ch [] w w211 from C0.out.trans' C212 (fun x hx => absurd hx (by simp)))
    have EX' := Lib.hid (show ExIs w211 w.heap.size Bt x ((64 * k + 320 * j)) (F) from EX.out.ch C212 (fun _ _ h => absurd h (by simp)))
    have OW' := Lib.hid (show OwnS w211 w.heap.size 9 1 (.slice (some ⟨gw, 0, none⟩) 200 200) (200) ((lw).flatMap strC) from OW.out.ch C212 rnin_nil)
    have OR' := Lib.hid (show OwnS w211 w.heap.size 9 1 (.slice (some ⟨gr, 0, none⟩) 200 200) (200) ((lr).flatMap strC) from OR.out.ch C212 rnin_nil)
    clear C0 EX OW OR
    have C0 := C0'; clear C0'
    have EX := EX'; clear EX'
    have OW := OW'; clear OW'
    have OR := OR'; clear OR'
    clear C212
    refine pure_ (i := 0) (N := some 157) (v := .slice (some ⟨gr, 0, none⟩) 200 200) #[true, false, false, false, false, false, false, false, false, false, false, false, false, false, false, false, false, false, false, false, false, false] rfl rfl (by kernel_rfl) (fun c a w h => hP c a _ _ w h) (y_move rfl (by rfl) (by rfl)) rfl ?_
    (try simp only [zP, zN, zA, zB, zC])
    refine pure_ (i := 1) (N := some 158) (v := .int .i64 j) #[true, true, false, false, false, false, false, false, false, false, false, false, false, false, false, false, false, false, false, false, false, false] rfl rfl (by kernel_rfl) (fun c a w h => hP c a _ _ w h) (y_move rfl (by rfl) (by rfl)) rfl ?_
    (try simp only [zP, zN, zA, zB, zC])
    refine pure_ (i := 2) (N := some 159) (v := .pointer (some ⟨gr, j, none⟩)) #[true, true, true, false, false, false, false, false, false, false, false, false, false, false, false, false, false, false, false, false, false, false] rfl rfl (by kernel_rfl) (fun c a w h => hP c a _ _ w h) (y_run (by rfl) (fun W => by have d := D149.out; go_simp)) rfl ?_
    (try simp only [zP, zN, zA, zB, zC])
    refine take_ (i := 3) (N := some 160) (v := .string tr) #[true, true, true, true, false, false, false, false, false, false, false, false, false, false, false, false, false, false, false, false, false, false] rfl rfl (by kernel_rfl) (fun c a w h => hP c a _ _ w h) (y_load (p := ⟨gr, j, none⟩) rfl (by rfl) (by rfl) (fun W hS => run_load_one (own_cell hS.1 (flat_at HTR.out)) Tryd.underlying9 rfl)) hS213 rfl ?_
    (try simp only [zP, zN, zA, zB, zC])
    refine pure_ (i := 4) (N := some 161) (v := .int .i64 tr.size) #[true, true, true, true, true, false, false, false, false, false, false, false, false, false, false, false, false, false, false, false, false, false] rfl rfl (by kernel_rfl) (fun c a w h => hP c a _ _ w h) (y_run (by rfl) (fun W => by go_simp)) rfl ?_
    (try simp only [zP, zN, zA, zB, zC])
    refine pure_ (i := 5) (N := some 162) (v := .string cw) #[true, true, true, true, true, true, false, false, false, false, false, false, false, false, false, false, false, false, false, false, false, false] rfl rfl (by kernel_rfl) (fun c a w h => hP c a _ _ w h) (y_move rfl (by rfl) (by rfl)) rfl ?_
    (try simp only [zP, zN, zA, zB, zC])
    refine pure_ (i := 6) (N := some 163) (v := .int .i64 cw.size) #[true, true, true, true, true, true, true, false, false, false, false, false, false, false, false, false, false, false, false, false, false, false] rfl rfl (by kernel_rfl) (fun c a w h => hP c a _ _ w h) (y_run (by rfl) (fun W => by go_simp)) rfl ?_
    (try simp only [zP, zN, zA, zB, zC])
    refine pure_ (i := 7) (N := some 164) (v := .bool false) #[true, true, true, true, true, true, true, true, false, false, false, false, false, false, false, false, false, false, false, false, false, false] rfl rfl (by kernel_rfl) (fun c a w h => hP c a _ _ w h) (y_run (by rfl) (fun W => by have d := D164.out; go_simp)) rfl ?_
    (try simp only [zP, zN, zA, zB, zC])
    refine pure_ (i := 8) (N := some 165) (v := .bool false) #[true, true, true, true, true, true, true, true, true, false, false, false, false, false, false, false, false, false, false, false, false, false] rfl rfl (by kernel_rfl) (fun c a w h => hP c a _ _ w h) (y_move rfl (by rfl) (by rfl)) rfl ?_
    (try simp only [zP, zN, zA, zB, zC])
    refine pure_ (i := 9) (N := some 166) (v := .string cw) #[true, true, true, true, true, true, true, true, true, true, false, false, false, false, false, false, false, false, false, false, false, false] rfl rfl (by kernel_rfl) (fun c a w h => hP c a _ _ w h) (y_move rfl (by rfl) (by rfl)) rfl ?_
    (try simp only [zP, zN, zA, zB, zC])
    refine pure_ (i := 10) (N := some 167) (v := .slice (some ⟨gr, 0, none⟩) 200 200) #[true, true, true, true, true, true, true, true, true, true, true, false, false, false, false, false, false, false, false, false, false, false] rfl rfl (by kernel_rfl) (fun c a w h => hP c a _ _ w h) (y_move rfl (by rfl) (by rfl)) rfl ?_
    (try simp only [zP, zN, zA, zB, zC])
    refine pure_ (i := 11) (N := some 168) (v := .int .i64 j) #[true, true, true, true, true, true, true, true, true, true, true, true, false, false, false, false, false, false, false, false, false, false] rfl rfl (by kernel_rfl) (fun c a w h => hP c a _ _ w h) (y_move rfl (by rfl) (by rfl)) rfl ?_
    (try simp only [zP, zN, zA, zB, zC])
    refine pure_ (i := 12) (N := some 169) (v := .pointer (some ⟨gr, j, none⟩)) #[true, true, true, true, true, true, true, true, true, true, true, true, true, false, false, false, false, false, false, false, false, false] rfl rfl (by kernel_rfl) (fun c a w h => hP c a _ _ w h) (y_run (by rfl) (fun W => by have d := D149.out; go_simp)) rfl ?_
    (try simp only [zP, zN, zA, zB, zC])
    refine take_ (i := 13) (N := some 170) (v := .string tr) #[true, true, true, true, true, true, true, true, true, true, true, true, true, true, false, false, false, false, false, false, false, false] rfl rfl (by kernel_rfl) (fun c a w h => hP c a _ _ w h) (y_load (p := ⟨gr, j, none⟩) rfl (by rfl) (by rfl) (fun W hS => run_load_one (own_cell hS.1 (flat_at HTR.out)) Tryd.underlying9 rfl)) hS213 rfl ?_
    (try simp only [zP, zN, zA, zB, zC])
    refine pure_ (i := 14) (N := some 171) (v := .int .i64 tr.size) #[true, true, true, true, true, true, true, true, true, true, true, true, true, true, true, false, false, false, false, false, false, false] rfl rfl (by kernel_rfl) (fun c a w h => hP c a _ _ w h) (y_run (by rfl) (fun W => by go_simp)) rfl ?_
    (try simp only [zP, zN, zA, zB, zC])
    refine pure_ (i := 15) (N := some 172) (v := .string (cw.extract 0 tr.size)) #[true, true, true, true, true, true, true, true, true, true, true, true, true, true, true, true, false, false, false, false, false, false] rfl rfl (by kernel_rfl) (fun c a w h => hP c a _ _ w h) (y_run (by rfl) (fun W => by have d := D172.out; go_simp)) rfl ?_
    (try simp only [zP, zN, zA, zB, zC])
    refine pure_ (i := 16) (N := some 173) (v := .slice (some ⟨gr, 0, none⟩) 200 200) #[true, true, true, true, true, true, true, true, true, true, true, true, true, true, true, true, true, false, false, false, false, false] rfl rfl (by kernel_rfl) (fun c a w h => hP c a _ _ w h) (y_move rfl (by rfl) (by rfl)) rfl ?_
    (try simp only [zP, zN, zA, zB, zC])
    refine pure_ (i := 17) (N := some 174) (v := .int .i64 j) #[true, true, true, true, true, true, true, true, true, true, true, true, true, true, true, true, true, true, false, false, false, false] rfl rfl (by kernel_rfl) (fun c a w h => hP c a _ _ w h) (y_move rfl (by rfl) (by rfl)) rfl ?_
    (try simp only [zP, zN, zA, zB, zC])
    refine pure_ (i := 18) (N := some 175) (v := .pointer (some ⟨gr, j, none⟩)) #[true, true, true, true, true, true, true, true, true, true, true, true, true, true, true, true, true, true, true, false, false, false] rfl rfl (by kernel_rfl) (fun c a w h => hP c a _ _ w h) (y_run (by rfl) (fun W => by have d := D149.out; go_simp)) rfl ?_
    (try simp only [zP, zN, zA, zB, zC])
    refine take_ (i := 19) (N := some 176) (v := .string tr) #[true, true, true, true, true, true, true, true, true, true, true, true, true, true, true, true, true, true, true, true, false, false] rfl rfl (by kernel_rfl) (fun c a w h => hP c a _ _ w h) (y_load (p := ⟨gr, j, none⟩) rfl (by rfl) (by rfl) (fun W hS => run_load_one (own_cell hS.1 (flat_at HTR.out)) Tryd.underlying9 rfl)) hS213 rfl ?_
    (try simp only [zP, zN, zA, zB, zC])
    refine pure_ (i := 20) (N := some 177) (v := .bool false) #[true, true, true, true, true, true, true, true, true, true, true, true, true, true, true, true, true, true, true, true, true, false] rfl rfl (by kernel_rfl) (fun c a w h => hP c a _ _ w h) (y_run (by rfl) (fun W => by rw [D177.out]; go_simp)) rfl ?_
    (try simp only [zP, zN, zA, zB, zC])
    refine pure_ (i := 21) (N := some 178) (v := .bool false) #[true, true, true, true, true, true, true, true, true, true, true, true, true, true, true, true, true, true, true, true, true, true] rfl rfl (by kernel_rfl) (fun c a w h => hP c a _ _ w h) (y_pick (t := false) (by rfl) rfl (by rfl) (by rfl)) rfl ?_
    (try simp only [zP, zN, zA, zB, zC])
    refine done_ (by kernel_rfl) (th_norm (hK210 _ _ ?_)); clear hK210 K210
    refine wp_cond_false rfl ?_
    refine wp_skip ?_
    refine th_norm (hK209 _ _ ?_); try clear hK209 K209
    rcases Bool.eq_false_or_eq_true (ofR F (j : Int)).2.2 with h | h
    · have HOP := Lib.hid h
      clear h
      have HALL := Lib.hid (show tr ++ (rsN (j : Int) F 5).1 = cw from (all_of hPI.out (fW_at HTW.out) HRJ.out HOP.out EX.out.qs).trans HCW.out.symm)
      have D195 := Lib.hid (show tr.size + (rsN (j : Int) F 5).1.size ≤ 9223372036854775807 by have h9 := congrArg ByteArray.size HALL.out; rw [ByteArray.size_append] at h9; have := HCZ.out; omega)
      obtain ⟨R2, hr1, hr2⟩ := rs_p hPI.out (j : Int) 5
      have HR1 := Lib.hid hr1
      have HR2 := Lib.hid hr2
      clear hr1 hr2
      refine s_ (fun K214 hK214 => ?_)
      refine pu_ (v := .pointer (some ⟨x, 0, none⟩)) (y_move rfl (by rfl) (by rfl)) ?_
      (try simp only [zP, zN, zA, zB, zC])
      refine pu_ (v := .int .i64 j) (y_move rfl (by rfl) (by rfl)) ?_
      (try simp only [zP, zN, zA, zB, zC])
      refine ef_ (fun K215 hK215 => ?_)
      refine e_call Tryd.func15 (by kernel_rfl) rfl #[.pointer (some ⟨x, 0, none⟩), .int .i64 j] (by rfl) rfl rfl (by first | rfl | (simp only [List.map_toArray, List.map_cons, List.map_nil]; first | done | rfl)) ((by have h9 := of_l (id := (j : Int)) EX.out (by have := hF.out; omega); rw [HOP.out] at h9; exact h9)) ?_
      rintro en w217 ⟨rfl, Bs216, bk, cc, bel⟩
      refine ⟨_, rfl, ?_⟩
      have hr218 := Lib.hid (show ∀ k_, k_ ∈ rl (.slice (some ⟨gw, 0, none⟩) 200 200) → k_ ∉ Bs216 from fun k_ hk_ hB_ => (bel k_ hB_).elim (hrsw2.out k_ hk_) (fun h8 => by have := (OW.out.lt k_ hk_).2; omega))
      have hr219 := Lib.hid (show ∀ k_, k_ ∈ rl (.slice (some ⟨gr, 0, none⟩) 200 200) → k_ ∉ Bs216 from fun k_ hk_ hB_ => (bel k_ hB_).elim (hrsr2.out k_ hk_) (fun h8 => by have := (OR.out.lt k_ hk_).2; omega))
      have C0' := Lib.hid (show Ch [] w w217 from C0.out.trans' cc (fun x hx => .inr (EX.out.lt x hx).1))
      have OW' := Lib.hid (show OwnS w217 w.heap.size 9 1 (.slice (some ⟨gw, 0, none⟩) 200 200) (200) ((lw).flatMap strC) from OW.out.ch cc hrsw2.out)
      have OR' := Lib.hid (show OwnS w217 w.heap.size 9 1 (.slice (some ⟨gr, 0, none⟩) 200 200) (200) ((lr).flatMap strC) from OR.out.ch cc hrsr2.out)
      clear C0 OW OR
      have C0 := C0'; clear C0'
      have OW := OW'; clear OW'
      have OR := OR'; clear OR'
      clear EX cc bel
      have EX := Lib.hid (show ExIs w217 w.heap.size Bs216 x ((64 * k + 320 * j)) (F) from bk)
      clear bk
      refine hK215 _ _ ?_; clear hK215 K215
      (try simp only [zP, zN, zA, zB, zC])
      refine pu_ (v := .tuple #[.int .i64 (ofR F (j : Int)).1, .int .i64 (ofR F (j : Int)).2.1, .bool true]) (y_move rfl (by rfl) (by rfl)) ?_
      (try simp only [zP, zN, zA, zB, zC])
      refine pu_ (v := .int .i64 (ofR F (j : Int)).1) (y_run (by rfl) (fun W => by go_simp)) ?_
      (try simp only [zP, zN, zA, zB, zC])
      refine pu_ (v := .int .i64 (ofR F (j : Int)).2.1) (y_run (by rfl) (fun W => by go_simp)) ?_
      (try simp only [zP, zN, zA, zB, zC])
      refine pu_ (v := .bool true) (y_run (by rfl) (fun W => by go_simp)) ?_
      (try simp only [zP, zN, zA, zB, zC])
      refine pu_ (v := .int .i64 (ofR F (j : Int)).1) (y_assign rfl (by rfl) (by rfl)) ?_
      (try simp only [zP, zN, zA, zB, zC])
      refine pu_ (v := .int .i64 (ofR F (j : Int)).2.1) (y_assign rfl (by rfl) (by rfl)) ?_
      (try simp only [zP, zN, zA, zB, zC])
      refine pu_ (v := .bool true) (y_assign rfl (by rfl) (by rfl)) ?_
      (try simp only [zP, zN, zA, zB, zC])
      refine nl_ (hK214 _ _ ?_); clear hK214 K214
      refine sq_ (fun K220 hK220 => ?_)
      refine startk_ (S := fun W => OwnS W w.heap.size 9 1 (.slice (some ⟨gr, 0, none⟩) 200 200) (200) ((lr).flatMap strC) ∧ True) (ds := []) #[false, false, false, false, false, false, false, false, false, false, false, false, false] (by kernel_rfl) rfl rfl (fun W c => ⟨OR.out.ch c rnin_nil, trivial⟩) (fun w221 C222 hS223 => ?_)
      have C0' := Lib.hid (show Ch [] w w221 from C0.out.trans' C222 (fun x hx => absurd hx (by simp)))
      have EX' := Lib.hid (show ExIs w221 w.heap.size Bs216 x ((64 * k + 320 * j)) (F) from EX.out.ch C222 (fun _ _ h => absurd h (by simp)))
      have OW' := Lib.hid (show OwnS w221 w.heap.size 9 1 (.slice (some ⟨gw, 0, none⟩) 200 200) (200) ((lw).flatMap strC) from OW.out.ch C222 rnin_nil)
      have OR' := Lib.hid (show OwnS w221 w.heap.size 9 1 (.slice (some ⟨gr, 0, none⟩) 200 200) (200) ((lr).flatMap strC) from OR.out.ch C222 rnin_nil)
      clear C0 EX OW OR
      have C0 := C0'; clear C0'
      have EX := EX'; clear EX'
      have OW := OW'; clear OW'
      have OR := OR'; clear OR'
      clear C222
      refine pure_ (i := 0) (N := some 186) (v := .bool true) #[true, false, false, false, false, false, false, false, false, false, false, false, false] rfl rfl (by kernel_rfl) (fun c a w h => hP c a _ _ w h) (y_move rfl (by rfl) (by rfl)) rfl ?_
      (try simp only [zP, zN, zA, zB, zC])
      refine pure_ (i := 1) (N := some 187) (v := .bool true) #[true, true, false, false, false, false, false, false, false, false, false, false, false] rfl rfl (by kernel_rfl) (fun c a w h => hP c a _ _ w h) (y_move rfl (by rfl) (by rfl)) rfl ?_
      (try simp only [zP, zN, zA, zB, zC])
      refine pure_ (i := 2) (N := some 188) (v := .slice (some ⟨gr, 0, none⟩) 200 200) #[true, true, true, false, false, false, false, false, false, false, false, false, false] rfl rfl (by kernel_rfl) (fun c a w h => hP c a _ _ w h) (y_move rfl (by rfl) (by rfl)) rfl ?_
      (try simp only [zP, zN, zA, zB, zC])
      refine pure_ (i := 3) (N := some 189) (v := .int .i64 j) #[true, true, true, true, false, false, false, false, false, false, false, false, false] rfl rfl (by kernel_rfl) (fun c a w h => hP c a _ _ w h) (y_move rfl (by rfl) (by rfl)) rfl ?_
      (try simp only [zP, zN, zA, zB, zC])
      refine pure_ (i := 4) (N := some 190) (v := .pointer (some ⟨gr, j, none⟩)) #[true, true, true, true, true, false, false, false, false, false, false, false, false] rfl rfl (by kernel_rfl) (fun c a w h => hP c a _ _ w h) (y_run (by rfl) (fun W => by have d := D149.out; go_simp)) rfl ?_
      (try simp only [zP, zN, zA, zB, zC])
      refine take_ (i := 5) (N := some 191) (v := .string tr) #[true, true, true, true, true, true, false, false, false, false, false, false, false] rfl rfl (by kernel_rfl) (fun c a w h => hP c a _ _ w h) (y_load (p := ⟨gr, j, none⟩) rfl (by rfl) (by rfl) (fun W hS => run_load_one (own_cell hS.1 (flat_at HTR.out)) Tryd.underlying9 rfl)) hS223 rfl ?_
      (try simp only [zP, zN, zA, zB, zC])
      refine pure_ (i := 6) (N := some 192) (v := .pointer (some ⟨x, 0, none⟩)) #[true, true, true, true, true, true, true, false, false, false, false, false, false] rfl rfl (by kernel_rfl) (fun c a w h => hP c a _ _ w h) (y_move rfl (by rfl) (by rfl)) rfl ?_
      (try simp only [zP, zN, zA, zB, zC])
      refine pure_ (i := 7) (N := some 193) (v := .int .i64 j) #[true, true, true, true, true, true, true, true, false, false, false, false, false] rfl rfl (by kernel_rfl) (fun c a w h => hP c a _ _ w h) (y_move rfl (by rfl) (by rfl)) rfl ?_
      (try simp only [zP, zN, zA, zB, zC])
      refine pure_ (i := 10) (N := some 196) (v := .string cw) #[true, true, true, true, true, true, true, true, false, false, true, false, false] rfl rfl (by kernel_rfl) (fun c a w h => hP c a _ _ w h) (y_move rfl (by rfl) (by rfl)) rfl ?_
      (try simp only [zP, zN, zA, zB, zC])
      refine one_ (i := 8) (N := some 194) #[true, true, true, true, true, true, true, true, true, false, true, false, false] rfl rfl (by kernel_rfl) (by simp) (fun K224 hK224 => ?_)
      refine e_call Tryd.func16 (by kernel_rfl) rfl #[.pointer (some ⟨x, 0, none⟩), .int .i64 j] (by rfl) rfl rfl (by first | rfl | (simp only [List.map_toArray, List.map_cons, List.map_nil]; first | done | rfl)) ((rest_ (c := 64 * k + 320 * j) (E := F) (id := (j : Int)) (Lib.hid (by have := hF.out; omega)) (Lib.hid (by have := hk.out; have := hlt.out; omega)) HTB (Lib.hid rfl) (Lib.hid C0.out.below0) EX)) ?_
      rintro en w226 ⟨rfl, Bs225, bk, cc, bel⟩
      refine ⟨_, rfl, ?_⟩
      have hr227 := Lib.hid (show ∀ k_, k_ ∈ rl (.slice (some ⟨gw, 0, none⟩) 200 200) → k_ ∉ Bs225 from fun k_ hk_ hB_ => (bel k_ hB_).elim (hr218.out k_ hk_) (fun h8 => by have := (OW.out.lt k_ hk_).2; omega))
      have hr228 := Lib.hid (show ∀ k_, k_ ∈ rl (.slice (some ⟨gr, 0, none⟩) 200 200) → k_ ∉ Bs225 from fun k_ hk_ hB_ => (bel k_ hB_).elim (hr219.out k_ hk_) (fun h8 => by have := (OR.out.lt k_ hk_).2; omega))
      have C0' := Lib.hid (show Ch [] w w226 from C0.out.trans' cc (fun x hx => .inr (EX.out.lt x hx).1))
      have OW' := Lib.hid (show OwnS w226 w.heap.size 9 1 (.slice (some ⟨gw, 0, none⟩) 200 200) (200) ((lw).flatMap strC) from OW.out.ch cc hr218.out)
      have OR' := Lib.hid (show OwnS w226 w.heap.size 9 1 (.slice (some ⟨gr, 0, none⟩) 200 200) (200) ((lr).flatMap strC) from OR.out.ch cc hr219.out)
      clear C0 OW OR
      have C0 := C0'; clear C0'
      have OW := OW'; clear OW'
      have OR := OR'; clear OR'
      clear EX cc bel
      have EX := Lib.hid (show ExIs w226 w.heap.size Bs225 x ((64 * k + 320 * j) + 64 * 5) ((rsN (j : Int) F 5).2) from bk)
      clear bk
      refine hK224.out _ _ ⟨OR.out, trivial⟩ (fun hS229 => ?_); clear hK224 K224
      (try simp only [zP, zN, zA, zB, zC])
      refine pure_ (i := 9) (N := some 195) (v := .string (tr ++ (rsN (j : Int) F 5).1)) #[true, true, true, true, true, true, true, true, true, true, true, false, false] rfl rfl (by kernel_rfl) (fun c a w h => hP c a _ _ w h) (y_run (by rfl) (fun W => by have d := D195.out; go_simp)) rfl ?_
      (try simp only [zP, zN, zA, zB, zC])
      refine pure_ (i := 11) (N := some 197) (v := .bool false) #[true, true, true, true, true, true, true, true, true, true, true, true, false] rfl rfl (by kernel_rfl) (fun c a w h => hP c a _ _ w h) (y_run (by rfl) (fun W => by rw [HALL.out]; go_simp)) rfl ?_
      (try simp only [zP, zN, zA, zB, zC])
      refine pure_ (i := 12) (N := some 198) (v := .bool false) #[true, true, true, true, true, true, true, true, true, true, true, true, true] rfl rfl (by kernel_rfl) (fun c a w h => hP c a _ _ w h) (y_pick (t := true) (by rfl) rfl (by rfl) (by rfl)) rfl ?_
      (try simp only [zP, zN, zA, zB, zC])
      refine done_ (by kernel_rfl) (th_norm (hK220 _ _ ?_)); clear hK220 K220
      refine wp_cond_false rfl ?_
      refine wp_skip ?_
      refine ib_norm ?_
      refine th_norm (hK204 _ _ ?_); try clear hK204 K204
      refine r_ ?_
      refine pu_ (v := .int .i64 j) (y_move rfl (by rfl) (by rfl)) ?_
      (try simp only [zP, zN, zA, zB, zC])
      refine pu_ (v := .int .i64 (j + 1 : Nat)) (y_run (by rfl) (fun W => by have d := Wj.out; go_simp)) ?_
      (try simp only [zP, zN, zA, zB, zC])
      refine pu_ (v := .int .i64 (j + 1 : Nat)) (y_assign rfl (by rfl) (by rfl)) ?_
      (try simp only [zP, zN, zA, zB, zC])
      refine nl_ ?_
      exact th_norm (hK201 (kq - 1) _ _ (by have := hlt.out; have := hj.out; omega) ⟨j + 1, Bs225, (rsN (j : Int) F 5).2, R2, fun us_ => (#[us 0, us 1, .bool false, .pointer (some ⟨x, 0, none⟩), .slice (some ⟨gw, 0, none⟩) 200 200, .slice (some ⟨gr, 0, none⟩) 200 200, us 6, us 7, us 8, us 9, us 10, us 11, .int .i64 (j + 1 : Nat), .string cw, .int .i64 (ofR F (j : Int)).1, .int .i64 (ofR F (j : Int)).2.1, .bool true, us 17, us 18, us 19, us 20, us 21, us 22, us 23, us 24, us 25, us 26, us 27, us 28, us 29, us 30, us 31, us 32, us 33, us 34, us 35, us 36, us 37, us 38, us 39, us 40, us 41, us 42, us 43, us 44, us 45, us 46, us 47, us 48, us 49, us 50, us 51, us 52, us 53, us 54, us 55, us 56, us 57, us 58, us 59, us 60, us 61, us 62, us 63, us 64, us 65, us 66, us 67, us 68, us 69, us 70, us 71, us 72, us 73, us 74, us 75, us 76, us 77, us 78, us 79, us 80, us 81, us 82, us 83, us 84, us 85, us 86, us 87, us 88, us 89, us 90, us 91, us 92, us 93, us 94, us 95, us 96, us 97, us 98, us 99, us 100, us 101, us 102, us 103, us 104, us 105, us 106, us 107, us 108, us 109, us 110, us 111, us 112, us 113, us 114, us 115, us 116, us 117, us 118, us 119, us 120, us 121, us 122, us 123, us 124, us 125, us 126, us 127, us 128, us 129, us 130, us 131, us 132, us 133, us 134, us 135, us 136, us 137, us 138, us 139, us 140, us 141, us 142, us 143, us 144, us 145, us 146, us 147, .int .i64 j, .bool true, .int .i64 j, .int .i64 (j + 1 : Nat), .slice (some ⟨gw, 0, none⟩) 200 200, .int .i64 j, .pointer (some ⟨gw, j, none⟩), .string tw, .string cw, .slice (some ⟨gr, 0, none⟩) 200 200, .int .i64 j, .pointer (some ⟨gr, j, none⟩), .string tr, .int .i64 tr.size, .string cw, .int .i64 cw.size, .bool false, .bool false, .string cw, .slice (some ⟨gr, 0, none⟩) 200 200, .int .i64 j, .pointer (some ⟨gr, j, none⟩), .string tr, .int .i64 tr.size, .string (cw.extract 0 tr.size), .slice (some ⟨gr, 0, none⟩) 200 200, .int .i64 j, .pointer (some ⟨gr, j, none⟩), .string tr, .bool false, .bool false, .tuple #[.int .i64 (ofR F (j : Int)).1, .int .i64 (ofR F (j : Int)).2.1, .bool true], .pointer (some ⟨x, 0, none⟩), .int .i64 j, .tuple #[.int .i64 (ofR F (j : Int)).1, .int .i64 (ofR F (j : Int)).2.1, .bool true], .int .i64 (ofR F (j : Int)).1, .int .i64 (ofR F (j : Int)).2.1, .bool true, .bool true, .bool true, .slice (some ⟨gr, 0, none⟩) 200 200, .int .i64 j, .pointer (some ⟨gr, j, none⟩), .string tr, .pointer (some ⟨x, 0, none⟩), .int .i64 j, .string (rsN (j : Int) F 5).1, .string (tr ++ (rsN (j : Int) F 5).1), .string cw, .bool false, .bool false] : Array Value).getD us_ undef, rfl, C0, Lib.hid (EX.out.up (by omega)), OW, OR, Lib.hid ⟨by have := hlt.out; omega, by have := hlt.out; omega, by have := hlt.out; have := hj.out; omega⟩, Lib.hid (rs_few hF.out), HR1, Lib.hid (fun i hi => (HR2.out i (by rw [Int.toNat_natCast]; omega)).trans (hRR.out i (by omega))), hr227, hr228⟩)
    · have HOP := Lib.hid h
      clear h
      refine s_ (fun K230 hK230 => ?_)
      refine pu_ (v := .pointer (some ⟨x, 0, none⟩)) (y_move rfl (by rfl) (by rfl)) ?_
      (try simp only [zP, zN, zA, zB, zC])
      refine pu_ (v := .int .i64 j) (y_move rfl (by rfl) (by rfl)) ?_
      (try simp only [zP, zN, zA, zB, zC])
      refine ef_ (fun K231 hK231 => ?_)
      refine e_call Tryd.func15 (by kernel_rfl) rfl #[.pointer (some ⟨x, 0, none⟩), .int .i64 j] (by rfl) rfl rfl (by first | rfl | (simp only [List.map_toArray, List.map_cons, List.map_nil]; first | done | rfl)) ((by have h9 := of_l (id := (j : Int)) EX.out (by have := hF.out; omega); rw [HOP.out] at h9; exact h9)) ?_
      rintro en w233 ⟨rfl, Bs232, bk, cc, bel⟩
      refine ⟨_, rfl, ?_⟩
      have hr234 := Lib.hid (show ∀ k_, k_ ∈ rl (.slice (some ⟨gw, 0, none⟩) 200 200) → k_ ∉ Bs232 from fun k_ hk_ hB_ => (bel k_ hB_).elim (hrsw2.out k_ hk_) (fun h8 => by have := (OW.out.lt k_ hk_).2; omega))
      have hr235 := Lib.hid (show ∀ k_, k_ ∈ rl (.slice (some ⟨gr, 0, none⟩) 200 200) → k_ ∉ Bs232 from fun k_ hk_ hB_ => (bel k_ hB_).elim (hrsr2.out k_ hk_) (fun h8 => by have := (OR.out.lt k_ hk_).2; omega))
      have C0' := Lib.hid (show Ch [] w w233 from C0.out.trans' cc (fun x hx => .inr (EX.out.lt x hx).1))
      have OW' := Lib.hid (show OwnS w233 w.heap.size 9 1 (.slice (some ⟨gw, 0, none⟩) 200 200) (200) ((lw).flatMap strC) from OW.out.ch cc hrsw2.out)
      have OR' := Lib.hid (show OwnS w233 w.heap.size 9 1 (.slice (some ⟨gr, 0, none⟩) 200 200) (200) ((lr).flatMap strC) from OR.out.ch cc hrsr2.out)
      clear C0 OW OR
      have C0 := C0'; clear C0'
      have OW := OW'; clear OW'
      have OR := OR'; clear OR'
      clear EX cc bel
      have EX := Lib.hid (show ExIs w233 w.heap.size Bs232 x ((64 * k + 320 * j)) (F) from bk)
      clear bk
      refine hK231 _ _ ?_; clear hK231 K231
      (try simp only [zP, zN, zA, zB, zC])
      refine pu_ (v := .tuple #[.int .i64 (ofR F (j : Int)).1, .int .i64 (ofR F (j : Int)).2.1, .bool false]) (y_move rfl (by rfl) (by rfl)) ?_
      (try simp only [zP, zN, zA, zB, zC])
      refine pu_ (v := .int .i64 (ofR F (j : Int)).1) (y_run (by rfl) (fun W => by go_simp)) ?_
      (try simp only [zP, zN, zA, zB, zC])
      refine pu_ (v := .int .i64 (ofR F (j : Int)).2.1) (y_run (by rfl) (fun W => by go_simp)) ?_
      (try simp only [zP, zN, zA, zB, zC])
      refine pu_ (v := .bool false) (y_run (by rfl) (fun W => by go_simp)) ?_
      (try simp only [zP, zN, zA, zB, zC])
      refine pu_ (v := .int .i64 (ofR F (j : Int)).1) (y_assign rfl (by rfl) (by rfl)) ?_
      (try simp only [zP, zN, zA, zB, zC])
      refine pu_ (v := .int .i64 (ofR F (j : Int)).2.1) (y_assign rfl (by rfl) (by rfl)) ?_
      (try simp only [zP, zN, zA, zB, zC])
      refine pu_ (v := .bool false) (y_assign rfl (by rfl) (by rfl)) ?_
      (try simp only [zP, zN, zA, zB, zC])
      refine nl_ (hK230 _ _ ?_); clear hK230 K230
      refine sq_ (fun K236 hK236 => ?_)
      refine startk_ (S := fun W => True) (ds := []) #[false, false, false, false, false, false, false, false, false, false, false, false, false] (by kernel_rfl) rfl rfl (fun W c => trivial) (fun w237 C238 hS239 => ?_)
      have C0' := Lib.hid (show Ch [] w w237 from C0.out.trans' C238 (fun x hx => absurd hx (by simp)))
      have EX' := Lib.hid (show ExIs w237 w.heap.size Bs232 x ((64 * k + 320 * j)) (F) from EX.out.ch C238 (fun _ _ h => absurd h (by simp)))
      have OW' := Lib.hid (show OwnS w237 w.heap.size 9 1 (.slice (some ⟨gw, 0, none⟩) 200 200) (200) ((lw).flatMap strC) from OW.out.ch C238 rnin_nil)
      have OR' := Lib.hid (show OwnS w237 w.heap.size 9 1 (.slice (some ⟨gr, 0, none⟩) 200 200) (200) ((lr).flatMap strC) from OR.out.ch C238 rnin_nil)
      clear C0 EX OW OR
      have C0 := C0'; clear C0'
      have EX := EX'; clear EX'
      have OW := OW'; clear OW'
      have OR := OR'; clear OR'
      clear C238
      refine pure_ (i := 0) (N := some 186) (v := .bool false) #[true, false, false, false, false, false, false, false, false, false, false, false, false] rfl rfl (by kernel_rfl) (fun c a w h => hP c a _ _ w h) (y_move rfl (by rfl) (by rfl)) rfl ?_
      (try simp only [zP, zN, zA, zB, zC])
      refine pure_ (i := 1) (N := some 187) (v := .bool false) #[true, true, false, false, false, false, false, false, false, false, false, false, false] rfl rfl (by kernel_rfl) (fun c a w h => hP c a _ _ w h) (y_move rfl (by rfl) (by rfl)) rfl ?_
      (try simp only [zP, zN, zA, zB, zC])
      refine pure_ (i := 2) (N := some 188) (v := undef) #[true, true, true, false, false, false, false, false, false, false, false, false, false] rfl rfl (by kernel_rfl) (fun c a w h => hP c a _ _ w h) (y_off (by rfl)) rfl ?_
      (try simp only [zP, zN, zA, zB, zC])
      refine pure_ (i := 3) (N := some 189) (v := undef) #[true, true, true, true, false, false, false, false, false, false, false, false, false] rfl rfl (by kernel_rfl) (fun c a w h => hP c a _ _ w h) (y_off (by rfl)) rfl ?_
      (try simp only [zP, zN, zA, zB, zC])
      refine pure_ (i := 4) (N := some 190) (v := undef) #[true, true, true, true, true, false, false, false, false, false, false, false, false] rfl rfl (by kernel_rfl) (fun c a w h => hP c a _ _ w h) (y_off (by rfl)) rfl ?_
      (try simp only [zP, zN, zA, zB, zC])
      refine pure_ (i := 5) (N := some 191) (v := undef) #[true, true, true, true, true, true, false, false, false, false, false, false, false] rfl rfl (by kernel_rfl) (fun c a w h => hP c a _ _ w h) (y_off (by rfl)) rfl ?_
      (try simp only [zP, zN, zA, zB, zC])
      refine pure_ (i := 6) (N := some 192) (v := undef) #[true, true, true, true, true, true, true, false, false, false, false, false, false] rfl rfl (by kernel_rfl) (fun c a w h => hP c a _ _ w h) (y_off (by rfl)) rfl ?_
      (try simp only [zP, zN, zA, zB, zC])
      refine pure_ (i := 7) (N := some 193) (v := undef) #[true, true, true, true, true, true, true, true, false, false, false, false, false] rfl rfl (by kernel_rfl) (fun c a w h => hP c a _ _ w h) (y_off (by rfl)) rfl ?_
      (try simp only [zP, zN, zA, zB, zC])
      refine pure_ (i := 8) (N := some 194) (v := undef) #[true, true, true, true, true, true, true, true, true, false, false, false, false] rfl rfl (by kernel_rfl) (fun c a w h => hP c a _ _ w h) (y_off (by rfl)) rfl ?_
      (try simp only [zP, zN, zA, zB, zC])
      refine pure_ (i := 9) (N := some 195) (v := undef) #[true, true, true, true, true, true, true, true, true, true, false, false, false] rfl rfl (by kernel_rfl) (fun c a w h => hP c a _ _ w h) (y_off (by rfl)) rfl ?_
      (try simp only [zP, zN, zA, zB, zC])
      refine pure_ (i := 10) (N := some 196) (v := undef) #[true, true, true, true, true, true, true, true, true, true, true, false, false] rfl rfl (by kernel_rfl) (fun c a w h => hP c a _ _ w h) (y_off (by rfl)) rfl ?_
      (try simp only [zP, zN, zA, zB, zC])
      refine pure_ (i := 11) (N := some 197) (v := undef) #[true, true, true, true, true, true, true, true, true, true, true, true, false] rfl rfl (by kernel_rfl) (fun c a w h => hP c a _ _ w h) (y_off (by rfl)) rfl ?_
      (try simp only [zP, zN, zA, zB, zC])
      refine pure_ (i := 12) (N := some 198) (v := .bool false) #[true, true, true, true, true, true, true, true, true, true, true, true, true] rfl rfl (by kernel_rfl) (fun c a w h => hP c a _ _ w h) (y_pick (t := false) (by rfl) rfl (by rfl) (by rfl)) rfl ?_
      (try simp only [zP, zN, zA, zB, zC])
      refine done_ (by kernel_rfl) (th_norm (hK236 _ _ ?_)); clear hK236 K236
      refine wp_cond_false rfl ?_
      refine wp_skip ?_
      refine ib_norm ?_
      refine th_norm (hK204 _ _ ?_); try clear hK204 K204
      refine r_ ?_
      refine pu_ (v := .int .i64 j) (y_move rfl (by rfl) (by rfl)) ?_
      (try simp only [zP, zN, zA, zB, zC])
      refine pu_ (v := .int .i64 (j + 1 : Nat)) (y_run (by rfl) (fun W => by have d := Wj.out; go_simp)) ?_
      (try simp only [zP, zN, zA, zB, zC])
      refine pu_ (v := .int .i64 (j + 1 : Nat)) (y_assign rfl (by rfl) (by rfl)) ?_
      (try simp only [zP, zN, zA, zB, zC])
      refine nl_ ?_
      exact th_norm (hK201 (kq - 1) _ _ (by have := hlt.out; have := hj.out; omega) ⟨j + 1, Bs232, F, R, fun us_ => (#[us 0, us 1, .bool false, .pointer (some ⟨x, 0, none⟩), .slice (some ⟨gw, 0, none⟩) 200 200, .slice (some ⟨gr, 0, none⟩) 200 200, us 6, us 7, us 8, us 9, us 10, us 11, .int .i64 (j + 1 : Nat), .string cw, .int .i64 (ofR F (j : Int)).1, .int .i64 (ofR F (j : Int)).2.1, .bool false, us 17, us 18, us 19, us 20, us 21, us 22, us 23, us 24, us 25, us 26, us 27, us 28, us 29, us 30, us 31, us 32, us 33, us 34, us 35, us 36, us 37, us 38, us 39, us 40, us 41, us 42, us 43, us 44, us 45, us 46, us 47, us 48, us 49, us 50, us 51, us 52, us 53, us 54, us 55, us 56, us 57, us 58, us 59, us 60, us 61, us 62, us 63, us 64, us 65, us 66, us 67, us 68, us 69, us 70, us 71, us 72, us 73, us 74, us 75, us 76, us 77, us 78, us 79, us 80, us 81, us 82, us 83, us 84, us 85, us 86, us 87, us 88, us 89, us 90, us 91, us 92, us 93, us 94, us 95, us 96, us 97, us 98, us 99, us 100, us 101, us 102, us 103, us 104, us 105, us 106, us 107, us 108, us 109, us 110, us 111, us 112, us 113, us 114, us 115, us 116, us 117, us 118, us 119, us 120, us 121, us 122, us 123, us 124, us 125, us 126, us 127, us 128, us 129, us 130, us 131, us 132, us 133, us 134, us 135, us 136, us 137, us 138, us 139, us 140, us 141, us 142, us 143, us 144, us 145, us 146, us 147, .int .i64 j, .bool true, .int .i64 j, .int .i64 (j + 1 : Nat), .slice (some ⟨gw, 0, none⟩) 200 200, .int .i64 j, .pointer (some ⟨gw, j, none⟩), .string tw, .string cw, .slice (some ⟨gr, 0, none⟩) 200 200, .int .i64 j, .pointer (some ⟨gr, j, none⟩), .string tr, .int .i64 tr.size, .string cw, .int .i64 cw.size, .bool false, .bool false, .string cw, .slice (some ⟨gr, 0, none⟩) 200 200, .int .i64 j, .pointer (some ⟨gr, j, none⟩), .string tr, .int .i64 tr.size, .string (cw.extract 0 tr.size), .slice (some ⟨gr, 0, none⟩) 200 200, .int .i64 j, .pointer (some ⟨gr, j, none⟩), .string tr, .bool false, .bool false, .tuple #[.int .i64 (ofR F (j : Int)).1, .int .i64 (ofR F (j : Int)).2.1, .bool false], .pointer (some ⟨x, 0, none⟩), .int .i64 j, .tuple #[.int .i64 (ofR F (j : Int)).1, .int .i64 (ofR F (j : Int)).2.1, .bool false], .int .i64 (ofR F (j : Int)).1, .int .i64 (ofR F (j : Int)).2.1, .bool false, .bool false, .bool false, undef, undef, undef, undef, undef, undef, undef, undef, undef, undef, .bool false] : Array Value).getD us_ undef, rfl, C0, Lib.hid (EX.out.up (by omega)), OW, OR, Lib.hid ⟨by have := hlt.out; omega, by have := hlt.out; omega, by have := hlt.out; have := hj.out; omega⟩, hF, hPI, Lib.hid (fun i hi => hRR.out i (by omega)), hr234, hr235⟩)
  · have D149 := Lib.hid (show ¬ (j : Int) < 200 by omega)
    clear h
    refine s_ (fun K240 hK240 => ?_)
    refine pu_ (v := .int .i64 j) (y_move rfl (by rfl) (by rfl)) ?_
    (try simp only [zP, zN, zA, zB, zC])
    refine pu_ (v := .bool false) (y_run (by rfl) (fun W => by have d := D149.out; go_simp)) ?_
    (try simp only [zP, zN, zA, zB, zC])
    refine nl_ (hK240 _ _ ?_); clear hK240 K240
    refine wp_cond_false rfl ?_
    refine wp_exit ?_
    refine th_exit ?_
    refine th_exit ?_
    refine ib_exit ?_
    refine th_norm (hK198 _ _ ?_); try clear hK198 K198
    refine s_ (fun K241 hK241 => ?_)
    refine pu_ (v := .bool true) (y_assign rfl (by rfl) (by rfl)) ?_
    (try simp only [zP, zN, zA, zB, zC])
    refine nl_ (hK241 _ _ ?_); clear hK241 K241
    refine wp_ret ?_
    refine hQ _ _ _ ?_
    refine bodyPost_ret (res1 rfl (rdv_tmp (v := .bool true) (by rfl))) rfl ?_
    exact ⟨rfl, C0.out⟩
end
end Go.Proofs.YtcfkdglaedpnjaaDoor.V
