/- The walks of package hist: a book of operations. -/
import Derived.Test.YtggcpbnlblbpjaaHistP
import Derived.Lib.LazyBuf
namespace Go.Proofs.Ytggcpbnlblbpjaa.H
open Go Go.RowKit Go.Proofs.Ytggcpbnlblbpjaa.K Go.Proofs.YtggcpbnlblbpjaaW.PrintLast
set_option linter.unusedVariables false
set_option linter.unusedSimpArgs false
set_option maxRecDepth 100000
set_option maxHeartbeats 1600000
theorem zero3 (w : World) : (zeroValue 3).run Try.prog w = .ok (.int .i64 0) w := by kernel_rfl
def openN (L : List HOp) : Nat := (L.filter (fun o => o.t == 0)).length
theorem open_succ {L : List HOp} {k : Nat} {o : HOp} (h : L[k]? = some o) : openN (L.take (k + 1)) = openN (L.take k) + if o.t == 0 then 1 else 0 := by
  obtain ⟨hlt, rfl⟩ := List.getElem?_eq_some_iff.1 h
  rw [List.take_succ_eq_append_getElem hlt]
  unfold openN
  rw [List.filter_append, List.length_append]
  by_cases hz : (L[k].t == 0) = true <;> simp_all
/-- One cell. -/
def CellIs (w : World) (b o : Nat) (v : Value) : Prop := w.cell? ⟨b, o, none⟩ = some v
theorem CellIs.ch {w w' : World} {b o : Nat} {v : Value} (h : CellIs w b o v) {bs : List Nat} (c : Ch bs w w') (hn : b ∉ bs) : CellIs w' b o v := (c.cell (World.block_lt_of_cell? w _ h) hn).trans h
theorem open_ways {L : List HOp} {k : Nat} (h : k ≤ L.length) : (k < L.length ∧ ∃ o, L[k]? = some o ∧ (o.t == 0) = true) ∨ (k < L.length ∧ ∃ o, L[k]? = some o ∧ (o.t == 0) = false) ∨ k = L.length := by
  rcases Nat.lt_or_ge k L.length with h1 | h1
  · cases hz : (L[k].t == 0)
    · exact .inr (.inl ⟨h1, _, List.getElem?_eq_getElem h1, hz⟩)
    · exact .inl ⟨h1, _, List.getElem?_eq_getElem h1, hz⟩
  · exact .inr (.inr (by omega))
theorem op_cells {L : List HOp} {j : Nat} {o : HOp} (h : L[j]? = some o) {w : World} {base g n c : Nat} (ho : OwnS w base 49 28 (.slice (some ⟨g, 0, none⟩) n c) n (L.flatMap opC)) : CellsAt w ⟨g, j * 28, none⟩ (opC o) := fun i u hu => by
  have := op_at h ho i hu
  rwa [add_plain]
section
variable {w : World} {b m c0 n0 : Nat} {now : Nat} {v u : Value} {c n : Int} {L : List HOp} {I : List Int} {base : Nat}
theorem op_none (HK : Hid (okK (c, n))) (HJ : Hid (idx c n 0 L = none)) (FB : Hid (Blk w b (#[.int .i64 now, v, .map (some m), u]) 84)) (FM : Hid (MapIs w m (kv) (Value.int .i64) (okK) (keysOf 0 (L)))) :
    Calls Try.prog 44 #[.pointer (some ⟨b, 0, none⟩), .int .i64 c, .int .i64 n] w fun en w' => en = .returned (.pointer none) ∧ Ch [] w w' := by
  have C0 := Lib.hid (Ch.refl [] w)
  go_enter Try.func44, Try.ntmps44
  refine q_ (fun Q hQ hP => ?_)
  refine s_ (fun K1 hK1 => ?_)
  refine pu_ (v := .pointer none) (y_assign rfl (by rfl) (by rfl)) ?_
  (try simp only [zP, zN, zA, zB, zC])
  refine nl_ (hK1 _ _ ?_); clear hK1 K1
  refine s_ (fun K2 hK2 => ?_)
  refine pu_ (v := .pointer (some ⟨b, 0, none⟩)) (y_move rfl (by rfl) (by rfl)) ?_
  (try simp only [zP, zN, zA, zB, zC])
  refine pu_ (v := .pointer (some ⟨b, 0, none⟩)) (y_nil rfl (by rfl) (by rfl)) ?_
  (try simp only [zP, zN, zA, zB, zC])
  refine pu_ (v := .pointer (some ⟨b, 2, none⟩)) (y_run (by rfl) (fun W => by go_simp)) ?_
  (try simp only [zP, zN, zA, zB, zC])
  refine ld_ (v := .map (some m)) rfl (by rfl) (by rfl) (run_load_one ((FB.out.cell 2).trans rfl) Try.underlying82 rfl) ?_
  (try simp only [zP, zN, zA, zB, zC])
  refine pu_ (v := .int .i64 c) (y_move rfl (by rfl) (by rfl)) ?_
  (try simp only [zP, zN, zA, zB, zC])
  refine pu_ (v := .int .i64 n) (y_move rfl (by rfl) (by rfl)) ?_
  (try simp only [zP, zN, zA, zB, zC])
  refine pu_ (v := .agg #[.int .i64 c, .int .i64 n]) (y_build (vs := #[(0, .int .i64 c), (1, .int .i64 n)]) (by rfl) rfl (by first | rfl | (simp only [List.map_toArray, List.map_cons, List.map_nil]; first | done | rfl)) (by kernel_rfl)) ?_
  (try simp only [zP, zN, zA, zB, zC])
  refine an_ (v := .tuple #[.int .i64 0, .bool false]) (by rfl) (lk_run rfl k87 FM.out Try.underlying82 (zero3 _) rfl (c, n) HK.out rfl _ (by rw [mlook_keys, HJ.out]; rfl)) ?_
  (try simp only [zP, zN, zA, zB, zC])
  refine pu_ (v := .tuple #[.int .i64 0, .bool false]) (y_move rfl (by rfl) (by rfl)) ?_
  (try simp only [zP, zN, zA, zB, zC])
  refine pu_ (v := .int .i64 0) (y_run (by rfl) (fun W => by go_simp)) ?_
  (try simp only [zP, zN, zA, zB, zC])
  refine pu_ (v := .bool false) (y_run (by rfl) (fun W => by go_simp)) ?_
  (try simp only [zP, zN, zA, zB, zC])
  refine pu_ (v := .int .i64 0) (y_assign rfl (by rfl) (by rfl)) ?_
  (try simp only [zP, zN, zA, zB, zC])
  refine pu_ (v := .bool false) (y_assign rfl (by rfl) (by rfl)) ?_
  (try simp only [zP, zN, zA, zB, zC])
  refine nl_ (hK2 _ _ ?_); clear hK2 K2
  refine sq_ (fun K3 hK3 => ?_)
  refine s_ (fun K4 hK4 => ?_)
  refine pu_ (v := .bool false) (y_move rfl (by rfl) (by rfl)) ?_
  (try simp only [zP, zN, zA, zB, zC])
  refine pu_ (v := .bool true) (y_run (by rfl) (fun W => by go_simp)) ?_
  (try simp only [zP, zN, zA, zB, zC])
  refine nl_ (hK4 _ _ ?_); clear hK4 K4
  refine wp_cond_true rfl ?_
  refine s_ (fun K5 hK5 => ?_)
  refine pu_ (v := .pointer none) (y_assign rfl (by rfl) (by rfl)) ?_
  (try simp only [zP, zN, zA, zB, zC])
  refine nl_ (hK5 _ _ ?_); clear hK5 K5
  refine wp_ret ?_
  refine th_ret ?_
  refine hQ _ _ _ ?_
  refine bodyPost_ret (res1 rfl (rdv_tmp (v := .pointer none) (by rfl))) rfl ?_
  exact ⟨rfl, C0.out⟩
theorem op_some {g cap j : Nat} (HK : Hid (okK (c, n))) (HJ : Hid (idx c n 0 L = some j)) (HL : Hid (j < L.length ∧ L.length ≤ 1000)) (FB : Hid (Blk w b (#[.int .i64 now, .slice (some ⟨g, 0, none⟩) L.length cap, .map (some m), u]) 84)) (FM : Hid (MapIs w m (kv) (Value.int .i64) (okK) (keysOf 0 (L)))) :
    Calls Try.prog 44 #[.pointer (some ⟨b, 0, none⟩), .int .i64 c, .int .i64 n] w fun en w' => en = .returned (.pointer (some ⟨g, j * 28, none⟩)) ∧ Ch [] w w' := by
  have C0 := Lib.hid (Ch.refl [] w)
  have D27 := Lib.hid (show (j : Int) < (L.length : Int) by have := HL.out; omega)
  go_enter Try.func44, Try.ntmps44
  refine q_ (fun Q hQ hP => ?_)
  refine s_ (fun K1 hK1 => ?_)
  refine pu_ (v := .pointer none) (y_assign rfl (by rfl) (by rfl)) ?_
  (try simp only [zP, zN, zA, zB, zC])
  refine nl_ (hK1 _ _ ?_); clear hK1 K1
  refine s_ (fun K2 hK2 => ?_)
  refine pu_ (v := .pointer (some ⟨b, 0, none⟩)) (y_move rfl (by rfl) (by rfl)) ?_
  (try simp only [zP, zN, zA, zB, zC])
  refine pu_ (v := .pointer (some ⟨b, 0, none⟩)) (y_nil rfl (by rfl) (by rfl)) ?_
  (try simp only [zP, zN, zA, zB, zC])
  refine pu_ (v := .pointer (some ⟨b, 2, none⟩)) (y_run (by rfl) (fun W => by go_simp)) ?_
  (try simp only [zP, zN, zA, zB, zC])
  refine ld_ (v := .map (some m)) rfl (by rfl) (by rfl) (run_load_one ((FB.out.cell 2).trans rfl) Try.underlying82 rfl) ?_
  (try simp only [zP, zN, zA, zB, zC])
  refine pu_ (v := .int .i64 c) (y_move rfl (by rfl) (by rfl)) ?_
  (try simp only [zP, zN, zA, zB, zC])
  refine pu_ (v := .int .i64 n) (y_move rfl (by rfl) (by rfl)) ?_
  (try simp only [zP, zN, zA, zB, zC])
  refine pu_ (v := .agg #[.int .i64 c, .int .i64 n]) (y_build (vs := #[(0, .int .i64 c), (1, .int .i64 n)]) (by rfl) rfl (by first | rfl | (simp only [List.map_toArray, List.map_cons, List.map_nil]; first | done | rfl)) (by kernel_rfl)) ?_
  (try simp only [zP, zN, zA, zB, zC])
  refine an_ (v := .tuple #[.int .i64 j, .bool true]) (by rfl) (lk_run rfl k87 FM.out Try.underlying82 (zero3 _) rfl (c, n) HK.out rfl _ (by rw [mlook_keys, HJ.out]; rfl)) ?_
  (try simp only [zP, zN, zA, zB, zC])
  refine pu_ (v := .tuple #[.int .i64 j, .bool true]) (y_move rfl (by rfl) (by rfl)) ?_
  (try simp only [zP, zN, zA, zB, zC])
  refine pu_ (v := .int .i64 j) (y_run (by rfl) (fun W => by go_simp)) ?_
  (try simp only [zP, zN, zA, zB, zC])
  refine pu_ (v := .bool true) (y_run (by rfl) (fun W => by go_simp)) ?_
  (try simp only [zP, zN, zA, zB, zC])
  refine pu_ (v := .int .i64 j) (y_assign rfl (by rfl) (by rfl)) ?_
  (try simp only [zP, zN, zA, zB, zC])
  refine pu_ (v := .bool true) (y_assign rfl (by rfl) (by rfl)) ?_
  (try simp only [zP, zN, zA, zB, zC])
  refine nl_ (hK2 _ _ ?_); clear hK2 K2
  refine sq_ (fun K3 hK3 => ?_)
  refine s_ (fun K4 hK4 => ?_)
  refine pu_ (v := .bool true) (y_move rfl (by rfl) (by rfl)) ?_
  (try simp only [zP, zN, zA, zB, zC])
  refine pu_ (v := .bool false) (y_run (by rfl) (fun W => by go_simp)) ?_
  (try simp only [zP, zN, zA, zB, zC])
  refine nl_ (hK4 _ _ ?_); clear hK4 K4
  refine wp_cond_false rfl ?_
  refine wp_skip ?_
  refine th_norm (hK3 _ _ ?_); try clear hK3 K3
  refine s_ (fun K5 hK5 => ?_)
  refine pu_ (v := .pointer (some ⟨b, 0, none⟩)) (y_move rfl (by rfl) (by rfl)) ?_
  (try simp only [zP, zN, zA, zB, zC])
  refine pu_ (v := .pointer (some ⟨b, 0, none⟩)) (y_nil rfl (by rfl) (by rfl)) ?_
  (try simp only [zP, zN, zA, zB, zC])
  refine pu_ (v := .pointer (some ⟨b, 1, none⟩)) (y_run (by rfl) (fun W => by go_simp)) ?_
  (try simp only [zP, zN, zA, zB, zC])
  refine ld_ (v := .slice (some ⟨g, 0, none⟩) L.length cap) rfl (by rfl) (by rfl) (run_load_one ((FB.out.cell 1).trans rfl) Try.underlying45 rfl) ?_
  (try simp only [zP, zN, zA, zB, zC])
  refine pu_ (v := .int .i64 j) (y_move rfl (by rfl) (by rfl)) ?_
  (try simp only [zP, zN, zA, zB, zC])
  refine pu_ (v := .pointer (some ⟨g, j * 28, none⟩)) (y_run (by rfl) (fun W => by have d := D27.out; go_simp)) ?_
  (try simp only [zP, zN, zA, zB, zC])
  refine pu_ (v := .pointer (some ⟨g, j * 28, none⟩)) (y_assign rfl (by rfl) (by rfl)) ?_
  (try simp only [zP, zN, zA, zB, zC])
  refine nl_ (hK5 _ _ ?_); clear hK5 K5
  refine wp_ret ?_
  refine hQ _ _ _ ?_
  refine bodyPost_ret (res1 rfl (rdv_tmp (v := .pointer (some ⟨g, j * 28, none⟩)) (by rfl))) rfl ?_
  exact ⟨rfl, C0.out⟩
theorem tick (HW : Hid (now ≤ 100000)) (FB : Hid (Blk w b (#[.int .i64 now, v, .map (some m), u]) 84)) :
    Calls Try.prog 45 #[.pointer (some ⟨b, 0, none⟩)] w fun en w' => en = .returned (.int .i64 (now + 1 : Nat)) ∧ Blk w' b #[.int .i64 (now + 1 : Nat), v, .map (some m), u] 84 ∧ Ch [b] w w' := by
  have C0 := Lib.hid (Ch.refl [b] w)
  have WA := Lib.hid (show IntKind.i64.wrap ((now : Int) + 1) = ((now + 1 : Nat) : Int) by rw [wr64 (by have := HW.out; omega)]; omega)
  go_enter Try.func45, Try.ntmps45
  refine q_ (fun Q hQ hP => ?_)
  refine s_ (fun K1 hK1 => ?_)
  refine pu_ (v := .int .i64 0) (y_assign rfl (by rfl) (by rfl)) ?_
  (try simp only [zP, zN, zA, zB, zC])
  refine nl_ (hK1 _ _ ?_); clear hK1 K1
  refine s_ (fun K2 hK2 => ?_)
  refine pu_ (v := .pointer (some ⟨b, 0, none⟩)) (y_move rfl (by rfl) (by rfl)) ?_
  (try simp only [zP, zN, zA, zB, zC])
  refine pu_ (v := .pointer (some ⟨b, 0, none⟩)) (y_nil rfl (by rfl) (by rfl)) ?_
  (try simp only [zP, zN, zA, zB, zC])
  refine pu_ (v := .pointer (some ⟨b, 0, none⟩)) (y_run (by rfl) (fun W => by go_simp)) ?_
  (try simp only [zP, zN, zA, zB, zC])
  refine ld_ (v := .int .i64 now) rfl (by rfl) (by rfl) (run_load_one ((FB.out.cell 0).trans rfl) Try.underlying3 rfl) ?_
  (try simp only [zP, zN, zA, zB, zC])
  refine pu_ (v := .int .i64 (now + 1 : Nat)) (y_run (by rfl) (fun W => by have d := WA.out; go_simp)) ?_
  (try simp only [zP, zN, zA, zB, zC])
  refine pu_ (v := .pointer (some ⟨b, 0, none⟩)) (y_nil rfl (by rfl) (by rfl)) ?_
  (try simp only [zP, zN, zA, zB, zC])
  refine pu_ (v := .pointer (some ⟨b, 0, none⟩)) (y_run (by rfl) (fun W => by go_simp)) ?_
  (try simp only [zP, zN, zA, zB, zC])
  refine ef_ (fun K3 hK3 => ?_)
  refine e_store1 (b := b) (j := 0) (v := .int .i64 (now + 1 : Nat)) (by rfl) rfl rfl (by rfl) (by rfl) FB.out (show 0 < 4 by omega) (by kernel_rfl) rfl ?_
  rintro w4 B5 C6
  have C0' := Lib.hid (show Ch [b] w w4 from C0.out.trans' C6 (inw_cons (.inl List.mem_cons_self) inw_nil))
  clear C0
  have C0 := C0'; clear C0'
  clear FB; have FB := Lib.hid (show Blk w4 b (#[.int .i64 (now + 1 : Nat), v, .map (some m), u]) 84 from B5); clear B5 C6
  refine hK3 _ _ ?_; clear hK3 K3
  (try simp only [zP, zN, zA, zB, zC])
  refine nl_ (hK2 _ _ ?_); clear hK2 K2
  refine s_ (fun K7 hK7 => ?_)
  refine pu_ (v := .pointer (some ⟨b, 0, none⟩)) (y_move rfl (by rfl) (by rfl)) ?_
  (try simp only [zP, zN, zA, zB, zC])
  refine pu_ (v := .pointer (some ⟨b, 0, none⟩)) (y_nil rfl (by rfl) (by rfl)) ?_
  (try simp only [zP, zN, zA, zB, zC])
  refine pu_ (v := .pointer (some ⟨b, 0, none⟩)) (y_run (by rfl) (fun W => by go_simp)) ?_
  (try simp only [zP, zN, zA, zB, zC])
  refine ld_ (v := .int .i64 (now + 1 : Nat)) rfl (by rfl) (by rfl) (run_load_one ((FB.out.cell 0).trans rfl) Try.underlying3 rfl) ?_
  (try simp only [zP, zN, zA, zB, zC])
  refine pu_ (v := .int .i64 (now + 1 : Nat)) (y_assign rfl (by rfl) (by rfl)) ?_
  (try simp only [zP, zN, zA, zB, zC])
  refine nl_ (hK7 _ _ ?_); clear hK7 K7
  refine wp_ret ?_
  refine hQ _ _ _ ?_
  refine bodyPost_ret (res1 rfl (rdv_tmp (v := .int .i64 (now + 1 : Nat)) (by rfl))) rfl ?_
  exact ⟨rfl, FB.out, C0.out⟩
theorem now_  (FB : Hid (Blk w b (#[.int .i64 now, v, .map (some m), u]) 84)) :
    Calls Try.prog 14 #[.pointer (some ⟨b, 0, none⟩)] w fun en w' => en = .returned (.int .i64 now) ∧ Ch [] w w' := by
  have C0 := Lib.hid (Ch.refl [] w)
  go_enter Try.func14, Try.ntmps14
  refine q_ (fun Q hQ hP => ?_)
  refine s_ (fun K1 hK1 => ?_)
  refine pu_ (v := .int .i64 0) (y_assign rfl (by rfl) (by rfl)) ?_
  (try simp only [zP, zN, zA, zB, zC])
  refine nl_ (hK1 _ _ ?_); clear hK1 K1
  refine s_ (fun K2 hK2 => ?_)
  refine pu_ (v := .pointer (some ⟨b, 0, none⟩)) (y_move rfl (by rfl) (by rfl)) ?_
  (try simp only [zP, zN, zA, zB, zC])
  refine pu_ (v := .pointer (some ⟨b, 0, none⟩)) (y_nil rfl (by rfl) (by rfl)) ?_
  (try simp only [zP, zN, zA, zB, zC])
  refine pu_ (v := .pointer (some ⟨b, 0, none⟩)) (y_run (by rfl) (fun W => by go_simp)) ?_
  (try simp only [zP, zN, zA, zB, zC])
  refine ld_ (v := .int .i64 now) rfl (by rfl) (by rfl) (run_load_one ((FB.out.cell 0).trans rfl) Try.underlying3 rfl) ?_
  (try simp only [zP, zN, zA, zB, zC])
  refine pu_ (v := .int .i64 now) (y_assign rfl (by rfl) (by rfl)) ?_
  (try simp only [zP, zN, zA, zB, zC])
  refine nl_ (hK2 _ _ ?_); clear hK2 K2
  refine wp_ret ?_
  refine hQ _ _ _ ?_
  refine bodyPost_ret (res1 rfl (rdv_tmp (v := .int .i64 now) (by rfl))) rfl ?_
  exact ⟨rfl, C0.out⟩
theorem new_   :
    Calls Try.prog 9 #[] w fun en w' => ∃ b m, en = .returned (.pointer (some ⟨b, 0, none⟩)) ∧ Blk w' b #[.int .i64 0, .slice none 0 0, .map (some m), .slice none 0 0] 84 ∧ MapIs w' m kv (Value.int .i64) okK [] ∧ Ch [] w w' ∧ w.heap.size ≤ b ∧ w.heap.size ≤ m := by
  have C0 := Lib.hid (Ch.refl [] w)
  go_enter Try.func9, Try.ntmps9
  refine q_ (fun Q hQ hP => ?_)
  refine s_ (fun K1 hK1 => ?_)
  refine pu_ (v := .pointer none) (y_assign rfl (by rfl) (by rfl)) ?_
  (try simp only [zP, zN, zA, zB, zC])
  refine nl_ (hK1 _ _ ?_); clear hK1 K1
  refine s_ (fun K2 hK2 => ?_)
  refine ef_ (fun K3 hK3 => ?_)
  refine e_mmake (by rfl) rfl rfl kv (Value.int .i64) okK ?_
  rintro m w4 HM M5 C6
  have nw7 := Lib.hid (show w.heap.size ≤ m by have := C0.out.size; have := HM.out; omega)
  have C0' := Lib.hid (show Ch [] w w4 from C0.out.trans' C6 (fun x hx => absurd hx (by simp)))
  clear C0
  have C0 := C0'; clear C0'
  clear C6
  have FM := Lib.hid (show MapIs w4 m (kv) (Value.int .i64) (okK) ([]) from M5); clear M5
  refine hK3 _ _ ?_; clear hK3 K3
  (try simp only [zP, zN, zA, zB, zC])
  refine pu_ (v := .agg #[.int .i64 0, .slice none 0 0, .map (some m), .slice none 0 0]) (y_build (vs := #[(2, .map (some m))]) (by rfl) rfl (by first | rfl | (simp only [List.map_toArray, List.map_cons, List.map_nil]; first | done | rfl)) (by kernel_rfl)) ?_
  (try simp only [zP, zN, zA, zB, zC])
  refine ef_ (fun K8 hK8 => ?_)
  refine e_boxN (by rfl) rfl rfl (cs := #[.int .i64 0, .slice none 0 0, .map (some m), .slice none 0 0]) (v := .agg #[.int .i64 0, .slice none 0 0, .map (some m), .slice none 0 0]) (by rfl) rfl ?_
  rintro g9 w10 HG11 B12 C13
  have nw14 := Lib.hid (show w.heap.size ≤ g9 by have := C0.out.size; have := HG11.out; omega)
  have nm15 := Lib.hid (FM.out.ne_new HG11)
  have C0' := Lib.hid (show Ch [] w w10 from C0.out.trans' C13 (fun x hx => absurd hx (by simp)))
  have FM' := Lib.hid (show MapIs w10 m (kv) (Value.int .i64) (okK) ([]) from FM.out.keep C13 nin_nil)
  clear C0 FM
  have C0 := C0'; clear C0'
  have FM := FM'; clear FM'
  have Fg9 := Lib.hid (show Blk w10 g9 (#[.int .i64 0, .slice none 0 0, .map (some m), .slice none 0 0]) 84 from B12); clear B12 C13
  refine hK8 _ _ ?_; clear hK8 K8
  (try simp only [zP, zN, zA, zB, zC])
  refine pu_ (v := .pointer (some ⟨g9, 0, none⟩)) (y_assign rfl (by rfl) (by rfl)) ?_
  (try simp only [zP, zN, zA, zB, zC])
  refine nl_ (hK2 _ _ ?_); clear hK2 K2
  refine wp_ret ?_
  refine hQ _ _ _ ?_
  refine bodyPost_ret (res1 rfl (rdv_tmp (v := .pointer (some ⟨g9, 0, none⟩)) (by rfl))) rfl ?_
  exact ⟨g9, m, rfl, Fg9.out, FM.out, C0.out, nw14.out, nw7.out⟩
theorem ask_some {g cap j : Nat} (HK : Hid (okK (c, n))) (HJ : Hid (idx c n 0 L = some j)) (HL : Hid (j < L.length ∧ L.length ≤ 1000)) (FB : Hid (Blk w b (#[.int .i64 now, .slice (some ⟨g, 0, none⟩) L.length cap, .map (some m), u]) 84)) (FM : Hid (MapIs w m (kv) (Value.int .i64) (okK) (keysOf 0 (L)))) :
    Calls Try.prog 10 #[.pointer (some ⟨b, 0, none⟩), .int .i64 c, .int .i64 n] w fun en w' => en = .returned (.tuple #[.int .i64 0, .int .i64 7]) ∧ Ch [] w w' := by
  have C0 := Lib.hid (Ch.refl [] w)
  go_enter Try.func10, Try.ntmps10
  refine q_ (fun Q hQ hP => ?_)
  refine s_ (fun K1 hK1 => ?_)
  refine pu_ (v := .int .i64 0) (y_assign rfl (by rfl) (by rfl)) ?_
  (try simp only [zP, zN, zA, zB, zC])
  refine pu_ (v := .int .i64 0) (y_assign rfl (by rfl) (by rfl)) ?_
  (try simp only [zP, zN, zA, zB, zC])
  refine nl_ (hK1 _ _ ?_); clear hK1 K1
  refine sq_ (fun K2 hK2 => ?_)
  refine s_ (fun K3 hK3 => ?_)
  refine pu_ (v := .pointer (some ⟨b, 0, none⟩)) (y_move rfl (by rfl) (by rfl)) ?_
  (try simp only [zP, zN, zA, zB, zC])
  refine pu_ (v := .int .i64 c) (y_move rfl (by rfl) (by rfl)) ?_
  (try simp only [zP, zN, zA, zB, zC])
  refine pu_ (v := .int .i64 n) (y_move rfl (by rfl) (by rfl)) ?_
  (try simp only [zP, zN, zA, zB, zC])
  refine ef_ (fun K4 hK4 => ?_)
  refine e_call Try.func44 (by kernel_rfl) rfl #[.pointer (some ⟨b, 0, none⟩), .int .i64 c, .int .i64 n] (by rfl) rfl rfl (by first | rfl | (simp only [List.map_toArray, List.map_cons, List.map_nil]; first | done | rfl)) (op_some HK HJ HL FB FM) ?_
  rintro en w5 ⟨rfl, cc⟩
  refine ⟨_, rfl, ?_⟩
  have C0' := Lib.hid (show Ch [] w w5 from C0.out.trans' cc (fun x hx => absurd hx (by simp)))
  have FB' := Lib.hid (show Blk w5 b (#[.int .i64 now, .slice (some ⟨g, 0, none⟩) L.length cap, .map (some m), u]) 84 from cc.blk FB.out nin_nil)
  have FM' := Lib.hid (show MapIs w5 m (kv) (Value.int .i64) (okK) (keysOf 0 (L)) from FM.out.keep cc nin_nil)
  clear C0 FB FM
  have C0 := C0'; clear C0'
  have FB := FB'; clear FB'
  have FM := FM'; clear FM'
  clear cc
  refine hK4 _ _ ?_; clear hK4 K4
  (try simp only [zP, zN, zA, zB, zC])
  refine pu_ (v := .bool true) (y_run (by rfl) (fun W => by go_simp)) ?_
  (try simp only [zP, zN, zA, zB, zC])
  refine nl_ (hK3 _ _ ?_); clear hK3 K3
  refine wp_cond_true rfl ?_
  refine s_ (fun K6 hK6 => ?_)
  refine pu_ (v := .int .i64 0) (y_assign rfl (by rfl) (by rfl)) ?_
  (try simp only [zP, zN, zA, zB, zC])
  refine pu_ (v := .int .i64 7) (y_assign rfl (by rfl) (by rfl)) ?_
  (try simp only [zP, zN, zA, zB, zC])
  refine nl_ (hK6 _ _ ?_); clear hK6 K6
  refine wp_ret ?_
  refine th_ret ?_
  refine hQ _ _ _ ?_
  refine bodyPost_ret (res2 rfl (rdv_tmp (v := .int .i64 0) (by rfl)) (rdv_tmp (v := .int .i64 7) (by rfl))) rfl ?_
  exact ⟨rfl, C0.out⟩
theorem ask_none (HK : Hid (okK (c, n))) (HJ : Hid (idx c n 0 L = none)) (HW : Hid (now ≤ 1000 ∧ L.length ≤ 1000)) (HB0 : Hid (base ≤ w.heap.size)) (FB : Hid (Blk w b (#[.int .i64 now, v, .map (some m), u]) 84)) (FM : Hid (MapIs w m (kv) (Value.int .i64) (okK) (keysOf 0 (L)))) (OL : Hid (OwnS w base 49 28 (v) (L.length) ((L).flatMap opC))) :
    Calls Try.prog 10 #[.pointer (some ⟨b, 0, none⟩), .int .i64 c, .int .i64 n] w fun en w' => ∃ v', en = .returned (.tuple #[.int .i64 (now + 1 : Nat), .int .i64 0]) ∧ Blk w' b #[.int .i64 (now + 1 : Nat), v', .map (some m), u] 84 ∧ MapIs w' m kv (Value.int .i64) okK (keysOf 0 (L ++ [(⟨c, n, ((now + 1 : Nat) : Int), 0, 0, ZC, ZR⟩ : HOp)])) ∧ OwnS w' base 49 28 v' (L.length + 1) ((L ++ [(⟨c, n, ((now + 1 : Nat) : Int), 0, 0, ZC, ZR⟩ : HOp)]).flatMap opC) ∧ Ch (b :: m :: rl v) w w' ∧ ∀ k, k ∈ rl v' → k ∈ rl v ∨ w.heap.size ≤ k := by
  have C0 := Lib.hid (Ch.refl (b :: m :: rl v) w)
  obtain ⟨i49, I49⟩ := Info.of info49
  have HW1 := Lib.hid (show now ≤ 100000 by have := HW.out; omega)
  go_enter Try.func10, Try.ntmps10
  refine q_ (fun Q hQ hP => ?_)
  refine s_ (fun K1 hK1 => ?_)
  refine pu_ (v := .int .i64 0) (y_assign rfl (by rfl) (by rfl)) ?_
  (try simp only [zP, zN, zA, zB, zC])
  refine pu_ (v := .int .i64 0) (y_assign rfl (by rfl) (by rfl)) ?_
  (try simp only [zP, zN, zA, zB, zC])
  refine nl_ (hK1 _ _ ?_); clear hK1 K1
  refine sq_ (fun K2 hK2 => ?_)
  refine s_ (fun K3 hK3 => ?_)
  refine pu_ (v := .pointer (some ⟨b, 0, none⟩)) (y_move rfl (by rfl) (by rfl)) ?_
  (try simp only [zP, zN, zA, zB, zC])
  refine pu_ (v := .int .i64 c) (y_move rfl (by rfl) (by rfl)) ?_
  (try simp only [zP, zN, zA, zB, zC])
  refine pu_ (v := .int .i64 n) (y_move rfl (by rfl) (by rfl)) ?_
  (try simp only [zP, zN, zA, zB, zC])
  refine ef_ (fun K4 hK4 => ?_)
  refine e_call Try.func44 (by kernel_rfl) rfl #[.pointer (some ⟨b, 0, none⟩), .int .i64 c, .int .i64 n] (by rfl) rfl rfl (by first | rfl | (simp only [List.map_toArray, List.map_cons, List.map_nil]; first | done | rfl)) (op_none HK HJ FB FM) ?_
  rintro en w5 ⟨rfl, cc⟩
  refine ⟨_, rfl, ?_⟩
  have C0' := Lib.hid (show Ch (b :: m :: rl v) w w5 from C0.out.trans' cc (fun x hx => absurd hx (by simp)))
  have FB' := Lib.hid (show Blk w5 b (#[.int .i64 now, v, .map (some m), u]) 84 from cc.blk FB.out nin_nil)
  have FM' := Lib.hid (show MapIs w5 m (kv) (Value.int .i64) (okK) (keysOf 0 (L)) from FM.out.keep cc nin_nil)
  have OL' := Lib.hid (show OwnS w5 base 49 28 (v) (L.length) ((L).flatMap opC) from OL.out.ch cc rnin_nil)
  clear C0 FB FM OL
  have C0 := C0'; clear C0'
  have FB := FB'; clear FB'
  have FM := FM'; clear FM'
  have OL := OL'; clear OL'
  clear cc
  refine hK4 _ _ ?_; clear hK4 K4
  (try simp only [zP, zN, zA, zB, zC])
  refine pu_ (v := .bool false) (y_run (by rfl) (fun W => by go_simp)) ?_
  (try simp only [zP, zN, zA, zB, zC])
  refine nl_ (hK3 _ _ ?_); clear hK3 K3
  refine wp_cond_false rfl ?_
  refine wp_skip ?_
  refine th_norm (hK2 _ _ ?_); try clear hK2 K2
  obtain ⟨Av, cv, hv, -, -⟩ := OL.out.slice
  · subst hv
    refine sq_ (fun K6 hK6 => ?_)
    refine startk_ (S := fun W => Blk W b (#[.int .i64 now, .slice Av L.length cv, .map (some m), u]) 84 ∧ True) (ds := []) #[false, false, false, false, false, false, false, false, false, false, false, false, false] (by kernel_rfl) rfl rfl (fun W c => ⟨c.blk FB.out nin_nil, trivial⟩) (fun w7 C8 hS9 => ?_)
    have C0' := Lib.hid (show Ch (b :: m :: rl (.slice Av L.length cv)) w w7 from C0.out.trans' C8 (fun x hx => absurd hx (by simp)))
    have FB' := Lib.hid (show Blk w7 b (#[.int .i64 now, .slice Av L.length cv, .map (some m), u]) 84 from C8.blk FB.out nin_nil)
    have FM' := Lib.hid (show MapIs w7 m (kv) (Value.int .i64) (okK) (keysOf 0 (L)) from FM.out.keep C8 nin_nil)
    have OL' := Lib.hid (show OwnS w7 base 49 28 (.slice Av L.length cv) (L.length) ((L).flatMap opC) from OL.out.ch C8 rnin_nil)
    clear C0 FB FM OL
    have C0 := C0'; clear C0'
    have FB := FB'; clear FB'
    have FM := FM'; clear FM'
    have OL := OL'; clear OL'
    clear C8
    refine pure_ (i := 0) (N := some 13) (v := .pointer (some ⟨b, 0, none⟩)) #[true, false, false, false, false, false, false, false, false, false, false, false, false] rfl rfl (by kernel_rfl) (fun c a w h => hP c a _ _ w h) (y_move rfl (by rfl) (by rfl)) rfl ?_
    (try simp only [zP, zN, zA, zB, zC])
    refine pure_ (i := 1) (N := some 14) (v := .pointer (some ⟨b, 0, none⟩)) #[true, true, false, false, false, false, false, false, false, false, false, false, false] rfl rfl (by kernel_rfl) (fun c a w h => hP c a _ _ w h) (y_nil rfl (by rfl) (by rfl)) rfl ?_
    (try simp only [zP, zN, zA, zB, zC])
    refine pure_ (i := 2) (N := some 15) (v := .pointer (some ⟨b, 2, none⟩)) #[true, true, true, false, false, false, false, false, false, false, false, false, false] rfl rfl (by kernel_rfl) (fun c a w h => hP c a _ _ w h) (y_run (by rfl) (fun W => by go_simp)) rfl ?_
    (try simp only [zP, zN, zA, zB, zC])
    refine take_ (i := 3) (N := some 16) (v := .map (some m)) #[true, true, true, true, false, false, false, false, false, false, false, false, false] rfl rfl (by kernel_rfl) (fun c a w h => hP c a _ _ w h) (y_load (p := ⟨b, 2, none⟩) rfl (by rfl) (by rfl) (fun W hS => run_load_one ((hS.1.cell 2).trans rfl) Try.underlying82 rfl)) hS9 rfl ?_
    (try simp only [zP, zN, zA, zB, zC])
    refine pure_ (i := 4) (N := some 17) (v := .int .i64 c) #[true, true, true, true, true, false, false, false, false, false, false, false, false] rfl rfl (by kernel_rfl) (fun c a w h => hP c a _ _ w h) (y_move rfl (by rfl) (by rfl)) rfl ?_
    (try simp only [zP, zN, zA, zB, zC])
    refine pure_ (i := 5) (N := some 18) (v := .int .i64 n) #[true, true, true, true, true, true, false, false, false, false, false, false, false] rfl rfl (by kernel_rfl) (fun c a w h => hP c a _ _ w h) (y_move rfl (by rfl) (by rfl)) rfl ?_
    (try simp only [zP, zN, zA, zB, zC])
    refine pure_ (i := 6) (N := some 19) (v := .agg #[.int .i64 c, .int .i64 n]) #[true, true, true, true, true, true, true, false, false, false, false, false, false] rfl rfl (by kernel_rfl) (fun c a w h => hP c a _ _ w h) (y_build (vs := #[(0, .int .i64 c), (1, .int .i64 n)]) (by rfl) rfl (by first | rfl | (simp only [List.map_toArray, List.map_cons, List.map_nil]; first | done | rfl)) (by kernel_rfl)) rfl ?_
    (try simp only [zP, zN, zA, zB, zC])
    refine pure_ (i := 7) (N := some 20) (v := .pointer (some ⟨b, 0, none⟩)) #[true, true, true, true, true, true, true, true, false, false, false, false, false] rfl rfl (by kernel_rfl) (fun c a w h => hP c a _ _ w h) (y_move rfl (by rfl) (by rfl)) rfl ?_
    (try simp only [zP, zN, zA, zB, zC])
    refine pure_ (i := 8) (N := some 21) (v := .pointer (some ⟨b, 0, none⟩)) #[true, true, true, true, true, true, true, true, true, false, false, false, false] rfl rfl (by kernel_rfl) (fun c a w h => hP c a _ _ w h) (y_nil rfl (by rfl) (by rfl)) rfl ?_
    (try simp only [zP, zN, zA, zB, zC])
    refine pure_ (i := 9) (N := some 22) (v := .pointer (some ⟨b, 1, none⟩)) #[true, true, true, true, true, true, true, true, true, true, false, false, false] rfl rfl (by kernel_rfl) (fun c a w h => hP c a _ _ w h) (y_run (by rfl) (fun W => by go_simp)) rfl ?_
    (try simp only [zP, zN, zA, zB, zC])
    refine take_ (i := 10) (N := some 23) (v := .slice Av L.length cv) #[true, true, true, true, true, true, true, true, true, true, true, false, false] rfl rfl (by kernel_rfl) (fun c a w h => hP c a _ _ w h) (y_load (p := ⟨b, 1, none⟩) rfl (by rfl) (by rfl) (fun W hS => run_load_one ((hS.1.cell 1).trans rfl) Try.underlying45 rfl)) hS9 rfl ?_
    (try simp only [zP, zN, zA, zB, zC])
    refine pure_ (i := 11) (N := some 24) (v := .int .i64 L.length) #[true, true, true, true, true, true, true, true, true, true, true, true, false] rfl rfl (by kernel_rfl) (fun c a w h => hP c a _ _ w h) (y_run (by rfl) (fun W => by go_simp)) rfl ?_
    (try simp only [zP, zN, zA, zB, zC])
    refine one_ (i := 12) (N := none) #[true, true, true, true, true, true, true, true, true, true, true, true, true] rfl rfl (by kernel_rfl) (by simp) (fun K10 hK10 => ?_)
    refine e_mset (by rfl) rfl rfl Try.underlying82 k87 FM.out rfl (c, n) HK.out rfl (L.length : Int) rfl ?_
    rintro w11 M12 C13
    have C0' := Lib.hid (show Ch (b :: m :: rl (.slice Av L.length cv)) w w11 from C0.out.trans' C13 (inw_cons (.inl (List.mem_cons_of_mem _ List.mem_cons_self)) inw_nil))
    have FB' := Lib.hid (show Blk w11 b (#[.int .i64 now, .slice Av L.length cv, .map (some m), u]) 84 from C13.blk FB.out (nin_cons (Ne.symm (FM.out.no_cells FB.out)) nin_nil))
    have OL' := Lib.hid (show OwnS w11 base 49 28 (.slice Av L.length cv) (L.length) ((L).flatMap opC) from OL.out.ch C13 (rnin_cons (FM.out.no_row OL.out) rnin_nil))
    clear C0 FB OL
    have C0 := C0'; clear C0'
    have FB := FB'; clear FB'
    have OL := OL'; clear OL'
    clear FM C13
    have FM := Lib.hid (show MapIs w11 m (kv) (Value.int .i64) (okK) (keysOf 0 (L ++ [(⟨c, n, ((now + 1 : Nat) : Int), 0, 0, ZC, ZR⟩ : HOp)])) from by rw [← keys_put (⟨c, n, ((now + 1 : Nat) : Int), 0, 0, ZC, ZR⟩ : HOp) L HJ.out]; exact M12); clear M12
    refine hK10.out _ _ ⟨FB.out, trivial⟩ (fun hS14 => ?_); clear hK10 K10
    (try simp only [zP, zN, zA, zB, zC])
    refine done_ (by kernel_rfl) (th_norm (hK6 _ _ ?_)); clear hK6 K6
    skip
    · have CV := Lib.hid (show CellIs w11 b 1 (.slice Av L.length cv) from (FB.out.cell 1).trans rfl)
      refine sq_ (fun K15 hK15 => ?_)
      refine startk_ (S := fun W => CellIs W b 1 (.slice Av L.length cv) ∧ True) (ds := [14]) #[false, false, false, false, false, false, false, false, false, false, false, false, false, false, false] (by kernel_rfl) rfl rfl (fun W c => ⟨CV.out.ch c nin_nil, trivial⟩) (fun w16 C17 hS18 => ?_)
      have C0' := Lib.hid (show Ch (b :: m :: rl (.slice Av L.length cv)) w w16 from C0.out.trans' C17 (fun x hx => absurd hx (by simp)))
      have FB' := Lib.hid (show Blk w16 b (#[.int .i64 now, .slice Av L.length cv, .map (some m), u]) 84 from C17.blk FB.out nin_nil)
      have FM' := Lib.hid (show MapIs w16 m (kv) (Value.int .i64) (okK) (keysOf 0 (L ++ [(⟨c, n, ((now + 1 : Nat) : Int), 0, 0, ZC, ZR⟩ : HOp)])) from FM.out.keep C17 nin_nil)
      have OL' := Lib.hid (show OwnS w16 base 49 28 (.slice Av L.length cv) (L.length) ((L).flatMap opC) from OL.out.ch C17 rnin_nil)
      have CV' := Lib.hid (show CellIs w16 b 1 (.slice Av L.length cv) from CV.out.ch C17 nin_nil)
      clear C0 FB FM OL CV
      have C0 := C0'; clear C0'
      have FB := FB'; clear FB'
      have FM := FM'; clear FM'
      have OL := OL'; clear OL'
      have CV := CV'; clear CV'
      clear C17
      refine pure_ (i := 0) (N := some 25) (v := .pointer (some ⟨b, 0, none⟩)) #[true, false, false, false, false, false, false, false, false, false, false, false, false, false, false] rfl rfl (by kernel_rfl) (fun c a w h => hP c a _ _ w h) (y_move rfl (by rfl) (by rfl)) rfl ?_
      (try simp only [zP, zN, zA, zB, zC])
      refine pure_ (i := 1) (N := some 26) (v := .pointer (some ⟨b, 0, none⟩)) #[true, true, false, false, false, false, false, false, false, false, false, false, false, false, false] rfl rfl (by kernel_rfl) (fun c a w h => hP c a _ _ w h) (y_move rfl (by rfl) (by rfl)) rfl ?_
      (try simp only [zP, zN, zA, zB, zC])
      refine pure_ (i := 2) (N := some 27) (v := .pointer (some ⟨b, 0, none⟩)) #[true, true, true, false, false, false, false, false, false, false, false, false, false, false, false] rfl rfl (by kernel_rfl) (fun c a w h => hP c a _ _ w h) (y_nil rfl (by rfl) (by rfl)) rfl ?_
      (try simp only [zP, zN, zA, zB, zC])
      refine pure_ (i := 3) (N := some 28) (v := .pointer (some ⟨b, 1, none⟩)) #[true, true, true, true, false, false, false, false, false, false, false, false, false, false, false] rfl rfl (by kernel_rfl) (fun c a w h => hP c a _ _ w h) (y_run (by rfl) (fun W => by go_simp)) rfl ?_
      (try simp only [zP, zN, zA, zB, zC])
      refine take_ (i := 4) (N := some 29) (v := .slice Av L.length cv) #[true, true, true, true, true, false, false, false, false, false, false, false, false, false, false] rfl rfl (by kernel_rfl) (fun c a w h => hP c a _ _ w h) (y_load (p := ⟨b, 1, none⟩) rfl (by rfl) (by rfl) (fun W hS => run_load_one hS.1 Try.underlying45 rfl)) hS18 rfl ?_
      (try simp only [zP, zN, zA, zB, zC])
      refine pure_ (i := 5) (N := some 30) (v := .int .i64 c) #[true, true, true, true, true, true, false, false, false, false, false, false, false, false, false] rfl rfl (by kernel_rfl) (fun c a w h => hP c a _ _ w h) (y_move rfl (by rfl) (by rfl)) rfl ?_
      (try simp only [zP, zN, zA, zB, zC])
      refine pure_ (i := 6) (N := some 31) (v := .int .i64 n) #[true, true, true, true, true, true, true, false, false, false, false, false, false, false, false] rfl rfl (by kernel_rfl) (fun c a w h => hP c a _ _ w h) (y_move rfl (by rfl) (by rfl)) rfl ?_
      (try simp only [zP, zN, zA, zB, zC])
      refine pure_ (i := 7) (N := some 32) (v := .pointer (some ⟨b, 0, none⟩)) #[true, true, true, true, true, true, true, true, false, false, false, false, false, false, false] rfl rfl (by kernel_rfl) (fun c a w h => hP c a _ _ w h) (y_move rfl (by rfl) (by rfl)) rfl ?_
      (try simp only [zP, zN, zA, zB, zC])
      refine one_ (i := 8) (N := some 33) #[true, true, true, true, true, true, true, true, true, false, false, false, false, false, false] rfl rfl (by kernel_rfl) (by simp) (fun K19 hK19 => ?_)
      refine e_call Try.func45 (by kernel_rfl) rfl #[.pointer (some ⟨b, 0, none⟩)] (by rfl) rfl rfl (by first | rfl | (simp only [List.map_toArray, List.map_cons, List.map_nil]; first | done | rfl)) (tick HW1 FB) ?_
      rintro en w20 ⟨rfl, fb2, cc⟩
      refine ⟨_, rfl, ?_⟩
      have C0' := Lib.hid (show Ch (b :: m :: rl (.slice Av L.length cv)) w w20 from C0.out.trans' cc (inw_cons (.inl List.mem_cons_self) inw_nil))
      have FM' := Lib.hid (show MapIs w20 m (kv) (Value.int .i64) (okK) (keysOf 0 (L ++ [(⟨c, n, ((now + 1 : Nat) : Int), 0, 0, ZC, ZR⟩ : HOp)])) from FM.out.keep cc (nin_cons (FM.out.no_cells FB.out) nin_nil))
      have OL' := Lib.hid (show OwnS w20 base 49 28 (.slice Av L.length cv) (L.length) ((L).flatMap opC) from OL.out.ch cc (rnin_cons (OL.out.ne FB.out (by decide)) rnin_nil))
      clear C0 FM OL
      have C0 := C0'; clear C0'
      have FM := FM'; clear FM'
      have OL := OL'; clear OL'
      clear FB CV
      clear cc
      have FB := Lib.hid (show Blk w20 b (#[.int .i64 (now + 1 : Nat), .slice Av L.length cv, .map (some m), u]) 84 from fb2)
      have CV := Lib.hid (show CellIs w20 b 1 (.slice Av L.length cv) from (fb2.cell 1).trans rfl)
      refine hK19.out _ _ ⟨CV.out, trivial⟩ (fun hS21 => ?_); clear hK19 K19
      (try simp only [zP, zN, zA, zB, zC])
      refine pure_ (i := 9) (N := some 34) (v := .agg #[.int .i64 c, .int .i64 n, .int .i64 (now + 1 : Nat), .int .i64 0, .int .i64 0, .int .i64 0, .int .i64 0, .int .u64 0, .string ⟨#[]⟩, .slice none 0 0, .slice none 0 0, .slice none 0 0, .int .i64 0, .int .i64 0, .int .i64 0, .int .i64 0, .int .i64 0, .int .i64 0, .int .i64 0, .string ⟨#[]⟩, .slice none 0 0, .int .i64 0, .int .i64 0, .int .i64 0, .int .u64 0, .string ⟨#[]⟩, .slice none 0 0, .slice none 0 0]) #[true, true, true, true, true, true, true, true, true, true, false, false, false, false, false] rfl rfl (by kernel_rfl) (fun c a w h => hP c a _ _ w h) (y_build (vs := #[(0, .int .i64 c), (1, .int .i64 n), (2, .int .i64 (now + 1 : Nat))]) (by rfl) rfl (by first | rfl | (simp only [List.map_toArray, List.map_cons, List.map_nil]; first | done | rfl)) (by kernel_rfl)) rfl ?_
      (try simp only [zP, zN, zA, zB, zC])
      refine one_ (i := 10) (N := some 35) #[true, true, true, true, true, true, true, true, true, true, true, false, false, false, false] rfl rfl (by kernel_rfl) (by simp) (fun K22 hK22 => ?_)
      refine e_buildS (parts := #[(0, .agg #[.int .i64 c, .int .i64 n, .int .i64 (now + 1 : Nat), .int .i64 0, .int .i64 0, .int .i64 0, .int .i64 0, .int .u64 0, .string ⟨#[]⟩, .slice none 0 0, .slice none 0 0, .slice none 0 0, .int .i64 0, .int .i64 0, .int .i64 0, .int .i64 0, .int .i64 0, .int .i64 0, .int .i64 0, .string ⟨#[]⟩, .slice none 0 0, .int .i64 0, .int .i64 0, .int .i64 0, .int .u64 0, .string ⟨#[]⟩, .slice none 0 0, .slice none 0 0])]) (cells := #[.int .i64 c, .int .i64 n, .int .i64 (now + 1 : Nat), .int .i64 0, .int .i64 0, .int .i64 0, .int .i64 0, .int .u64 0, .string ⟨#[]⟩, .slice none 0 0, .slice none 0 0, .slice none 0 0, .int .i64 0, .int .i64 0, .int .i64 0, .int .i64 0, .int .i64 0, .int .i64 0, .int .i64 0, .string ⟨#[]⟩, .slice none 0 0, .int .i64 0, .int .i64 0, .int .i64 0, .int .u64 0, .string ⟨#[]⟩, .slice none 0 0, .slice none 0 0]) (by rfl) rfl rfl (by first | rfl | (simp only [List.map_toArray, List.map_cons, List.map_nil]; first | done | rfl)) Try.underlying45 I49.hi I49.hz I49.hs (by decide) (by decide) (by kernel_rfl) ?_
      rintro g23 w24 HG25 B26 C27
      have nw28 := Lib.hid (show w.heap.size ≤ g23 by have := C0.out.size; have := HG25.out; omega)
      have nm29 := Lib.hid (FM.out.ne_new HG25)
      have nr30 := Lib.hid (OL.out.ne_new HG25)
      have C0' := Lib.hid (show Ch (b :: m :: rl (.slice Av L.length cv)) w w24 from C0.out.trans' C27 (fun x hx => absurd hx (by simp)))
      have FM' := Lib.hid (show MapIs w24 m (kv) (Value.int .i64) (okK) (keysOf 0 (L ++ [(⟨c, n, ((now + 1 : Nat) : Int), 0, 0, ZC, ZR⟩ : HOp)])) from FM.out.keep C27 nin_nil)
      have OL' := Lib.hid (show OwnS w24 base 49 28 (.slice Av L.length cv) (L.length) ((L).flatMap opC) from OL.out.ch C27 rnin_nil)
      have FB' := Lib.hid (show Blk w24 b (#[.int .i64 (now + 1 : Nat), .slice Av L.length cv, .map (some m), u]) 84 from C27.blk FB.out nin_nil)
      have CV' := Lib.hid (show CellIs w24 b 1 (.slice Av L.length cv) from CV.out.ch C27 nin_nil)
      clear C0 FM OL FB CV
      have C0 := C0'; clear C0'
      have FM := FM'; clear FM'
      have OL := OL'; clear OL'
      have FB := FB'; clear FB'
      have CV := CV'; clear CV'
      have Fg23 := Lib.hid (show Blk w24 g23 (#[.int .i64 c, .int .i64 n, .int .i64 (now + 1 : Nat), .int .i64 0, .int .i64 0, .int .i64 0, .int .i64 0, .int .u64 0, .string ⟨#[]⟩, .slice none 0 0, .slice none 0 0, .slice none 0 0, .int .i64 0, .int .i64 0, .int .i64 0, .int .i64 0, .int .i64 0, .int .i64 0, .int .i64 0, .string ⟨#[]⟩, .slice none 0 0, .int .i64 0, .int .i64 0, .int .i64 0, .int .u64 0, .string ⟨#[]⟩, .slice none 0 0, .slice none 0 0]) 49 from B26); clear B26 C27
      refine hK22.out _ _ ⟨CV.out, trivial⟩ (fun hS31 => ?_); clear hK22 K22
      (try simp only [zP, zN, zA, zB, zC])
      refine one_ (i := 11) (N := some 36) #[true, true, true, true, true, true, true, true, true, true, true, true, false, false, false] rfl rfl (by kernel_rfl) (by simp) (fun K32 hK32 => ?_)
      have HSZ := Lib.hid C0.out.size
      refine e_append (by rfl) rfl rfl (base) 49 _ _ 28 344 Try.underlying45 I49.hi I49.hz I49.hs I49.hb rfl (by decide) (.slice Av L.length cv) (L.length) ((L).flatMap opC) (by rfl) OL.out (.slice (some ⟨g23, 0, none⟩) 1 1) 1 (opC (⟨c, n, ((now + 1 : Nat) : Int), 0, 0, ZC, ZR⟩ : HOp)) (by rfl) ⟨rfl, .inr ⟨_, _, rfl, CellsAt.blk Fg23.out 0⟩⟩ (opC_one (⟨c, n, ((now + 1 : Nat) : Int), 0, 0, ZC, ZR⟩ : HOp)) (by have := HW.out; unfold maxLen; omega) (by have := HW.out; omega) (by have := HB0.out; have := HSZ.out; omega) ?_
      rintro v33 w34 O35 C36 R37 -
      have rw38 := Lib.hid (show ∀ x, x ∈ rl v33 → x ∈ (b :: m :: rl (.slice Av L.length cv)) ∨ w.heap.size ≤ x from fun x hx => (R37 x hx).elim (fun h => .inl (List.mem_cons_of_mem _ (List.mem_cons_of_mem _ h))) (fun h => .inr (by have := C0.out.size; omega)))
      have nr39 := Lib.hid (show g23 ∉ rl v33 from fun hk => (R37 _ hk).elim nr30.out (fun h => by have := Fg23.out.lt; omega))
      have C0' := Lib.hid (show Ch (b :: m :: rl (.slice Av L.length cv)) w w34 from C0.out.trans' C36 (fun x hx => .inl (List.mem_cons_of_mem _ (List.mem_cons_of_mem _ hx))))
      have FM' := Lib.hid (show MapIs w34 m (kv) (Value.int .i64) (okK) (keysOf 0 (L ++ [(⟨c, n, ((now + 1 : Nat) : Int), 0, 0, ZC, ZR⟩ : HOp)])) from FM.out.keep C36 (FM.out.no_row OL.out))
      have FB' := Lib.hid (show Blk w34 b (#[.int .i64 (now + 1 : Nat), .slice Av L.length cv, .map (some m), u]) 84 from C36.blk FB.out (OL.out.ne FB.out (by decide)))
      have CV' := Lib.hid (show CellIs w34 b 1 (.slice Av L.length cv) from CV.out.ch C36 (OL.out.ne FB.out (by decide)))
      have Fg23' := Lib.hid (show Blk w34 g23 (#[.int .i64 c, .int .i64 n, .int .i64 (now + 1 : Nat), .int .i64 0, .int .i64 0, .int .i64 0, .int .i64 0, .int .u64 0, .string ⟨#[]⟩, .slice none 0 0, .slice none 0 0, .slice none 0 0, .int .i64 0, .int .i64 0, .int .i64 0, .int .i64 0, .int .i64 0, .int .i64 0, .int .i64 0, .string ⟨#[]⟩, .slice none 0 0, .int .i64 0, .int .i64 0, .int .i64 0, .int .u64 0, .string ⟨#[]⟩, .slice none 0 0, .slice none 0 0]) 49 from C36.blk Fg23.out nr30.out)
      clear C0 FM FB CV Fg23
      have C0 := C0'; clear C0'
      have FM := FM'; clear FM'
      have FB := FB'; clear FB'
      have CV := CV'; clear CV'
      have Fg23 := Fg23'; clear Fg23'
      clear OL
      have OL := Lib.hid (show OwnS w34 base 49 28 (v33) (L.length + 1) ((L).flatMap opC ++ opC (⟨c, n, ((now + 1 : Nat) : Int), 0, 0, ZC, ZR⟩ : HOp)) from O35); clear O35 C36
      have RR := Lib.hid (show ∀ k, k ∈ rl v33 → k ∈ rl (.slice Av L.length cv) ∨ w.heap.size ≤ k from fun k hk => (R37 k hk).imp_right (fun h => Nat.le_trans HSZ.out h))
      refine hK32.out _ _ ⟨CV.out, trivial⟩ (fun hS40 => ?_); clear hK32 K32
      (try simp only [zP, zN, zA, zB, zC])
      refine pure_ (i := 12) (N := some 37) (v := .pointer (some ⟨b, 0, none⟩)) #[true, true, true, true, true, true, true, true, true, true, true, true, true, false, false] rfl rfl (by kernel_rfl) (fun c a w h => hP c a _ _ w h) (y_nil rfl (by rfl) (by rfl)) rfl ?_
      (try simp only [zP, zN, zA, zB, zC])
      refine pure_ (i := 13) (N := some 38) (v := .pointer (some ⟨b, 1, none⟩)) #[true, true, true, true, true, true, true, true, true, true, true, true, true, true, false] rfl rfl (by kernel_rfl) (fun c a w h => hP c a _ _ w h) (y_run (by rfl) (fun W => by go_simp)) rfl ?_
      (try simp only [zP, zN, zA, zB, zC])
      refine last_ (i := 14) (N := none) #[true, true, true, true, true, true, true, true, true, true, true, true, true, true, true] rfl rfl (by kernel_rfl) (by simp) (fun K41 hK41 => ?_)
      refine e_store1 (b := b) (j := 1) (v := v33) (by rfl) rfl rfl (by rfl) (by rfl) FB.out (show 1 < 4 by omega) (by kernel_rfl) OL.out.one ?_
      rintro w42 B43 C44
      have C0' := Lib.hid (show Ch (b :: m :: rl (.slice Av L.length cv)) w w42 from C0.out.trans' C44 (inw_cons (.inl List.mem_cons_self) inw_nil))
      have FM' := Lib.hid (show MapIs w42 m (kv) (Value.int .i64) (okK) (keysOf 0 (L ++ [(⟨c, n, ((now + 1 : Nat) : Int), 0, 0, ZC, ZR⟩ : HOp)])) from FM.out.keep C44 (nin_cons (FM.out.no_cells FB.out) nin_nil))
      have OL' := Lib.hid (show OwnS w42 base 49 28 (v33) (L.length + 1) ((L).flatMap opC ++ opC (⟨c, n, ((now + 1 : Nat) : Int), 0, 0, ZC, ZR⟩ : HOp)) from OL.out.ch C44 (rnin_cons (OL.out.ne FB.out (by decide)) rnin_nil))
      have Fg23' := Lib.hid (show Blk w42 g23 (#[.int .i64 c, .int .i64 n, .int .i64 (now + 1 : Nat), .int .i64 0, .int .i64 0, .int .i64 0, .int .i64 0, .int .u64 0, .string ⟨#[]⟩, .slice none 0 0, .slice none 0 0, .slice none 0 0, .int .i64 0, .int .i64 0, .int .i64 0, .int .i64 0, .int .i64 0, .int .i64 0, .int .i64 0, .string ⟨#[]⟩, .slice none 0 0, .int .i64 0, .int .i64 0, .int .i64 0, .int .u64 0, .string ⟨#[]⟩, .slice none 0 0, .slice none 0 0]) 49 from C44.blk Fg23.out (nin_cons (Blk.ne_type Fg23.out FB.out (by decide)) nin_nil))
      clear C0 FM OL CV Fg23
      have C0 := C0'; clear C0'
      have FM := FM'; clear FM'
      have OL := OL'; clear OL'
      have Fg23 := Fg23'; clear Fg23'
      clear FB; have FB := Lib.hid (show Blk w42 b (#[.int .i64 (now + 1 : Nat), v33, .map (some m), u]) 84 from B43); clear B43 C44
      refine hK41.out _ _ ?_; clear hK41 K41
      (try simp only [zP, zN, zA, zB, zC])
      refine done_ (by kernel_rfl) (th_norm (hK15 _ _ ?_)); clear hK15 K15
      refine s_ (fun K45 hK45 => ?_)
      refine pu_ (v := .pointer (some ⟨b, 0, none⟩)) (y_move rfl (by rfl) (by rfl)) ?_
      (try simp only [zP, zN, zA, zB, zC])
      refine pu_ (v := .pointer (some ⟨b, 0, none⟩)) (y_nil rfl (by rfl) (by rfl)) ?_
      (try simp only [zP, zN, zA, zB, zC])
      refine pu_ (v := .pointer (some ⟨b, 0, none⟩)) (y_run (by rfl) (fun W => by go_simp)) ?_
      (try simp only [zP, zN, zA, zB, zC])
      refine ld_ (v := .int .i64 (now + 1 : Nat)) rfl (by rfl) (by rfl) (run_load_one ((FB.out.cell 0).trans rfl) Try.underlying3 rfl) ?_
      (try simp only [zP, zN, zA, zB, zC])
      refine pu_ (v := .int .i64 (now + 1 : Nat)) (y_assign rfl (by rfl) (by rfl)) ?_
      (try simp only [zP, zN, zA, zB, zC])
      refine pu_ (v := .int .i64 0) (y_assign rfl (by rfl) (by rfl)) ?_
      (try simp only [zP, zN, zA, zB, zC])
      refine nl_ (hK45 _ _ ?_); clear hK45 K45
      refine wp_ret ?_
      refine hQ _ _ _ ?_
      refine bodyPost_ret (res2 rfl (rdv_tmp (v := .int .i64 (now + 1 : Nat)) (by rfl)) (rdv_tmp (v := .int .i64 0) (by rfl))) rfl ?_
      exact ⟨_, rfl, FB.out, FM.out, by have h := OL.out; rwa [show L.flatMap opC ++ opC (⟨c, n, ((now + 1 : Nat) : Int), 0, 0, ZC, ZR⟩ : HOp) = (L ++ [(⟨c, n, ((now + 1 : Nat) : Int), 0, 0, ZC, ZR⟩ : HOp)]).flatMap opC by simp] at h, C0.out, RR.out⟩
theorem tell_none (HK : Hid (okK (c, n))) (HJ : Hid (idx c n 0 L = none))  (FB : Hid (Blk w b (#[.int .i64 now, v, .map (some m), u]) 84)) (FM : Hid (MapIs w m (kv) (Value.int .i64) (okK) (keysOf 0 (L)))) :
    Calls Try.prog 12 #[.pointer (some ⟨b, 0, none⟩), .int .i64 c, .int .i64 n] w fun en w' => en = .returned (.tuple #[.int .i64 0, .int .i64 6]) ∧ Ch [] w w' := by
  have C0 := Lib.hid (Ch.refl [] w)
  go_enter Try.func12, Try.ntmps12
  refine q_ (fun Q hQ hP => ?_)
  refine s_ (fun K1 hK1 => ?_)
  refine pu_ (v := .int .i64 0) (y_assign rfl (by rfl) (by rfl)) ?_
  (try simp only [zP, zN, zA, zB, zC])
  refine pu_ (v := .int .i64 0) (y_assign rfl (by rfl) (by rfl)) ?_
  (try simp only [zP, zN, zA, zB, zC])
  refine nl_ (hK1 _ _ ?_); clear hK1 K1
  refine s_ (fun K2 hK2 => ?_)
  refine pu_ (v := .pointer (some ⟨b, 0, none⟩)) (y_move rfl (by rfl) (by rfl)) ?_
  (try simp only [zP, zN, zA, zB, zC])
  refine pu_ (v := .int .i64 c) (y_move rfl (by rfl) (by rfl)) ?_
  (try simp only [zP, zN, zA, zB, zC])
  refine pu_ (v := .int .i64 n) (y_move rfl (by rfl) (by rfl)) ?_
  (try simp only [zP, zN, zA, zB, zC])
  refine ef_ (fun K3 hK3 => ?_)
  refine e_call Try.func44 (by kernel_rfl) rfl #[.pointer (some ⟨b, 0, none⟩), .int .i64 c, .int .i64 n] (by rfl) rfl rfl (by first | rfl | (simp only [List.map_toArray, List.map_cons, List.map_nil]; first | done | rfl)) (op_none HK HJ FB FM) ?_
  rintro en w4 ⟨rfl, cc⟩
  refine ⟨_, rfl, ?_⟩
  have C0' := Lib.hid (show Ch [] w w4 from C0.out.trans' cc (fun x hx => absurd hx (by simp)))
  have FB' := Lib.hid (show Blk w4 b (#[.int .i64 now, v, .map (some m), u]) 84 from cc.blk FB.out nin_nil)
  have FM' := Lib.hid (show MapIs w4 m (kv) (Value.int .i64) (okK) (keysOf 0 (L)) from FM.out.keep cc nin_nil)
  clear C0 FB FM
  have C0 := C0'; clear C0'
  have FB := FB'; clear FB'
  have FM := FM'; clear FM'
  clear cc
  refine hK3 _ _ ?_; clear hK3 K3
  (try simp only [zP, zN, zA, zB, zC])
  refine pu_ (v := .pointer none) (y_assign rfl (by rfl) (by rfl)) ?_
  (try simp only [zP, zN, zA, zB, zC])
  refine nl_ (hK2 _ _ ?_); clear hK2 K2
  refine sq_ (fun K5 hK5 => ?_)
  refine wp_block ?_
  refine s_ (fun K6 hK6 => ?_)
  refine pu_ (v := .pointer none) (y_move rfl (by rfl) (by rfl)) ?_
  (try simp only [zP, zN, zA, zB, zC])
  refine pu_ (v := .bool true) (y_run (by rfl) (fun W => by go_simp)) ?_
  (try simp only [zP, zN, zA, zB, zC])
  refine pu_ (v := .bool true) (y_assign rfl (by rfl) (by rfl)) ?_
  (try simp only [zP, zN, zA, zB, zC])
  refine nl_ (hK6 _ _ ?_); clear hK6 K6
  refine wp_cond_true rfl ?_
  refine s_ (fun K7 hK7 => ?_)
  refine pu_ (v := .int .i64 0) (y_assign rfl (by rfl) (by rfl)) ?_
  (try simp only [zP, zN, zA, zB, zC])
  refine pu_ (v := .int .i64 6) (y_assign rfl (by rfl) (by rfl)) ?_
  (try simp only [zP, zN, zA, zB, zC])
  refine nl_ (hK7 _ _ ?_); clear hK7 K7
  refine wp_ret ?_
  refine ib_ret ?_
  refine th_ret ?_
  refine hQ _ _ _ ?_
  refine bodyPost_ret (res2 rfl (rdv_tmp (v := .int .i64 0) (by rfl)) (rdv_tmp (v := .int .i64 6) (by rfl))) rfl ?_
  exact ⟨rfl, C0.out⟩
theorem tell_done {g cap j : Nat} {o : HOp} (HK : Hid (okK (c, n))) (HJ : Hid (idx c n 0 L = some j)) (HL : Hid (j < L.length ∧ L.length ≤ 1000)) (HO : Hid (L[j]? = some o)) (HD : Hid ((o.d == 0) = true)) (FB : Hid (Blk w b (#[.int .i64 now, .slice (some ⟨g, 0, none⟩) L.length cap, .map (some m), u]) 84)) (FM : Hid (MapIs w m (kv) (Value.int .i64) (okK) (keysOf 0 (L)))) (OL : Hid (OwnS w base 49 28 (.slice (some ⟨g, 0, none⟩) L.length cap) (L.length) ((L).flatMap opC))) :
    Calls Try.prog 12 #[.pointer (some ⟨b, 0, none⟩), .int .i64 c, .int .i64 n] w fun en w' => en = .returned (.tuple #[.int .i64 0, .int .i64 5]) ∧ Ch [] w w' := by
  have C0 := Lib.hid (Ch.refl [] w)
  go_enter Try.func12, Try.ntmps12
  refine q_ (fun Q hQ hP => ?_)
  refine s_ (fun K1 hK1 => ?_)
  refine pu_ (v := .int .i64 0) (y_assign rfl (by rfl) (by rfl)) ?_
  (try simp only [zP, zN, zA, zB, zC])
  refine pu_ (v := .int .i64 0) (y_assign rfl (by rfl) (by rfl)) ?_
  (try simp only [zP, zN, zA, zB, zC])
  refine nl_ (hK1 _ _ ?_); clear hK1 K1
  refine s_ (fun K2 hK2 => ?_)
  refine pu_ (v := .pointer (some ⟨b, 0, none⟩)) (y_move rfl (by rfl) (by rfl)) ?_
  (try simp only [zP, zN, zA, zB, zC])
  refine pu_ (v := .int .i64 c) (y_move rfl (by rfl) (by rfl)) ?_
  (try simp only [zP, zN, zA, zB, zC])
  refine pu_ (v := .int .i64 n) (y_move rfl (by rfl) (by rfl)) ?_
  (try simp only [zP, zN, zA, zB, zC])
  refine ef_ (fun K3 hK3 => ?_)
  refine e_call Try.func44 (by kernel_rfl) rfl #[.pointer (some ⟨b, 0, none⟩), .int .i64 c, .int .i64 n] (by rfl) rfl rfl (by first | rfl | (simp only [List.map_toArray, List.map_cons, List.map_nil]; first | done | rfl)) (op_some HK HJ HL FB FM) ?_
  rintro en w4 ⟨rfl, cc⟩
  refine ⟨_, rfl, ?_⟩
  have C0' := Lib.hid (show Ch [] w w4 from C0.out.trans' cc (fun x hx => absurd hx (by simp)))
  have FB' := Lib.hid (show Blk w4 b (#[.int .i64 now, .slice (some ⟨g, 0, none⟩) L.length cap, .map (some m), u]) 84 from cc.blk FB.out nin_nil)
  have FM' := Lib.hid (show MapIs w4 m (kv) (Value.int .i64) (okK) (keysOf 0 (L)) from FM.out.keep cc nin_nil)
  have OL' := Lib.hid (show OwnS w4 base 49 28 (.slice (some ⟨g, 0, none⟩) L.length cap) (L.length) ((L).flatMap opC) from OL.out.ch cc rnin_nil)
  clear C0 FB FM OL
  have C0 := C0'; clear C0'
  have FB := FB'; clear FB'
  have FM := FM'; clear FM'
  have OL := OL'; clear OL'
  clear cc
  refine hK3 _ _ ?_; clear hK3 K3
  (try simp only [zP, zN, zA, zB, zC])
  refine pu_ (v := .pointer (some ⟨g, j * 28, none⟩)) (y_assign rfl (by rfl) (by rfl)) ?_
  (try simp only [zP, zN, zA, zB, zC])
  refine nl_ (hK2 _ _ ?_); clear hK2 K2
  refine sq_ (fun K5 hK5 => ?_)
  refine wp_block ?_
  refine s_ (fun K6 hK6 => ?_)
  refine pu_ (v := .pointer (some ⟨g, j * 28, none⟩)) (y_move rfl (by rfl) (by rfl)) ?_
  (try simp only [zP, zN, zA, zB, zC])
  refine pu_ (v := .bool false) (y_run (by rfl) (fun W => by go_simp)) ?_
  (try simp only [zP, zN, zA, zB, zC])
  refine pu_ (v := .bool false) (y_assign rfl (by rfl) (by rfl)) ?_
  (try simp only [zP, zN, zA, zB, zC])
  refine nl_ (hK6 _ _ ?_); clear hK6 K6
  refine wp_cond_false rfl ?_
  refine s_ (fun K7 hK7 => ?_)
  refine pu_ (v := .pointer (some ⟨g, j * 28, none⟩)) (y_move rfl (by rfl) (by rfl)) ?_
  (try simp only [zP, zN, zA, zB, zC])
  refine pu_ (v := .pointer (some ⟨g, j * 28, none⟩)) (y_nil rfl (by rfl) (by rfl)) ?_
  (try simp only [zP, zN, zA, zB, zC])
  refine pu_ (v := .pointer (some ⟨g, j * 28 + 3, none⟩)) (y_run (by rfl) (fun W => by go_simp)) ?_
  (try simp only [zP, zN, zA, zB, zC])
  refine ld_ (v := .int .i64 o.d) rfl (by rfl) (by rfl) (run_load_one (op_at HO.out OL.out 3 rfl) Try.underlying3 rfl) ?_
  (try simp only [zP, zN, zA, zB, zC])
  refine pu_ (v := .bool true) (y_run (by rfl) (fun W => by have d := HD.out; go_simp)) ?_
  (try simp only [zP, zN, zA, zB, zC])
  refine pu_ (v := .bool true) (y_move rfl (by rfl) (by rfl)) ?_
  (try simp only [zP, zN, zA, zB, zC])
  refine pu_ (y_off (by rfl)) ?_
  (try simp only [zP, zN, zA, zB, zC])
  refine pu_ (y_off (by rfl)) ?_
  (try simp only [zP, zN, zA, zB, zC])
  refine pu_ (y_off (by rfl)) ?_
  (try simp only [zP, zN, zA, zB, zC])
  refine pu_ (y_off (by rfl)) ?_
  (try simp only [zP, zN, zA, zB, zC])
  refine pu_ (y_off (by rfl)) ?_
  (try simp only [zP, zN, zA, zB, zC])
  refine pu_ (v := .bool true) (y_pick (t := true) (by rfl) rfl (by rfl) (by rfl)) ?_
  (try simp only [zP, zN, zA, zB, zC])
  refine pu_ (v := .bool true) (y_assign rfl (by rfl) (by rfl)) ?_
  (try simp only [zP, zN, zA, zB, zC])
  refine nl_ (hK7 _ _ ?_); clear hK7 K7
  refine wp_cond_true rfl ?_
  refine s_ (fun K8 hK8 => ?_)
  refine pu_ (v := .int .i64 0) (y_assign rfl (by rfl) (by rfl)) ?_
  (try simp only [zP, zN, zA, zB, zC])
  refine pu_ (v := .int .i64 5) (y_assign rfl (by rfl) (by rfl)) ?_
  (try simp only [zP, zN, zA, zB, zC])
  refine nl_ (hK8 _ _ ?_); clear hK8 K8
  refine wp_ret ?_
  refine ib_ret ?_
  refine th_ret ?_
  refine hQ _ _ _ ?_
  refine bodyPost_ret (res2 rfl (rdv_tmp (v := .int .i64 0) (by rfl)) (rdv_tmp (v := .int .i64 5) (by rfl))) rfl ?_
  exact ⟨rfl, C0.out⟩
theorem tell_told {g cap j : Nat} {o : HOp} (HK : Hid (okK (c, n))) (HJ : Hid (idx c n 0 L = some j)) (HL : Hid (j < L.length ∧ L.length ≤ 1000)) (HO : Hid (L[j]? = some o)) (HD : Hid ((o.d == 0) = false)) (HT : Hid (decide (o.t > 0) = true)) (FB : Hid (Blk w b (#[.int .i64 now, .slice (some ⟨g, 0, none⟩) L.length cap, .map (some m), u]) 84)) (FM : Hid (MapIs w m (kv) (Value.int .i64) (okK) (keysOf 0 (L)))) (OL : Hid (OwnS w base 49 28 (.slice (some ⟨g, 0, none⟩) L.length cap) (L.length) ((L).flatMap opC))) :
    Calls Try.prog 12 #[.pointer (some ⟨b, 0, none⟩), .int .i64 c, .int .i64 n] w fun en w' => en = .returned (.tuple #[.int .i64 0, .int .i64 5]) ∧ Ch [] w w' := by
  have C0 := Lib.hid (Ch.refl [] w)
  go_enter Try.func12, Try.ntmps12
  refine q_ (fun Q hQ hP => ?_)
  refine s_ (fun K1 hK1 => ?_)
  refine pu_ (v := .int .i64 0) (y_assign rfl (by rfl) (by rfl)) ?_
  (try simp only [zP, zN, zA, zB, zC])
  refine pu_ (v := .int .i64 0) (y_assign rfl (by rfl) (by rfl)) ?_
  (try simp only [zP, zN, zA, zB, zC])
  refine nl_ (hK1 _ _ ?_); clear hK1 K1
  refine s_ (fun K2 hK2 => ?_)
  refine pu_ (v := .pointer (some ⟨b, 0, none⟩)) (y_move rfl (by rfl) (by rfl)) ?_
  (try simp only [zP, zN, zA, zB, zC])
  refine pu_ (v := .int .i64 c) (y_move rfl (by rfl) (by rfl)) ?_
  (try simp only [zP, zN, zA, zB, zC])
  refine pu_ (v := .int .i64 n) (y_move rfl (by rfl) (by rfl)) ?_
  (try simp only [zP, zN, zA, zB, zC])
  refine ef_ (fun K3 hK3 => ?_)
  refine e_call Try.func44 (by kernel_rfl) rfl #[.pointer (some ⟨b, 0, none⟩), .int .i64 c, .int .i64 n] (by rfl) rfl rfl (by first | rfl | (simp only [List.map_toArray, List.map_cons, List.map_nil]; first | done | rfl)) (op_some HK HJ HL FB FM) ?_
  rintro en w4 ⟨rfl, cc⟩
  refine ⟨_, rfl, ?_⟩
  have C0' := Lib.hid (show Ch [] w w4 from C0.out.trans' cc (fun x hx => absurd hx (by simp)))
  have FB' := Lib.hid (show Blk w4 b (#[.int .i64 now, .slice (some ⟨g, 0, none⟩) L.length cap, .map (some m), u]) 84 from cc.blk FB.out nin_nil)
  have FM' := Lib.hid (show MapIs w4 m (kv) (Value.int .i64) (okK) (keysOf 0 (L)) from FM.out.keep cc nin_nil)
  have OL' := Lib.hid (show OwnS w4 base 49 28 (.slice (some ⟨g, 0, none⟩) L.length cap) (L.length) ((L).flatMap opC) from OL.out.ch cc rnin_nil)
  clear C0 FB FM OL
  have C0 := C0'; clear C0'
  have FB := FB'; clear FB'
  have FM := FM'; clear FM'
  have OL := OL'; clear OL'
  clear cc
  refine hK3 _ _ ?_; clear hK3 K3
  (try simp only [zP, zN, zA, zB, zC])
  refine pu_ (v := .pointer (some ⟨g, j * 28, none⟩)) (y_assign rfl (by rfl) (by rfl)) ?_
  (try simp only [zP, zN, zA, zB, zC])
  refine nl_ (hK2 _ _ ?_); clear hK2 K2
  refine sq_ (fun K5 hK5 => ?_)
  refine wp_block ?_
  refine s_ (fun K6 hK6 => ?_)
  refine pu_ (v := .pointer (some ⟨g, j * 28, none⟩)) (y_move rfl (by rfl) (by rfl)) ?_
  (try simp only [zP, zN, zA, zB, zC])
  refine pu_ (v := .bool false) (y_run (by rfl) (fun W => by go_simp)) ?_
  (try simp only [zP, zN, zA, zB, zC])
  refine pu_ (v := .bool false) (y_assign rfl (by rfl) (by rfl)) ?_
  (try simp only [zP, zN, zA, zB, zC])
  refine nl_ (hK6 _ _ ?_); clear hK6 K6
  refine wp_cond_false rfl ?_
  refine s_ (fun K7 hK7 => ?_)
  refine pu_ (v := .pointer (some ⟨g, j * 28, none⟩)) (y_move rfl (by rfl) (by rfl)) ?_
  (try simp only [zP, zN, zA, zB, zC])
  refine pu_ (v := .pointer (some ⟨g, j * 28, none⟩)) (y_nil rfl (by rfl) (by rfl)) ?_
  (try simp only [zP, zN, zA, zB, zC])
  refine pu_ (v := .pointer (some ⟨g, j * 28 + 3, none⟩)) (y_run (by rfl) (fun W => by go_simp)) ?_
  (try simp only [zP, zN, zA, zB, zC])
  refine ld_ (v := .int .i64 o.d) rfl (by rfl) (by rfl) (run_load_one (op_at HO.out OL.out 3 rfl) Try.underlying3 rfl) ?_
  (try simp only [zP, zN, zA, zB, zC])
  refine pu_ (v := .bool false) (y_run (by rfl) (fun W => by have d := HD.out; go_simp)) ?_
  (try simp only [zP, zN, zA, zB, zC])
  refine pu_ (v := .bool false) (y_move rfl (by rfl) (by rfl)) ?_
  (try simp only [zP, zN, zA, zB, zC])
  refine pu_ (v := .pointer (some ⟨g, j * 28, none⟩)) (y_move rfl (by rfl) (by rfl)) ?_
  (try simp only [zP, zN, zA, zB, zC])
  refine pu_ (v := .pointer (some ⟨g, j * 28, none⟩)) (y_nil rfl (by rfl) (by rfl)) ?_
  (try simp only [zP, zN, zA, zB, zC])
  refine pu_ (v := .pointer (some ⟨g, j * 28 + 4, none⟩)) (y_run (by rfl) (fun W => by go_simp)) ?_
  (try simp only [zP, zN, zA, zB, zC])
  refine ld_ (v := .int .i64 o.t) rfl (by rfl) (by rfl) (run_load_one (op_at HO.out OL.out 4 rfl) Try.underlying3 rfl) ?_
  (try simp only [zP, zN, zA, zB, zC])
  refine pu_ (v := .bool true) (y_run (by rfl) (fun W => by have d := HT.out; go_simp)) ?_
  (try simp only [zP, zN, zA, zB, zC])
  refine pu_ (v := .bool true) (y_pick (t := false) (by rfl) rfl (by rfl) (by rfl)) ?_
  (try simp only [zP, zN, zA, zB, zC])
  refine pu_ (v := .bool true) (y_assign rfl (by rfl) (by rfl)) ?_
  (try simp only [zP, zN, zA, zB, zC])
  refine nl_ (hK7 _ _ ?_); clear hK7 K7
  refine wp_cond_true rfl ?_
  refine s_ (fun K8 hK8 => ?_)
  refine pu_ (v := .int .i64 0) (y_assign rfl (by rfl) (by rfl)) ?_
  (try simp only [zP, zN, zA, zB, zC])
  refine pu_ (v := .int .i64 5) (y_assign rfl (by rfl) (by rfl)) ?_
  (try simp only [zP, zN, zA, zB, zC])
  refine nl_ (hK8 _ _ ?_); clear hK8 K8
  refine wp_ret ?_
  refine ib_ret ?_
  refine th_ret ?_
  refine hQ _ _ _ ?_
  refine bodyPost_ret (res2 rfl (rdv_tmp (v := .int .i64 0) (by rfl)) (rdv_tmp (v := .int .i64 5) (by rfl))) rfl ?_
  exact ⟨rfl, C0.out⟩
theorem tell_ok {g cap j : Nat} {o : HOp} (HK : Hid (okK (c, n))) (HJ : Hid (idx c n 0 L = some j)) (HL : Hid (j < L.length ∧ L.length ≤ 1000)) (HO : Hid (L[j]? = some o)) (HD : Hid ((o.d == 0) = false)) (HT : Hid (decide (o.t > 0) = false)) (HW : Hid (now ≤ 100000)) (HCAP : Hid (0 < cap)) (FB : Hid (Blk w b (#[.int .i64 now, .slice (some ⟨g, 0, none⟩) L.length cap, .map (some m), u]) 84)) (FM : Hid (MapIs w m (kv) (Value.int .i64) (okK) (keysOf 0 (L)))) (OL : Hid (OwnS w base 49 28 (.slice (some ⟨g, 0, none⟩) L.length cap) (L.length) ((L).flatMap opC))) :
    Calls Try.prog 12 #[.pointer (some ⟨b, 0, none⟩), .int .i64 c, .int .i64 n] w fun en w' => en = .returned (.tuple #[.int .i64 (now + 1 : Nat), .int .i64 0]) ∧ Blk w' b #[.int .i64 (now + 1 : Nat), .slice (some ⟨g, 0, none⟩) L.length cap, .map (some m), u] 84 ∧ MapIs w' m kv (Value.int .i64) okK (keysOf 0 L) ∧ OwnS w' base 49 28 (.slice (some ⟨g, 0, none⟩) L.length cap) L.length ((L.set j { o with t := ((now + 1 : Nat) : Int) }).flatMap opC) ∧ Ch (b :: rl (.slice (some ⟨g, 0, none⟩) L.length cap)) w w' := by
  have C0 := Lib.hid (Ch.refl (b :: rl (.slice (some ⟨g, 0, none⟩) L.length cap)) w)
  have HO2 := Lib.hid (show (L.set j { o with t := ((now + 1 : Nat) : Int) })[j]? = some _ from List.getElem?_set_self HL.out.1)
  go_enter Try.func12, Try.ntmps12
  refine q_ (fun Q hQ hP => ?_)
  refine s_ (fun K1 hK1 => ?_)
  refine pu_ (v := .int .i64 0) (y_assign rfl (by rfl) (by rfl)) ?_
  (try simp only [zP, zN, zA, zB, zC])
  refine pu_ (v := .int .i64 0) (y_assign rfl (by rfl) (by rfl)) ?_
  (try simp only [zP, zN, zA, zB, zC])
  refine nl_ (hK1 _ _ ?_); clear hK1 K1
  refine s_ (fun K2 hK2 => ?_)
  refine pu_ (v := .pointer (some ⟨b, 0, none⟩)) (y_move rfl (by rfl) (by rfl)) ?_
  (try simp only [zP, zN, zA, zB, zC])
  refine pu_ (v := .int .i64 c) (y_move rfl (by rfl) (by rfl)) ?_
  (try simp only [zP, zN, zA, zB, zC])
  refine pu_ (v := .int .i64 n) (y_move rfl (by rfl) (by rfl)) ?_
  (try simp only [zP, zN, zA, zB, zC])
  refine ef_ (fun K3 hK3 => ?_)
  refine e_call Try.func44 (by kernel_rfl) rfl #[.pointer (some ⟨b, 0, none⟩), .int .i64 c, .int .i64 n] (by rfl) rfl rfl (by first | rfl | (simp only [List.map_toArray, List.map_cons, List.map_nil]; first | done | rfl)) (op_some HK HJ HL FB FM) ?_
  rintro en w4 ⟨rfl, cc⟩
  refine ⟨_, rfl, ?_⟩
  have C0' := Lib.hid (show Ch (b :: rl (.slice (some ⟨g, 0, none⟩) L.length cap)) w w4 from C0.out.trans' cc (fun x hx => absurd hx (by simp)))
  have FB' := Lib.hid (show Blk w4 b (#[.int .i64 now, .slice (some ⟨g, 0, none⟩) L.length cap, .map (some m), u]) 84 from cc.blk FB.out nin_nil)
  have FM' := Lib.hid (show MapIs w4 m (kv) (Value.int .i64) (okK) (keysOf 0 (L)) from FM.out.keep cc nin_nil)
  have OL' := Lib.hid (show OwnS w4 base 49 28 (.slice (some ⟨g, 0, none⟩) L.length cap) (L.length) ((L).flatMap opC) from OL.out.ch cc rnin_nil)
  clear C0 FB FM OL
  have C0 := C0'; clear C0'
  have FB := FB'; clear FB'
  have FM := FM'; clear FM'
  have OL := OL'; clear OL'
  clear cc
  refine hK3 _ _ ?_; clear hK3 K3
  (try simp only [zP, zN, zA, zB, zC])
  refine pu_ (v := .pointer (some ⟨g, j * 28, none⟩)) (y_assign rfl (by rfl) (by rfl)) ?_
  (try simp only [zP, zN, zA, zB, zC])
  refine nl_ (hK2 _ _ ?_); clear hK2 K2
  refine sq_ (fun K5 hK5 => ?_)
  refine wp_block ?_
  refine s_ (fun K6 hK6 => ?_)
  refine pu_ (v := .pointer (some ⟨g, j * 28, none⟩)) (y_move rfl (by rfl) (by rfl)) ?_
  (try simp only [zP, zN, zA, zB, zC])
  refine pu_ (v := .bool false) (y_run (by rfl) (fun W => by go_simp)) ?_
  (try simp only [zP, zN, zA, zB, zC])
  refine pu_ (v := .bool false) (y_assign rfl (by rfl) (by rfl)) ?_
  (try simp only [zP, zN, zA, zB, zC])
  refine nl_ (hK6 _ _ ?_); clear hK6 K6
  refine wp_cond_false rfl ?_
  refine s_ (fun K7 hK7 => ?_)
  refine pu_ (v := .pointer (some ⟨g, j * 28, none⟩)) (y_move rfl (by rfl) (by rfl)) ?_
  (try simp only [zP, zN, zA, zB, zC])
  refine pu_ (v := .pointer (some ⟨g, j * 28, none⟩)) (y_nil rfl (by rfl) (by rfl)) ?_
  (try simp only [zP, zN, zA, zB, zC])
  refine pu_ (v := .pointer (some ⟨g, j * 28 + 3, none⟩)) (y_run (by rfl) (fun W => by go_simp)) ?_
  (try simp only [zP, zN, zA, zB, zC])
  refine ld_ (v := .int .i64 o.d) rfl (by rfl) (by rfl) (run_load_one (op_at HO.out OL.out 3 rfl) Try.underlying3 rfl) ?_
  (try simp only [zP, zN, zA, zB, zC])
  refine pu_ (v := .bool false) (y_run (by rfl) (fun W => by have d := HD.out; go_simp)) ?_
  (try simp only [zP, zN, zA, zB, zC])
  refine pu_ (v := .bool false) (y_move rfl (by rfl) (by rfl)) ?_
  (try simp only [zP, zN, zA, zB, zC])
  refine pu_ (v := .pointer (some ⟨g, j * 28, none⟩)) (y_move rfl (by rfl) (by rfl)) ?_
  (try simp only [zP, zN, zA, zB, zC])
  refine pu_ (v := .pointer (some ⟨g, j * 28, none⟩)) (y_nil rfl (by rfl) (by rfl)) ?_
  (try simp only [zP, zN, zA, zB, zC])
  refine pu_ (v := .pointer (some ⟨g, j * 28 + 4, none⟩)) (y_run (by rfl) (fun W => by go_simp)) ?_
  (try simp only [zP, zN, zA, zB, zC])
  refine ld_ (v := .int .i64 o.t) rfl (by rfl) (by rfl) (run_load_one (op_at HO.out OL.out 4 rfl) Try.underlying3 rfl) ?_
  (try simp only [zP, zN, zA, zB, zC])
  refine pu_ (v := .bool false) (y_run (by rfl) (fun W => by have d := HT.out; go_simp)) ?_
  (try simp only [zP, zN, zA, zB, zC])
  refine pu_ (v := .bool false) (y_pick (t := false) (by rfl) rfl (by rfl) (by rfl)) ?_
  (try simp only [zP, zN, zA, zB, zC])
  refine pu_ (v := .bool false) (y_assign rfl (by rfl) (by rfl)) ?_
  (try simp only [zP, zN, zA, zB, zC])
  refine nl_ (hK7 _ _ ?_); clear hK7 K7
  refine wp_cond_false rfl ?_
  refine wp_skip ?_
  refine ib_norm ?_
  refine th_norm (hK5 _ _ ?_); try clear hK5 K5
  refine s_ (fun K8 hK8 => ?_)
  refine pu_ (v := .pointer (some ⟨g, j * 28, none⟩)) (y_move rfl (by rfl) (by rfl)) ?_
  (try simp only [zP, zN, zA, zB, zC])
  refine pu_ (v := .pointer (some ⟨b, 0, none⟩)) (y_move rfl (by rfl) (by rfl)) ?_
  (try simp only [zP, zN, zA, zB, zC])
  refine ef_ (fun K9 hK9 => ?_)
  refine e_call Try.func45 (by kernel_rfl) rfl #[.pointer (some ⟨b, 0, none⟩)] (by rfl) rfl rfl (by first | rfl | (simp only [List.map_toArray, List.map_cons, List.map_nil]; first | done | rfl)) (tick HW FB) ?_
  rintro en w10 ⟨rfl, fb2, cc⟩
  refine ⟨_, rfl, ?_⟩
  have C0' := Lib.hid (show Ch (b :: rl (.slice (some ⟨g, 0, none⟩) L.length cap)) w w10 from C0.out.trans' cc (inw_cons (.inl List.mem_cons_self) inw_nil))
  have FM' := Lib.hid (show MapIs w10 m (kv) (Value.int .i64) (okK) (keysOf 0 (L)) from FM.out.keep cc (nin_cons (FM.out.no_cells FB.out) nin_nil))
  have OL' := Lib.hid (show OwnS w10 base 49 28 (.slice (some ⟨g, 0, none⟩) L.length cap) (L.length) ((L).flatMap opC) from OL.out.ch cc (rnin_cons (OL.out.ne FB.out (by decide)) rnin_nil))
  clear C0 FM OL
  have C0 := C0'; clear C0'
  have FM := FM'; clear FM'
  have OL := OL'; clear OL'
  clear FB
  clear cc
  have FB := Lib.hid (show Blk w10 b (#[.int .i64 (now + 1 : Nat), .slice (some ⟨g, 0, none⟩) L.length cap, .map (some m), u]) 84 from fb2)
  refine hK9 _ _ ?_; clear hK9 K9
  (try simp only [zP, zN, zA, zB, zC])
  refine pu_ (v := .pointer (some ⟨g, j * 28, none⟩)) (y_nil rfl (by rfl) (by rfl)) ?_
  (try simp only [zP, zN, zA, zB, zC])
  refine pu_ (v := .pointer (some ⟨g, j * 28 + 4, none⟩)) (y_run (by rfl) (fun W => by go_simp)) ?_
  (try simp only [zP, zN, zA, zB, zC])
  refine ef_ (fun K11 hK11 => ?_)
  refine e_storeS1 (by rfl) rfl rfl OL.out (j * 28 + 4) (.int .i64 (now + 1 : Nat)) (by rfl) (by rfl) (by kernel_rfl) (by have := HL.out; omega) rfl ?_
  rintro w12 O13 C14
  have RC14 := Lib.hid (show Ch (rl (.slice (some ⟨g, 0, none⟩) L.length cap)) w10 w12 from by rw [rl_some _ _ _ HCAP.out]; exact C14)
  have C0' := Lib.hid (show Ch (b :: rl (.slice (some ⟨g, 0, none⟩) L.length cap)) w w12 from C0.out.trans' RC14.out (fun x hx => .inl (List.mem_cons_of_mem _ hx)))
  have FM' := Lib.hid (show MapIs w12 m (kv) (Value.int .i64) (okK) (keysOf 0 (L)) from FM.out.keep RC14.out (FM.out.no_row OL.out))
  have FB' := Lib.hid (show Blk w12 b (#[.int .i64 (now + 1 : Nat), .slice (some ⟨g, 0, none⟩) L.length cap, .map (some m), u]) 84 from RC14.out.blk FB.out (OL.out.ne FB.out (by decide)))
  clear C0 FM FB
  have C0 := C0'; clear C0'
  have FM := FM'; clear FM'
  have FB := FB'; clear FB'
  clear OL
  have OL := Lib.hid (show OwnS w12 base 49 28 (.slice (some ⟨g, 0, none⟩) L.length cap) (L.length) ((L.set j { o with t := ((now + 1 : Nat) : Int) }).flatMap opC) from by have h := O13; rw [put_t HO.out] at h; exact h); clear O13 C14 RC14
  refine hK11 _ _ ?_; clear hK11 K11
  (try simp only [zP, zN, zA, zB, zC])
  refine nl_ (hK8 _ _ ?_); clear hK8 K8
  refine s_ (fun K15 hK15 => ?_)
  refine pu_ (v := .pointer (some ⟨g, j * 28, none⟩)) (y_move rfl (by rfl) (by rfl)) ?_
  (try simp only [zP, zN, zA, zB, zC])
  refine pu_ (v := .pointer (some ⟨g, j * 28, none⟩)) (y_nil rfl (by rfl) (by rfl)) ?_
  (try simp only [zP, zN, zA, zB, zC])
  refine pu_ (v := .pointer (some ⟨g, j * 28 + 4, none⟩)) (y_run (by rfl) (fun W => by go_simp)) ?_
  (try simp only [zP, zN, zA, zB, zC])
  refine ld_ (v := .int .i64 (now + 1 : Nat)) rfl (by rfl) (by rfl) (run_load_one (op_at HO2.out OL.out 4 rfl) Try.underlying3 rfl) ?_
  (try simp only [zP, zN, zA, zB, zC])
  refine pu_ (v := .int .i64 (now + 1 : Nat)) (y_assign rfl (by rfl) (by rfl)) ?_
  (try simp only [zP, zN, zA, zB, zC])
  refine pu_ (v := .int .i64 0) (y_assign rfl (by rfl) (by rfl)) ?_
  (try simp only [zP, zN, zA, zB, zC])
  refine nl_ (hK15 _ _ ?_); clear hK15 K15
  refine wp_ret ?_
  refine hQ _ _ _ ?_
  refine bodyPost_ret (res2 rfl (rdv_tmp (v := .int .i64 (now + 1 : Nat)) (by rfl)) (rdv_tmp (v := .int .i64 0) (by rfl))) rfl ?_
  exact ⟨rfl, FB.out, FM.out, OL.out, C0.out⟩
theorem do_none (HK : Hid (okK (c, n))) (HJ : Hid (idx c n 0 L = none)) {CA : Cs 16} {RA : Cs 7} (FB : Hid (Blk w b (#[.int .i64 now, v, .map (some m), u]) 84)) (FM : Hid (MapIs w m (kv) (Value.int .i64) (okK) (keysOf 0 (L)))) :
    Calls Try.prog 11 #[.pointer (some ⟨b, 0, none⟩), .int .i64 c, .int .i64 n, .agg CA.1.toArray, .agg RA.1.toArray] w fun en w' => en = .returned (.tuple #[.int .i64 0, .int .i64 6]) ∧ Ch [] w w' := by
  have C0 := Lib.hid (Ch.refl [] w)
  go_enter Try.func11, Try.ntmps11
  refine q_ (fun Q hQ hP => ?_)
  refine s_ (fun K1 hK1 => ?_)
  refine ef_ (fun K2 hK2 => ?_)
  refine e_boxN (by rfl) rfl rfl (cs := CA.1.toArray) (v := .agg CA.1.toArray) (by rfl) rfl ?_
  rintro g3 w4 HG5 B6 C7
  have nw8 := Lib.hid (show w.heap.size ≤ g3 by have := C0.out.size; have := HG5.out; omega)
  have nm9 := Lib.hid (FM.out.ne_new HG5)
  have C0' := Lib.hid (show Ch [] w w4 from C0.out.trans' C7 (fun x hx => absurd hx (by simp)))
  have FB' := Lib.hid (show Blk w4 b (#[.int .i64 now, v, .map (some m), u]) 84 from C7.blk FB.out nin_nil)
  have FM' := Lib.hid (show MapIs w4 m (kv) (Value.int .i64) (okK) (keysOf 0 (L)) from FM.out.keep C7 nin_nil)
  clear C0 FB FM
  have C0 := C0'; clear C0'
  have FB := FB'; clear FB'
  have FM := FM'; clear FM'
  have Fg3 := Lib.hid (show Blk w4 g3 (CA.1.toArray) 32 from B6); clear B6 C7
  refine hK2 _ _ ?_; clear hK2 K2
  (try simp only [zP, zN, zA, zB, zC])
  refine ef_ (fun K10 hK10 => ?_)
  refine e_boxN (by rfl) rfl rfl (cs := RA.1.toArray) (v := .agg RA.1.toArray) (by rfl) rfl ?_
  rintro g11 w12 HG13 B14 C15
  have nw16 := Lib.hid (show w.heap.size ≤ g11 by have := C0.out.size; have := HG13.out; omega)
  have nm17 := Lib.hid (FM.out.ne_new HG13)
  have C0' := Lib.hid (show Ch [] w w12 from C0.out.trans' C15 (fun x hx => absurd hx (by simp)))
  have FB' := Lib.hid (show Blk w12 b (#[.int .i64 now, v, .map (some m), u]) 84 from C15.blk FB.out nin_nil)
  have FM' := Lib.hid (show MapIs w12 m (kv) (Value.int .i64) (okK) (keysOf 0 (L)) from FM.out.keep C15 nin_nil)
  have Fg3' := Lib.hid (show Blk w12 g3 (CA.1.toArray) 32 from C15.blk Fg3.out nin_nil)
  clear C0 FB FM Fg3
  have C0 := C0'; clear C0'
  have FB := FB'; clear FB'
  have FM := FM'; clear FM'
  have Fg3 := Fg3'; clear Fg3'
  have Fg11 := Lib.hid (show Blk w12 g11 (RA.1.toArray) 42 from B14); clear B14 C15
  refine hK10 _ _ ?_; clear hK10 K10
  (try simp only [zP, zN, zA, zB, zC])
  refine pu_ (v := .int .i64 0) (y_assign rfl (by rfl) (by rfl)) ?_
  (try simp only [zP, zN, zA, zB, zC])
  refine pu_ (v := .int .i64 0) (y_assign rfl (by rfl) (by rfl)) ?_
  (try simp only [zP, zN, zA, zB, zC])
  refine nl_ (hK1 _ _ ?_); clear hK1 K1
  refine s_ (fun K18 hK18 => ?_)
  refine pu_ (v := .pointer (some ⟨b, 0, none⟩)) (y_move rfl (by rfl) (by rfl)) ?_
  (try simp only [zP, zN, zA, zB, zC])
  refine pu_ (v := .int .i64 c) (y_move rfl (by rfl) (by rfl)) ?_
  (try simp only [zP, zN, zA, zB, zC])
  refine pu_ (v := .int .i64 n) (y_move rfl (by rfl) (by rfl)) ?_
  (try simp only [zP, zN, zA, zB, zC])
  refine ef_ (fun K19 hK19 => ?_)
  refine e_call Try.func44 (by kernel_rfl) rfl #[.pointer (some ⟨b, 0, none⟩), .int .i64 c, .int .i64 n] (by rfl) rfl rfl (by first | rfl | (simp only [List.map_toArray, List.map_cons, List.map_nil]; first | done | rfl)) (op_none HK HJ FB FM) ?_
  rintro en w20 ⟨rfl, cc⟩
  refine ⟨_, rfl, ?_⟩
  have C0' := Lib.hid (show Ch [] w w20 from C0.out.trans' cc (fun x hx => absurd hx (by simp)))
  have FB' := Lib.hid (show Blk w20 b (#[.int .i64 now, v, .map (some m), u]) 84 from cc.blk FB.out nin_nil)
  have FM' := Lib.hid (show MapIs w20 m (kv) (Value.int .i64) (okK) (keysOf 0 (L)) from FM.out.keep cc nin_nil)
  have Fg3' := Lib.hid (show Blk w20 g3 (CA.1.toArray) 32 from cc.blk Fg3.out nin_nil)
  have Fg11' := Lib.hid (show Blk w20 g11 (RA.1.toArray) 42 from cc.blk Fg11.out nin_nil)
  clear C0 FB FM Fg3 Fg11
  have C0 := C0'; clear C0'
  have FB := FB'; clear FB'
  have FM := FM'; clear FM'
  have Fg3 := Fg3'; clear Fg3'
  have Fg11 := Fg11'; clear Fg11'
  clear cc
  refine hK19 _ _ ?_; clear hK19 K19
  (try simp only [zP, zN, zA, zB, zC])
  refine pu_ (v := .pointer none) (y_assign rfl (by rfl) (by rfl)) ?_
  (try simp only [zP, zN, zA, zB, zC])
  refine nl_ (hK18 _ _ ?_); clear hK18 K18
  refine sq_ (fun K21 hK21 => ?_)
  refine wp_block ?_
  refine s_ (fun K22 hK22 => ?_)
  refine pu_ (v := .pointer none) (y_move rfl (by rfl) (by rfl)) ?_
  (try simp only [zP, zN, zA, zB, zC])
  refine pu_ (v := .bool true) (y_run (by rfl) (fun W => by go_simp)) ?_
  (try simp only [zP, zN, zA, zB, zC])
  refine pu_ (v := .bool true) (y_assign rfl (by rfl) (by rfl)) ?_
  (try simp only [zP, zN, zA, zB, zC])
  refine nl_ (hK22 _ _ ?_); clear hK22 K22
  refine wp_cond_true rfl ?_
  refine s_ (fun K23 hK23 => ?_)
  refine pu_ (v := .int .i64 0) (y_assign rfl (by rfl) (by rfl)) ?_
  (try simp only [zP, zN, zA, zB, zC])
  refine pu_ (v := .int .i64 6) (y_assign rfl (by rfl) (by rfl)) ?_
  (try simp only [zP, zN, zA, zB, zC])
  refine nl_ (hK23 _ _ ?_); clear hK23 K23
  refine wp_ret ?_
  refine ib_ret ?_
  refine th_ret ?_
  refine hQ _ _ _ ?_
  refine bodyPost_ret (res2 rfl (rdv_tmp (v := .int .i64 0) (by rfl)) (rdv_tmp (v := .int .i64 6) (by rfl))) rfl ?_
  exact ⟨rfl, C0.out⟩
theorem do_done {g cap j : Nat} {o : HOp} (HK : Hid (okK (c, n))) (HJ : Hid (idx c n 0 L = some j)) (HL : Hid (j < L.length ∧ L.length ≤ 1000)) (HO : Hid (L[j]? = some o)) {CA : Cs 16} {RA : Cs 7} (HD : Hid (decide (o.d > 0) = true)) (FB : Hid (Blk w b (#[.int .i64 now, .slice (some ⟨g, 0, none⟩) L.length cap, .map (some m), u]) 84)) (FM : Hid (MapIs w m (kv) (Value.int .i64) (okK) (keysOf 0 (L)))) (OL : Hid (OwnS w base 49 28 (.slice (some ⟨g, 0, none⟩) L.length cap) (L.length) ((L).flatMap opC))) :
    Calls Try.prog 11 #[.pointer (some ⟨b, 0, none⟩), .int .i64 c, .int .i64 n, .agg CA.1.toArray, .agg RA.1.toArray] w fun en w' => en = .returned (.tuple #[.int .i64 0, .int .i64 5]) ∧ Ch [] w w' := by
  have C0 := Lib.hid (Ch.refl [] w)
  go_enter Try.func11, Try.ntmps11
  refine q_ (fun Q hQ hP => ?_)
  refine s_ (fun K1 hK1 => ?_)
  refine ef_ (fun K2 hK2 => ?_)
  refine e_boxN (by rfl) rfl rfl (cs := CA.1.toArray) (v := .agg CA.1.toArray) (by rfl) rfl ?_
  rintro g3 w4 HG5 B6 C7
  have nw8 := Lib.hid (show w.heap.size ≤ g3 by have := C0.out.size; have := HG5.out; omega)
  have nm9 := Lib.hid (FM.out.ne_new HG5)
  have C0' := Lib.hid (show Ch [] w w4 from C0.out.trans' C7 (fun x hx => absurd hx (by simp)))
  have FB' := Lib.hid (show Blk w4 b (#[.int .i64 now, .slice (some ⟨g, 0, none⟩) L.length cap, .map (some m), u]) 84 from C7.blk FB.out nin_nil)
  have FM' := Lib.hid (show MapIs w4 m (kv) (Value.int .i64) (okK) (keysOf 0 (L)) from FM.out.keep C7 nin_nil)
  have OL' := Lib.hid (show OwnS w4 base 49 28 (.slice (some ⟨g, 0, none⟩) L.length cap) (L.length) ((L).flatMap opC) from OL.out.ch C7 rnin_nil)
  clear C0 FB FM OL
  have C0 := C0'; clear C0'
  have FB := FB'; clear FB'
  have FM := FM'; clear FM'
  have OL := OL'; clear OL'
  have Fg3 := Lib.hid (show Blk w4 g3 (CA.1.toArray) 32 from B6); clear B6 C7
  refine hK2 _ _ ?_; clear hK2 K2
  (try simp only [zP, zN, zA, zB, zC])
  refine ef_ (fun K10 hK10 => ?_)
  refine e_boxN (by rfl) rfl rfl (cs := RA.1.toArray) (v := .agg RA.1.toArray) (by rfl) rfl ?_
  rintro g11 w12 HG13 B14 C15
  have nw16 := Lib.hid (show w.heap.size ≤ g11 by have := C0.out.size; have := HG13.out; omega)
  have nm17 := Lib.hid (FM.out.ne_new HG13)
  have C0' := Lib.hid (show Ch [] w w12 from C0.out.trans' C15 (fun x hx => absurd hx (by simp)))
  have FB' := Lib.hid (show Blk w12 b (#[.int .i64 now, .slice (some ⟨g, 0, none⟩) L.length cap, .map (some m), u]) 84 from C15.blk FB.out nin_nil)
  have FM' := Lib.hid (show MapIs w12 m (kv) (Value.int .i64) (okK) (keysOf 0 (L)) from FM.out.keep C15 nin_nil)
  have OL' := Lib.hid (show OwnS w12 base 49 28 (.slice (some ⟨g, 0, none⟩) L.length cap) (L.length) ((L).flatMap opC) from OL.out.ch C15 rnin_nil)
  have Fg3' := Lib.hid (show Blk w12 g3 (CA.1.toArray) 32 from C15.blk Fg3.out nin_nil)
  clear C0 FB FM OL Fg3
  have C0 := C0'; clear C0'
  have FB := FB'; clear FB'
  have FM := FM'; clear FM'
  have OL := OL'; clear OL'
  have Fg3 := Fg3'; clear Fg3'
  have Fg11 := Lib.hid (show Blk w12 g11 (RA.1.toArray) 42 from B14); clear B14 C15
  refine hK10 _ _ ?_; clear hK10 K10
  (try simp only [zP, zN, zA, zB, zC])
  refine pu_ (v := .int .i64 0) (y_assign rfl (by rfl) (by rfl)) ?_
  (try simp only [zP, zN, zA, zB, zC])
  refine pu_ (v := .int .i64 0) (y_assign rfl (by rfl) (by rfl)) ?_
  (try simp only [zP, zN, zA, zB, zC])
  refine nl_ (hK1 _ _ ?_); clear hK1 K1
  refine s_ (fun K18 hK18 => ?_)
  refine pu_ (v := .pointer (some ⟨b, 0, none⟩)) (y_move rfl (by rfl) (by rfl)) ?_
  (try simp only [zP, zN, zA, zB, zC])
  refine pu_ (v := .int .i64 c) (y_move rfl (by rfl) (by rfl)) ?_
  (try simp only [zP, zN, zA, zB, zC])
  refine pu_ (v := .int .i64 n) (y_move rfl (by rfl) (by rfl)) ?_
  (try simp only [zP, zN, zA, zB, zC])
  refine ef_ (fun K19 hK19 => ?_)
  refine e_call Try.func44 (by kernel_rfl) rfl #[.pointer (some ⟨b, 0, none⟩), .int .i64 c, .int .i64 n] (by rfl) rfl rfl (by first | rfl | (simp only [List.map_toArray, List.map_cons, List.map_nil]; first | done | rfl)) (op_some HK HJ HL FB FM) ?_
  rintro en w20 ⟨rfl, cc⟩
  refine ⟨_, rfl, ?_⟩
  have C0' := Lib.hid (show Ch [] w w20 from C0.out.trans' cc (fun x hx => absurd hx (by simp)))
  have FB' := Lib.hid (show Blk w20 b (#[.int .i64 now, .slice (some ⟨g, 0, none⟩) L.length cap, .map (some m), u]) 84 from cc.blk FB.out nin_nil)
  have FM' := Lib.hid (show MapIs w20 m (kv) (Value.int .i64) (okK) (keysOf 0 (L)) from FM.out.keep cc nin_nil)
  have OL' := Lib.hid (show OwnS w20 base 49 28 (.slice (some ⟨g, 0, none⟩) L.length cap) (L.length) ((L).flatMap opC) from OL.out.ch cc rnin_nil)
  have Fg3' := Lib.hid (show Blk w20 g3 (CA.1.toArray) 32 from cc.blk Fg3.out nin_nil)
  have Fg11' := Lib.hid (show Blk w20 g11 (RA.1.toArray) 42 from cc.blk Fg11.out nin_nil)
  clear C0 FB FM OL Fg3 Fg11
  have C0 := C0'; clear C0'
  have FB := FB'; clear FB'
  have FM := FM'; clear FM'
  have OL := OL'; clear OL'
  have Fg3 := Fg3'; clear Fg3'
  have Fg11 := Fg11'; clear Fg11'
  clear cc
  refine hK19 _ _ ?_; clear hK19 K19
  (try simp only [zP, zN, zA, zB, zC])
  refine pu_ (v := .pointer (some ⟨g, j * 28, none⟩)) (y_assign rfl (by rfl) (by rfl)) ?_
  (try simp only [zP, zN, zA, zB, zC])
  refine nl_ (hK18 _ _ ?_); clear hK18 K18
  refine sq_ (fun K21 hK21 => ?_)
  refine wp_block ?_
  refine s_ (fun K22 hK22 => ?_)
  refine pu_ (v := .pointer (some ⟨g, j * 28, none⟩)) (y_move rfl (by rfl) (by rfl)) ?_
  (try simp only [zP, zN, zA, zB, zC])
  refine pu_ (v := .bool false) (y_run (by rfl) (fun W => by go_simp)) ?_
  (try simp only [zP, zN, zA, zB, zC])
  refine pu_ (v := .bool false) (y_assign rfl (by rfl) (by rfl)) ?_
  (try simp only [zP, zN, zA, zB, zC])
  refine nl_ (hK22 _ _ ?_); clear hK22 K22
  refine wp_cond_false rfl ?_
  refine s_ (fun K23 hK23 => ?_)
  refine pu_ (v := .pointer (some ⟨g, j * 28, none⟩)) (y_move rfl (by rfl) (by rfl)) ?_
  (try simp only [zP, zN, zA, zB, zC])
  refine pu_ (v := .pointer (some ⟨g, j * 28, none⟩)) (y_nil rfl (by rfl) (by rfl)) ?_
  (try simp only [zP, zN, zA, zB, zC])
  refine pu_ (v := .pointer (some ⟨g, j * 28 + 3, none⟩)) (y_run (by rfl) (fun W => by go_simp)) ?_
  (try simp only [zP, zN, zA, zB, zC])
  refine ld_ (v := .int .i64 o.d) rfl (by rfl) (by rfl) (run_load_one (op_at HO.out OL.out 3 rfl) Try.underlying3 rfl) ?_
  (try simp only [zP, zN, zA, zB, zC])
  refine pu_ (v := .bool true) (y_run (by rfl) (fun W => by have d := HD.out; go_simp)) ?_
  (try simp only [zP, zN, zA, zB, zC])
  refine pu_ (v := .bool true) (y_assign rfl (by rfl) (by rfl)) ?_
  (try simp only [zP, zN, zA, zB, zC])
  refine nl_ (hK23 _ _ ?_); clear hK23 K23
  refine wp_cond_true rfl ?_
  refine s_ (fun K24 hK24 => ?_)
  refine pu_ (v := .int .i64 0) (y_assign rfl (by rfl) (by rfl)) ?_
  (try simp only [zP, zN, zA, zB, zC])
  refine pu_ (v := .int .i64 5) (y_assign rfl (by rfl) (by rfl)) ?_
  (try simp only [zP, zN, zA, zB, zC])
  refine nl_ (hK24 _ _ ?_); clear hK24 K24
  refine wp_ret ?_
  refine ib_ret ?_
  refine th_ret ?_
  refine hQ _ _ _ ?_
  refine bodyPost_ret (res2 rfl (rdv_tmp (v := .int .i64 0) (by rfl)) (rdv_tmp (v := .int .i64 5) (by rfl))) rfl ?_
  exact ⟨rfl, C0.out⟩
theorem do_ok {CA : Cs 16} {RA : Cs 7} {g cap j : Nat} {o : HOp} (HK : Hid (okK (c, n))) (HJ : Hid (idx c n 0 L = some j)) (HL : Hid (j < L.length ∧ L.length ≤ 1000)) (HO : Hid (L[j]? = some o)) (HD : Hid (decide (o.d > 0) = false)) (HW : Hid (now ≤ 100000)) (HCAP : Hid (0 < cap)) (FB : Hid (Blk w b (#[.int .i64 now, .slice (some ⟨g, 0, none⟩) L.length cap, .map (some m), u]) 84)) (FM : Hid (MapIs w m (kv) (Value.int .i64) (okK) (keysOf 0 (L)))) (OL : Hid (OwnS w base 49 28 (.slice (some ⟨g, 0, none⟩) L.length cap) (L.length) ((L).flatMap opC))) :
    Calls Try.prog 11 #[.pointer (some ⟨b, 0, none⟩), .int .i64 c, .int .i64 n, .agg CA.1.toArray, .agg RA.1.toArray] w fun en w' => en = .returned (.tuple #[.int .i64 (now + 1 : Nat), .int .i64 0]) ∧ Blk w' b #[.int .i64 (now + 1 : Nat), .slice (some ⟨g, 0, none⟩) L.length cap, .map (some m), u] 84 ∧ MapIs w' m kv (Value.int .i64) okK (keysOf 0 L) ∧ OwnS w' base 49 28 (.slice (some ⟨g, 0, none⟩) L.length cap) L.length ((L.set j { o with d := ((now + 1 : Nat) : Int), cl := CA, rp := RA }).flatMap opC) ∧ Ch (b :: rl (.slice (some ⟨g, 0, none⟩) L.length cap)) w w' := by
  have C0 := Lib.hid (Ch.refl (b :: rl (.slice (some ⟨g, 0, none⟩) L.length cap)) w)
  have HO1 := Lib.hid (show (L.set j { o with d := ((now + 1 : Nat) : Int) })[j]? = some _ from List.getElem?_set_self HL.out.1)
  have HO2 := Lib.hid (show (L.set j { o with d := ((now + 1 : Nat) : Int), cl := CA })[j]? = some _ from List.getElem?_set_self HL.out.1)
  have HO3 := Lib.hid (show (L.set j { o with d := ((now + 1 : Nat) : Int), cl := CA, rp := RA })[j]? = some _ from List.getElem?_set_self HL.out.1)
  go_enter Try.func11, Try.ntmps11
  refine q_ (fun Q hQ hP => ?_)
  refine s_ (fun K1 hK1 => ?_)
  refine ef_ (fun K2 hK2 => ?_)
  refine e_boxN (by rfl) rfl rfl (cs := CA.1.toArray) (v := .agg CA.1.toArray) (by rfl) rfl ?_
  rintro g3 w4 HG5 B6 C7
  have nw8 := Lib.hid (show w.heap.size ≤ g3 by have := C0.out.size; have := HG5.out; omega)
  have nm9 := Lib.hid (FM.out.ne_new HG5)
  have C0' := Lib.hid (show Ch (b :: rl (.slice (some ⟨g, 0, none⟩) L.length cap)) w w4 from C0.out.trans' C7 (fun x hx => absurd hx (by simp)))
  have FB' := Lib.hid (show Blk w4 b (#[.int .i64 now, .slice (some ⟨g, 0, none⟩) L.length cap, .map (some m), u]) 84 from C7.blk FB.out nin_nil)
  have FM' := Lib.hid (show MapIs w4 m (kv) (Value.int .i64) (okK) (keysOf 0 (L)) from FM.out.keep C7 nin_nil)
  have OL' := Lib.hid (show OwnS w4 base 49 28 (.slice (some ⟨g, 0, none⟩) L.length cap) (L.length) ((L).flatMap opC) from OL.out.ch C7 rnin_nil)
  clear C0 FB FM OL
  have C0 := C0'; clear C0'
  have FB := FB'; clear FB'
  have FM := FM'; clear FM'
  have OL := OL'; clear OL'
  have Fg3 := Lib.hid (show Blk w4 g3 (CA.1.toArray) 32 from B6); clear B6 C7
  refine hK2 _ _ ?_; clear hK2 K2
  (try simp only [zP, zN, zA, zB, zC])
  refine ef_ (fun K10 hK10 => ?_)
  refine e_boxN (by rfl) rfl rfl (cs := RA.1.toArray) (v := .agg RA.1.toArray) (by rfl) rfl ?_
  rintro g11 w12 HG13 B14 C15
  have nw16 := Lib.hid (show w.heap.size ≤ g11 by have := C0.out.size; have := HG13.out; omega)
  have nm17 := Lib.hid (FM.out.ne_new HG13)
  have C0' := Lib.hid (show Ch (b :: rl (.slice (some ⟨g, 0, none⟩) L.length cap)) w w12 from C0.out.trans' C15 (fun x hx => absurd hx (by simp)))
  have FB' := Lib.hid (show Blk w12 b (#[.int .i64 now, .slice (some ⟨g, 0, none⟩) L.length cap, .map (some m), u]) 84 from C15.blk FB.out nin_nil)
  have FM' := Lib.hid (show MapIs w12 m (kv) (Value.int .i64) (okK) (keysOf 0 (L)) from FM.out.keep C15 nin_nil)
  have OL' := Lib.hid (show OwnS w12 base 49 28 (.slice (some ⟨g, 0, none⟩) L.length cap) (L.length) ((L).flatMap opC) from OL.out.ch C15 rnin_nil)
  have Fg3' := Lib.hid (show Blk w12 g3 (CA.1.toArray) 32 from C15.blk Fg3.out nin_nil)
  clear C0 FB FM OL Fg3
  have C0 := C0'; clear C0'
  have FB := FB'; clear FB'
  have FM := FM'; clear FM'
  have OL := OL'; clear OL'
  have Fg3 := Fg3'; clear Fg3'
  have Fg11 := Lib.hid (show Blk w12 g11 (RA.1.toArray) 42 from B14); clear B14 C15
  refine hK10 _ _ ?_; clear hK10 K10
  (try simp only [zP, zN, zA, zB, zC])
  refine pu_ (v := .int .i64 0) (y_assign rfl (by rfl) (by rfl)) ?_
  (try simp only [zP, zN, zA, zB, zC])
  refine pu_ (v := .int .i64 0) (y_assign rfl (by rfl) (by rfl)) ?_
  (try simp only [zP, zN, zA, zB, zC])
  refine nl_ (hK1 _ _ ?_); clear hK1 K1
  refine s_ (fun K18 hK18 => ?_)
  refine pu_ (v := .pointer (some ⟨b, 0, none⟩)) (y_move rfl (by rfl) (by rfl)) ?_
  (try simp only [zP, zN, zA, zB, zC])
  refine pu_ (v := .int .i64 c) (y_move rfl (by rfl) (by rfl)) ?_
  (try simp only [zP, zN, zA, zB, zC])
  refine pu_ (v := .int .i64 n) (y_move rfl (by rfl) (by rfl)) ?_
  (try simp only [zP, zN, zA, zB, zC])
  refine ef_ (fun K19 hK19 => ?_)
  refine e_call Try.func44 (by kernel_rfl) rfl #[.pointer (some ⟨b, 0, none⟩), .int .i64 c, .int .i64 n] (by rfl) rfl rfl (by first | rfl | (simp only [List.map_toArray, List.map_cons, List.map_nil]; first | done | rfl)) (op_some HK HJ HL FB FM) ?_
  rintro en w20 ⟨rfl, cc⟩
  refine ⟨_, rfl, ?_⟩
  have C0' := Lib.hid (show Ch (b :: rl (.slice (some ⟨g, 0, none⟩) L.length cap)) w w20 from C0.out.trans' cc (fun x hx => absurd hx (by simp)))
  have FB' := Lib.hid (show Blk w20 b (#[.int .i64 now, .slice (some ⟨g, 0, none⟩) L.length cap, .map (some m), u]) 84 from cc.blk FB.out nin_nil)
  have FM' := Lib.hid (show MapIs w20 m (kv) (Value.int .i64) (okK) (keysOf 0 (L)) from FM.out.keep cc nin_nil)
  have OL' := Lib.hid (show OwnS w20 base 49 28 (.slice (some ⟨g, 0, none⟩) L.length cap) (L.length) ((L).flatMap opC) from OL.out.ch cc rnin_nil)
  have Fg3' := Lib.hid (show Blk w20 g3 (CA.1.toArray) 32 from cc.blk Fg3.out nin_nil)
  have Fg11' := Lib.hid (show Blk w20 g11 (RA.1.toArray) 42 from cc.blk Fg11.out nin_nil)
  clear C0 FB FM OL Fg3 Fg11
  have C0 := C0'; clear C0'
  have FB := FB'; clear FB'
  have FM := FM'; clear FM'
  have OL := OL'; clear OL'
  have Fg3 := Fg3'; clear Fg3'
  have Fg11 := Fg11'; clear Fg11'
  clear cc
  refine hK19 _ _ ?_; clear hK19 K19
  (try simp only [zP, zN, zA, zB, zC])
  refine pu_ (v := .pointer (some ⟨g, j * 28, none⟩)) (y_assign rfl (by rfl) (by rfl)) ?_
  (try simp only [zP, zN, zA, zB, zC])
  refine nl_ (hK18 _ _ ?_); clear hK18 K18
  refine sq_ (fun K21 hK21 => ?_)
  refine wp_block ?_
  refine s_ (fun K22 hK22 => ?_)
  refine pu_ (v := .pointer (some ⟨g, j * 28, none⟩)) (y_move rfl (by rfl) (by rfl)) ?_
  (try simp only [zP, zN, zA, zB, zC])
  refine pu_ (v := .bool false) (y_run (by rfl) (fun W => by go_simp)) ?_
  (try simp only [zP, zN, zA, zB, zC])
  refine pu_ (v := .bool false) (y_assign rfl (by rfl) (by rfl)) ?_
  (try simp only [zP, zN, zA, zB, zC])
  refine nl_ (hK22 _ _ ?_); clear hK22 K22
  refine wp_cond_false rfl ?_
  refine s_ (fun K23 hK23 => ?_)
  refine pu_ (v := .pointer (some ⟨g, j * 28, none⟩)) (y_move rfl (by rfl) (by rfl)) ?_
  (try simp only [zP, zN, zA, zB, zC])
  refine pu_ (v := .pointer (some ⟨g, j * 28, none⟩)) (y_nil rfl (by rfl) (by rfl)) ?_
  (try simp only [zP, zN, zA, zB, zC])
  refine pu_ (v := .pointer (some ⟨g, j * 28 + 3, none⟩)) (y_run (by rfl) (fun W => by go_simp)) ?_
  (try simp only [zP, zN, zA, zB, zC])
  refine ld_ (v := .int .i64 o.d) rfl (by rfl) (by rfl) (run_load_one (op_at HO.out OL.out 3 rfl) Try.underlying3 rfl) ?_
  (try simp only [zP, zN, zA, zB, zC])
  refine pu_ (v := .bool false) (y_run (by rfl) (fun W => by have d := HD.out; go_simp)) ?_
  (try simp only [zP, zN, zA, zB, zC])
  refine pu_ (v := .bool false) (y_assign rfl (by rfl) (by rfl)) ?_
  (try simp only [zP, zN, zA, zB, zC])
  refine nl_ (hK23 _ _ ?_); clear hK23 K23
  refine wp_cond_false rfl ?_
  refine wp_skip ?_
  refine ib_norm ?_
  refine th_norm (hK21 _ _ ?_); try clear hK21 K21
  refine sq_ (fun K24 hK24 => ?_)
  refine startk_ (S := fun W => Blk W g3 (CA.1.toArray) 32 ∧ Blk W g11 (RA.1.toArray) 42 ∧ True) (ds := []) #[false, false, false, false, false, false, false, false, false, false, false, false, false, false, false, false] (by kernel_rfl) rfl rfl (fun W c => ⟨c.blk Fg3.out nin_nil, c.blk Fg11.out nin_nil, trivial⟩) (fun w25 C26 hS27 => ?_)
  have C0' := Lib.hid (show Ch (b :: rl (.slice (some ⟨g, 0, none⟩) L.length cap)) w w25 from C0.out.trans' C26 (fun x hx => absurd hx (by simp)))
  have FB' := Lib.hid (show Blk w25 b (#[.int .i64 now, .slice (some ⟨g, 0, none⟩) L.length cap, .map (some m), u]) 84 from C26.blk FB.out nin_nil)
  have FM' := Lib.hid (show MapIs w25 m (kv) (Value.int .i64) (okK) (keysOf 0 (L)) from FM.out.keep C26 nin_nil)
  have OL' := Lib.hid (show OwnS w25 base 49 28 (.slice (some ⟨g, 0, none⟩) L.length cap) (L.length) ((L).flatMap opC) from OL.out.ch C26 rnin_nil)
  have Fg3' := Lib.hid (show Blk w25 g3 (CA.1.toArray) 32 from C26.blk Fg3.out nin_nil)
  have Fg11' := Lib.hid (show Blk w25 g11 (RA.1.toArray) 42 from C26.blk Fg11.out nin_nil)
  clear C0 FB FM OL Fg3 Fg11
  have C0 := C0'; clear C0'
  have FB := FB'; clear FB'
  have FM := FM'; clear FM'
  have OL := OL'; clear OL'
  have Fg3 := Fg3'; clear Fg3'
  have Fg11 := Fg11'; clear Fg11'
  clear C26
  refine pure_ (i := 0) (N := some 26) (v := .pointer (some ⟨g, j * 28, none⟩)) #[true, false, false, false, false, false, false, false, false, false, false, false, false, false, false, false] rfl rfl (by kernel_rfl) (fun c a w h => hP c a _ _ w h) (y_move rfl (by rfl) (by rfl)) rfl ?_
  (try simp only [zP, zN, zA, zB, zC])
  refine pure_ (i := 1) (N := some 27) (v := .pointer (some ⟨g, j * 28, none⟩)) #[true, true, false, false, false, false, false, false, false, false, false, false, false, false, false, false] rfl rfl (by kernel_rfl) (fun c a w h => hP c a _ _ w h) (y_move rfl (by rfl) (by rfl)) rfl ?_
  (try simp only [zP, zN, zA, zB, zC])
  refine pure_ (i := 2) (N := some 28) (v := .pointer (some ⟨g, j * 28, none⟩)) #[true, true, true, false, false, false, false, false, false, false, false, false, false, false, false, false] rfl rfl (by kernel_rfl) (fun c a w h => hP c a _ _ w h) (y_move rfl (by rfl) (by rfl)) rfl ?_
  (try simp only [zP, zN, zA, zB, zC])
  refine pure_ (i := 3) (N := some 29) (v := .pointer (some ⟨b, 0, none⟩)) #[true, true, true, true, false, false, false, false, false, false, false, false, false, false, false, false] rfl rfl (by kernel_rfl) (fun c a w h => hP c a _ _ w h) (y_move rfl (by rfl) (by rfl)) rfl ?_
  (try simp only [zP, zN, zA, zB, zC])
  refine take_ (i := 5) (N := some 31) (v := .agg CA.1.toArray) #[true, true, true, true, false, true, false, false, false, false, false, false, false, false, false, false] rfl rfl (by kernel_rfl) (fun c a w h => hP c a _ _ w h) (y_load (p := ⟨g3, 0, none⟩) rfl (by rfl) (by rfl) (fun W hS => run_loadVar_row _ _ 32 32 (CA.1.toArray) (0, 0) _ hS.1 Try.underlying32 rfl (szC CA))) hS27 rfl ?_
  (try simp only [zP, zN, zA, zB, zC])
  refine take_ (i := 6) (N := some 32) (v := .agg RA.1.toArray) #[true, true, true, true, false, true, true, false, false, false, false, false, false, false, false, false] rfl rfl (by kernel_rfl) (fun c a w h => hP c a _ _ w h) (y_load (p := ⟨g11, 0, none⟩) rfl (by rfl) (by rfl) (fun W hS => run_loadVar_row _ _ 42 42 (RA.1.toArray) (0, 0) _ hS.2.1 Try.underlying42 rfl (szR RA))) hS27 rfl ?_
  (try simp only [zP, zN, zA, zB, zC])
  refine one_ (i := 4) (N := some 30) #[true, true, true, true, true, true, true, false, false, false, false, false, false, false, false, false] rfl rfl (by kernel_rfl) (by simp) (fun K28 hK28 => ?_)
  refine e_call Try.func45 (by kernel_rfl) rfl #[.pointer (some ⟨b, 0, none⟩)] (by rfl) rfl rfl (by first | rfl | (simp only [List.map_toArray, List.map_cons, List.map_nil]; first | done | rfl)) (tick HW FB) ?_
  rintro en w29 ⟨rfl, fb2, cc⟩
  refine ⟨_, rfl, ?_⟩
  have C0' := Lib.hid (show Ch (b :: rl (.slice (some ⟨g, 0, none⟩) L.length cap)) w w29 from C0.out.trans' cc (inw_cons (.inl List.mem_cons_self) inw_nil))
  have FM' := Lib.hid (show MapIs w29 m (kv) (Value.int .i64) (okK) (keysOf 0 (L)) from FM.out.keep cc (nin_cons (FM.out.no_cells FB.out) nin_nil))
  have OL' := Lib.hid (show OwnS w29 base 49 28 (.slice (some ⟨g, 0, none⟩) L.length cap) (L.length) ((L).flatMap opC) from OL.out.ch cc (rnin_cons (OL.out.ne FB.out (by decide)) rnin_nil))
  have Fg3' := Lib.hid (show Blk w29 g3 (CA.1.toArray) 32 from cc.blk Fg3.out (nin_cons (Blk.ne_type Fg3.out FB.out (by decide)) nin_nil))
  have Fg11' := Lib.hid (show Blk w29 g11 (RA.1.toArray) 42 from cc.blk Fg11.out (nin_cons (Blk.ne_type Fg11.out FB.out (by decide)) nin_nil))
  clear C0 FM OL Fg3 Fg11
  have C0 := C0'; clear C0'
  have FM := FM'; clear FM'
  have OL := OL'; clear OL'
  have Fg3 := Fg3'; clear Fg3'
  have Fg11 := Fg11'; clear Fg11'
  clear FB
  clear cc
  have FB := Lib.hid (show Blk w29 b (#[.int .i64 (now + 1 : Nat), .slice (some ⟨g, 0, none⟩) L.length cap, .map (some m), u]) 84 from fb2)
  refine hK28.out _ _ ⟨Fg3.out, Fg11.out, trivial⟩ (fun hS30 => ?_); clear hK28 K28
  (try simp only [zP, zN, zA, zB, zC])
  refine pure_ (i := 7) (N := some 33) (v := .pointer (some ⟨g, j * 28, none⟩)) #[true, true, true, true, true, true, true, true, false, false, false, false, false, false, false, false] rfl rfl (by kernel_rfl) (fun c a w h => hP c a _ _ w h) (y_nil rfl (by rfl) (by rfl)) rfl ?_
  (try simp only [zP, zN, zA, zB, zC])
  refine pure_ (i := 8) (N := some 34) (v := .pointer (some ⟨g, j * 28 + 3, none⟩)) #[true, true, true, true, true, true, true, true, true, false, false, false, false, false, false, false] rfl rfl (by kernel_rfl) (fun c a w h => hP c a _ _ w h) (y_run (by rfl) (fun W => by go_simp)) rfl ?_
  (try simp only [zP, zN, zA, zB, zC])
  refine one_ (i := 9) (N := none) #[true, true, true, true, true, true, true, true, true, true, false, false, false, false, false, false] rfl rfl (by kernel_rfl) (by simp) (fun K31 hK31 => ?_)
  refine e_storeS1 (by rfl) rfl rfl OL.out (j * 28 + 3) (.int .i64 (now + 1 : Nat)) (by rfl) (by rfl) (by kernel_rfl) (by have := HL.out; omega) rfl ?_
  rintro w32 O33 C34
  have RC34 := Lib.hid (show Ch (rl (.slice (some ⟨g, 0, none⟩) L.length cap)) w29 w32 from by rw [rl_some _ _ _ HCAP.out]; exact C34)
  have C0' := Lib.hid (show Ch (b :: rl (.slice (some ⟨g, 0, none⟩) L.length cap)) w w32 from C0.out.trans' RC34.out (fun x hx => .inl (List.mem_cons_of_mem _ hx)))
  have FM' := Lib.hid (show MapIs w32 m (kv) (Value.int .i64) (okK) (keysOf 0 (L)) from FM.out.keep RC34.out (FM.out.no_row OL.out))
  have Fg3' := Lib.hid (show Blk w32 g3 (CA.1.toArray) 32 from RC34.out.blk Fg3.out (OL.out.ne Fg3.out (by decide)))
  have Fg11' := Lib.hid (show Blk w32 g11 (RA.1.toArray) 42 from RC34.out.blk Fg11.out (OL.out.ne Fg11.out (by decide)))
  have FB' := Lib.hid (show Blk w32 b (#[.int .i64 (now + 1 : Nat), .slice (some ⟨g, 0, none⟩) L.length cap, .map (some m), u]) 84 from RC34.out.blk FB.out (OL.out.ne FB.out (by decide)))
  clear C0 FM Fg3 Fg11 FB
  have C0 := C0'; clear C0'
  have FM := FM'; clear FM'
  have Fg3 := Fg3'; clear Fg3'
  have Fg11 := Fg11'; clear Fg11'
  have FB := FB'; clear FB'
  clear OL
  have OL := Lib.hid (show OwnS w32 base 49 28 (.slice (some ⟨g, 0, none⟩) L.length cap) (L.length) ((L.set j { o with d := ((now + 1 : Nat) : Int) }).flatMap opC) from by have h := O33; rw [put_d HO.out] at h; exact h); clear O33 C34 RC34
  refine hK31.out _ _ ⟨Fg3.out, Fg11.out, trivial⟩ (fun hS35 => ?_); clear hK31 K31
  (try simp only [zP, zN, zA, zB, zC])
  refine pure_ (i := 10) (N := some 35) (v := .pointer (some ⟨g, j * 28, none⟩)) #[true, true, true, true, true, true, true, true, true, true, true, false, false, false, false, false] rfl rfl (by kernel_rfl) (fun c a w h => hP c a _ _ w h) (y_nil rfl (by rfl) (by rfl)) rfl ?_
  (try simp only [zP, zN, zA, zB, zC])
  refine pure_ (i := 11) (N := some 36) (v := .pointer (some ⟨g, j * 28 + 5, none⟩)) #[true, true, true, true, true, true, true, true, true, true, true, true, false, false, false, false] rfl rfl (by kernel_rfl) (fun c a w h => hP c a _ _ w h) (y_run (by rfl) (fun W => by go_simp)) rfl ?_
  (try simp only [zP, zN, zA, zB, zC])
  refine one_ (i := 12) (N := none) #[true, true, true, true, true, true, true, true, true, true, true, true, true, false, false, false] rfl rfl (by kernel_rfl) (by simp) (fun K36 hK36 => ?_)
  refine e_storeSN (by rfl) rfl rfl OL.out (j * 28 + 5) CA.1.toArray (by rfl) (by rfl) (szC CA) (by rw [List.size_toArray, CA.2.1]; have := HL.out; omega) (by simpa using CA.2.2) HCAP.out ?_
  rintro w37 O38 C39
  have RC39 := Lib.hid (show Ch (rl (.slice (some ⟨g, 0, none⟩) L.length cap)) w32 w37 from by rw [rl_some _ _ _ HCAP.out]; exact C39)
  have C0' := Lib.hid (show Ch (b :: rl (.slice (some ⟨g, 0, none⟩) L.length cap)) w w37 from C0.out.trans' RC39.out (fun x hx => .inl (List.mem_cons_of_mem _ hx)))
  have FM' := Lib.hid (show MapIs w37 m (kv) (Value.int .i64) (okK) (keysOf 0 (L)) from FM.out.keep RC39.out (FM.out.no_row OL.out))
  have Fg3' := Lib.hid (show Blk w37 g3 (CA.1.toArray) 32 from RC39.out.blk Fg3.out (OL.out.ne Fg3.out (by decide)))
  have Fg11' := Lib.hid (show Blk w37 g11 (RA.1.toArray) 42 from RC39.out.blk Fg11.out (OL.out.ne Fg11.out (by decide)))
  have FB' := Lib.hid (show Blk w37 b (#[.int .i64 (now + 1 : Nat), .slice (some ⟨g, 0, none⟩) L.length cap, .map (some m), u]) 84 from RC39.out.blk FB.out (OL.out.ne FB.out (by decide)))
  clear C0 FM Fg3 Fg11 FB
  have C0 := C0'; clear C0'
  have FM := FM'; clear FM'
  have Fg3 := Fg3'; clear Fg3'
  have Fg11 := Fg11'; clear Fg11'
  have FB := FB'; clear FB'
  clear OL
  have OL := Lib.hid (show OwnS w37 base 49 28 (.slice (some ⟨g, 0, none⟩) L.length cap) (L.length) ((L.set j { o with d := ((now + 1 : Nat) : Int), cl := CA }).flatMap opC) from by have h := O38; rw [List.size_toArray, CA.2.1, put_c HO1.out, List.set_set] at h; exact h); clear O38 C39 RC39
  refine hK36.out _ _ ⟨Fg3.out, Fg11.out, trivial⟩ (fun hS40 => ?_); clear hK36 K36
  (try simp only [zP, zN, zA, zB, zC])
  refine pure_ (i := 13) (N := some 37) (v := .pointer (some ⟨g, j * 28, none⟩)) #[true, true, true, true, true, true, true, true, true, true, true, true, true, true, false, false] rfl rfl (by kernel_rfl) (fun c a w h => hP c a _ _ w h) (y_nil rfl (by rfl) (by rfl)) rfl ?_
  (try simp only [zP, zN, zA, zB, zC])
  refine pure_ (i := 14) (N := some 38) (v := .pointer (some ⟨g, j * 28 + 21, none⟩)) #[true, true, true, true, true, true, true, true, true, true, true, true, true, true, true, false] rfl rfl (by kernel_rfl) (fun c a w h => hP c a _ _ w h) (y_run (by rfl) (fun W => by go_simp)) rfl ?_
  (try simp only [zP, zN, zA, zB, zC])
  refine one_ (i := 15) (N := none) #[true, true, true, true, true, true, true, true, true, true, true, true, true, true, true, true] rfl rfl (by kernel_rfl) (by simp) (fun K41 hK41 => ?_)
  refine e_storeSN (by rfl) rfl rfl OL.out (j * 28 + 21) RA.1.toArray (by rfl) (by rfl) (szR RA) (by rw [List.size_toArray, RA.2.1]; have := HL.out; omega) (by simpa using RA.2.2) HCAP.out ?_
  rintro w42 O43 C44
  have RC44 := Lib.hid (show Ch (rl (.slice (some ⟨g, 0, none⟩) L.length cap)) w37 w42 from by rw [rl_some _ _ _ HCAP.out]; exact C44)
  have C0' := Lib.hid (show Ch (b :: rl (.slice (some ⟨g, 0, none⟩) L.length cap)) w w42 from C0.out.trans' RC44.out (fun x hx => .inl (List.mem_cons_of_mem _ hx)))
  have FM' := Lib.hid (show MapIs w42 m (kv) (Value.int .i64) (okK) (keysOf 0 (L)) from FM.out.keep RC44.out (FM.out.no_row OL.out))
  have Fg3' := Lib.hid (show Blk w42 g3 (CA.1.toArray) 32 from RC44.out.blk Fg3.out (OL.out.ne Fg3.out (by decide)))
  have Fg11' := Lib.hid (show Blk w42 g11 (RA.1.toArray) 42 from RC44.out.blk Fg11.out (OL.out.ne Fg11.out (by decide)))
  have FB' := Lib.hid (show Blk w42 b (#[.int .i64 (now + 1 : Nat), .slice (some ⟨g, 0, none⟩) L.length cap, .map (some m), u]) 84 from RC44.out.blk FB.out (OL.out.ne FB.out (by decide)))
  clear C0 FM Fg3 Fg11 FB
  have C0 := C0'; clear C0'
  have FM := FM'; clear FM'
  have Fg3 := Fg3'; clear Fg3'
  have Fg11 := Fg11'; clear Fg11'
  have FB := FB'; clear FB'
  clear OL
  have OL := Lib.hid (show OwnS w42 base 49 28 (.slice (some ⟨g, 0, none⟩) L.length cap) (L.length) ((L.set j { o with d := ((now + 1 : Nat) : Int), cl := CA, rp := RA }).flatMap opC) from by have h := O43; rw [List.size_toArray, RA.2.1, put_r HO2.out, List.set_set] at h; exact h); clear O43 C44 RC44
  refine hK41.out _ _ ⟨Fg3.out, Fg11.out, trivial⟩ (fun hS45 => ?_); clear hK41 K41
  (try simp only [zP, zN, zA, zB, zC])
  refine done_ (by kernel_rfl) (th_norm (hK24 _ _ ?_)); clear hK24 K24
  refine s_ (fun K46 hK46 => ?_)
  refine pu_ (v := .pointer (some ⟨g, j * 28, none⟩)) (y_move rfl (by rfl) (by rfl)) ?_
  (try simp only [zP, zN, zA, zB, zC])
  refine pu_ (v := .pointer (some ⟨g, j * 28, none⟩)) (y_nil rfl (by rfl) (by rfl)) ?_
  (try simp only [zP, zN, zA, zB, zC])
  refine pu_ (v := .pointer (some ⟨g, j * 28 + 3, none⟩)) (y_run (by rfl) (fun W => by go_simp)) ?_
  (try simp only [zP, zN, zA, zB, zC])
  refine ld_ (v := .int .i64 (now + 1 : Nat)) rfl (by rfl) (by rfl) (run_load_one (op_at HO3.out OL.out 3 rfl) Try.underlying3 rfl) ?_
  (try simp only [zP, zN, zA, zB, zC])
  refine pu_ (v := .int .i64 (now + 1 : Nat)) (y_assign rfl (by rfl) (by rfl)) ?_
  (try simp only [zP, zN, zA, zB, zC])
  refine pu_ (v := .int .i64 0) (y_assign rfl (by rfl) (by rfl)) ?_
  (try simp only [zP, zN, zA, zB, zC])
  refine nl_ (hK46 _ _ ?_); clear hK46 K46
  refine wp_ret ?_
  refine hQ _ _ _ ?_
  refine bodyPost_ret (res2 rfl (rdv_tmp (v := .int .i64 (now + 1 : Nat)) (by rfl)) (rdv_tmp (v := .int .i64 0) (by rfl))) rfl ?_
  exact ⟨rfl, FB.out, FM.out, OL.out, C0.out⟩
theorem inner_ (HW : Hid (now ≤ 1000 ∧ I.length ≤ 1000)) (HB0 : Hid (base ≤ w.heap.size)) (FB : Hid (Blk w b (#[.int .i64 now, v, .map (some m), u]) 84)) (OI : Hid (OwnS w base 3 1 (u) (I.length) ((I).map (Value.int .i64)))) :
    Calls Try.prog 13 #[.pointer (some ⟨b, 0, none⟩)] w fun en w' => ∃ u', en = .returned (.int .i64 (now + 1 : Nat)) ∧ Blk w' b #[.int .i64 (now + 1 : Nat), v, .map (some m), u'] 84 ∧ OwnS w' base 3 1 u' (I.length + 1) ((I ++ [((now + 1 : Nat) : Int)]).map (Value.int .i64)) ∧ Ch (b :: rl u) w w' ∧ ∀ k, k ∈ rl u' → k ∈ rl u ∨ w.heap.size ≤ k := by
  have C0 := Lib.hid (Ch.refl (b :: rl u) w)
  obtain ⟨i3, I3⟩ := Info.of info3
  have HW1 := Lib.hid (show now ≤ 100000 by have := HW.out; omega)
  go_enter Try.func13, Try.ntmps13
  refine q_ (fun Q hQ hP => ?_)
  refine s_ (fun K1 hK1 => ?_)
  refine pu_ (v := .int .i64 0) (y_assign rfl (by rfl) (by rfl)) ?_
  (try simp only [zP, zN, zA, zB, zC])
  refine nl_ (hK1 _ _ ?_); clear hK1 K1
  obtain ⟨Au, cu, hv, -, -⟩ := OI.out.slice
  · subst hv
    have CV := Lib.hid (show CellIs w b 3 (.slice Au I.length cu) from (FB.out.cell 3).trans rfl)
    refine sq_ (fun K2 hK2 => ?_)
    refine startk_ (S := fun W => CellIs W b 3 (.slice Au I.length cu) ∧ True) (ds := [11]) #[false, false, false, false, false, false, false, false, false, false, false, false] (by kernel_rfl) rfl rfl (fun W c => ⟨CV.out.ch c nin_nil, trivial⟩) (fun w3 C4 hS5 => ?_)
    have C0' := Lib.hid (show Ch (b :: rl (.slice Au I.length cu)) w w3 from C0.out.trans' C4 (fun x hx => absurd hx (by simp)))
    have FB' := Lib.hid (show Blk w3 b (#[.int .i64 now, v, .map (some m), .slice Au I.length cu]) 84 from C4.blk FB.out nin_nil)
    have OI' := Lib.hid (show OwnS w3 base 3 1 (.slice Au I.length cu) (I.length) ((I).map (Value.int .i64)) from OI.out.ch C4 rnin_nil)
    have CV' := Lib.hid (show CellIs w3 b 3 (.slice Au I.length cu) from CV.out.ch C4 nin_nil)
    clear C0 FB OI CV
    have C0 := C0'; clear C0'
    have FB := FB'; clear FB'
    have OI := OI'; clear OI'
    have CV := CV'; clear CV'
    clear C4
    refine pure_ (i := 0) (N := some 3) (v := .pointer (some ⟨b, 0, none⟩)) #[true, false, false, false, false, false, false, false, false, false, false, false] rfl rfl (by kernel_rfl) (fun c a w h => hP c a _ _ w h) (y_move rfl (by rfl) (by rfl)) rfl ?_
    (try simp only [zP, zN, zA, zB, zC])
    refine pure_ (i := 1) (N := some 4) (v := .pointer (some ⟨b, 0, none⟩)) #[true, true, false, false, false, false, false, false, false, false, false, false] rfl rfl (by kernel_rfl) (fun c a w h => hP c a _ _ w h) (y_move rfl (by rfl) (by rfl)) rfl ?_
    (try simp only [zP, zN, zA, zB, zC])
    refine pure_ (i := 2) (N := some 5) (v := .pointer (some ⟨b, 0, none⟩)) #[true, true, true, false, false, false, false, false, false, false, false, false] rfl rfl (by kernel_rfl) (fun c a w h => hP c a _ _ w h) (y_nil rfl (by rfl) (by rfl)) rfl ?_
    (try simp only [zP, zN, zA, zB, zC])
    refine pure_ (i := 3) (N := some 6) (v := .pointer (some ⟨b, 3, none⟩)) #[true, true, true, true, false, false, false, false, false, false, false, false] rfl rfl (by kernel_rfl) (fun c a w h => hP c a _ _ w h) (y_run (by rfl) (fun W => by go_simp)) rfl ?_
    (try simp only [zP, zN, zA, zB, zC])
    refine take_ (i := 4) (N := some 7) (v := .slice Au I.length cu) #[true, true, true, true, true, false, false, false, false, false, false, false] rfl rfl (by kernel_rfl) (fun c a w h => hP c a _ _ w h) (y_load (p := ⟨b, 3, none⟩) rfl (by rfl) (by rfl) (fun W hS => run_load_one hS.1 Try.underlying44 rfl)) hS5 rfl ?_
    (try simp only [zP, zN, zA, zB, zC])
    refine pure_ (i := 5) (N := some 8) (v := .pointer (some ⟨b, 0, none⟩)) #[true, true, true, true, true, true, false, false, false, false, false, false] rfl rfl (by kernel_rfl) (fun c a w h => hP c a _ _ w h) (y_move rfl (by rfl) (by rfl)) rfl ?_
    (try simp only [zP, zN, zA, zB, zC])
    refine one_ (i := 6) (N := some 9) #[true, true, true, true, true, true, true, false, false, false, false, false] rfl rfl (by kernel_rfl) (by simp) (fun K6 hK6 => ?_)
    refine e_call Try.func45 (by kernel_rfl) rfl #[.pointer (some ⟨b, 0, none⟩)] (by rfl) rfl rfl (by first | rfl | (simp only [List.map_toArray, List.map_cons, List.map_nil]; first | done | rfl)) (tick HW1 FB) ?_
    rintro en w7 ⟨rfl, fb2, cc⟩
    refine ⟨_, rfl, ?_⟩
    have C0' := Lib.hid (show Ch (b :: rl (.slice Au I.length cu)) w w7 from C0.out.trans' cc (inw_cons (.inl List.mem_cons_self) inw_nil))
    have OI' := Lib.hid (show OwnS w7 base 3 1 (.slice Au I.length cu) (I.length) ((I).map (Value.int .i64)) from OI.out.ch cc (rnin_cons (OI.out.ne FB.out (by decide)) rnin_nil))
    clear C0 OI
    have C0 := C0'; clear C0'
    have OI := OI'; clear OI'
    clear FB CV
    clear cc
    have FB := Lib.hid (show Blk w7 b (#[.int .i64 (now + 1 : Nat), v, .map (some m), .slice Au I.length cu]) 84 from fb2)
    have CV := Lib.hid (show CellIs w7 b 3 (.slice Au I.length cu) from (fb2.cell 3).trans rfl)
    refine hK6.out _ _ ⟨CV.out, trivial⟩ (fun hS8 => ?_); clear hK6 K6
    (try simp only [zP, zN, zA, zB, zC])
    refine one_ (i := 7) (N := some 10) #[true, true, true, true, true, true, true, true, false, false, false, false] rfl rfl (by kernel_rfl) (by simp) (fun K9 hK9 => ?_)
    refine e_buildS (parts := #[(0, .int .i64 (now + 1 : Nat))]) (cells := #[.int .i64 (now + 1 : Nat)]) (by rfl) rfl rfl (by first | rfl | (simp only [List.map_toArray, List.map_cons, List.map_nil]; first | done | rfl)) Try.underlying44 I3.hi I3.hz I3.hs (by decide) (by decide) (by kernel_rfl) ?_
    rintro g10 w11 HG12 B13 C14
    have nw15 := Lib.hid (show w.heap.size ≤ g10 by have := C0.out.size; have := HG12.out; omega)
    have nr16 := Lib.hid (OI.out.ne_new HG12)
    have C0' := Lib.hid (show Ch (b :: rl (.slice Au I.length cu)) w w11 from C0.out.trans' C14 (fun x hx => absurd hx (by simp)))
    have OI' := Lib.hid (show OwnS w11 base 3 1 (.slice Au I.length cu) (I.length) ((I).map (Value.int .i64)) from OI.out.ch C14 rnin_nil)
    have FB' := Lib.hid (show Blk w11 b (#[.int .i64 (now + 1 : Nat), v, .map (some m), .slice Au I.length cu]) 84 from C14.blk FB.out nin_nil)
    have CV' := Lib.hid (show CellIs w11 b 3 (.slice Au I.length cu) from CV.out.ch C14 nin_nil)
    clear C0 OI FB CV
    have C0 := C0'; clear C0'
    have OI := OI'; clear OI'
    have FB := FB'; clear FB'
    have CV := CV'; clear CV'
    have Fg10 := Lib.hid (show Blk w11 g10 (#[.int .i64 (now + 1 : Nat)]) 3 from B13); clear B13 C14
    refine hK9.out _ _ ⟨CV.out, trivial⟩ (fun hS17 => ?_); clear hK9 K9
    (try simp only [zP, zN, zA, zB, zC])
    refine one_ (i := 8) (N := some 11) #[true, true, true, true, true, true, true, true, true, false, false, false] rfl rfl (by kernel_rfl) (by simp) (fun K18 hK18 => ?_)
    have HSZ := Lib.hid C0.out.size
    refine e_append (by rfl) rfl rfl (base) 3 _ _ 1 8 Try.underlying44 I3.hi I3.hz I3.hs I3.hb rfl (by decide) (.slice Au I.length cu) (I.length) ((I).map (Value.int .i64)) (by rfl) OI.out (.slice (some ⟨g10, 0, none⟩) 1 1) 1 ([Value.int .i64 (now + 1 : Nat)]) (by rfl) ⟨rfl, .inr ⟨_, _, rfl, CellsAt.blk Fg10.out 0⟩⟩ (by simp [Value.oneCell']) (by have := HW.out; unfold maxLen; omega) (by have := HW.out; omega) (by have := HB0.out; have := HSZ.out; omega) ?_
    rintro v19 w20 O21 C22 R23 -
    have rw24 := Lib.hid (show ∀ x, x ∈ rl v19 → x ∈ (b :: rl (.slice Au I.length cu)) ∨ w.heap.size ≤ x from fun x hx => (R23 x hx).elim (fun h => .inl (List.mem_cons_of_mem _ h)) (fun h => .inr (by have := C0.out.size; omega)))
    have nr25 := Lib.hid (show g10 ∉ rl v19 from fun hk => (R23 _ hk).elim nr16.out (fun h => by have := Fg10.out.lt; omega))
    have C0' := Lib.hid (show Ch (b :: rl (.slice Au I.length cu)) w w20 from C0.out.trans' C22 (fun x hx => .inl (List.mem_cons_of_mem _ hx)))
    have FB' := Lib.hid (show Blk w20 b (#[.int .i64 (now + 1 : Nat), v, .map (some m), .slice Au I.length cu]) 84 from C22.blk FB.out (OI.out.ne FB.out (by decide)))
    have CV' := Lib.hid (show CellIs w20 b 3 (.slice Au I.length cu) from CV.out.ch C22 (OI.out.ne FB.out (by decide)))
    have Fg10' := Lib.hid (show Blk w20 g10 (#[.int .i64 (now + 1 : Nat)]) 3 from C22.blk Fg10.out nr16.out)
    clear C0 FB CV Fg10
    have C0 := C0'; clear C0'
    have FB := FB'; clear FB'
    have CV := CV'; clear CV'
    have Fg10 := Fg10'; clear Fg10'
    clear OI
    have OI := Lib.hid (show OwnS w20 base 3 1 (v19) (I.length + 1) ((I).map (Value.int .i64) ++ [Value.int .i64 (now + 1 : Nat)]) from O21); clear O21 C22
    have RR := Lib.hid (show ∀ k, k ∈ rl v19 → k ∈ rl (.slice Au I.length cu) ∨ w.heap.size ≤ k from fun k hk => (R23 k hk).imp_right (fun h => Nat.le_trans HSZ.out h))
    refine hK18.out _ _ ⟨CV.out, trivial⟩ (fun hS26 => ?_); clear hK18 K18
    (try simp only [zP, zN, zA, zB, zC])
    refine pure_ (i := 9) (N := some 12) (v := .pointer (some ⟨b, 0, none⟩)) #[true, true, true, true, true, true, true, true, true, true, false, false] rfl rfl (by kernel_rfl) (fun c a w h => hP c a _ _ w h) (y_nil rfl (by rfl) (by rfl)) rfl ?_
    (try simp only [zP, zN, zA, zB, zC])
    refine pure_ (i := 10) (N := some 13) (v := .pointer (some ⟨b, 3, none⟩)) #[true, true, true, true, true, true, true, true, true, true, true, false] rfl rfl (by kernel_rfl) (fun c a w h => hP c a _ _ w h) (y_run (by rfl) (fun W => by go_simp)) rfl ?_
    (try simp only [zP, zN, zA, zB, zC])
    refine last_ (i := 11) (N := none) #[true, true, true, true, true, true, true, true, true, true, true, true] rfl rfl (by kernel_rfl) (by simp) (fun K27 hK27 => ?_)
    refine e_store1 (b := b) (j := 3) (v := v19) (by rfl) rfl rfl (by rfl) (by rfl) FB.out (show 3 < 4 by omega) (by kernel_rfl) OI.out.one ?_
    rintro w28 B29 C30
    have C0' := Lib.hid (show Ch (b :: rl (.slice Au I.length cu)) w w28 from C0.out.trans' C30 (inw_cons (.inl List.mem_cons_self) inw_nil))
    have OI' := Lib.hid (show OwnS w28 base 3 1 (v19) (I.length + 1) ((I).map (Value.int .i64) ++ [Value.int .i64 (now + 1 : Nat)]) from OI.out.ch C30 (rnin_cons (OI.out.ne FB.out (by decide)) rnin_nil))
    have Fg10' := Lib.hid (show Blk w28 g10 (#[.int .i64 (now + 1 : Nat)]) 3 from C30.blk Fg10.out (nin_cons (Blk.ne_type Fg10.out FB.out (by decide)) nin_nil))
    clear C0 OI CV Fg10
    have C0 := C0'; clear C0'
    have OI := OI'; clear OI'
    have Fg10 := Fg10'; clear Fg10'
    clear FB; have FB := Lib.hid (show Blk w28 b (#[.int .i64 (now + 1 : Nat), v, .map (some m), v19]) 84 from B29); clear B29 C30
    refine hK27.out _ _ ?_; clear hK27 K27
    (try simp only [zP, zN, zA, zB, zC])
    refine done_ (by kernel_rfl) (th_norm (hK2 _ _ ?_)); clear hK2 K2
    refine s_ (fun K31 hK31 => ?_)
    refine pu_ (v := .pointer (some ⟨b, 0, none⟩)) (y_move rfl (by rfl) (by rfl)) ?_
    (try simp only [zP, zN, zA, zB, zC])
    refine pu_ (v := .pointer (some ⟨b, 0, none⟩)) (y_nil rfl (by rfl) (by rfl)) ?_
    (try simp only [zP, zN, zA, zB, zC])
    refine pu_ (v := .pointer (some ⟨b, 0, none⟩)) (y_run (by rfl) (fun W => by go_simp)) ?_
    (try simp only [zP, zN, zA, zB, zC])
    refine ld_ (v := .int .i64 (now + 1 : Nat)) rfl (by rfl) (by rfl) (run_load_one ((FB.out.cell 0).trans rfl) Try.underlying3 rfl) ?_
    (try simp only [zP, zN, zA, zB, zC])
    refine pu_ (v := .int .i64 (now + 1 : Nat)) (y_assign rfl (by rfl) (by rfl)) ?_
    (try simp only [zP, zN, zA, zB, zC])
    refine nl_ (hK31 _ _ ?_); clear hK31 K31
    refine wp_ret ?_
    refine hQ _ _ _ ?_
    refine bodyPost_ret (res1 rfl (rdv_tmp (v := .int .i64 (now + 1 : Nat)) (by rfl))) rfl ?_
    exact ⟨_, rfl, FB.out, by have h := OI.out; rwa [show I.map (Value.int .i64) ++ [Value.int .i64 ((now + 1 : Nat) : Int)] = (I ++ [((now + 1 : Nat) : Int)]).map (Value.int .i64) by simp] at h, C0.out, RR.out⟩
theorem cloneI_some {p : Addr} {z0 q : Nat} {xs : List Value} (HN : Hid (z0 ≤ 1000)) (H1 : Hid (∀ u ∈ xs, u.oneCell' = true))  (RS : Hid (SrcIs w (.slice (some p) z0 q) (z0) (xs) 1)) :
    Calls Try.prog 47 #[.slice (some p) z0 q] w fun en w' => ∃ v', en = .returned v' ∧ OwnS w' w.heap.size 3 1 v' z0 xs ∧ Ch [] w w' := by
  have C0 := Lib.hid (Ch.refl [] w)
  obtain ⟨i3, I3⟩ := Info.of info3
  go_enter Try.func47, Try.ntmps47
  refine q_ (fun Q hQ hP => ?_)
  refine s_ (fun K1 hK1 => ?_)
  refine pu_ (v := .slice none 0 0) (y_assign rfl (by rfl) (by rfl)) ?_
  (try simp only [zP, zN, zA, zB, zC])
  refine nl_ (hK1 _ _ ?_); clear hK1 K1
  refine sq_ (fun K2 hK2 => ?_)
  refine s_ (fun K3 hK3 => ?_)
  refine pu_ (v := .slice (some p) z0 q) (y_move rfl (by rfl) (by rfl)) ?_
  (try simp only [zP, zN, zA, zB, zC])
  refine pu_ (v := .bool false) (y_run (by rfl) (fun W => by have d := Go.Lib.run_eql_slice_nil (P := Try.prog) W 44 3 (some p) z0 q 0 0 Try.underlying44; go_simp)) ?_
  (try simp only [zP, zN, zA, zB, zC])
  refine nl_ (hK3 _ _ ?_); clear hK3 K3
  refine wp_cond_false rfl ?_
  refine wp_skip ?_
  refine th_norm (hK2 _ _ ?_); try clear hK2 K2
  refine s_ (fun K4 hK4 => ?_)
  refine ef_ (fun K5 hK5 => ?_)
  refine e_buildS0 (by rfl) rfl rfl Try.underlying44 I3.hi ?_
  rintro g6 w7 HG8 C10
  have C0' := Lib.hid (show Ch [] w w7 from C0.out.trans' C10 (fun x hx => absurd hx (by simp)))
  have RS' := Lib.hid (show SrcIs w7 (.slice (some p) z0 q) (z0) (xs) 1 from RS.out.chx C10 xnin_nil)
  clear C0 RS
  have C0 := C0'; clear C0'
  have RS := RS'; clear RS'
  clear C10
  have Z11 := Lib.hid (show OwnS w7 w.heap.size 3 1 (.slice (some ⟨g6, 0, none⟩) 0 0) (0) ([]) from OwnS.nil _ _ _ _ _)
  refine hK5 _ _ ?_; clear hK5 K5
  (try simp only [zP, zN, zA, zB, zC])
  refine pu_ (v := .slice (some p) z0 q) (y_move rfl (by rfl) (by rfl)) ?_
  (try simp only [zP, zN, zA, zB, zC])
  refine ef_ (fun K12 hK12 => ?_)
  refine e_append (by rfl) rfl rfl (w.heap.size) 3 _ _ 1 8 Try.underlying44 I3.hi I3.hz I3.hs I3.hb rfl (by decide) (.slice (some ⟨g6, 0, none⟩) 0 0) (0) ([]) (by rfl) Z11.out (.slice (some p) z0 q) z0 (xs) (by rfl) RS.out H1.out (by have := HN.out; unfold maxLen; omega) (by have := HN.out; omega) C0.out.size ?_
  rintro v13 w14 O15 C16 R17 -
  replace C16 : Ch [] _ _ := C16
  replace R17 : ∀ k, k ∈ rl v13 → w7.heap.size ≤ k := fun k hk => (R17 k hk).elim (fun h => absurd h (by simp [rl])) id
  have rw18 := Lib.hid (show ∀ x, x ∈ rl v13 → x ∈ [] ∨ w.heap.size ≤ x from fun x hx => .inr (by have := R17 x hx; have := C0.out.size; omega))
  have xr19 := Lib.hid (show ∀ k, k ∈ xb (.slice (some p) z0 q) → k ∉ rl v13 from fun k hk hm => by have := R17 k hm; have := RS.out.lt (by decide) k hk; omega)
  have C0' := Lib.hid (show Ch [] w w14 from C0.out.trans' C16 (fun x hx => absurd hx (by simp)))
  have RS' := Lib.hid (show SrcIs w14 (.slice (some p) z0 q) (z0) (xs) 1 from RS.out.chx C16 xnin_nil)
  clear C0 RS
  have C0 := C0'; clear C0'
  have RS := RS'; clear RS'
  clear Z11
  have Z11 := Lib.hid (show OwnS w14 w.heap.size 3 1 (v13) (z0) (xs) from (by simpa using O15)); clear O15 C16
  refine hK12 _ _ ?_; clear hK12 K12
  (try simp only [zP, zN, zA, zB, zC])
  refine pu_ (v := v13) (y_assign rfl (by rfl) (by rfl)) ?_
  (try simp only [zP, zN, zA, zB, zC])
  refine nl_ (hK4 _ _ ?_); clear hK4 K4
  refine wp_ret ?_
  refine hQ _ _ _ ?_
  refine bodyPost_ret (res1 rfl (rdv_tmp (v := v13) (by rfl))) rfl ?_
  exact ⟨_, rfl, Z11.out, C0.out⟩
theorem cloneI_none   :
    Calls Try.prog 47 #[.slice none 0 0] w fun en w' => en = .returned (.slice none 0 0) ∧ Ch [] w w' := by
  have C0 := Lib.hid (Ch.refl [] w)
  go_enter Try.func47, Try.ntmps47
  refine q_ (fun Q hQ hP => ?_)
  refine s_ (fun K1 hK1 => ?_)
  refine pu_ (v := .slice none 0 0) (y_assign rfl (by rfl) (by rfl)) ?_
  (try simp only [zP, zN, zA, zB, zC])
  refine nl_ (hK1 _ _ ?_); clear hK1 K1
  refine sq_ (fun K2 hK2 => ?_)
  refine s_ (fun K3 hK3 => ?_)
  refine pu_ (v := .slice none 0 0) (y_move rfl (by rfl) (by rfl)) ?_
  (try simp only [zP, zN, zA, zB, zC])
  refine pu_ (v := .bool true) (y_run (by rfl) (fun W => by have d := Go.Lib.run_eql_slice_nil (P := Try.prog) W 44 3 none 0 0 0 0 Try.underlying44; go_simp)) ?_
  (try simp only [zP, zN, zA, zB, zC])
  refine nl_ (hK3 _ _ ?_); clear hK3 K3
  refine wp_cond_true rfl ?_
  refine s_ (fun K4 hK4 => ?_)
  refine pu_ (v := .slice none 0 0) (y_assign rfl (by rfl) (by rfl)) ?_
  (try simp only [zP, zN, zA, zB, zC])
  refine nl_ (hK4 _ _ ?_); clear hK4 K4
  refine wp_ret ?_
  refine th_ret ?_
  refine hQ _ _ _ ?_
  refine bodyPost_ret (res1 rfl (rdv_tmp (v := .slice none 0 0) (by rfl))) rfl ?_
  exact ⟨rfl, C0.out⟩
theorem cloneO_some {p : Addr} {z0 q : Nat} {xs : List Value} (HN : Hid (z0 ≤ 1000)) (H1 : Hid (∀ u ∈ xs, u.oneCell' = true))  (RS : Hid (SrcIs w (.slice (some p) z0 q) (z0) (xs) 28)) :
    Calls Try.prog 46 #[.slice (some p) z0 q] w fun en w' => ∃ v', en = .returned v' ∧ OwnS w' w.heap.size 49 28 v' z0 xs ∧ Ch [] w w' := by
  have C0 := Lib.hid (Ch.refl [] w)
  obtain ⟨i49, I49⟩ := Info.of info49
  go_enter Try.func46, Try.ntmps46
  refine q_ (fun Q hQ hP => ?_)
  refine s_ (fun K1 hK1 => ?_)
  refine pu_ (v := .slice none 0 0) (y_assign rfl (by rfl) (by rfl)) ?_
  (try simp only [zP, zN, zA, zB, zC])
  refine nl_ (hK1 _ _ ?_); clear hK1 K1
  refine sq_ (fun K2 hK2 => ?_)
  refine s_ (fun K3 hK3 => ?_)
  refine pu_ (v := .slice (some p) z0 q) (y_move rfl (by rfl) (by rfl)) ?_
  (try simp only [zP, zN, zA, zB, zC])
  refine pu_ (v := .bool false) (y_run (by rfl) (fun W => by have d := Go.Lib.run_eql_slice_nil (P := Try.prog) W 45 49 (some p) z0 q 0 0 Try.underlying45; go_simp)) ?_
  (try simp only [zP, zN, zA, zB, zC])
  refine nl_ (hK3 _ _ ?_); clear hK3 K3
  refine wp_cond_false rfl ?_
  refine wp_skip ?_
  refine th_norm (hK2 _ _ ?_); try clear hK2 K2
  refine s_ (fun K4 hK4 => ?_)
  refine ef_ (fun K5 hK5 => ?_)
  refine e_buildS0 (by rfl) rfl rfl Try.underlying45 I49.hi ?_
  rintro g6 w7 HG8 C10
  have C0' := Lib.hid (show Ch [] w w7 from C0.out.trans' C10 (fun x hx => absurd hx (by simp)))
  have RS' := Lib.hid (show SrcIs w7 (.slice (some p) z0 q) (z0) (xs) 28 from RS.out.chx C10 xnin_nil)
  clear C0 RS
  have C0 := C0'; clear C0'
  have RS := RS'; clear RS'
  clear C10
  have Z11 := Lib.hid (show OwnS w7 w.heap.size 49 28 (.slice (some ⟨g6, 0, none⟩) 0 0) (0) ([]) from OwnS.nil _ _ _ _ _)
  refine hK5 _ _ ?_; clear hK5 K5
  (try simp only [zP, zN, zA, zB, zC])
  refine pu_ (v := .slice (some p) z0 q) (y_move rfl (by rfl) (by rfl)) ?_
  (try simp only [zP, zN, zA, zB, zC])
  refine ef_ (fun K12 hK12 => ?_)
  refine e_append (by rfl) rfl rfl (w.heap.size) 49 _ _ 28 344 Try.underlying45 I49.hi I49.hz I49.hs I49.hb rfl (by decide) (.slice (some ⟨g6, 0, none⟩) 0 0) (0) ([]) (by rfl) Z11.out (.slice (some p) z0 q) z0 (xs) (by rfl) RS.out H1.out (by have := HN.out; unfold maxLen; omega) (by have := HN.out; omega) C0.out.size ?_
  rintro v13 w14 O15 C16 R17 -
  replace C16 : Ch [] _ _ := C16
  replace R17 : ∀ k, k ∈ rl v13 → w7.heap.size ≤ k := fun k hk => (R17 k hk).elim (fun h => absurd h (by simp [rl])) id
  have rw18 := Lib.hid (show ∀ x, x ∈ rl v13 → x ∈ [] ∨ w.heap.size ≤ x from fun x hx => .inr (by have := R17 x hx; have := C0.out.size; omega))
  have xr19 := Lib.hid (show ∀ k, k ∈ xb (.slice (some p) z0 q) → k ∉ rl v13 from fun k hk hm => by have := R17 k hm; have := RS.out.lt (by decide) k hk; omega)
  have C0' := Lib.hid (show Ch [] w w14 from C0.out.trans' C16 (fun x hx => absurd hx (by simp)))
  have RS' := Lib.hid (show SrcIs w14 (.slice (some p) z0 q) (z0) (xs) 28 from RS.out.chx C16 xnin_nil)
  clear C0 RS
  have C0 := C0'; clear C0'
  have RS := RS'; clear RS'
  clear Z11
  have Z11 := Lib.hid (show OwnS w14 w.heap.size 49 28 (v13) (z0) (xs) from (by simpa using O15)); clear O15 C16
  refine hK12 _ _ ?_; clear hK12 K12
  (try simp only [zP, zN, zA, zB, zC])
  refine pu_ (v := v13) (y_assign rfl (by rfl) (by rfl)) ?_
  (try simp only [zP, zN, zA, zB, zC])
  refine nl_ (hK4 _ _ ?_); clear hK4 K4
  refine wp_ret ?_
  refine hQ _ _ _ ?_
  refine bodyPost_ret (res1 rfl (rdv_tmp (v := v13) (by rfl))) rfl ?_
  exact ⟨_, rfl, Z11.out, C0.out⟩
theorem cloneO_none   :
    Calls Try.prog 46 #[.slice none 0 0] w fun en w' => en = .returned (.slice none 0 0) ∧ Ch [] w w' := by
  have C0 := Lib.hid (Ch.refl [] w)
  go_enter Try.func46, Try.ntmps46
  refine q_ (fun Q hQ hP => ?_)
  refine s_ (fun K1 hK1 => ?_)
  refine pu_ (v := .slice none 0 0) (y_assign rfl (by rfl) (by rfl)) ?_
  (try simp only [zP, zN, zA, zB, zC])
  refine nl_ (hK1 _ _ ?_); clear hK1 K1
  refine sq_ (fun K2 hK2 => ?_)
  refine s_ (fun K3 hK3 => ?_)
  refine pu_ (v := .slice none 0 0) (y_move rfl (by rfl) (by rfl)) ?_
  (try simp only [zP, zN, zA, zB, zC])
  refine pu_ (v := .bool true) (y_run (by rfl) (fun W => by have d := Go.Lib.run_eql_slice_nil (P := Try.prog) W 45 49 none 0 0 0 0 Try.underlying45; go_simp)) ?_
  (try simp only [zP, zN, zA, zB, zC])
  refine nl_ (hK3 _ _ ?_); clear hK3 K3
  refine wp_cond_true rfl ?_
  refine s_ (fun K4 hK4 => ?_)
  refine pu_ (v := .slice none 0 0) (y_assign rfl (by rfl) (by rfl)) ?_
  (try simp only [zP, zN, zA, zB, zC])
  refine nl_ (hK4 _ _ ?_); clear hK4 K4
  refine wp_ret ?_
  refine th_ret ?_
  refine hQ _ _ _ ?_
  refine bodyPost_ret (res1 rfl (rdv_tmp (v := .slice none 0 0) (by rfl))) rfl ?_
  exact ⟨rfl, C0.out⟩
theorem cloneI {x : Value} {z0 : Nat} {xs : List Value} (h : SrcIs w x z0 xs 1) (hn : z0 ≤ 1000) (h1 : ∀ u ∈ xs, u.oneCell' = true) :
    Calls Try.prog 47 #[x] w fun en w' => ∃ v', en = .returned v' ∧ OwnS w' w.heap.size 3 1 v' z0 xs ∧ Ch [] w w' := by
  rcases h.2 with ⟨rfl, rfl⟩ | ⟨a, c, rfl, hc⟩
  · refine cloneI_none.mono ?_
    rintro _ w' ⟨rfl, c⟩
    have : xs = [] := List.eq_nil_of_length_eq_zero (by simpa using h.1)
    subst this
    exact ⟨_, rfl, OwnS.nil _ _ _ _ _, c⟩
  · exact cloneI_some (Lib.hid hn) (Lib.hid h1) (Lib.hid h)
theorem cloneO {x : Value} {z0 : Nat} {xs : List Value} (h : SrcIs w x z0 xs 28) (hn : z0 ≤ 1000) (h1 : ∀ u ∈ xs, u.oneCell' = true) :
    Calls Try.prog 46 #[x] w fun en w' => ∃ v', en = .returned v' ∧ OwnS w' w.heap.size 49 28 v' z0 xs ∧ Ch [] w w' := by
  rcases h.2 with ⟨rfl, rfl⟩ | ⟨a, c, rfl, hc⟩
  · refine cloneO_none.mono ?_
    rintro _ w' ⟨rfl, c⟩
    have : xs = [] := List.eq_nil_of_length_eq_zero (by simpa using h.1)
    subst this
    exact ⟨_, rfl, OwnS.nil _ _ _ _ _, c⟩
  · exact cloneO_some (Lib.hid hn) (Lib.hid h1) (Lib.hid h)
theorem ops_ (HN : Hid (L.length ≤ 1000)) (FB : Hid (Blk w b (#[.int .i64 now, v, .map (some m), u]) 84)) (OL : Hid (OwnS w base 49 28 (v) (L.length) ((L).flatMap opC))) :
    Calls Try.prog 15 #[.pointer (some ⟨b, 0, none⟩)] w fun en w' => ∃ v', en = .returned v' ∧ OwnS w' w.heap.size 49 28 v' L.length (L.flatMap opC) ∧ Ch [] w w' := by
  have C0 := Lib.hid (Ch.refl [] w)
  go_enter Try.func15, Try.ntmps15
  refine q_ (fun Q hQ hP => ?_)
  refine s_ (fun K1 hK1 => ?_)
  refine pu_ (v := .slice none 0 0) (y_assign rfl (by rfl) (by rfl)) ?_
  (try simp only [zP, zN, zA, zB, zC])
  refine nl_ (hK1 _ _ ?_); clear hK1 K1
  refine s_ (fun K2 hK2 => ?_)
  refine pu_ (v := .pointer (some ⟨b, 0, none⟩)) (y_move rfl (by rfl) (by rfl)) ?_
  (try simp only [zP, zN, zA, zB, zC])
  refine pu_ (v := .pointer (some ⟨b, 0, none⟩)) (y_nil rfl (by rfl) (by rfl)) ?_
  (try simp only [zP, zN, zA, zB, zC])
  refine pu_ (v := .pointer (some ⟨b, 1, none⟩)) (y_run (by rfl) (fun W => by go_simp)) ?_
  (try simp only [zP, zN, zA, zB, zC])
  refine ld_ (v := v) rfl (by rfl) (by rfl) (run_load_one ((FB.out.cell 1).trans rfl) Try.underlying45 rfl) ?_
  (try simp only [zP, zN, zA, zB, zC])
  refine ef_ (fun K3 hK3 => ?_)
  refine e_call Try.func46 (by kernel_rfl) rfl #[v] (by rfl) rfl rfl (by first | rfl | (simp only [List.map_toArray, List.map_cons, List.map_nil]; first | done | rfl)) (cloneO OL.out.src HN.out (flat_one opC_one L)) ?_
  rintro en w4 ⟨v2, rfl, O2, cc⟩
  refine ⟨_, rfl, ?_⟩
  have C0' := Lib.hid (show Ch [] w w4 from C0.out.trans' cc (fun x hx => absurd hx (by simp)))
  have FB' := Lib.hid (show Blk w4 b (#[.int .i64 now, v, .map (some m), u]) 84 from cc.blk FB.out nin_nil)
  have OL' := Lib.hid (show OwnS w4 base 49 28 (v) (L.length) ((L).flatMap opC) from OL.out.ch cc rnin_nil)
  clear C0 FB OL
  have C0 := C0'; clear C0'
  have FB := FB'; clear FB'
  have OL := OL'; clear OL'
  clear cc
  have OZ := Lib.hid (show OwnS w4 w.heap.size 49 28 (v2) (L.length) ((L).flatMap opC) from O2)
  refine hK3 _ _ ?_; clear hK3 K3
  (try simp only [zP, zN, zA, zB, zC])
  refine pu_ (v := v2) (y_assign rfl (by rfl) (by rfl)) ?_
  (try simp only [zP, zN, zA, zB, zC])
  refine nl_ (hK2 _ _ ?_); clear hK2 K2
  refine wp_ret ?_
  refine hQ _ _ _ ?_
  refine bodyPost_ret (res1 rfl (rdv_tmp (v := v2) (by rfl))) rfl ?_
  exact ⟨_, rfl, OZ.out, C0.out⟩
theorem inners_ (HN : Hid (I.length ≤ 1000)) (FB : Hid (Blk w b (#[.int .i64 now, v, .map (some m), u]) 84)) (OI : Hid (OwnS w base 3 1 (u) (I.length) ((I).map (Value.int .i64)))) :
    Calls Try.prog 16 #[.pointer (some ⟨b, 0, none⟩)] w fun en w' => ∃ v', en = .returned v' ∧ OwnS w' w.heap.size 3 1 v' I.length (I.map (Value.int .i64)) ∧ Ch [] w w' := by
  have C0 := Lib.hid (Ch.refl [] w)
  go_enter Try.func16, Try.ntmps16
  refine q_ (fun Q hQ hP => ?_)
  refine s_ (fun K1 hK1 => ?_)
  refine pu_ (v := .slice none 0 0) (y_assign rfl (by rfl) (by rfl)) ?_
  (try simp only [zP, zN, zA, zB, zC])
  refine nl_ (hK1 _ _ ?_); clear hK1 K1
  refine s_ (fun K2 hK2 => ?_)
  refine pu_ (v := .pointer (some ⟨b, 0, none⟩)) (y_move rfl (by rfl) (by rfl)) ?_
  (try simp only [zP, zN, zA, zB, zC])
  refine pu_ (v := .pointer (some ⟨b, 0, none⟩)) (y_nil rfl (by rfl) (by rfl)) ?_
  (try simp only [zP, zN, zA, zB, zC])
  refine pu_ (v := .pointer (some ⟨b, 3, none⟩)) (y_run (by rfl) (fun W => by go_simp)) ?_
  (try simp only [zP, zN, zA, zB, zC])
  refine ld_ (v := u) rfl (by rfl) (by rfl) (run_load_one ((FB.out.cell 3).trans rfl) Try.underlying44 rfl) ?_
  (try simp only [zP, zN, zA, zB, zC])
  refine ef_ (fun K3 hK3 => ?_)
  refine e_call Try.func47 (by kernel_rfl) rfl #[u] (by rfl) rfl rfl (by first | rfl | (simp only [List.map_toArray, List.map_cons, List.map_nil]; first | done | rfl)) (cloneI OI.out.src HN.out (by simp [Value.oneCell'])) ?_
  rintro en w4 ⟨v2, rfl, O2, cc⟩
  refine ⟨_, rfl, ?_⟩
  have C0' := Lib.hid (show Ch [] w w4 from C0.out.trans' cc (fun x hx => absurd hx (by simp)))
  have FB' := Lib.hid (show Blk w4 b (#[.int .i64 now, v, .map (some m), u]) 84 from cc.blk FB.out nin_nil)
  have OI' := Lib.hid (show OwnS w4 base 3 1 (u) (I.length) ((I).map (Value.int .i64)) from OI.out.ch cc rnin_nil)
  clear C0 FB OI
  have C0 := C0'; clear C0'
  have FB := FB'; clear FB'
  have OI := OI'; clear OI'
  clear cc
  have OZ := Lib.hid (show OwnS w4 w.heap.size 3 1 (v2) (I.length) ((I).map (Value.int .i64)) from O2)
  refine hK3 _ _ ?_; clear hK3 K3
  (try simp only [zP, zN, zA, zB, zC])
  refine pu_ (v := v2) (y_assign rfl (by rfl) (by rfl)) ?_
  (try simp only [zP, zN, zA, zB, zC])
  refine nl_ (hK2 _ _ ?_); clear hK2 K2
  refine wp_ret ?_
  refine hQ _ _ _ ?_
  refine bodyPost_ret (res1 rfl (rdv_tmp (v := v2) (by rfl))) rfl ?_
  exact ⟨_, rfl, OZ.out, C0.out⟩
theorem open_ (HN : Hid (L.length ≤ 1000)) (FB : Hid (Blk w b (#[.int .i64 now, v, .map (some m), u]) 84)) (OL : Hid (OwnS w base 49 28 (v) (L.length) ((L).flatMap opC))) :
    Calls Try.prog 22 #[.pointer (some ⟨b, 0, none⟩)] w fun en w' => en = .returned (.int .i64 (openN L)) ∧ Ch [] w w' := by
  have C0 := Lib.hid (Ch.refl [] w)
  go_enter Try.func22, Try.ntmps22
  refine q_ (fun Q hQ hP => ?_)
  refine s_ (fun K1 hK1 => ?_)
  refine pu_ (v := .int .i64 0) (y_assign rfl (by rfl) (by rfl)) ?_
  (try simp only [zP, zN, zA, zB, zC])
  refine nl_ (hK1 _ _ ?_); clear hK1 K1
  refine s_ (fun K2 hK2 => ?_)
  refine pu_ (v := .int .i64 0) (y_assign rfl (by rfl) (by rfl)) ?_
  (try simp only [zP, zN, zA, zB, zC])
  refine nl_ (hK2 _ _ ?_); clear hK2 K2
  refine sq_ (fun K3 hK3 => ?_)
  obtain ⟨Av, cv, hv, -, -⟩ := OL.out.slice
  · subst hv
    refine s_ (fun K4 hK4 => ?_)
    refine pu_ (v := .pointer (some ⟨b, 0, none⟩)) (y_move rfl (by rfl) (by rfl)) ?_
    (try simp only [zP, zN, zA, zB, zC])
    refine pu_ (v := .pointer (some ⟨b, 0, none⟩)) (y_nil rfl (by rfl) (by rfl)) ?_
    (try simp only [zP, zN, zA, zB, zC])
    refine pu_ (v := .pointer (some ⟨b, 1, none⟩)) (y_run (by rfl) (fun W => by go_simp)) ?_
    (try simp only [zP, zN, zA, zB, zC])
    refine ld_ (v := .slice Av L.length cv) rfl (by rfl) (by rfl) (run_load_one ((FB.out.cell 1).trans rfl) Try.underlying45 rfl) ?_
    (try simp only [zP, zN, zA, zB, zC])
    refine pu_ (v := .int .i64 L.length) (y_run (by rfl) (fun W => by go_simp)) ?_
    (try simp only [zP, zN, zA, zB, zC])
    refine pu_ (v := .int .i64 0) (y_move rfl (by rfl) (by rfl)) ?_
    (try simp only [zP, zN, zA, zB, zC])
    refine nl_ (hK4 _ _ ?_); clear hK4 K4
    refine wp_block ?_
    refine loopk_ (fun (kq : Nat) (a' : Act) (w' : World) => ∃ (k : Nat), ∃ (q : Nat), ∃ (us : Nat → Value), a' = ⟨#[us 0, us 1, us 2, .int .i64 q, us 4, us 5, us 6, us 7, us 8, .slice Av L.length cv, .int .i64 L.length, .int .i64 k, us 12, us 13, us 14, us 15, us 16, us 17, us 18, us 19, us 20, us 21], []⟩ ∧ Hid (Ch [] w w') ∧ Hid (OwnS w' base 49 28 (.slice Av L.length cv) (L.length) ((L).flatMap opC)) ∧ Hid (k ≤ L.length ∧ kq + k = L.length) ∧ Hid (q = openN (L.take k))) (L.length) (⟨0, 0, fun us_ => (#[.pointer (some ⟨b, 0, none⟩), undef, .int .i64 0, .int .i64 0, undef, undef, .pointer (some ⟨b, 0, none⟩), .pointer (some ⟨b, 0, none⟩), .pointer (some ⟨b, 1, none⟩), .slice Av L.length cv, .int .i64 L.length, .int .i64 0, undef, undef, undef, undef, undef, undef, undef, undef, undef, undef] : Array Value).getD us_ undef, rfl, C0, OL, Lib.hid ⟨by omega, by omega⟩, Lib.hid rfl⟩) ?_
    rintro kq _ w5 ⟨k, q, us, rfl, C0, OL, hk, hq⟩ K6 hK6
    rcases (show (k < L.length ∧ ∃ o, L[k]? = some o ∧ (o.t == 0) = true) ∨ (k < L.length ∧ ∃ o, L[k]? = some o ∧ (o.t == 0) = false) ∨ k = L.length from open_ways hk.out.1) with h | h | h
    · have hlt := Lib.hid h.1
      obtain ⟨o, ho0, hz0⟩ := h.2
      have ho := Lib.hid ho0
      have HZ := Lib.hid hz0
      clear h ho0 hz0
      have D12 := Lib.hid (show (k : Int) < (L.length : Int) by have := hlt.out; omega)
      obtain ⟨gv, cv0, hv, -, -, -, -, -⟩ := OL.out.some_ (by have := hlt.out; omega)
      injection hv with hv1 _ hv3
      subst hv1 hv3
      have WA := Lib.hid (show IntKind.i64.wrap ((k : Int) + 1) = ((k + 1 : Nat) : Int) by rw [wr64 (by have := hlt.out; have := HN.out; omega)]; omega)
      have WQ := Lib.hid (show IntKind.i64.wrap ((q : Int) + 1) = ((q + 1 : Nat) : Int) by rw [wr64 (by have h1 : openN (L.take k) ≤ k := Nat.le_trans (List.length_filter_le _ _) (by rw [List.length_take]; omega); have := hq.out; have := hlt.out; have := HN.out; omega)]; omega)
      refine s_ (fun K7 hK7 => ?_)
      refine pu_ (v := .bool true) (y_run (by rfl) (fun W => by have d := D12.out; go_simp)) ?_
      (try simp only [zP, zN, zA, zB, zC])
      refine nl_ (hK7 _ _ ?_); clear hK7 K7
      refine sq_ (fun K8 hK8 => ?_)
      refine wp_cond_true rfl ?_
      refine wp_skip ?_
      refine th_norm (hK8 _ _ ?_); try clear hK8 K8
      refine sq_ (fun K9 hK9 => ?_)
      refine wp_block ?_
      refine s_ (fun K10 hK10 => ?_)
      refine pu_ (v := .pointer (some ⟨gv, k * 28, none⟩)) (y_run (by rfl) (fun W => by have d := D12.out; go_simp)) ?_
      (try simp only [zP, zN, zA, zB, zC])
      refine ld_ (v := .agg (opC o).toArray) rfl (by rfl) (by rfl) (run_loadVar_at (op_cells ho.out OL.out) Try.underlying49 rfl (by rw [opC_len]; kernel_rfl)) ?_
      (try simp only [zP, zN, zA, zB, zC])
      refine ef_ (fun K11 hK11 => ?_)
      refine e_alloc (by rfl) rfl rfl (cs := #[.int .i64 0, .int .i64 0, .int .i64 0, .int .i64 0, .int .i64 0, .int .i64 0, .int .i64 0, .int .u64 0, .string ⟨#[]⟩, .slice none 0 0, .slice none 0 0, .slice none 0 0, .int .i64 0, .int .i64 0, .int .i64 0, .int .i64 0, .int .i64 0, .int .i64 0, .int .i64 0, .string ⟨#[]⟩, .slice none 0 0, .int .i64 0, .int .i64 0, .int .i64 0, .int .u64 0, .string ⟨#[]⟩, .slice none 0 0, .slice none 0 0]) (by kernel_rfl) ?_
      rintro g12 w13 HG14 B15 C16
      have nw17 := Lib.hid (show w.heap.size ≤ g12 by have := C0.out.size; have := HG14.out; omega)
      have nr18 := Lib.hid (OL.out.ne_new HG14)
      have C0' := Lib.hid (show Ch [] w w13 from C0.out.trans' C16 (fun x hx => absurd hx (by simp)))
      have OL' := Lib.hid (show OwnS w13 base 49 28 (.slice (some ⟨gv, 0, none⟩) L.length cv) (L.length) ((L).flatMap opC) from OL.out.ch C16 rnin_nil)
      clear C0 OL
      have C0 := C0'; clear C0'
      have OL := OL'; clear OL'
      have Fg12 := Lib.hid (show Blk w13 g12 (#[.int .i64 0, .int .i64 0, .int .i64 0, .int .i64 0, .int .i64 0, .int .i64 0, .int .i64 0, .int .u64 0, .string ⟨#[]⟩, .slice none 0 0, .slice none 0 0, .slice none 0 0, .int .i64 0, .int .i64 0, .int .i64 0, .int .i64 0, .int .i64 0, .int .i64 0, .int .i64 0, .string ⟨#[]⟩, .slice none 0 0, .int .i64 0, .int .i64 0, .int .i64 0, .int .u64 0, .string ⟨#[]⟩, .slice none 0 0, .slice none 0 0]) 49 from B15); clear B15 C16
      refine hK11 _ _ ?_; clear hK11 K11
      (try simp only [zP, zN, zA, zB, zC])
      refine ef_ (fun K19 hK19 => ?_)
      refine e_storeN (cells := (opC o).toArray) (by rfl) rfl rfl (by rfl) (by rfl) Fg12.out (sz49 o) (by rw [show (opC o).toArray.size = 28 by rw [List.size_toArray, opC_len]]; rfl) (by simpa using opC_one o) ?_
      rintro w20 B21 C22
      have C0' := Lib.hid (show Ch [] w w20 from C0.out.trans' C22 (inw_cons (.inr nw17.out) inw_nil))
      have OL' := Lib.hid (show OwnS w20 base 49 28 (.slice (some ⟨gv, 0, none⟩) L.length cv) (L.length) ((L).flatMap opC) from OL.out.ch C22 (rnin_cons nr18.out rnin_nil))
      clear C0 OL
      have C0 := C0'; clear C0'
      have OL := OL'; clear OL'
      clear Fg12; have Fg12 := Lib.hid (show Blk w20 g12 ((opC o).toArray) 49 from B21); clear B21 C22
      refine hK19 _ _ ?_; clear hK19 K19
      (try simp only [zP, zN, zA, zB, zC])
      refine nl_ (hK10 _ _ ?_); clear hK10 K10
      refine s_ (fun K23 hK23 => ?_)
      refine pu_ (v := .pointer (some ⟨g12, 4, none⟩)) (y_run (by rfl) (fun W => by go_simp)) ?_
      (try simp only [zP, zN, zA, zB, zC])
      refine ld_ (v := .int .i64 o.t) rfl (by rfl) (by rfl) (run_load_one ((Fg12.out.cell 4).trans (by simp [opC])) Try.underlying3 rfl) ?_
      (try simp only [zP, zN, zA, zB, zC])
      refine pu_ (v := .bool true) (y_run (by rfl) (fun W => by have d := HZ.out; go_simp)) ?_
      (try simp only [zP, zN, zA, zB, zC])
      refine nl_ (hK23 _ _ ?_); clear hK23 K23
      refine wp_cond_true rfl ?_
      refine r_ ?_
      refine pu_ (v := .int .i64 q) (y_move rfl (by rfl) (by rfl)) ?_
      (try simp only [zP, zN, zA, zB, zC])
      refine pu_ (v := .int .i64 (q + 1 : Nat)) (y_run (by rfl) (fun W => by have d := WQ.out; go_simp)) ?_
      (try simp only [zP, zN, zA, zB, zC])
      refine pu_ (v := .int .i64 (q + 1 : Nat)) (y_assign rfl (by rfl) (by rfl)) ?_
      (try simp only [zP, zN, zA, zB, zC])
      refine nl_ ?_
      refine ib_norm ?_
      refine th_norm (hK9 _ _ ?_); try clear hK9 K9
      refine r_ ?_
      refine pu_ (v := .int .i64 (k + 1 : Nat)) (y_run (by rfl) (fun W => by have d := WA.out; go_simp)) ?_
      (try simp only [zP, zN, zA, zB, zC])
      refine pu_ (v := .int .i64 (k + 1 : Nat)) (y_move rfl (by rfl) (by rfl)) ?_
      (try simp only [zP, zN, zA, zB, zC])
      refine nl_ ?_
      exact th_norm (hK6 (kq - 1) _ _ (by have := hlt.out; have := hk.out; omega) ⟨k + 1, q + 1, fun us_ => (#[us 0, us 1, us 2, .int .i64 (q + 1 : Nat), us 4, .pointer (some ⟨g12, 0, none⟩), us 6, us 7, us 8, .slice (some ⟨gv, 0, none⟩) L.length cv, .int .i64 L.length, .int .i64 (k + 1 : Nat), .bool true, .pointer (some ⟨gv, k * 28, none⟩), .agg (opC o).toArray, .pointer (some ⟨g12, 4, none⟩), .int .i64 o.t, .bool true, .int .i64 q, .int .i64 (q + 1 : Nat), .int .i64 (k + 1 : Nat), us 21] : Array Value).getD us_ undef, rfl, C0, OL, Lib.hid ⟨by have := hlt.out; omega, by have := hlt.out; have := hk.out; omega⟩, Lib.hid (by rw [open_succ ho.out, ← hq.out, HZ.out]; rfl)⟩)
    · have hlt := Lib.hid h.1
      obtain ⟨o, ho0, hz0⟩ := h.2
      have ho := Lib.hid ho0
      have HZ := Lib.hid hz0
      clear h ho0 hz0
      have D12 := Lib.hid (show (k : Int) < (L.length : Int) by have := hlt.out; omega)
      obtain ⟨gv, cv0, hv, -, -, -, -, -⟩ := OL.out.some_ (by have := hlt.out; omega)
      injection hv with hv1 _ hv3
      subst hv1 hv3
      have WA := Lib.hid (show IntKind.i64.wrap ((k : Int) + 1) = ((k + 1 : Nat) : Int) by rw [wr64 (by have := hlt.out; have := HN.out; omega)]; omega)
      have WQ := Lib.hid (show IntKind.i64.wrap ((q : Int) + 1) = ((q + 1 : Nat) : Int) by rw [wr64 (by have h1 : openN (L.take k) ≤ k := Nat.le_trans (List.length_filter_le _ _) (by rw [List.length_take]; omega); have := hq.out; have := hlt.out; have := HN.out; omega)]; omega)
      refine s_ (fun K24 hK24 => ?_)
      refine pu_ (v := .bool true) (y_run (by rfl) (fun W => by have d := D12.out; go_simp)) ?_
      (try simp only [zP, zN, zA, zB, zC])
      refine nl_ (hK24 _ _ ?_); clear hK24 K24
      refine sq_ (fun K25 hK25 => ?_)
      refine wp_cond_true rfl ?_
      refine wp_skip ?_
      refine th_norm (hK25 _ _ ?_); try clear hK25 K25
      refine sq_ (fun K26 hK26 => ?_)
      refine wp_block ?_
      refine s_ (fun K27 hK27 => ?_)
      refine pu_ (v := .pointer (some ⟨gv, k * 28, none⟩)) (y_run (by rfl) (fun W => by have d := D12.out; go_simp)) ?_
      (try simp only [zP, zN, zA, zB, zC])
      refine ld_ (v := .agg (opC o).toArray) rfl (by rfl) (by rfl) (run_loadVar_at (op_cells ho.out OL.out) Try.underlying49 rfl (by rw [opC_len]; kernel_rfl)) ?_
      (try simp only [zP, zN, zA, zB, zC])
      refine ef_ (fun K28 hK28 => ?_)
      refine e_alloc (by rfl) rfl rfl (cs := #[.int .i64 0, .int .i64 0, .int .i64 0, .int .i64 0, .int .i64 0, .int .i64 0, .int .i64 0, .int .u64 0, .string ⟨#[]⟩, .slice none 0 0, .slice none 0 0, .slice none 0 0, .int .i64 0, .int .i64 0, .int .i64 0, .int .i64 0, .int .i64 0, .int .i64 0, .int .i64 0, .string ⟨#[]⟩, .slice none 0 0, .int .i64 0, .int .i64 0, .int .i64 0, .int .u64 0, .string ⟨#[]⟩, .slice none 0 0, .slice none 0 0]) (by kernel_rfl) ?_
      rintro g29 w30 HG31 B32 C33
      have nw34 := Lib.hid (show w.heap.size ≤ g29 by have := C0.out.size; have := HG31.out; omega)
      have nr35 := Lib.hid (OL.out.ne_new HG31)
      have C0' := Lib.hid (show Ch [] w w30 from C0.out.trans' C33 (fun x hx => absurd hx (by simp)))
      have OL' := Lib.hid (show OwnS w30 base 49 28 (.slice (some ⟨gv, 0, none⟩) L.length cv) (L.length) ((L).flatMap opC) from OL.out.ch C33 rnin_nil)
      clear C0 OL
      have C0 := C0'; clear C0'
      have OL := OL'; clear OL'
      have Fg29 := Lib.hid (show Blk w30 g29 (#[.int .i64 0, .int .i64 0, .int .i64 0, .int .i64 0, .int .i64 0, .int .i64 0, .int .i64 0, .int .u64 0, .string ⟨#[]⟩, .slice none 0 0, .slice none 0 0, .slice none 0 0, .int .i64 0, .int .i64 0, .int .i64 0, .int .i64 0, .int .i64 0, .int .i64 0, .int .i64 0, .string ⟨#[]⟩, .slice none 0 0, .int .i64 0, .int .i64 0, .int .i64 0, .int .u64 0, .string ⟨#[]⟩, .slice none 0 0, .slice none 0 0]) 49 from B32); clear B32 C33
      refine hK28 _ _ ?_; clear hK28 K28
      (try simp only [zP, zN, zA, zB, zC])
      refine ef_ (fun K36 hK36 => ?_)
      refine e_storeN (cells := (opC o).toArray) (by rfl) rfl rfl (by rfl) (by rfl) Fg29.out (sz49 o) (by rw [show (opC o).toArray.size = 28 by rw [List.size_toArray, opC_len]]; rfl) (by simpa using opC_one o) ?_
      rintro w37 B38 C39
      have C0' := Lib.hid (show Ch [] w w37 from C0.out.trans' C39 (inw_cons (.inr nw34.out) inw_nil))
      have OL' := Lib.hid (show OwnS w37 base 49 28 (.slice (some ⟨gv, 0, none⟩) L.length cv) (L.length) ((L).flatMap opC) from OL.out.ch C39 (rnin_cons nr35.out rnin_nil))
      clear C0 OL
      have C0 := C0'; clear C0'
      have OL := OL'; clear OL'
      clear Fg29; have Fg29 := Lib.hid (show Blk w37 g29 ((opC o).toArray) 49 from B38); clear B38 C39
      refine hK36 _ _ ?_; clear hK36 K36
      (try simp only [zP, zN, zA, zB, zC])
      refine nl_ (hK27 _ _ ?_); clear hK27 K27
      refine s_ (fun K40 hK40 => ?_)
      refine pu_ (v := .pointer (some ⟨g29, 4, none⟩)) (y_run (by rfl) (fun W => by go_simp)) ?_
      (try simp only [zP, zN, zA, zB, zC])
      refine ld_ (v := .int .i64 o.t) rfl (by rfl) (by rfl) (run_load_one ((Fg29.out.cell 4).trans (by simp [opC])) Try.underlying3 rfl) ?_
      (try simp only [zP, zN, zA, zB, zC])
      refine pu_ (v := .bool false) (y_run (by rfl) (fun W => by have d := HZ.out; go_simp)) ?_
      (try simp only [zP, zN, zA, zB, zC])
      refine nl_ (hK40 _ _ ?_); clear hK40 K40
      refine wp_cond_false rfl ?_
      refine wp_skip ?_
      refine ib_norm ?_
      refine th_norm (hK26 _ _ ?_); try clear hK26 K26
      refine r_ ?_
      refine pu_ (v := .int .i64 (k + 1 : Nat)) (y_run (by rfl) (fun W => by have d := WA.out; go_simp)) ?_
      (try simp only [zP, zN, zA, zB, zC])
      refine pu_ (v := .int .i64 (k + 1 : Nat)) (y_move rfl (by rfl) (by rfl)) ?_
      (try simp only [zP, zN, zA, zB, zC])
      refine nl_ ?_
      exact th_norm (hK6 (kq - 1) _ _ (by have := hlt.out; have := hk.out; omega) ⟨k + 1, q, fun us_ => (#[us 0, us 1, us 2, .int .i64 q, us 4, .pointer (some ⟨g29, 0, none⟩), us 6, us 7, us 8, .slice (some ⟨gv, 0, none⟩) L.length cv, .int .i64 L.length, .int .i64 (k + 1 : Nat), .bool true, .pointer (some ⟨gv, k * 28, none⟩), .agg (opC o).toArray, .pointer (some ⟨g29, 4, none⟩), .int .i64 o.t, .bool false, us 18, us 19, .int .i64 (k + 1 : Nat), us 21] : Array Value).getD us_ undef, rfl, C0, OL, Lib.hid ⟨by have := hlt.out; omega, by have := hlt.out; have := hk.out; omega⟩, Lib.hid (by rw [open_succ ho.out, ← hq.out, HZ.out]; rfl)⟩)
    · have D12 := Lib.hid (show ¬ (k : Int) < (L.length : Int) by omega)
      have hqq := Lib.hid (show q = openN L by rw [hq.out, h, List.take_length])
      clear h
      refine s_ (fun K41 hK41 => ?_)
      refine pu_ (v := .bool false) (y_run (by rfl) (fun W => by have d := D12.out; go_simp)) ?_
      (try simp only [zP, zN, zA, zB, zC])
      refine nl_ (hK41 _ _ ?_); clear hK41 K41
      refine sq_ (fun K42 hK42 => ?_)
      refine wp_cond_false rfl ?_
      refine wp_exit ?_
      refine th_exit ?_
      refine th_exit ?_
      refine ib_exit ?_
      refine th_norm (hK3 _ _ ?_); try clear hK3 K3
      refine s_ (fun K43 hK43 => ?_)
      refine pu_ (v := .int .i64 q) (y_move rfl (by rfl) (by rfl)) ?_
      (try simp only [zP, zN, zA, zB, zC])
      refine pu_ (v := .int .i64 q) (y_assign rfl (by rfl) (by rfl)) ?_
      (try simp only [zP, zN, zA, zB, zC])
      refine nl_ (hK43 _ _ ?_); clear hK43 K43
      refine wp_ret ?_
      refine hQ _ _ _ ?_
      refine bodyPost_ret (res1 rfl (rdv_tmp (v := .int .i64 q) (by rfl))) rfl ?_
      exact ⟨by rw [hqq.out], C0.out⟩
end
end Go.Proofs.Ytggcpbnlblbpjaa.H
