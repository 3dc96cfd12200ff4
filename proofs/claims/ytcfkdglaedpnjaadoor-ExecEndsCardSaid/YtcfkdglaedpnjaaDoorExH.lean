/- The walks of the document's sessions. -/
import Derived.Test.YtcfkdglaedpnjaaDoorExY
namespace Go.Proofs.YtcfkdglaedpnjaaDoor.V
open Go Go.RowKit Go.Proofs.YtcfkdglaedpnjaaDoor.K Go.Proofs.YtcfkdglaedpnjaaDoor.R Go.Proofs.YtcfkdglaedpnjaaDoorW.PrintLast
set_option linter.unusedVariables false
set_option linter.unusedSimpArgs false
set_option maxRecDepth 100000
set_option maxHeartbeats 1600000
section
variable {w : World}
/-- A session as the document has it. -/
def sesC (s : HS) : List Value := [.int .i64 s.id, .int .i64 s.box, .int .i64 s.ctr, .bool s.op, .string (str s.qi), .string (str s.qo)]
theorem sesC_len (s : HS) : (sesC s).length = 6 := rfl
theorem sesC_one (s : HS) : ∀ u ∈ sesC s, u.oneCell' = true := fun u hu => by
  simp only [sesC, List.mem_cons, List.not_mem_nil, or_false] at hu
  rcases hu with rfl | rfl | rfl | rfl | rfl | rfl <;> rfl
theorem src_fld {a : Addr} {n c : Nat} {L : List HS} (h : SrcIs w (.slice (some a) n c) n (L.flatMap sesC) 6) {k : Nat} {s : HS} (hs : L[k]? = some s) (j : Nat) (u : Value) (hu : (sesC s)[j]? = some u) : w.cell? ((a.add (k * 6)).add j) = some u := src_at sesC_len h hs j u hu
theorem src_ses {a : Addr} {n c : Nat} {L : List HS} (h : SrcIs w (.slice (some a) n c) n (L.flatMap sesC) 6) {k : Nat} {s : HS} (hs : L[k]? = some s) {o : Bool} (ho : s.op = o) : CellsAt w (a.add (k * 6)) [.int .i64 s.id, .int .i64 s.box, .int .i64 s.ctr, .bool o, .string (str s.qi), .string (str s.qo)] := by
  have h1 := src_at sesC_len h hs
  unfold sesC at h1
  rwa [ho] at h1
/-- Sessions in a new row. -/
def NewQ (w w' : World) (n : Nat) (L : List HS) (Q : Option Addr) (z : Nat) : Prop := SrcIs w' (.slice Q n z) n (L.flatMap sesC) 6 ∧ (n ≤ z ∧ z ≤ maxLen) ∧ ∀ k, k ∈ xb (.slice Q n z) → w.heap.size ≤ k
theorem flat_put {α : Type} {f : α → List Value} {m : Nat} (hf : ∀ x, (f x).length = m) {L : List α} {j : Nat} {x : α} (h : L[j]? = some x) (y : α) : (L.flatMap f).take (j * m) ++ f y ++ (L.flatMap f).drop (j * m + m) = (L.set j y).flatMap f := by
  obtain ⟨hj, rfl⟩ := List.getElem?_eq_some_iff.1 h
  have e1 : L.flatMap f = (L.take j).flatMap f ++ (f L[j] ++ (L.drop (j + 1)).flatMap f) := by
    conv => lhs; rw [← List.take_append_drop j L, List.flatMap_append, List.drop_eq_getElem_cons hj, List.flatMap_cons]
  have e2 : ((L.take j).flatMap f).length = j * m := by rw [flat_len hf, List.length_take, Nat.min_eq_left (Nat.le_of_lt hj)]
  have e3 : (L.flatMap f).take (j * m) = (L.take j).flatMap f := by rw [e1, List.take_left' e2]
  have e4 : (L.flatMap f).drop (j * m + m) = (L.drop (j + 1)).flatMap f := by
    rw [e1, ← List.drop_drop, List.drop_left' e2, List.drop_left' (hf _)]
  rw [e3, e4]
  have e5 : L.set j y = L.take j ++ y :: L.drop (j + 1) := List.set_eq_take_append_cons_drop.trans (if_pos hj)
  rw [e5, List.flatMap_append, List.flatMap_cons, List.append_assoc]
theorem str_list (l : List UInt8) : (str l).data.toList = l := rfl
theorem str_ext (l : List UInt8) (n : Nat) : (str l).extract 0 n = str (l.take n) := by
  rw [← str_bytes ((str l).extract 0 n), ext_list, str_list]
theorem str_from (l : List UInt8) (n : Nat) : (str l).extract n (str l).size = str (l.drop n) := by
  rw [← str_bytes ((str l).extract n (str l).size), ByteArray.data_extract, Array.toList_extract, str_list, str_size]
  congr 1
  rw [List.extract_eq_take_drop, List.take_of_length_le (by rw [List.length_drop]; exact Nat.le_refl _)]
def fewI (p q : Int) : Int := max (min p q) 0
theorem info49 : (Tryd.prog.info? 49).map (fun i => (i.zero, i.size, i.bytes)) = some (some (.agg #[.int .i64 0, .int .i64 0, .int .i64 0, .bool false, .string ⟨#[]⟩, .string ⟨#[]⟩]), 6, 64) := by kernel_rfl
theorem info3 : (Tryd.prog.info? 3).map (fun i => (i.zero, i.size, i.bytes)) = some (some (.int .i64 0), 1, 8) := by kernel_rfl
def intC (x : Int) : List Value := [.int .i64 x]
theorem intC_len (x : Int) : (intC x).length = 1 := rfl
theorem intC_one (x : Int) : ∀ u ∈ intC x, u.oneCell' = true := fun u hu => by rw [List.mem_singleton.1 hu]; rfl
theorem src_take {a : Addr} {n c : Nat} {L : List HS} (h : SrcIs w (.slice (some a) n c) n (L.flatMap sesC) 6) {j : Nat} (hj : j ≤ n) : SrcIs w (.slice (some a) j c) j ((L.take j).flatMap sesC) 6 := by
  have hl : L.length = n := by have := h.1; rw [flat_len sesC_len] at this; omega
  refine ⟨by rw [flat_len sesC_len, List.length_take]; omega, .inr ⟨a, c, rfl, fun i u hu => ?_⟩⟩
  rcases h.2 with ⟨_, he⟩ | ⟨a', c', he, hc⟩
  · injection he with he; cases he
  · injection he with e1 _ _
    injection e1 with e1
    subst e1
    refine hc i u ?_
    have e2 : L.flatMap sesC = (L.take j).flatMap sesC ++ (L.drop j).flatMap sesC := by rw [← List.flatMap_append, List.take_append_drop]
    rw [e2, List.getElem?_append_left (List.getElem?_eq_some_iff.1 hu).1]
    exact hu
theorem src_drop {a : Addr} {n c : Nat} {L : List HS} (h : SrcIs w (.slice (some a) n c) n (L.flatMap sesC) 6) {j : Nat} (hj : j ≤ n) (hc : n ≤ c) {A2 : Addr} (hA : j < n → A2 = a.add (j * 6)) : SrcIs w (.slice (some A2) (n - j) (c - j)) (n - j) ((L.drop j).flatMap sesC) 6 := by
  have hl : L.length = n := by have := h.1; rw [flat_len sesC_len] at this; omega
  refine ⟨by rw [flat_len sesC_len, List.length_drop]; omega, .inr ⟨A2, c - j, rfl, fun i u hu => ?_⟩⟩
  have hi := (List.getElem?_eq_some_iff.1 hu).1
  rw [flat_len sesC_len, List.length_drop] at hi
  rw [hA (by omega), Go.Deep.add_add]
  rcases h.2 with ⟨_, he⟩ | ⟨a', c', he, hc⟩
  · injection he with he; cases he
  · injection he with e1 _ _
    injection e1 with e1
    subst e1
    refine hc _ u ?_
    have e2 : L.flatMap sesC = (L.take j).flatMap sesC ++ (L.drop j).flatMap sesC := by rw [← List.flatMap_append, List.take_append_drop]
    have e3 : ((L.take j).flatMap sesC).length = j * 6 := by rw [flat_len sesC_len, List.length_take]; omega
    rw [e2, List.getElem?_append_right (by omega), e3, show j * 6 + i - j * 6 = i by omega]
    exact hu
theorem rindex_ {Aq : Option Addr} {n z : Nat} {la : Int} {L : List HS} (HNL : Hid (L.length = n)) (HN : Hid (n ≤ 100)) {id : Int} (SQ : Hid (SrcIs w (.slice Aq n z) (n) ((L).flatMap sesC) 6)) :
    Calls Tryd.prog 18 #[.agg #[.slice Aq n z, .int .i64 la], .int .i64 id] w fun en w' => en = .returned (.int .i64 (fxI id L)) ∧ Ch [] w w' := by
  have C0 := Lib.hid (Ch.refl [] w)
  go_enter Tryd.func18, Tryd.ntmps18
  refine q_ (fun Q hQ hP => ?_)
  refine s_ (fun K1 hK1 => ?_)
  refine ef_ (fun K2 hK2 => ?_)
  refine e_boxN (by rfl) rfl rfl (cs := #[.slice Aq n z, .int .i64 la]) (v := .agg #[.slice Aq n z, .int .i64 la]) (by rfl) rfl ?_
  rintro gq w3 HG4 B5 C6
  have nw7 := Lib.hid (show w.heap.size ≤ gq by have := C0.out.size; have := HG4.out; omega)
  have nx8 := Lib.hid (SQ.out.ne_new (by decide) HG4)
  have C0' := Lib.hid (show Ch [] w w3 from C0.out.trans' C6 (fun x hx => absurd hx (by simp)))
  have SQ' := Lib.hid (show SrcIs w3 (.slice Aq n z) (n) ((L).flatMap sesC) 6 from SQ.out.chx C6 xnin_nil)
  clear C0 SQ
  have C0 := C0'; clear C0'
  have SQ := SQ'; clear SQ'
  have Fgq := Lib.hid (show Blk w3 gq (#[.slice Aq n z, .int .i64 la]) 44 from B5); clear B5 C6
  refine hK2 _ _ ?_; clear hK2 K2
  (try simp only [zP, zN, zA, zB, zC])
  refine pu_ (v := .int .i64 0) (y_assign rfl (by rfl) (by rfl)) ?_
  (try simp only [zP, zN, zA, zB, zC])
  refine nl_ (hK1 _ _ ?_); clear hK1 K1
  refine sq_ (fun K9 hK9 => ?_)
  refine s_ (fun K10 hK10 => ?_)
  refine pu_ (v := .int .i64 0) (y_assign rfl (by rfl) (by rfl)) ?_
  (try simp only [zP, zN, zA, zB, zC])
  refine nl_ (hK10 _ _ ?_); clear hK10 K10
  refine wp_block ?_
  refine loopk_ (fun (kq : Nat) (a' : Act) (w' : World) => ∃ (k : Nat), ∃ (us : Nat → Value), a' = ⟨#[us 0, .int .i64 id, .pointer (some ⟨gq, 0, none⟩), us 3, us 4, .int .i64 k, us 6, us 7, us 8, us 9, us 10, us 11, us 12, us 13, us 14, us 15, us 16, us 17, us 18, us 19, us 20, us 21], []⟩ ∧ Hid (Ch [] w w') ∧ Hid (SrcIs w' (.slice Aq n z) (n) ((L).flatMap sesC) 6) ∧ Hid (Blk w' gq (#[.slice Aq n z, .int .i64 la]) 44) ∧ Hid (k ≤ L.length ∧ kq + k = L.length) ∧ Hid (∀ (i : Nat) (s' : HS), i < k → L[i]? = some s' → s'.id ≠ id)) (L.length) (⟨0, fun us_ => (#[.agg #[.slice Aq n z, .int .i64 la], .int .i64 id, .pointer (some ⟨gq, 0, none⟩), undef, .int .i64 0, .int .i64 0, undef, undef, undef, undef, undef, undef, undef, undef, undef, undef, undef, undef, undef, undef, undef, undef] : Array Value).getD us_ undef, rfl, C0, SQ, Fgq, Lib.hid ⟨by omega, by omega⟩, Lib.hid (fun i _ hi => absurd hi (Nat.not_lt_zero i))⟩) ?_
  rintro kq _ w11 ⟨k, us, rfl, C0, SQ, Fgq, hk, hb⟩ K12 hK12
  refine sq_ (fun K13 hK13 => ?_)
  rcases at_ways' hk.out.1 with ⟨s, ho0, hlt0⟩ | h; rcases (show s.id = id ∨ ¬ s.id = id from Classical.em _) with he | he
  · have hlt := Lib.hid hlt0
    have ho := Lib.hid ho0
    have HEQ := Lib.hid he
    clear hlt0 ho0 he
    obtain ⟨a, hsm_a⟩ := src_some SQ.out (by have := hlt.out; have := HNL.out; omega)
    subst hsm_a
    have D10 := Lib.hid (show (k : Int) < (n : Int) by have := hlt.out; have := HNL.out; omega)
    have Wk := Lib.hid (show IntKind.i64.wrap ((k : Int) + 1) = ((k + 1 : Nat) : Int) by rw [wr64 (by have := hlt.out; have h7 := HN.out; have h8 := HNL.out; omega)]; omega)
    have D20 := Lib.hid HEQ.out
    refine s_ (fun K14 hK14 => ?_)
    refine pu_ (v := .int .i64 k) (y_move rfl (by rfl) (by rfl)) ?_
    (try simp only [zP, zN, zA, zB, zC])
    refine pu_ (v := .pointer (some ⟨gq, 0, none⟩)) (y_run (by rfl) (fun W => by go_simp)) ?_
    (try simp only [zP, zN, zA, zB, zC])
    refine ld_ (v := .slice (some a) n z) rfl (by rfl) (by rfl) (run_load_one ((Fgq.out.cell 0).trans rfl) Tryd.underlying42 rfl) ?_
    (try simp only [zP, zN, zA, zB, zC])
    refine pu_ (v := .int .i64 n) (y_run (by rfl) (fun W => by go_simp)) ?_
    (try simp only [zP, zN, zA, zB, zC])
    refine pu_ (v := .bool true) (y_run (by rfl) (fun W => by have d := D10.out; go_simp)) ?_
    (try simp only [zP, zN, zA, zB, zC])
    refine nl_ (hK14 _ _ ?_); clear hK14 K14
    refine wp_cond_true rfl ?_
    refine wp_skip ?_
    refine th_norm (hK13 _ _ ?_); try clear hK13 K13
    refine sq_ (fun K15 hK15 => ?_)
    refine wp_block ?_
    refine s_ (fun K16 hK16 => ?_)
    refine pu_ (v := .pointer (some ⟨gq, 0, none⟩)) (y_run (by rfl) (fun W => by go_simp)) ?_
    (try simp only [zP, zN, zA, zB, zC])
    refine ld_ (v := .slice (some a) n z) rfl (by rfl) (by rfl) (run_load_one ((Fgq.out.cell 0).trans rfl) Tryd.underlying42 rfl) ?_
    (try simp only [zP, zN, zA, zB, zC])
    refine pu_ (v := .int .i64 k) (y_move rfl (by rfl) (by rfl)) ?_
    (try simp only [zP, zN, zA, zB, zC])
    refine pu_ (v := .pointer (some (a.add (k * 6)))) (y_run (by rfl) (fun W => by have d := D10.out; go_simp)) ?_
    (try simp only [zP, zN, zA, zB, zC])
    refine pu_ (v := .pointer (some ((a.add (k * 6)).add 0))) (y_run (by rfl) (fun W => by go_simp)) ?_
    (try simp only [zP, zN, zA, zB, zC])
    refine ld_ (v := .int .i64 s.id) rfl (by rfl) (by rfl) (run_load_one (src_fld SQ.out ho.out 0 _ (by simp [sesC])) Tryd.underlying3 rfl) ?_
    (try simp only [zP, zN, zA, zB, zC])
    refine pu_ (v := .int .i64 id) (y_move rfl (by rfl) (by rfl)) ?_
    (try simp only [zP, zN, zA, zB, zC])
    refine pu_ (v := .bool true) (y_run (by rfl) (fun W => by have d := D20.out; go_simp)) ?_
    (try simp only [zP, zN, zA, zB, zC])
    refine nl_ (hK16 _ _ ?_); clear hK16 K16
    refine wp_cond_true rfl ?_
    refine s_ (fun K17 hK17 => ?_)
    refine pu_ (v := .int .i64 k) (y_move rfl (by rfl) (by rfl)) ?_
    (try simp only [zP, zN, zA, zB, zC])
    refine pu_ (v := .int .i64 k) (y_assign rfl (by rfl) (by rfl)) ?_
    (try simp only [zP, zN, zA, zB, zC])
    refine nl_ (hK17 _ _ ?_); clear hK17 K17
    refine wp_ret ?_
    refine ib_ret ?_
    refine th_ret ?_
    refine th_ret ?_
    refine ib_ret ?_
    refine th_ret ?_
    refine hQ _ _ _ ?_
    refine bodyPost_ret (res1 rfl (rdv_tmp (v := .int .i64 k) (by rfl))) rfl ?_
    exact ⟨by rw [show fxI id L = (k : Int) from by unfold fxI; rw [fx_some ho.out HEQ.out hb.out]], C0.out⟩
  · have hlt := Lib.hid hlt0
    have ho := Lib.hid ho0
    have HEQ := Lib.hid he
    clear hlt0 ho0 he
    obtain ⟨a, hsm_a⟩ := src_some SQ.out (by have := hlt.out; have := HNL.out; omega)
    subst hsm_a
    have D10 := Lib.hid (show (k : Int) < (n : Int) by have := hlt.out; have := HNL.out; omega)
    have Wk := Lib.hid (show IntKind.i64.wrap ((k : Int) + 1) = ((k + 1 : Nat) : Int) by rw [wr64 (by have := hlt.out; have h7 := HN.out; have h8 := HNL.out; omega)]; omega)
    have D20 := Lib.hid HEQ.out
    refine s_ (fun K18 hK18 => ?_)
    refine pu_ (v := .int .i64 k) (y_move rfl (by rfl) (by rfl)) ?_
    (try simp only [zP, zN, zA, zB, zC])
    refine pu_ (v := .pointer (some ⟨gq, 0, none⟩)) (y_run (by rfl) (fun W => by go_simp)) ?_
    (try simp only [zP, zN, zA, zB, zC])
    refine ld_ (v := .slice (some a) n z) rfl (by rfl) (by rfl) (run_load_one ((Fgq.out.cell 0).trans rfl) Tryd.underlying42 rfl) ?_
    (try simp only [zP, zN, zA, zB, zC])
    refine pu_ (v := .int .i64 n) (y_run (by rfl) (fun W => by go_simp)) ?_
    (try simp only [zP, zN, zA, zB, zC])
    refine pu_ (v := .bool true) (y_run (by rfl) (fun W => by have d := D10.out; go_simp)) ?_
    (try simp only [zP, zN, zA, zB, zC])
    refine nl_ (hK18 _ _ ?_); clear hK18 K18
    refine wp_cond_true rfl ?_
    refine wp_skip ?_
    refine th_norm (hK13 _ _ ?_); try clear hK13 K13
    refine sq_ (fun K19 hK19 => ?_)
    refine wp_block ?_
    refine s_ (fun K20 hK20 => ?_)
    refine pu_ (v := .pointer (some ⟨gq, 0, none⟩)) (y_run (by rfl) (fun W => by go_simp)) ?_
    (try simp only [zP, zN, zA, zB, zC])
    refine ld_ (v := .slice (some a) n z) rfl (by rfl) (by rfl) (run_load_one ((Fgq.out.cell 0).trans rfl) Tryd.underlying42 rfl) ?_
    (try simp only [zP, zN, zA, zB, zC])
    refine pu_ (v := .int .i64 k) (y_move rfl (by rfl) (by rfl)) ?_
    (try simp only [zP, zN, zA, zB, zC])
    refine pu_ (v := .pointer (some (a.add (k * 6)))) (y_run (by rfl) (fun W => by have d := D10.out; go_simp)) ?_
    (try simp only [zP, zN, zA, zB, zC])
    refine pu_ (v := .pointer (some ((a.add (k * 6)).add 0))) (y_run (by rfl) (fun W => by go_simp)) ?_
    (try simp only [zP, zN, zA, zB, zC])
    refine ld_ (v := .int .i64 s.id) rfl (by rfl) (by rfl) (run_load_one (src_fld SQ.out ho.out 0 _ (by simp [sesC])) Tryd.underlying3 rfl) ?_
    (try simp only [zP, zN, zA, zB, zC])
    refine pu_ (v := .int .i64 id) (y_move rfl (by rfl) (by rfl)) ?_
    (try simp only [zP, zN, zA, zB, zC])
    refine pu_ (v := .bool false) (y_run (by rfl) (fun W => by have d := D20.out; go_simp)) ?_
    (try simp only [zP, zN, zA, zB, zC])
    refine nl_ (hK20 _ _ ?_); clear hK20 K20
    refine wp_cond_false rfl ?_
    refine wp_skip ?_
    refine ib_norm ?_
    refine th_norm (hK19 _ _ ?_); try clear hK19 K19
    refine r_ ?_
    refine pu_ (v := .int .i64 k) (y_move rfl (by rfl) (by rfl)) ?_
    (try simp only [zP, zN, zA, zB, zC])
    refine pu_ (v := .int .i64 (k + 1 : Nat)) (y_run (by rfl) (fun W => by have d := Wk.out; go_simp)) ?_
    (try simp only [zP, zN, zA, zB, zC])
    refine pu_ (v := .int .i64 (k + 1 : Nat)) (y_assign rfl (by rfl) (by rfl)) ?_
    (try simp only [zP, zN, zA, zB, zC])
    refine nl_ ?_
    exact th_norm (hK12 (kq - 1) _ _ (by have := hlt.out; have := hk.out; omega) ⟨k + 1, fun us_ => (#[us 0, .int .i64 id, .pointer (some ⟨gq, 0, none⟩), us 3, us 4, .int .i64 (k + 1 : Nat), .int .i64 k, .pointer (some ⟨gq, 0, none⟩), .slice (some a) n z, .int .i64 n, .bool true, .int .i64 k, .int .i64 (k + 1 : Nat), .pointer (some ⟨gq, 0, none⟩), .slice (some a) n z, .int .i64 k, .pointer (some (a.add (k * 6))), .pointer (some ((a.add (k * 6)).add 0)), .int .i64 s.id, .int .i64 id, .bool false, us 21] : Array Value).getD us_ undef, rfl, C0, SQ, Fgq, Lib.hid ⟨by have := hlt.out; omega, by have := hlt.out; have := hk.out; omega⟩, Lib.hid (fun i s' hi hs' => by rcases (show i < k ∨ i = k by omega) with h9 | h9; exact hb.out i s' h9 hs'; subst h9; rw [ho.out] at hs'; injection hs' with h8; rw [← h8]; exact HEQ.out)⟩)
  · have HE := Lib.hid h
    have D10 := Lib.hid (show ¬ (k : Int) < (n : Int) by have := HNL.out; omega)
    clear h
    refine s_ (fun K21 hK21 => ?_)
    refine pu_ (v := .int .i64 k) (y_move rfl (by rfl) (by rfl)) ?_
    (try simp only [zP, zN, zA, zB, zC])
    refine pu_ (v := .pointer (some ⟨gq, 0, none⟩)) (y_run (by rfl) (fun W => by go_simp)) ?_
    (try simp only [zP, zN, zA, zB, zC])
    refine ld_ (v := .slice Aq n z) rfl (by rfl) (by rfl) (run_load_one ((Fgq.out.cell 0).trans rfl) Tryd.underlying42 rfl) ?_
    (try simp only [zP, zN, zA, zB, zC])
    refine pu_ (v := .int .i64 n) (y_run (by rfl) (fun W => by go_simp)) ?_
    (try simp only [zP, zN, zA, zB, zC])
    refine pu_ (v := .bool false) (y_run (by rfl) (fun W => by have d := D10.out; go_simp)) ?_
    (try simp only [zP, zN, zA, zB, zC])
    refine nl_ (hK21 _ _ ?_); clear hK21 K21
    refine wp_cond_false rfl ?_
    refine wp_exit ?_
    refine th_exit ?_
    refine th_exit ?_
    refine ib_exit ?_
    refine th_norm (hK9 _ _ ?_); try clear hK9 K9
    refine s_ (fun K22 hK22 => ?_)
    refine pu_ (v := .int .i64 (-1)) (y_assign rfl (by rfl) (by rfl)) ?_
    (try simp only [zP, zN, zA, zB, zC])
    refine nl_ (hK22 _ _ ?_); clear hK22 K22
    refine wp_ret ?_
    refine hQ _ _ _ ?_
    refine bodyPost_ret (res1 rfl (rdv_tmp (v := .int .i64 (-1)) (by rfl))) rfl ?_
    exact ⟨by rw [show fxI id L = -1 from by unfold fxI; rw [fx_none (fun i s' hs' => hb.out i s' (by have h9 := (List.getElem?_eq_some_iff.1 hs').1; have := HE.out; omega) hs')]], C0.out⟩
theorem few_ (p q : Int)  :
    Calls Tryd.prog 45 #[.int .i64 p, .int .i64 q] w fun en w' => en = .returned (.int .i64 (fewI p q)) ∧ Ch [] w w' := by
  have C0 := Lib.hid (Ch.refl [] w)
  go_enter Tryd.func45, Tryd.ntmps45
  refine q_ (fun Q hQ hP => ?_)
  refine s_ (fun K1 hK1 => ?_)
  refine pu_ (v := .int .i64 0) (y_assign rfl (by rfl) (by rfl)) ?_
  (try simp only [zP, zN, zA, zB, zC])
  refine nl_ (hK1 _ _ ?_); clear hK1 K1
  refine sq_ (fun K2 hK2 => ?_)
  rcases (show (q < p ∧ q < 0) ∨ (q < p ∧ ¬ q < 0) ∨ (¬ q < p ∧ p < 0) ∨ (¬ q < p ∧ ¬ p < 0) by omega) with h | h | h | h
  · have HW := Lib.hid h
    clear h
    have D7 := Lib.hid (show  q < p by have := HW.out; omega)
    have D10 := Lib.hid (show  q < 0 by have := HW.out; omega)
    refine s_ (fun K3 hK3 => ?_)
    refine pu_ (v := .int .i64 q) (y_move rfl (by rfl) (by rfl)) ?_
    (try simp only [zP, zN, zA, zB, zC])
    refine pu_ (v := .int .i64 p) (y_move rfl (by rfl) (by rfl)) ?_
    (try simp only [zP, zN, zA, zB, zC])
    refine pu_ (v := .bool true) (y_run (by rfl) (fun W => by have d := D7.out; go_simp)) ?_
    (try simp only [zP, zN, zA, zB, zC])
    refine nl_ (hK3 _ _ ?_); clear hK3 K3
    refine wp_cond_true rfl ?_
    refine r_ ?_
    refine pu_ (v := .int .i64 q) (y_move rfl (by rfl) (by rfl)) ?_
    (try simp only [zP, zN, zA, zB, zC])
    refine pu_ (v := .int .i64 q) (y_assign rfl (by rfl) (by rfl)) ?_
    (try simp only [zP, zN, zA, zB, zC])
    refine nl_ ?_
    refine th_norm (hK2 _ _ ?_); try clear hK2 K2
    refine sq_ (fun K4 hK4 => ?_)
    refine s_ (fun K5 hK5 => ?_)
    refine pu_ (v := .int .i64 q) (y_move rfl (by rfl) (by rfl)) ?_
    (try simp only [zP, zN, zA, zB, zC])
    refine pu_ (v := .bool true) (y_run (by rfl) (fun W => by have d := D10.out; go_simp)) ?_
    (try simp only [zP, zN, zA, zB, zC])
    refine nl_ (hK5 _ _ ?_); clear hK5 K5
    refine wp_cond_true rfl ?_
    refine s_ (fun K6 hK6 => ?_)
    refine pu_ (v := .int .i64 0) (y_assign rfl (by rfl) (by rfl)) ?_
    (try simp only [zP, zN, zA, zB, zC])
    refine nl_ (hK6 _ _ ?_); clear hK6 K6
    refine wp_ret ?_
    refine th_ret ?_
    refine hQ _ _ _ ?_
    refine bodyPost_ret (res1 rfl (rdv_tmp (v := .int .i64 0) (by rfl))) rfl ?_
    exact ⟨by rw [show fewI p q = 0 by unfold fewI; have := HW.out; omega], C0.out⟩
  · have HW := Lib.hid h
    clear h
    have D7 := Lib.hid (show  q < p by have := HW.out; omega)
    have D10 := Lib.hid (show ¬ q < 0 by have := HW.out; omega)
    refine s_ (fun K7 hK7 => ?_)
    refine pu_ (v := .int .i64 q) (y_move rfl (by rfl) (by rfl)) ?_
    (try simp only [zP, zN, zA, zB, zC])
    refine pu_ (v := .int .i64 p) (y_move rfl (by rfl) (by rfl)) ?_
    (try simp only [zP, zN, zA, zB, zC])
    refine pu_ (v := .bool true) (y_run (by rfl) (fun W => by have d := D7.out; go_simp)) ?_
    (try simp only [zP, zN, zA, zB, zC])
    refine nl_ (hK7 _ _ ?_); clear hK7 K7
    refine wp_cond_true rfl ?_
    refine r_ ?_
    refine pu_ (v := .int .i64 q) (y_move rfl (by rfl) (by rfl)) ?_
    (try simp only [zP, zN, zA, zB, zC])
    refine pu_ (v := .int .i64 q) (y_assign rfl (by rfl) (by rfl)) ?_
    (try simp only [zP, zN, zA, zB, zC])
    refine nl_ ?_
    refine th_norm (hK2 _ _ ?_); try clear hK2 K2
    refine sq_ (fun K8 hK8 => ?_)
    refine s_ (fun K9 hK9 => ?_)
    refine pu_ (v := .int .i64 q) (y_move rfl (by rfl) (by rfl)) ?_
    (try simp only [zP, zN, zA, zB, zC])
    refine pu_ (v := .bool false) (y_run (by rfl) (fun W => by have d := D10.out; go_simp)) ?_
    (try simp only [zP, zN, zA, zB, zC])
    refine nl_ (hK9 _ _ ?_); clear hK9 K9
    refine wp_cond_false rfl ?_
    refine wp_skip ?_
    refine th_norm (hK8 _ _ ?_); try clear hK8 K8
    refine s_ (fun K10 hK10 => ?_)
    refine pu_ (v := .int .i64 q) (y_move rfl (by rfl) (by rfl)) ?_
    (try simp only [zP, zN, zA, zB, zC])
    refine pu_ (v := .int .i64 q) (y_assign rfl (by rfl) (by rfl)) ?_
    (try simp only [zP, zN, zA, zB, zC])
    refine nl_ (hK10 _ _ ?_); clear hK10 K10
    refine wp_ret ?_
    refine hQ _ _ _ ?_
    refine bodyPost_ret (res1 rfl (rdv_tmp (v := .int .i64 q) (by rfl))) rfl ?_
    exact ⟨by rw [show fewI p q = q by unfold fewI; have := HW.out; omega], C0.out⟩
  · have HW := Lib.hid h
    clear h
    have D7 := Lib.hid (show ¬ q < p by have := HW.out; omega)
    have D10 := Lib.hid (show  p < 0 by have := HW.out; omega)
    refine s_ (fun K11 hK11 => ?_)
    refine pu_ (v := .int .i64 q) (y_move rfl (by rfl) (by rfl)) ?_
    (try simp only [zP, zN, zA, zB, zC])
    refine pu_ (v := .int .i64 p) (y_move rfl (by rfl) (by rfl)) ?_
    (try simp only [zP, zN, zA, zB, zC])
    refine pu_ (v := .bool false) (y_run (by rfl) (fun W => by have d := D7.out; go_simp)) ?_
    (try simp only [zP, zN, zA, zB, zC])
    refine nl_ (hK11 _ _ ?_); clear hK11 K11
    refine wp_cond_false rfl ?_
    refine wp_skip ?_
    refine th_norm (hK2 _ _ ?_); try clear hK2 K2
    refine sq_ (fun K12 hK12 => ?_)
    refine s_ (fun K13 hK13 => ?_)
    refine pu_ (v := .int .i64 p) (y_move rfl (by rfl) (by rfl)) ?_
    (try simp only [zP, zN, zA, zB, zC])
    refine pu_ (v := .bool true) (y_run (by rfl) (fun W => by have d := D10.out; go_simp)) ?_
    (try simp only [zP, zN, zA, zB, zC])
    refine nl_ (hK13 _ _ ?_); clear hK13 K13
    refine wp_cond_true rfl ?_
    refine s_ (fun K14 hK14 => ?_)
    refine pu_ (v := .int .i64 0) (y_assign rfl (by rfl) (by rfl)) ?_
    (try simp only [zP, zN, zA, zB, zC])
    refine nl_ (hK14 _ _ ?_); clear hK14 K14
    refine wp_ret ?_
    refine th_ret ?_
    refine hQ _ _ _ ?_
    refine bodyPost_ret (res1 rfl (rdv_tmp (v := .int .i64 0) (by rfl))) rfl ?_
    exact ⟨by rw [show fewI p q = 0 by unfold fewI; have := HW.out; omega], C0.out⟩
  · have HW := Lib.hid h
    clear h
    have D7 := Lib.hid (show ¬ q < p by have := HW.out; omega)
    have D10 := Lib.hid (show ¬ p < 0 by have := HW.out; omega)
    refine s_ (fun K15 hK15 => ?_)
    refine pu_ (v := .int .i64 q) (y_move rfl (by rfl) (by rfl)) ?_
    (try simp only [zP, zN, zA, zB, zC])
    refine pu_ (v := .int .i64 p) (y_move rfl (by rfl) (by rfl)) ?_
    (try simp only [zP, zN, zA, zB, zC])
    refine pu_ (v := .bool false) (y_run (by rfl) (fun W => by have d := D7.out; go_simp)) ?_
    (try simp only [zP, zN, zA, zB, zC])
    refine nl_ (hK15 _ _ ?_); clear hK15 K15
    refine wp_cond_false rfl ?_
    refine wp_skip ?_
    refine th_norm (hK2 _ _ ?_); try clear hK2 K2
    refine sq_ (fun K16 hK16 => ?_)
    refine s_ (fun K17 hK17 => ?_)
    refine pu_ (v := .int .i64 p) (y_move rfl (by rfl) (by rfl)) ?_
    (try simp only [zP, zN, zA, zB, zC])
    refine pu_ (v := .bool false) (y_run (by rfl) (fun W => by have d := D10.out; go_simp)) ?_
    (try simp only [zP, zN, zA, zB, zC])
    refine nl_ (hK17 _ _ ?_); clear hK17 K17
    refine wp_cond_false rfl ?_
    refine wp_skip ?_
    refine th_norm (hK16 _ _ ?_); try clear hK16 K16
    refine s_ (fun K18 hK18 => ?_)
    refine pu_ (v := .int .i64 p) (y_move rfl (by rfl) (by rfl)) ?_
    (try simp only [zP, zN, zA, zB, zC])
    refine pu_ (v := .int .i64 p) (y_assign rfl (by rfl) (by rfl)) ?_
    (try simp only [zP, zN, zA, zB, zC])
    refine nl_ (hK18 _ _ ?_); clear hK18 K18
    refine wp_ret ?_
    refine hQ _ _ _ ?_
    refine bodyPost_ret (res1 rfl (rdv_tmp (v := .int .i64 p) (by rfl))) rfl ?_
    exact ⟨by rw [show fewI p q = p by unfold fewI; have := HW.out; omega], C0.out⟩
theorem xb_rl' {A : Option Addr} {base e sz n z : Nat} {xs : List Value} (h : OwnS w base e sz (.slice A n z) n xs) : ∀ k, k ∈ xb (.slice A n z) → k ∈ rl (.slice A n z) := K.xb_rl h
theorem with_ {Aq : Option Addr} {n z : Nat} {la : Int} {L : List HS} (HNL : Hid (L.length = n)) (HN : Hid (n ≤ 100)) {j : Nat} {s s0 : HS} (HO : Hid (L[j]? = some s0)) (SQ : Hid (SrcIs w (.slice Aq n z) (n) ((L).flatMap sesC) 6)) :
    Calls Tryd.prog 46 #[.agg #[.slice Aq n z, .int .i64 la], .int .i64 j, .agg #[.int .i64 s.id, .int .i64 s.box, .int .i64 s.ctr, .bool s.op, .string (str s.qi), .string (str s.qo)]] w fun en w' => ∃ Q' z', en = .returned (.agg #[.slice Q' n z', .int .i64 la]) ∧ NewQ w w' n (L.set j s) Q' z' ∧ Ch [] w w' := by
  have C0 := Lib.hid (Ch.refl [] w)
  obtain ⟨i49, I49⟩ := Info.of info49
  have HJ := Lib.hid (show j < n by have := (List.getElem?_eq_some_iff.1 HO.out).1; have := HNL.out; omega)
  have D16 := Lib.hid (show (j : Int) < (n : Int) by have := HJ.out; omega)
  go_enter Tryd.func46, Tryd.ntmps46
  refine q_ (fun Q hQ hP => ?_)
  refine s_ (fun K1 hK1 => ?_)
  refine ef_ (fun K2 hK2 => ?_)
  refine e_boxN (by rfl) rfl rfl (cs := #[.slice Aq n z, .int .i64 la]) (v := .agg #[.slice Aq n z, .int .i64 la]) (by rfl) rfl ?_
  rintro g3 w4 HG5 B6 C7
  have nw8 := Lib.hid (show w.heap.size ≤ g3 by have := C0.out.size; have := HG5.out; omega)
  have nx9 := Lib.hid (SQ.out.ne_new (by decide) HG5)
  have C0' := Lib.hid (show Ch [] w w4 from C0.out.trans' C7 (fun x hx => absurd hx (by simp)))
  have SQ' := Lib.hid (show SrcIs w4 (.slice Aq n z) (n) ((L).flatMap sesC) 6 from SQ.out.chx C7 xnin_nil)
  clear C0 SQ
  have C0 := C0'; clear C0'
  have SQ := SQ'; clear SQ'
  have Fg3 := Lib.hid (show Blk w4 g3 (#[.slice Aq n z, .int .i64 la]) 44 from B6); clear B6 C7
  refine hK2 _ _ ?_; clear hK2 K2
  (try simp only [zP, zN, zA, zB, zC])
  refine ef_ (fun K10 hK10 => ?_)
  refine e_boxN (by rfl) rfl rfl (cs := #[.int .i64 s.id, .int .i64 s.box, .int .i64 s.ctr, .bool s.op, .string (str s.qi), .string (str s.qo)]) (v := .agg #[.int .i64 s.id, .int .i64 s.box, .int .i64 s.ctr, .bool s.op, .string (str s.qi), .string (str s.qo)]) (by rfl) rfl ?_
  rintro g11 w12 HG13 B14 C15
  have nw16 := Lib.hid (show w.heap.size ≤ g11 by have := C0.out.size; have := HG13.out; omega)
  have nx17 := Lib.hid (SQ.out.ne_new (by decide) HG13)
  have C0' := Lib.hid (show Ch [] w w12 from C0.out.trans' C15 (fun x hx => absurd hx (by simp)))
  have SQ' := Lib.hid (show SrcIs w12 (.slice Aq n z) (n) ((L).flatMap sesC) 6 from SQ.out.chx C15 xnin_nil)
  have Fg3' := Lib.hid (show Blk w12 g3 (#[.slice Aq n z, .int .i64 la]) 44 from C15.blk Fg3.out nin_nil)
  clear C0 SQ Fg3
  have C0 := C0'; clear C0'
  have SQ := SQ'; clear SQ'
  have Fg3 := Fg3'; clear Fg3'
  have Fg11 := Lib.hid (show Blk w12 g11 (#[.int .i64 s.id, .int .i64 s.box, .int .i64 s.ctr, .bool s.op, .string (str s.qi), .string (str s.qo)]) 49 from B14); clear B14 C15
  refine hK10 _ _ ?_; clear hK10 K10
  (try simp only [zP, zN, zA, zB, zC])
  refine ef_ (fun K18 hK18 => ?_)
  refine e_alloc (by rfl) rfl rfl (cs := #[.slice none 0 0, .int .i64 0]) (by kernel_rfl) ?_
  rintro g19 w20 HG21 B22 C23
  have nw24 := Lib.hid (show w.heap.size ≤ g19 by have := C0.out.size; have := HG21.out; omega)
  have nx25 := Lib.hid (SQ.out.ne_new (by decide) HG21)
  have ne26 := Lib.hid (Fg3.out.ne_new HG21)
  have C0' := Lib.hid (show Ch [] w w20 from C0.out.trans' C23 (fun x hx => absurd hx (by simp)))
  have SQ' := Lib.hid (show SrcIs w20 (.slice Aq n z) (n) ((L).flatMap sesC) 6 from SQ.out.chx C23 xnin_nil)
  have Fg3' := Lib.hid (show Blk w20 g3 (#[.slice Aq n z, .int .i64 la]) 44 from C23.blk Fg3.out nin_nil)
  have Fg11' := Lib.hid (show Blk w20 g11 (#[.int .i64 s.id, .int .i64 s.box, .int .i64 s.ctr, .bool s.op, .string (str s.qi), .string (str s.qo)]) 49 from C23.blk Fg11.out nin_nil)
  clear C0 SQ Fg3 Fg11
  have C0 := C0'; clear C0'
  have SQ := SQ'; clear SQ'
  have Fg3 := Fg3'; clear Fg3'
  have Fg11 := Fg11'; clear Fg11'
  have Fg19 := Lib.hid (show Blk w20 g19 (#[.slice none 0 0, .int .i64 0]) 44 from B22); clear B22 C23
  refine hK18 _ _ ?_; clear hK18 K18
  (try simp only [zP, zN, zA, zB, zC])
  refine nl_ (hK1 _ _ ?_); clear hK1 K1
  refine s_ (fun K27 hK27 => ?_)
  refine ef_ (fun K28 hK28 => ?_)
  refine e_buildS0 (by rfl) rfl rfl Tryd.underlying42 I49.hi ?_
  rintro g29 w30 HG31 C33
  have C0' := Lib.hid (show Ch [] w w30 from C0.out.trans' C33 (fun x hx => absurd hx (by simp)))
  have SQ' := Lib.hid (show SrcIs w30 (.slice Aq n z) (n) ((L).flatMap sesC) 6 from SQ.out.chx C33 xnin_nil)
  have Fg3' := Lib.hid (show Blk w30 g3 (#[.slice Aq n z, .int .i64 la]) 44 from C33.blk Fg3.out nin_nil)
  have Fg11' := Lib.hid (show Blk w30 g11 (#[.int .i64 s.id, .int .i64 s.box, .int .i64 s.ctr, .bool s.op, .string (str s.qi), .string (str s.qo)]) 49 from C33.blk Fg11.out nin_nil)
  have Fg19' := Lib.hid (show Blk w30 g19 (#[.slice none 0 0, .int .i64 0]) 44 from C33.blk Fg19.out nin_nil)
  clear C0 SQ Fg3 Fg11 Fg19
  have C0 := C0'; clear C0'
  have SQ := SQ'; clear SQ'
  have Fg3 := Fg3'; clear Fg3'
  have Fg11 := Fg11'; clear Fg11'
  have Fg19 := Fg19'; clear Fg19'
  clear C33
  have Z34 := Lib.hid (show OwnS w30 w.heap.size 49 6 (.slice (some ⟨g29, 0, none⟩) 0 0) (0) ([]) from OwnS.nil _ _ _ _ _)
  refine hK28 _ _ ?_; clear hK28 K28
  (try simp only [zP, zN, zA, zB, zC])
  refine pu_ (v := .pointer (some ⟨g3, 0, none⟩)) (y_run (by rfl) (fun W => by go_simp)) ?_
  (try simp only [zP, zN, zA, zB, zC])
  refine ld_ (v := .slice Aq n z) rfl (by rfl) (by rfl) (run_load_one ((Fg3.out.cell 0).trans rfl) Tryd.underlying42 rfl) ?_
  (try simp only [zP, zN, zA, zB, zC])
  refine ef_ (fun K35 hK35 => ?_)
  refine e_append (by rfl) rfl rfl (w.heap.size) 49 _ _ 6 64 Tryd.underlying42 I49.hi I49.hz I49.hs I49.hb rfl (by decide) (.slice (some ⟨g29, 0, none⟩) 0 0) (0) ([]) (by rfl) Z34.out (.slice Aq n z) n (L.flatMap sesC) (by rfl) SQ.out (flat_one sesC_one L) (by have := HN.out; unfold maxLen; omega) (by have := HN.out; omega) C0.out.size ?_
  rintro v36 w37 O38 C39 R40 -
  replace C39 : Ch [] _ _ := C39
  replace R40 : ∀ k, k ∈ rl v36 → w30.heap.size ≤ k := fun k hk => (R40 k hk).elim (fun h => absurd h (by simp [rl])) (fun h => h)
  have rw41 := Lib.hid (show ∀ z_, z_ ∈ rl v36 → z_ ∈ [] ∨ w.heap.size ≤ z_ from fun x hx => .inr (by have := R40 x hx; have := C0.out.size; omega))
  have xr42 := Lib.hid (show ∀ k, k ∈ xb (.slice Aq n z) → k ∉ rl v36 from fun k hk hm => by have := R40 k hm; have := SQ.out.lt (by decide) k hk; omega)
  have nr43 := Lib.hid (show g11 ∉ rl v36 from fun hk => by have := R40 _ hk; have := Fg11.out.lt; omega)
  have C0' := Lib.hid (show Ch [] w w37 from C0.out.trans' C39 (fun x hx => absurd hx (by simp)))
  have SQ' := Lib.hid (show SrcIs w37 (.slice Aq n z) (n) ((L).flatMap sesC) 6 from SQ.out.chx C39 xnin_nil)
  have Fg3' := Lib.hid (show Blk w37 g3 (#[.slice Aq n z, .int .i64 la]) 44 from C39.blk Fg3.out nin_nil)
  have Fg11' := Lib.hid (show Blk w37 g11 (#[.int .i64 s.id, .int .i64 s.box, .int .i64 s.ctr, .bool s.op, .string (str s.qi), .string (str s.qo)]) 49 from C39.blk Fg11.out nin_nil)
  have Fg19' := Lib.hid (show Blk w37 g19 (#[.slice none 0 0, .int .i64 0]) 44 from C39.blk Fg19.out nin_nil)
  clear C0 SQ Fg3 Fg11 Fg19
  have C0 := C0'; clear C0'
  have SQ := SQ'; clear SQ'
  have Fg3 := Fg3'; clear Fg3'
  have Fg11 := Fg11'; clear Fg11'
  have Fg19 := Fg19'; clear Fg19'
  clear Z34
  have Z34 := Lib.hid (show OwnS w37 w.heap.size 49 6 (v36) (n) (L.flatMap sesC) from (by simpa using O38)); clear O38 C39
  refine hK35 _ _ ?_; clear hK35 K35
  (try simp only [zP, zN, zA, zB, zC])
  refine pu_ (v := .pointer (some ⟨g3, 0, none⟩)) (y_run (by rfl) (fun W => by go_simp)) ?_
  (try simp only [zP, zN, zA, zB, zC])
  refine ef_ (fun K44 hK44 => ?_)
  refine e_store1 (b := g3) (j := 0) (v := v36) (by rfl) rfl rfl (by rfl) (by rfl) Fg3.out (show 0 < 2 by omega) (by kernel_rfl) Z34.out.one ?_
  rintro w45 B46 C47
  have C0' := Lib.hid (show Ch [] w w45 from C0.out.trans' C47 (inw_cons (.inr nw8.out) inw_nil))
  have SQ' := Lib.hid (show SrcIs w45 (.slice Aq n z) (n) ((L).flatMap sesC) 6 from SQ.out.chx C47 (xnin_cons nx9.out xnin_nil))
  have Fg11' := Lib.hid (show Blk w45 g11 (#[.int .i64 s.id, .int .i64 s.box, .int .i64 s.ctr, .bool s.op, .string (str s.qi), .string (str s.qo)]) 49 from C47.blk Fg11.out (nin_cons (Blk.ne_type Fg11.out Fg3.out (by decide)) nin_nil))
  have Fg19' := Lib.hid (show Blk w45 g19 (#[.slice none 0 0, .int .i64 0]) 44 from C47.blk Fg19.out (nin_cons (Ne.symm ne26.out) nin_nil))
  have Z34' := Lib.hid (show OwnS w45 w.heap.size 49 6 (v36) (n) (L.flatMap sesC) from Z34.out.ch C47 (rnin_cons (Z34.out.ne Fg3.out (by decide)) rnin_nil))
  clear C0 SQ Fg11 Fg19 Z34
  have C0 := C0'; clear C0'
  have SQ := SQ'; clear SQ'
  have Fg11 := Fg11'; clear Fg11'
  have Fg19 := Fg19'; clear Fg19'
  have Z34 := Z34'; clear Z34'
  clear Fg3; have Fg3 := Lib.hid (show Blk w45 g3 (#[v36, .int .i64 la]) 44 from B46); clear B46 C47
  refine hK44 _ _ ?_; clear hK44 K44
  (try simp only [zP, zN, zA, zB, zC])
  refine nl_ (hK27 _ _ ?_); clear hK27 K27
  skip
  · obtain ⟨gv, cv, hv, hcv, -, -, -, -⟩ := Z34.out.some_ (Nat.lt_of_le_of_lt (Nat.zero_le j) HJ.out)
    subst hv
    have HCAP := Lib.hid (show 0 < cv by have := HJ.out; omega)
    clear hcv
    refine s_ (fun K48 hK48 => ?_)
    refine pu_ (v := .pointer (some ⟨g3, 0, none⟩)) (y_run (by rfl) (fun W => by go_simp)) ?_
    (try simp only [zP, zN, zA, zB, zC])
    refine ld_ (v := .slice (some ⟨gv, 0, none⟩) n cv) rfl (by rfl) (by rfl) (run_load_one ((Fg3.out.cell 0).trans rfl) Tryd.underlying42 rfl) ?_
    (try simp only [zP, zN, zA, zB, zC])
    refine pu_ (v := .int .i64 j) (y_move rfl (by rfl) (by rfl)) ?_
    (try simp only [zP, zN, zA, zB, zC])
    refine ld_ (v := .agg (#[.int .i64 s.id, .int .i64 s.box, .int .i64 s.ctr, .bool s.op, .string (str s.qi), .string (str s.qo)])) rfl (by rfl) (by rfl) (run_loadVar_row _ _ 49 49 (#[.int .i64 s.id, .int .i64 s.box, .int .i64 s.ctr, .bool s.op, .string (str s.qi), .string (str s.qo)]) (0, 0) _ Fg11.out Tryd.underlying49 rfl (by kernel_rfl)) ?_
    (try simp only [zP, zN, zA, zB, zC])
    refine pu_ (v := .pointer (some ⟨gv, j * 6, none⟩)) (y_run (by rfl) (fun W => by have d := D16.out; go_simp)) ?_
    (try simp only [zP, zN, zA, zB, zC])
    refine ef_ (fun K49 hK49 => ?_)
    refine e_storeS (by rfl) rfl rfl Z34.out (j * 6) (sesC s).toArray (by rfl) (by rfl) (by kernel_rfl) (by rw [List.size_toArray, sesC_len]; have := HJ.out; omega) (by simpa using sesC_one s) HCAP.out ?_
    rintro w50 O51 C52
    have RC52 := Lib.hid (show Ch (rl (.slice (some ⟨gv, 0, none⟩) n cv)) w45 w50 from by rw [rl_some _ _ _ HCAP.out]; exact C52)
    have C0' := Lib.hid (show Ch [] w w50 from C0.out.trans' RC52.out (fun x hx => .inr (Z34.out.lt x hx).1))
    have SQ' := Lib.hid (show SrcIs w50 (.slice Aq n z) (n) ((L).flatMap sesC) 6 from SQ.out.chx RC52.out xr42.out)
    have Fg3' := Lib.hid (show Blk w50 g3 (#[.slice (some ⟨gv, 0, none⟩) n cv, .int .i64 la]) 44 from RC52.out.blk Fg3.out (Z34.out.ne Fg3.out (by decide)))
    have Fg11' := Lib.hid (show Blk w50 g11 (#[.int .i64 s.id, .int .i64 s.box, .int .i64 s.ctr, .bool s.op, .string (str s.qi), .string (str s.qo)]) 49 from RC52.out.blk Fg11.out nr43.out)
    have Fg19' := Lib.hid (show Blk w50 g19 (#[.slice none 0 0, .int .i64 0]) 44 from RC52.out.blk Fg19.out (Z34.out.ne Fg19.out (by decide)))
    clear C0 SQ Fg3 Fg11 Fg19
    have C0 := C0'; clear C0'
    have SQ := SQ'; clear SQ'
    have Fg3 := Fg3'; clear Fg3'
    have Fg11 := Fg11'; clear Fg11'
    have Fg19 := Fg19'; clear Fg19'
    clear Z34
    have Z34 := Lib.hid (show OwnS w50 w.heap.size 49 6 (.slice (some ⟨gv, 0, none⟩) n cv) (n) ((L.set j s).flatMap sesC) from by have h9 := O51; rw [show (sesC s).toArray.toList = sesC s from rfl, show (sesC s).toArray.size = 6 from rfl, flat_put sesC_len HO.out] at h9; exact h9); clear O51 C52 RC52
    refine hK49 _ _ ?_; clear hK49 K49
    (try simp only [zP, zN, zA, zB, zC])
    refine nl_ (hK48 _ _ ?_); clear hK48 K48
    refine s_ (fun K53 hK53 => ?_)
    refine ld_ (v := .agg (#[.slice (some ⟨gv, 0, none⟩) n cv, .int .i64 la])) rfl (by rfl) (by rfl) (run_loadVar_row _ _ 44 44 (#[.slice (some ⟨gv, 0, none⟩) n cv, .int .i64 la]) (0, 0) _ Fg3.out Tryd.underlying44 rfl (by kernel_rfl)) ?_
    (try simp only [zP, zN, zA, zB, zC])
    refine ef_ (fun K54 hK54 => ?_)
    refine e_storeN (cells := (#[.slice (some ⟨gv, 0, none⟩) n cv, .int .i64 la])) (by rfl) rfl rfl (by rfl) (by rfl) Fg19.out (by kernel_rfl) (by rfl) (ones_cons rfl (ones_cons rfl ones_nil)) ?_
    rintro w55 B56 C57
    have C0' := Lib.hid (show Ch [] w w55 from C0.out.trans' C57 (inw_cons (.inr nw24.out) inw_nil))
    have SQ' := Lib.hid (show SrcIs w55 (.slice Aq n z) (n) ((L).flatMap sesC) 6 from SQ.out.chx C57 (xnin_cons nx25.out xnin_nil))
    have Fg3' := Lib.hid (show Blk w55 g3 (#[.slice (some ⟨gv, 0, none⟩) n cv, .int .i64 la]) 44 from C57.blk Fg3.out (nin_cons ne26.out nin_nil))
    have Fg11' := Lib.hid (show Blk w55 g11 (#[.int .i64 s.id, .int .i64 s.box, .int .i64 s.ctr, .bool s.op, .string (str s.qi), .string (str s.qo)]) 49 from C57.blk Fg11.out (nin_cons (Blk.ne_type Fg11.out Fg19.out (by decide)) nin_nil))
    have Z34' := Lib.hid (show OwnS w55 w.heap.size 49 6 (.slice (some ⟨gv, 0, none⟩) n cv) (n) ((L.set j s).flatMap sesC) from Z34.out.ch C57 (rnin_cons (Z34.out.ne Fg19.out (by decide)) rnin_nil))
    clear C0 SQ Fg3 Fg11 Z34
    have C0 := C0'; clear C0'
    have SQ := SQ'; clear SQ'
    have Fg3 := Fg3'; clear Fg3'
    have Fg11 := Fg11'; clear Fg11'
    have Z34 := Z34'; clear Z34'
    clear Fg19; have Fg19 := Lib.hid (show Blk w55 g19 ((#[.slice (some ⟨gv, 0, none⟩) n cv, .int .i64 la])) 44 from B56); clear B56 C57
    refine hK54 _ _ ?_; clear hK54 K54
    (try simp only [zP, zN, zA, zB, zC])
    refine nl_ (hK53 _ _ ?_); clear hK53 K53
    refine wp_ret ?_
    refine hQ _ _ _ ?_
    refine bodyPost_ret (res1 rfl (rdv_cell (by rfl) (run_loadVar_row _ _ 44 44 ((#[.slice (some ⟨gv, 0, none⟩) n cv, .int .i64 la])) (0, 0) _ Fg19.out Tryd.underlying44 rfl (by kernel_rfl)))) rfl ?_
    obtain ⟨A9, c9, hv9, hn9, hm9⟩ := Z34.out.slice
    injection hv9 with e1 e2 e3
    subst e1 e3
    exact ⟨_, _, rfl, ⟨Z34.out.src, ⟨hn9, hm9⟩, fun k hk => (Z34.out.lt k (xb_rl' Z34.out k hk)).1⟩, C0.out⟩
theorem rwrite_none {Aq : Option Addr} {n z : Nat} {la : Int} {L : List HS} (HNL : Hid (L.length = n)) (HN : Hid (n ≤ 100)) {id : Int} (HF : Hid (fx id L = none)) {t : ByteArray}  (SQ : Hid (SrcIs w (.slice Aq n z) (n) ((L).flatMap sesC) 6)) :
    Calls Tryd.prog 34 #[.agg #[.slice Aq n z, .int .i64 la], .int .i64 id, .string t] w fun en w' => en = .returned (.tuple #[.agg #[.slice Aq n z, .int .i64 la], .int .i64 0, .int .i64 6]) ∧ Ch [] w w' := by
  have C0 := Lib.hid (Ch.refl [] w)
  have HFI := Lib.hid (show fxI id L = -1 by unfold fxI; rw [HF.out])
  have DN := Lib.hid (show (-1 : Int) < 0 by omega)
  go_enter Tryd.func34, Tryd.ntmps34
  refine q_ (fun Q hQ hP => ?_)
  refine s_ (fun K1 hK1 => ?_)
  refine ef_ (fun K2 hK2 => ?_)
  refine e_boxN (by rfl) rfl rfl (cs := #[.slice Aq n z, .int .i64 la]) (v := .agg #[.slice Aq n z, .int .i64 la]) (by rfl) rfl ?_
  rintro g3 w4 HG5 B6 C7
  have nw8 := Lib.hid (show w.heap.size ≤ g3 by have := C0.out.size; have := HG5.out; omega)
  have nx9 := Lib.hid (SQ.out.ne_new (by decide) HG5)
  have C0' := Lib.hid (show Ch [] w w4 from C0.out.trans' C7 (fun x hx => absurd hx (by simp)))
  have SQ' := Lib.hid (show SrcIs w4 (.slice Aq n z) (n) ((L).flatMap sesC) 6 from SQ.out.chx C7 xnin_nil)
  clear C0 SQ
  have C0 := C0'; clear C0'
  have SQ := SQ'; clear SQ'
  have Fg3 := Lib.hid (show Blk w4 g3 (#[.slice Aq n z, .int .i64 la]) 44 from B6); clear B6 C7
  refine hK2 _ _ ?_; clear hK2 K2
  (try simp only [zP, zN, zA, zB, zC])
  refine ef_ (fun K10 hK10 => ?_)
  refine e_alloc (by rfl) rfl rfl (cs := #[.slice none 0 0, .int .i64 0]) (by kernel_rfl) ?_
  rintro g11 w12 HG13 B14 C15
  have nw16 := Lib.hid (show w.heap.size ≤ g11 by have := C0.out.size; have := HG13.out; omega)
  have nx17 := Lib.hid (SQ.out.ne_new (by decide) HG13)
  have ne18 := Lib.hid (Fg3.out.ne_new HG13)
  have C0' := Lib.hid (show Ch [] w w12 from C0.out.trans' C15 (fun x hx => absurd hx (by simp)))
  have SQ' := Lib.hid (show SrcIs w12 (.slice Aq n z) (n) ((L).flatMap sesC) 6 from SQ.out.chx C15 xnin_nil)
  have Fg3' := Lib.hid (show Blk w12 g3 (#[.slice Aq n z, .int .i64 la]) 44 from C15.blk Fg3.out nin_nil)
  clear C0 SQ Fg3
  have C0 := C0'; clear C0'
  have SQ := SQ'; clear SQ'
  have Fg3 := Fg3'; clear Fg3'
  have Fg11 := Lib.hid (show Blk w12 g11 (#[.slice none 0 0, .int .i64 0]) 44 from B14); clear B14 C15
  refine hK10 _ _ ?_; clear hK10 K10
  (try simp only [zP, zN, zA, zB, zC])
  refine pu_ (v := .int .i64 0) (y_assign rfl (by rfl) (by rfl)) ?_
  (try simp only [zP, zN, zA, zB, zC])
  refine pu_ (v := .int .i64 0) (y_assign rfl (by rfl) (by rfl)) ?_
  (try simp only [zP, zN, zA, zB, zC])
  refine nl_ (hK1 _ _ ?_); clear hK1 K1
  refine s_ (fun K19 hK19 => ?_)
  refine ld_ (v := .agg (#[.slice Aq n z, .int .i64 la])) rfl (by rfl) (by rfl) (run_loadVar_row _ _ 44 44 (#[.slice Aq n z, .int .i64 la]) (0, 0) _ Fg3.out Tryd.underlying44 rfl (by kernel_rfl)) ?_
  (try simp only [zP, zN, zA, zB, zC])
  refine pu_ (v := .int .i64 id) (y_move rfl (by rfl) (by rfl)) ?_
  (try simp only [zP, zN, zA, zB, zC])
  refine ef_ (fun K20 hK20 => ?_)
  refine e_call Tryd.func18 (by kernel_rfl) rfl #[.agg (#[.slice Aq n z, .int .i64 la]), .int .i64 id] (by rfl) rfl rfl (by first | rfl | (simp only [List.map_toArray, List.map_cons, List.map_nil]; first | done | rfl)) ((by have h9 := rindex_ (id := id) (la := la) HNL HN SQ; rw [HFI.out] at h9; exact h9)) ?_
  rintro en w21 ⟨rfl, cc⟩
  refine ⟨_, rfl, ?_⟩
  have C0' := Lib.hid (show Ch [] w w21 from C0.out.trans' cc (fun x hx => absurd hx (by simp)))
  have SQ' := Lib.hid (show SrcIs w21 (.slice Aq n z) (n) ((L).flatMap sesC) 6 from SQ.out.chx cc xnin_nil)
  have Fg3' := Lib.hid (show Blk w21 g3 (#[.slice Aq n z, .int .i64 la]) 44 from cc.blk Fg3.out nin_nil)
  have Fg11' := Lib.hid (show Blk w21 g11 (#[.slice none 0 0, .int .i64 0]) 44 from cc.blk Fg11.out nin_nil)
  clear C0 SQ Fg3 Fg11
  have C0 := C0'; clear C0'
  have SQ := SQ'; clear SQ'
  have Fg3 := Fg3'; clear Fg3'
  have Fg11 := Fg11'; clear Fg11'
  clear cc
  refine hK20 _ _ ?_; clear hK20 K20
  (try simp only [zP, zN, zA, zB, zC])
  refine pu_ (v := .int .i64 (-1)) (y_assign rfl (by rfl) (by rfl)) ?_
  (try simp only [zP, zN, zA, zB, zC])
  refine nl_ (hK19 _ _ ?_); clear hK19 K19
  refine sq_ (fun K22 hK22 => ?_)
  refine s_ (fun K23 hK23 => ?_)
  refine pu_ (v := .int .i64 (-1)) (y_move rfl (by rfl) (by rfl)) ?_
  (try simp only [zP, zN, zA, zB, zC])
  refine pu_ (v := .bool true) (y_run (by rfl) (fun W => by have d := DN.out; go_simp)) ?_
  (try simp only [zP, zN, zA, zB, zC])
  refine nl_ (hK23 _ _ ?_); clear hK23 K23
  refine wp_cond_true rfl ?_
  refine s_ (fun K24 hK24 => ?_)
  refine ld_ (v := .agg (#[.slice Aq n z, .int .i64 la])) rfl (by rfl) (by rfl) (run_loadVar_row _ _ 44 44 (#[.slice Aq n z, .int .i64 la]) (0, 0) _ Fg3.out Tryd.underlying44 rfl (by kernel_rfl)) ?_
  (try simp only [zP, zN, zA, zB, zC])
  refine ef_ (fun K25 hK25 => ?_)
  refine e_storeN (cells := (#[.slice Aq n z, .int .i64 la])) (by rfl) rfl rfl (by rfl) (by rfl) Fg11.out (by kernel_rfl) (by rfl) (ones_cons rfl (ones_cons rfl ones_nil)) ?_
  rintro w26 B27 C28
  have C0' := Lib.hid (show Ch [] w w26 from C0.out.trans' C28 (inw_cons (.inr nw16.out) inw_nil))
  have SQ' := Lib.hid (show SrcIs w26 (.slice Aq n z) (n) ((L).flatMap sesC) 6 from SQ.out.chx C28 (xnin_cons nx17.out xnin_nil))
  have Fg3' := Lib.hid (show Blk w26 g3 (#[.slice Aq n z, .int .i64 la]) 44 from C28.blk Fg3.out (nin_cons ne18.out nin_nil))
  clear C0 SQ Fg3
  have C0 := C0'; clear C0'
  have SQ := SQ'; clear SQ'
  have Fg3 := Fg3'; clear Fg3'
  clear Fg11; have Fg11 := Lib.hid (show Blk w26 g11 ((#[.slice Aq n z, .int .i64 la])) 44 from B27); clear B27 C28
  refine hK25 _ _ ?_; clear hK25 K25
  (try simp only [zP, zN, zA, zB, zC])
  refine pu_ (v := .int .i64 0) (y_assign rfl (by rfl) (by rfl)) ?_
  (try simp only [zP, zN, zA, zB, zC])
  refine pu_ (v := .int .i64 6) (y_assign rfl (by rfl) (by rfl)) ?_
  (try simp only [zP, zN, zA, zB, zC])
  refine nl_ (hK24 _ _ ?_); clear hK24 K24
  refine wp_ret ?_
  refine th_ret ?_
  refine hQ _ _ _ ?_
  refine bodyPost_ret (res3 rfl (rdv_cell (by rfl) (run_loadVar_row _ _ 44 44 ((#[.slice Aq n z, .int .i64 la])) (0, 0) _ Fg11.out Tryd.underlying44 rfl (by kernel_rfl))) (rdv_tmp (v := .int .i64 0) (by rfl)) (rdv_tmp (v := .int .i64 6) (by rfl))) rfl ?_
  exact ⟨rfl, C0.out⟩
theorem rwrite_closed {Aq : Option Addr} {n z : Nat} {la : Int} {L : List HS} (HNL : Hid (L.length = n)) (HN : Hid (n ≤ 100)) {id : Int} {j : Nat} {s : HS} (HF : Hid (fx id L = some j)) (HS_ : Hid (L[j]? = some s)) (HOP : Hid (s.op = false)) {t : ByteArray}  (SQ : Hid (SrcIs w (.slice Aq n z) (n) ((L).flatMap sesC) 6)) :
    Calls Tryd.prog 34 #[.agg #[.slice Aq n z, .int .i64 la], .int .i64 id, .string t] w fun en w' => en = .returned (.tuple #[.agg #[.slice Aq n z, .int .i64 la], .int .i64 0, .int .i64 400]) ∧ Ch [] w w' := by
  have C0 := Lib.hid (Ch.refl [] w)
  have HFI := Lib.hid (show fxI id L = j by unfold fxI; rw [HF.out])
  have HJ := Lib.hid (show j < n by have := (List.getElem?_eq_some_iff.1 HS_.out).1; have := HNL.out; omega)
  have DJ := Lib.hid (show (j : Int) < (n : Int) by have := HJ.out; omega)
  have DZ := Lib.hid (show ¬ (j : Int) < 0 by omega)
  go_enter Tryd.func34, Tryd.ntmps34
  refine q_ (fun Q hQ hP => ?_)
  refine s_ (fun K1 hK1 => ?_)
  refine ef_ (fun K2 hK2 => ?_)
  refine e_boxN (by rfl) rfl rfl (cs := #[.slice Aq n z, .int .i64 la]) (v := .agg #[.slice Aq n z, .int .i64 la]) (by rfl) rfl ?_
  rintro g3 w4 HG5 B6 C7
  have nw8 := Lib.hid (show w.heap.size ≤ g3 by have := C0.out.size; have := HG5.out; omega)
  have nx9 := Lib.hid (SQ.out.ne_new (by decide) HG5)
  have C0' := Lib.hid (show Ch [] w w4 from C0.out.trans' C7 (fun x hx => absurd hx (by simp)))
  have SQ' := Lib.hid (show SrcIs w4 (.slice Aq n z) (n) ((L).flatMap sesC) 6 from SQ.out.chx C7 xnin_nil)
  clear C0 SQ
  have C0 := C0'; clear C0'
  have SQ := SQ'; clear SQ'
  have Fg3 := Lib.hid (show Blk w4 g3 (#[.slice Aq n z, .int .i64 la]) 44 from B6); clear B6 C7
  refine hK2 _ _ ?_; clear hK2 K2
  (try simp only [zP, zN, zA, zB, zC])
  refine ef_ (fun K10 hK10 => ?_)
  refine e_alloc (by rfl) rfl rfl (cs := #[.slice none 0 0, .int .i64 0]) (by kernel_rfl) ?_
  rintro g11 w12 HG13 B14 C15
  have nw16 := Lib.hid (show w.heap.size ≤ g11 by have := C0.out.size; have := HG13.out; omega)
  have nx17 := Lib.hid (SQ.out.ne_new (by decide) HG13)
  have ne18 := Lib.hid (Fg3.out.ne_new HG13)
  have C0' := Lib.hid (show Ch [] w w12 from C0.out.trans' C15 (fun x hx => absurd hx (by simp)))
  have SQ' := Lib.hid (show SrcIs w12 (.slice Aq n z) (n) ((L).flatMap sesC) 6 from SQ.out.chx C15 xnin_nil)
  have Fg3' := Lib.hid (show Blk w12 g3 (#[.slice Aq n z, .int .i64 la]) 44 from C15.blk Fg3.out nin_nil)
  clear C0 SQ Fg3
  have C0 := C0'; clear C0'
  have SQ := SQ'; clear SQ'
  have Fg3 := Fg3'; clear Fg3'
  have Fg11 := Lib.hid (show Blk w12 g11 (#[.slice none 0 0, .int .i64 0]) 44 from B14); clear B14 C15
  refine hK10 _ _ ?_; clear hK10 K10
  (try simp only [zP, zN, zA, zB, zC])
  refine pu_ (v := .int .i64 0) (y_assign rfl (by rfl) (by rfl)) ?_
  (try simp only [zP, zN, zA, zB, zC])
  refine pu_ (v := .int .i64 0) (y_assign rfl (by rfl) (by rfl)) ?_
  (try simp only [zP, zN, zA, zB, zC])
  refine nl_ (hK1 _ _ ?_); clear hK1 K1
  refine s_ (fun K19 hK19 => ?_)
  refine ld_ (v := .agg (#[.slice Aq n z, .int .i64 la])) rfl (by rfl) (by rfl) (run_loadVar_row _ _ 44 44 (#[.slice Aq n z, .int .i64 la]) (0, 0) _ Fg3.out Tryd.underlying44 rfl (by kernel_rfl)) ?_
  (try simp only [zP, zN, zA, zB, zC])
  refine pu_ (v := .int .i64 id) (y_move rfl (by rfl) (by rfl)) ?_
  (try simp only [zP, zN, zA, zB, zC])
  refine ef_ (fun K20 hK20 => ?_)
  refine e_call Tryd.func18 (by kernel_rfl) rfl #[.agg (#[.slice Aq n z, .int .i64 la]), .int .i64 id] (by rfl) rfl rfl (by first | rfl | (simp only [List.map_toArray, List.map_cons, List.map_nil]; first | done | rfl)) ((by have h9 := rindex_ (id := id) (la := la) HNL HN SQ; rw [HFI.out] at h9; exact h9)) ?_
  rintro en w21 ⟨rfl, cc⟩
  refine ⟨_, rfl, ?_⟩
  have C0' := Lib.hid (show Ch [] w w21 from C0.out.trans' cc (fun x hx => absurd hx (by simp)))
  have SQ' := Lib.hid (show SrcIs w21 (.slice Aq n z) (n) ((L).flatMap sesC) 6 from SQ.out.chx cc xnin_nil)
  have Fg3' := Lib.hid (show Blk w21 g3 (#[.slice Aq n z, .int .i64 la]) 44 from cc.blk Fg3.out nin_nil)
  have Fg11' := Lib.hid (show Blk w21 g11 (#[.slice none 0 0, .int .i64 0]) 44 from cc.blk Fg11.out nin_nil)
  clear C0 SQ Fg3 Fg11
  have C0 := C0'; clear C0'
  have SQ := SQ'; clear SQ'
  have Fg3 := Fg3'; clear Fg3'
  have Fg11 := Fg11'; clear Fg11'
  clear cc
  refine hK20 _ _ ?_; clear hK20 K20
  (try simp only [zP, zN, zA, zB, zC])
  refine pu_ (v := .int .i64 j) (y_assign rfl (by rfl) (by rfl)) ?_
  (try simp only [zP, zN, zA, zB, zC])
  refine nl_ (hK19 _ _ ?_); clear hK19 K19
  refine sq_ (fun K22 hK22 => ?_)
  refine s_ (fun K23 hK23 => ?_)
  refine pu_ (v := .int .i64 j) (y_move rfl (by rfl) (by rfl)) ?_
  (try simp only [zP, zN, zA, zB, zC])
  refine pu_ (v := .bool false) (y_run (by rfl) (fun W => by have d := DZ.out; go_simp)) ?_
  (try simp only [zP, zN, zA, zB, zC])
  refine nl_ (hK23 _ _ ?_); clear hK23 K23
  refine wp_cond_false rfl ?_
  refine wp_skip ?_
  refine th_norm (hK22 _ _ ?_); try clear hK22 K22
  skip
  · obtain ⟨a, hsm_a⟩ := src_some SQ.out (by have := HJ.out; omega)
    subst hsm_a
    refine s_ (fun K24 hK24 => ?_)
    refine pu_ (v := .pointer (some ⟨g3, 0, none⟩)) (y_run (by rfl) (fun W => by go_simp)) ?_
    (try simp only [zP, zN, zA, zB, zC])
    refine ld_ (v := .slice (some a) n z) rfl (by rfl) (by rfl) (run_load_one ((Fg3.out.cell 0).trans rfl) Tryd.underlying42 rfl) ?_
    (try simp only [zP, zN, zA, zB, zC])
    refine pu_ (v := .int .i64 j) (y_move rfl (by rfl) (by rfl)) ?_
    (try simp only [zP, zN, zA, zB, zC])
    refine pu_ (v := .pointer (some (a.add (j * 6)))) (y_run (by rfl) (fun W => by have d := DJ.out; go_simp)) ?_
    (try simp only [zP, zN, zA, zB, zC])
    refine ld_ (v := .agg #[.int .i64 s.id, .int .i64 s.box, .int .i64 s.ctr, .bool false, .string (str s.qi), .string (str s.qo)]) rfl (by rfl) (by rfl) (run_loadVar_at (cs := [.int .i64 s.id, .int .i64 s.box, .int .i64 s.ctr, .bool false, .string (str s.qi), .string (str s.qo)]) (src_ses SQ.out HS_.out HOP.out) Tryd.underlying49 rfl (by kernel_rfl)) ?_
    (try simp only [zP, zN, zA, zB, zC])
    refine ef_ (fun K25 hK25 => ?_)
    refine e_alloc (by rfl) rfl rfl (cs := #[.int .i64 0, .int .i64 0, .int .i64 0, .bool false, .string ⟨#[]⟩, .string ⟨#[]⟩]) (by kernel_rfl) ?_
    rintro g26 w27 HG28 B29 C30
    have nw31 := Lib.hid (show w.heap.size ≤ g26 by have := C0.out.size; have := HG28.out; omega)
    have nx32 := Lib.hid (SQ.out.ne_new (by decide) HG28)
    have C0' := Lib.hid (show Ch [] w w27 from C0.out.trans' C30 (fun x hx => absurd hx (by simp)))
    have SQ' := Lib.hid (show SrcIs w27 (.slice (some a) n z) (n) ((L).flatMap sesC) 6 from SQ.out.chx C30 xnin_nil)
    have Fg3' := Lib.hid (show Blk w27 g3 (#[.slice (some a) n z, .int .i64 la]) 44 from C30.blk Fg3.out nin_nil)
    have Fg11' := Lib.hid (show Blk w27 g11 (#[.slice none 0 0, .int .i64 0]) 44 from C30.blk Fg11.out nin_nil)
    clear C0 SQ Fg3 Fg11
    have C0 := C0'; clear C0'
    have SQ := SQ'; clear SQ'
    have Fg3 := Fg3'; clear Fg3'
    have Fg11 := Fg11'; clear Fg11'
    have Fg26 := Lib.hid (show Blk w27 g26 (#[.int .i64 0, .int .i64 0, .int .i64 0, .bool false, .string ⟨#[]⟩, .string ⟨#[]⟩]) 49 from B29); clear B29 C30
    refine hK25 _ _ ?_; clear hK25 K25
    (try simp only [zP, zN, zA, zB, zC])
    refine ef_ (fun K33 hK33 => ?_)
    refine e_storeN (cells := #[.int .i64 s.id, .int .i64 s.box, .int .i64 s.ctr, .bool false, .string (str s.qi), .string (str s.qo)]) (by rfl) rfl rfl (by rfl) (by rfl) Fg26.out (by kernel_rfl) (by rfl) (ones_cons rfl (ones_cons rfl (ones_cons rfl (ones_cons rfl (ones_cons rfl (ones_cons rfl ones_nil)))))) ?_
    rintro w34 B35 C36
    have C0' := Lib.hid (show Ch [] w w34 from C0.out.trans' C36 (inw_cons (.inr nw31.out) inw_nil))
    have SQ' := Lib.hid (show SrcIs w34 (.slice (some a) n z) (n) ((L).flatMap sesC) 6 from SQ.out.chx C36 (xnin_cons nx32.out xnin_nil))
    have Fg3' := Lib.hid (show Blk w34 g3 (#[.slice (some a) n z, .int .i64 la]) 44 from C36.blk Fg3.out (nin_cons (Blk.ne_type Fg3.out Fg26.out (by decide)) nin_nil))
    have Fg11' := Lib.hid (show Blk w34 g11 (#[.slice none 0 0, .int .i64 0]) 44 from C36.blk Fg11.out (nin_cons (Blk.ne_type Fg11.out Fg26.out (by decide)) nin_nil))
    clear C0 SQ Fg3 Fg11
    have C0 := C0'; clear C0'
    have SQ := SQ'; clear SQ'
    have Fg3 := Fg3'; clear Fg3'
    have Fg11 := Fg11'; clear Fg11'
    clear Fg26; have Fg26 := Lib.hid (show Blk w34 g26 (#[.int .i64 s.id, .int .i64 s.box, .int .i64 s.ctr, .bool false, .string (str s.qi), .string (str s.qo)]) 49 from B35); clear B35 C36
    refine hK33 _ _ ?_; clear hK33 K33
    (try simp only [zP, zN, zA, zB, zC])
    refine nl_ (hK24 _ _ ?_); clear hK24 K24
    refine sq_ (fun K37 hK37 => ?_)
    refine s_ (fun K38 hK38 => ?_)
    refine pu_ (v := .pointer (some ⟨g26, 3, none⟩)) (y_run (by rfl) (fun W => by go_simp)) ?_
    (try simp only [zP, zN, zA, zB, zC])
    refine ld_ (v := .bool false) rfl (by rfl) (by rfl) (run_load_one ((Fg26.out.cell 3).trans rfl) Tryd.underlying4 rfl) ?_
    (try simp only [zP, zN, zA, zB, zC])
    refine pu_ (v := .bool true) (y_run (by rfl) (fun W => by go_simp)) ?_
    (try simp only [zP, zN, zA, zB, zC])
    refine nl_ (hK38 _ _ ?_); clear hK38 K38
    refine wp_cond_true rfl ?_
    refine s_ (fun K39 hK39 => ?_)
    refine ld_ (v := .agg (#[.slice (some a) n z, .int .i64 la])) rfl (by rfl) (by rfl) (run_loadVar_row _ _ 44 44 (#[.slice (some a) n z, .int .i64 la]) (0, 0) _ Fg3.out Tryd.underlying44 rfl (by kernel_rfl)) ?_
    (try simp only [zP, zN, zA, zB, zC])
    refine ef_ (fun K40 hK40 => ?_)
    refine e_storeN (cells := (#[.slice (some a) n z, .int .i64 la])) (by rfl) rfl rfl (by rfl) (by rfl) Fg11.out (by kernel_rfl) (by rfl) (ones_cons rfl (ones_cons rfl ones_nil)) ?_
    rintro w41 B42 C43
    have C0' := Lib.hid (show Ch [] w w41 from C0.out.trans' C43 (inw_cons (.inr nw16.out) inw_nil))
    have SQ' := Lib.hid (show SrcIs w41 (.slice (some a) n z) (n) ((L).flatMap sesC) 6 from SQ.out.chx C43 (xnin_cons nx17.out xnin_nil))
    have Fg3' := Lib.hid (show Blk w41 g3 (#[.slice (some a) n z, .int .i64 la]) 44 from C43.blk Fg3.out (nin_cons ne18.out nin_nil))
    have Fg26' := Lib.hid (show Blk w41 g26 (#[.int .i64 s.id, .int .i64 s.box, .int .i64 s.ctr, .bool false, .string (str s.qi), .string (str s.qo)]) 49 from C43.blk Fg26.out (nin_cons (Blk.ne_type Fg26.out Fg11.out (by decide)) nin_nil))
    clear C0 SQ Fg3 Fg26
    have C0 := C0'; clear C0'
    have SQ := SQ'; clear SQ'
    have Fg3 := Fg3'; clear Fg3'
    have Fg26 := Fg26'; clear Fg26'
    clear Fg11; have Fg11 := Lib.hid (show Blk w41 g11 ((#[.slice (some a) n z, .int .i64 la])) 44 from B42); clear B42 C43
    refine hK40 _ _ ?_; clear hK40 K40
    (try simp only [zP, zN, zA, zB, zC])
    refine pu_ (v := .int .i64 0) (y_assign rfl (by rfl) (by rfl)) ?_
    (try simp only [zP, zN, zA, zB, zC])
    refine pu_ (v := .int .i64 400) (y_assign rfl (by rfl) (by rfl)) ?_
    (try simp only [zP, zN, zA, zB, zC])
    refine nl_ (hK39 _ _ ?_); clear hK39 K39
    refine wp_ret ?_
    refine th_ret ?_
    refine hQ _ _ _ ?_
    refine bodyPost_ret (res3 rfl (rdv_cell (by rfl) (run_loadVar_row _ _ 44 44 ((#[.slice (some a) n z, .int .i64 la])) (0, 0) _ Fg11.out Tryd.underlying44 rfl (by kernel_rfl))) (rdv_tmp (v := .int .i64 0) (by rfl)) (rdv_tmp (v := .int .i64 400) (by rfl))) rfl ?_
    exact ⟨rfl, C0.out⟩
theorem rwrite_ok {Aq : Option Addr} {n z : Nat} {la : Int} {L : List HS} (HNL : Hid (L.length = n)) (HN : Hid (n ≤ 100)) {id : Int} {j : Nat} {s : HS} (HF : Hid (fx id L = some j)) (HS_ : Hid (L[j]? = some s)) (HOP : Hid (s.op = true)) {t : ByteArray} (HQ : Hid (s.qi.length ≤ 64)) (SQ : Hid (SrcIs w (.slice Aq n z) (n) ((L).flatMap sesC) 6)) :
    Calls Tryd.prog 34 #[.agg #[.slice Aq n z, .int .i64 la], .int .i64 id, .string t] w fun en w' => ∃ Q' z', en = .returned (.tuple #[.agg #[.slice Q' n z', .int .i64 la], .int .i64 (min t.size (room s.qi false) : Nat), .int .i64 0]) ∧ NewQ w w' n (L.set j (⟨s.id, s.box, s.ctr, true, s.qi ++ t.data.toList.take (min t.size (room s.qi false)), s.qo⟩ : HS)) Q' z' ∧ Ch [] w w' := by
  have C0 := Lib.hid (Ch.refl [] w)
  have HFI := Lib.hid (show fxI id L = j by unfold fxI; rw [HF.out])
  have HJ := Lib.hid (show j < n by have := (List.getElem?_eq_some_iff.1 HS_.out).1; have := HNL.out; omega)
  have DJ := Lib.hid (show (j : Int) < (n : Int) by have := HJ.out; omega)
  have DZ := Lib.hid (show ¬ (j : Int) < 0 by omega)
  obtain ⟨m, hm⟩ : ∃ m, m = min t.size (room s.qi false) := ⟨_, rfl⟩
  have HM := Lib.hid hm
  clear hm
  have HQS := Lib.hid (show (str s.qi).size = s.qi.length from str_size _)
  have D32 := Lib.hid (show IntKind.i64.wrap (64 - ((str s.qi).size : Int)) = 64 - ((str s.qi).size : Int) by rw [wr64 (by have := HQS.out; have := HQ.out; omega)])
  have HFW := Lib.hid (show fewI (t.size : Int) (64 - ((str s.qi).size : Int)) = (m : Int) by unfold fewI; have h1 := HM.out; have h2 := HQS.out; unfold room at h1; simp only [Bool.false_eq_true, if_false] at h1; have := HQ.out; omega)
  have D38 := Lib.hid (show (m : Int) ≤ (t.size : Int) by have := HM.out; omega)
  have D39 := Lib.hid (show (str s.qi).size + min m t.size ≤ 9223372036854775807 by have h1 := HM.out; have := HQS.out; have := HQ.out; have h3 : room s.qi false ≤ 64 := by { unfold room; simp only [Bool.false_eq_true, if_false]; omega }; omega)
  have E39 := Lib.hid (show str s.qi ++ t.extract 0 m = str (s.qi ++ t.data.toList.take (min t.size (room s.qi false))) by rw [← str_append, ← HM.out, ← ext_list, str_bytes])
  go_enter Tryd.func34, Tryd.ntmps34
  refine q_ (fun Q hQ hP => ?_)
  refine s_ (fun K1 hK1 => ?_)
  refine ef_ (fun K2 hK2 => ?_)
  refine e_boxN (by rfl) rfl rfl (cs := #[.slice Aq n z, .int .i64 la]) (v := .agg #[.slice Aq n z, .int .i64 la]) (by rfl) rfl ?_
  rintro g3 w4 HG5 B6 C7
  have nw8 := Lib.hid (show w.heap.size ≤ g3 by have := C0.out.size; have := HG5.out; omega)
  have nx9 := Lib.hid (SQ.out.ne_new (by decide) HG5)
  have C0' := Lib.hid (show Ch [] w w4 from C0.out.trans' C7 (fun x hx => absurd hx (by simp)))
  have SQ' := Lib.hid (show SrcIs w4 (.slice Aq n z) (n) ((L).flatMap sesC) 6 from SQ.out.chx C7 xnin_nil)
  clear C0 SQ
  have C0 := C0'; clear C0'
  have SQ := SQ'; clear SQ'
  have Fg3 := Lib.hid (show Blk w4 g3 (#[.slice Aq n z, .int .i64 la]) 44 from B6); clear B6 C7
  refine hK2 _ _ ?_; clear hK2 K2
  (try simp only [zP, zN, zA, zB, zC])
  refine ef_ (fun K10 hK10 => ?_)
  refine e_alloc (by rfl) rfl rfl (cs := #[.slice none 0 0, .int .i64 0]) (by kernel_rfl) ?_
  rintro g11 w12 HG13 B14 C15
  have nw16 := Lib.hid (show w.heap.size ≤ g11 by have := C0.out.size; have := HG13.out; omega)
  have nx17 := Lib.hid (SQ.out.ne_new (by decide) HG13)
  have ne18 := Lib.hid (Fg3.out.ne_new HG13)
  have C0' := Lib.hid (show Ch [] w w12 from C0.out.trans' C15 (fun x hx => absurd hx (by simp)))
  have SQ' := Lib.hid (show SrcIs w12 (.slice Aq n z) (n) ((L).flatMap sesC) 6 from SQ.out.chx C15 xnin_nil)
  have Fg3' := Lib.hid (show Blk w12 g3 (#[.slice Aq n z, .int .i64 la]) 44 from C15.blk Fg3.out nin_nil)
  clear C0 SQ Fg3
  have C0 := C0'; clear C0'
  have SQ := SQ'; clear SQ'
  have Fg3 := Fg3'; clear Fg3'
  have Fg11 := Lib.hid (show Blk w12 g11 (#[.slice none 0 0, .int .i64 0]) 44 from B14); clear B14 C15
  refine hK10 _ _ ?_; clear hK10 K10
  (try simp only [zP, zN, zA, zB, zC])
  refine pu_ (v := .int .i64 0) (y_assign rfl (by rfl) (by rfl)) ?_
  (try simp only [zP, zN, zA, zB, zC])
  refine pu_ (v := .int .i64 0) (y_assign rfl (by rfl) (by rfl)) ?_
  (try simp only [zP, zN, zA, zB, zC])
  refine nl_ (hK1 _ _ ?_); clear hK1 K1
  refine s_ (fun K19 hK19 => ?_)
  refine ld_ (v := .agg (#[.slice Aq n z, .int .i64 la])) rfl (by rfl) (by rfl) (run_loadVar_row _ _ 44 44 (#[.slice Aq n z, .int .i64 la]) (0, 0) _ Fg3.out Tryd.underlying44 rfl (by kernel_rfl)) ?_
  (try simp only [zP, zN, zA, zB, zC])
  refine pu_ (v := .int .i64 id) (y_move rfl (by rfl) (by rfl)) ?_
  (try simp only [zP, zN, zA, zB, zC])
  refine ef_ (fun K20 hK20 => ?_)
  refine e_call Tryd.func18 (by kernel_rfl) rfl #[.agg (#[.slice Aq n z, .int .i64 la]), .int .i64 id] (by rfl) rfl rfl (by first | rfl | (simp only [List.map_toArray, List.map_cons, List.map_nil]; first | done | rfl)) ((by have h9 := rindex_ (id := id) (la := la) HNL HN SQ; rw [HFI.out] at h9; exact h9)) ?_
  rintro en w21 ⟨rfl, cc⟩
  refine ⟨_, rfl, ?_⟩
  have C0' := Lib.hid (show Ch [] w w21 from C0.out.trans' cc (fun x hx => absurd hx (by simp)))
  have SQ' := Lib.hid (show SrcIs w21 (.slice Aq n z) (n) ((L).flatMap sesC) 6 from SQ.out.chx cc xnin_nil)
  have Fg3' := Lib.hid (show Blk w21 g3 (#[.slice Aq n z, .int .i64 la]) 44 from cc.blk Fg3.out nin_nil)
  have Fg11' := Lib.hid (show Blk w21 g11 (#[.slice none 0 0, .int .i64 0]) 44 from cc.blk Fg11.out nin_nil)
  clear C0 SQ Fg3 Fg11
  have C0 := C0'; clear C0'
  have SQ := SQ'; clear SQ'
  have Fg3 := Fg3'; clear Fg3'
  have Fg11 := Fg11'; clear Fg11'
  clear cc
  refine hK20 _ _ ?_; clear hK20 K20
  (try simp only [zP, zN, zA, zB, zC])
  refine pu_ (v := .int .i64 j) (y_assign rfl (by rfl) (by rfl)) ?_
  (try simp only [zP, zN, zA, zB, zC])
  refine nl_ (hK19 _ _ ?_); clear hK19 K19
  refine sq_ (fun K22 hK22 => ?_)
  refine s_ (fun K23 hK23 => ?_)
  refine pu_ (v := .int .i64 j) (y_move rfl (by rfl) (by rfl)) ?_
  (try simp only [zP, zN, zA, zB, zC])
  refine pu_ (v := .bool false) (y_run (by rfl) (fun W => by have d := DZ.out; go_simp)) ?_
  (try simp only [zP, zN, zA, zB, zC])
  refine nl_ (hK23 _ _ ?_); clear hK23 K23
  refine wp_cond_false rfl ?_
  refine wp_skip ?_
  refine th_norm (hK22 _ _ ?_); try clear hK22 K22
  skip
  · obtain ⟨a, hsm_a⟩ := src_some SQ.out (by have := HJ.out; omega)
    subst hsm_a
    refine s_ (fun K24 hK24 => ?_)
    refine pu_ (v := .pointer (some ⟨g3, 0, none⟩)) (y_run (by rfl) (fun W => by go_simp)) ?_
    (try simp only [zP, zN, zA, zB, zC])
    refine ld_ (v := .slice (some a) n z) rfl (by rfl) (by rfl) (run_load_one ((Fg3.out.cell 0).trans rfl) Tryd.underlying42 rfl) ?_
    (try simp only [zP, zN, zA, zB, zC])
    refine pu_ (v := .int .i64 j) (y_move rfl (by rfl) (by rfl)) ?_
    (try simp only [zP, zN, zA, zB, zC])
    refine pu_ (v := .pointer (some (a.add (j * 6)))) (y_run (by rfl) (fun W => by have d := DJ.out; go_simp)) ?_
    (try simp only [zP, zN, zA, zB, zC])
    refine ld_ (v := .agg #[.int .i64 s.id, .int .i64 s.box, .int .i64 s.ctr, .bool true, .string (str s.qi), .string (str s.qo)]) rfl (by rfl) (by rfl) (run_loadVar_at (cs := [.int .i64 s.id, .int .i64 s.box, .int .i64 s.ctr, .bool true, .string (str s.qi), .string (str s.qo)]) (src_ses SQ.out HS_.out HOP.out) Tryd.underlying49 rfl (by kernel_rfl)) ?_
    (try simp only [zP, zN, zA, zB, zC])
    refine ef_ (fun K25 hK25 => ?_)
    refine e_alloc (by rfl) rfl rfl (cs := #[.int .i64 0, .int .i64 0, .int .i64 0, .bool false, .string ⟨#[]⟩, .string ⟨#[]⟩]) (by kernel_rfl) ?_
    rintro g26 w27 HG28 B29 C30
    have nw31 := Lib.hid (show w.heap.size ≤ g26 by have := C0.out.size; have := HG28.out; omega)
    have nx32 := Lib.hid (SQ.out.ne_new (by decide) HG28)
    have C0' := Lib.hid (show Ch [] w w27 from C0.out.trans' C30 (fun x hx => absurd hx (by simp)))
    have SQ' := Lib.hid (show SrcIs w27 (.slice (some a) n z) (n) ((L).flatMap sesC) 6 from SQ.out.chx C30 xnin_nil)
    have Fg3' := Lib.hid (show Blk w27 g3 (#[.slice (some a) n z, .int .i64 la]) 44 from C30.blk Fg3.out nin_nil)
    have Fg11' := Lib.hid (show Blk w27 g11 (#[.slice none 0 0, .int .i64 0]) 44 from C30.blk Fg11.out nin_nil)
    clear C0 SQ Fg3 Fg11
    have C0 := C0'; clear C0'
    have SQ := SQ'; clear SQ'
    have Fg3 := Fg3'; clear Fg3'
    have Fg11 := Fg11'; clear Fg11'
    have Fg26 := Lib.hid (show Blk w27 g26 (#[.int .i64 0, .int .i64 0, .int .i64 0, .bool false, .string ⟨#[]⟩, .string ⟨#[]⟩]) 49 from B29); clear B29 C30
    refine hK25 _ _ ?_; clear hK25 K25
    (try simp only [zP, zN, zA, zB, zC])
    refine ef_ (fun K33 hK33 => ?_)
    refine e_storeN (cells := #[.int .i64 s.id, .int .i64 s.box, .int .i64 s.ctr, .bool true, .string (str s.qi), .string (str s.qo)]) (by rfl) rfl rfl (by rfl) (by rfl) Fg26.out (by kernel_rfl) (by rfl) (ones_cons rfl (ones_cons rfl (ones_cons rfl (ones_cons rfl (ones_cons rfl (ones_cons rfl ones_nil)))))) ?_
    rintro w34 B35 C36
    have C0' := Lib.hid (show Ch [] w w34 from C0.out.trans' C36 (inw_cons (.inr nw31.out) inw_nil))
    have SQ' := Lib.hid (show SrcIs w34 (.slice (some a) n z) (n) ((L).flatMap sesC) 6 from SQ.out.chx C36 (xnin_cons nx32.out xnin_nil))
    have Fg3' := Lib.hid (show Blk w34 g3 (#[.slice (some a) n z, .int .i64 la]) 44 from C36.blk Fg3.out (nin_cons (Blk.ne_type Fg3.out Fg26.out (by decide)) nin_nil))
    have Fg11' := Lib.hid (show Blk w34 g11 (#[.slice none 0 0, .int .i64 0]) 44 from C36.blk Fg11.out (nin_cons (Blk.ne_type Fg11.out Fg26.out (by decide)) nin_nil))
    clear C0 SQ Fg3 Fg11
    have C0 := C0'; clear C0'
    have SQ := SQ'; clear SQ'
    have Fg3 := Fg3'; clear Fg3'
    have Fg11 := Fg11'; clear Fg11'
    clear Fg26; have Fg26 := Lib.hid (show Blk w34 g26 (#[.int .i64 s.id, .int .i64 s.box, .int .i64 s.ctr, .bool true, .string (str s.qi), .string (str s.qo)]) 49 from B35); clear B35 C36
    refine hK33 _ _ ?_; clear hK33 K33
    (try simp only [zP, zN, zA, zB, zC])
    refine nl_ (hK24 _ _ ?_); clear hK24 K24
    refine sq_ (fun K37 hK37 => ?_)
    refine s_ (fun K38 hK38 => ?_)
    refine pu_ (v := .pointer (some ⟨g26, 3, none⟩)) (y_run (by rfl) (fun W => by go_simp)) ?_
    (try simp only [zP, zN, zA, zB, zC])
    refine ld_ (v := .bool true) rfl (by rfl) (by rfl) (run_load_one ((Fg26.out.cell 3).trans rfl) Tryd.underlying4 rfl) ?_
    (try simp only [zP, zN, zA, zB, zC])
    refine pu_ (v := .bool false) (y_run (by rfl) (fun W => by go_simp)) ?_
    (try simp only [zP, zN, zA, zB, zC])
    refine nl_ (hK38 _ _ ?_); clear hK38 K38
    refine wp_cond_false rfl ?_
    refine wp_skip ?_
    refine th_norm (hK37 _ _ ?_); try clear hK37 K37
    skip
    · refine s_ (fun K39 hK39 => ?_)
      refine pu_ (v := .string t) (y_move rfl (by rfl) (by rfl)) ?_
      (try simp only [zP, zN, zA, zB, zC])
      refine pu_ (v := .int .i64 t.size) (y_run (by rfl) (fun W => by go_simp)) ?_
      (try simp only [zP, zN, zA, zB, zC])
      refine pu_ (v := .pointer (some ⟨g26, 4, none⟩)) (y_run (by rfl) (fun W => by go_simp)) ?_
      (try simp only [zP, zN, zA, zB, zC])
      refine ld_ (v := .string (str s.qi)) rfl (by rfl) (by rfl) (run_load_one ((Fg26.out.cell 4).trans rfl) Tryd.underlying9 rfl) ?_
      (try simp only [zP, zN, zA, zB, zC])
      refine pu_ (v := .int .i64 (str s.qi).size) (y_run (by rfl) (fun W => by go_simp)) ?_
      (try simp only [zP, zN, zA, zB, zC])
      refine pu_ (v := .int .i64 (64 - ((str s.qi).size : Int))) (y_run (by rfl) (fun W => by have d := D32.out; go_simp)) ?_
      (try simp only [zP, zN, zA, zB, zC])
      refine ef_ (fun K40 hK40 => ?_)
      refine e_call Tryd.func45 (by kernel_rfl) rfl #[.int .i64 t.size, .int .i64 (64 - ((str s.qi).size : Int))] (by rfl) rfl rfl (by first | rfl | (simp only [List.map_toArray, List.map_cons, List.map_nil]; first | done | rfl)) ((by have h9 := few_ (w := w34) (t.size : Int) (64 - ((str s.qi).size : Int)); rw [HFW.out] at h9; exact h9)) ?_
      rintro en w42 ⟨rfl, cc41⟩
      refine ⟨_, rfl, ?_⟩
      have C0' := Lib.hid (show Ch [] w w42 from C0.out.trans' cc41 (fun x hx => absurd hx (by simp)))
      have SQ' := Lib.hid (show SrcIs w42 (.slice (some a) n z) (n) ((L).flatMap sesC) 6 from SQ.out.chx cc41 xnin_nil)
      have Fg3' := Lib.hid (show Blk w42 g3 (#[.slice (some a) n z, .int .i64 la]) 44 from cc41.blk Fg3.out nin_nil)
      have Fg11' := Lib.hid (show Blk w42 g11 (#[.slice none 0 0, .int .i64 0]) 44 from cc41.blk Fg11.out nin_nil)
      have Fg26' := Lib.hid (show Blk w42 g26 (#[.int .i64 s.id, .int .i64 s.box, .int .i64 s.ctr, .bool true, .string (str s.qi), .string (str s.qo)]) 49 from cc41.blk Fg26.out nin_nil)
      clear C0 SQ Fg3 Fg11 Fg26
      have C0 := C0'; clear C0'
      have SQ := SQ'; clear SQ'
      have Fg3 := Fg3'; clear Fg3'
      have Fg11 := Fg11'; clear Fg11'
      have Fg26 := Fg26'; clear Fg26'
      clear cc41
      refine hK40 _ _ ?_; clear hK40 K40
      (try simp only [zP, zN, zA, zB, zC])
      refine pu_ (v := .int .i64 m) (y_assign rfl (by rfl) (by rfl)) ?_
      (try simp only [zP, zN, zA, zB, zC])
      refine nl_ (hK39 _ _ ?_); clear hK39 K39
      refine sq_ (fun K43 hK43 => ?_)
      refine startk_ (S := fun W => Blk W g26 (#[.int .i64 s.id, .int .i64 s.box, .int .i64 s.ctr, .bool true, .string (str s.qi), .string (str s.qo)]) 49 ∧ True) (ds := [7]) #[false, false, false, false, false, false, false, false] (by kernel_rfl) rfl rfl (fun W c => ⟨c.blk Fg26.out nin_nil, trivial⟩) (fun w44 C45 hS46 => ?_)
      have C0' := Lib.hid (show Ch [] w w44 from C0.out.trans' C45 (fun x hx => absurd hx (by simp)))
      have SQ' := Lib.hid (show SrcIs w44 (.slice (some a) n z) (n) ((L).flatMap sesC) 6 from SQ.out.chx C45 xnin_nil)
      have Fg3' := Lib.hid (show Blk w44 g3 (#[.slice (some a) n z, .int .i64 la]) 44 from C45.blk Fg3.out nin_nil)
      have Fg11' := Lib.hid (show Blk w44 g11 (#[.slice none 0 0, .int .i64 0]) 44 from C45.blk Fg11.out nin_nil)
      have Fg26' := Lib.hid (show Blk w44 g26 (#[.int .i64 s.id, .int .i64 s.box, .int .i64 s.ctr, .bool true, .string (str s.qi), .string (str s.qo)]) 49 from C45.blk Fg26.out nin_nil)
      clear C0 SQ Fg3 Fg11 Fg26
      have C0 := C0'; clear C0'
      have SQ := SQ'; clear SQ'
      have Fg3 := Fg3'; clear Fg3'
      have Fg11 := Fg11'; clear Fg11'
      have Fg26 := Fg26'; clear Fg26'
      clear C45
      refine pure_ (i := 0) (N := some 34) (v := .pointer (some ⟨g26, 4, none⟩)) #[true, false, false, false, false, false, false, false] rfl rfl (by kernel_rfl) (fun c a w h => hP c a _ _ w h) (y_run (by rfl) (fun W => by go_simp)) rfl ?_
      (try simp only [zP, zN, zA, zB, zC])
      refine take_ (i := 1) (N := some 35) (v := .string (str s.qi)) #[true, true, false, false, false, false, false, false] rfl rfl (by kernel_rfl) (fun c a w h => hP c a _ _ w h) (y_load (p := ⟨g26, 4, none⟩) rfl (by rfl) (by rfl) (fun W hS => run_load_one ((hS.1.cell 4).trans rfl) Tryd.underlying9 rfl)) hS46 rfl ?_
      (try simp only [zP, zN, zA, zB, zC])
      refine pure_ (i := 2) (N := some 36) (v := .string t) #[true, true, true, false, false, false, false, false] rfl rfl (by kernel_rfl) (fun c a w h => hP c a _ _ w h) (y_move rfl (by rfl) (by rfl)) rfl ?_
      (try simp only [zP, zN, zA, zB, zC])
      refine pure_ (i := 3) (N := some 37) (v := .int .i64 m) #[true, true, true, true, false, false, false, false] rfl rfl (by kernel_rfl) (fun c a w h => hP c a _ _ w h) (y_move rfl (by rfl) (by rfl)) rfl ?_
      (try simp only [zP, zN, zA, zB, zC])
      refine pure_ (i := 4) (N := some 38) (v := .string (t.extract 0 m)) #[true, true, true, true, true, false, false, false] rfl rfl (by kernel_rfl) (fun c a w h => hP c a _ _ w h) (y_run (by rfl) (fun W => by have d := D38.out; go_simp)) rfl ?_
      (try simp only [zP, zN, zA, zB, zC])
      refine pure_ (i := 5) (N := some 39) (v := .string (str (s.qi ++ t.data.toList.take (min t.size (room s.qi false))))) #[true, true, true, true, true, true, false, false] rfl rfl (by kernel_rfl) (fun c a w h => hP c a _ _ w h) (y_run (by rfl) (fun W => by rw [← E39.out]; have d := D39.out; go_simp)) rfl ?_
      (try simp only [zP, zN, zA, zB, zC])
      refine pure_ (i := 6) (N := some 40) (v := .pointer (some ⟨g26, 4, none⟩)) #[true, true, true, true, true, true, true, false] rfl rfl (by kernel_rfl) (fun c a w h => hP c a _ _ w h) (y_run (by rfl) (fun W => by go_simp)) rfl ?_
      (try simp only [zP, zN, zA, zB, zC])
      refine last_ (i := 7) (N := none) #[true, true, true, true, true, true, true, true] rfl rfl (by kernel_rfl) (by simp) (fun K47 hK47 => ?_)
      refine e_store1 (b := g26) (j := 4) (v := .string (str (s.qi ++ t.data.toList.take (min t.size (room s.qi false))))) (by rfl) rfl rfl (by rfl) (by rfl) Fg26.out (show 4 < 6 by omega) (by kernel_rfl) rfl ?_
      rintro w48 B49 C50
      have C0' := Lib.hid (show Ch [] w w48 from C0.out.trans' C50 (inw_cons (.inr nw31.out) inw_nil))
      have SQ' := Lib.hid (show SrcIs w48 (.slice (some a) n z) (n) ((L).flatMap sesC) 6 from SQ.out.chx C50 (xnin_cons nx32.out xnin_nil))
      have Fg3' := Lib.hid (show Blk w48 g3 (#[.slice (some a) n z, .int .i64 la]) 44 from C50.blk Fg3.out (nin_cons (Blk.ne_type Fg3.out Fg26.out (by decide)) nin_nil))
      have Fg11' := Lib.hid (show Blk w48 g11 (#[.slice none 0 0, .int .i64 0]) 44 from C50.blk Fg11.out (nin_cons (Blk.ne_type Fg11.out Fg26.out (by decide)) nin_nil))
      clear C0 SQ Fg3 Fg11
      have C0 := C0'; clear C0'
      have SQ := SQ'; clear SQ'
      have Fg3 := Fg3'; clear Fg3'
      have Fg11 := Fg11'; clear Fg11'
      clear Fg26; have Fg26 := Lib.hid (show Blk w48 g26 (#[.int .i64 s.id, .int .i64 s.box, .int .i64 s.ctr, .bool true, .string (str (s.qi ++ t.data.toList.take (min t.size (room s.qi false)))), .string (str s.qo)]) 49 from B49); clear B49 C50
      refine hK47.out _ _ ?_; clear hK47 K47
      (try simp only [zP, zN, zA, zB, zC])
      refine done_ (by kernel_rfl) (th_norm (hK43 _ _ ?_)); clear hK43 K43
      refine s_ (fun K51 hK51 => ?_)
      refine ld_ (v := .agg (#[.slice (some a) n z, .int .i64 la])) rfl (by rfl) (by rfl) (run_loadVar_row _ _ 44 44 (#[.slice (some a) n z, .int .i64 la]) (0, 0) _ Fg3.out Tryd.underlying44 rfl (by kernel_rfl)) ?_
      (try simp only [zP, zN, zA, zB, zC])
      refine pu_ (v := .int .i64 j) (y_move rfl (by rfl) (by rfl)) ?_
      (try simp only [zP, zN, zA, zB, zC])
      refine ld_ (v := .agg (#[.int .i64 s.id, .int .i64 s.box, .int .i64 s.ctr, .bool true, .string (str (s.qi ++ t.data.toList.take (min t.size (room s.qi false)))), .string (str s.qo)])) rfl (by rfl) (by rfl) (run_loadVar_row _ _ 49 49 (#[.int .i64 s.id, .int .i64 s.box, .int .i64 s.ctr, .bool true, .string (str (s.qi ++ t.data.toList.take (min t.size (room s.qi false)))), .string (str s.qo)]) (0, 0) _ Fg26.out Tryd.underlying49 rfl (by kernel_rfl)) ?_
      (try simp only [zP, zN, zA, zB, zC])
      refine ef_ (fun K52 hK52 => ?_)
      have HSE := Lib.hid HS_.out
      refine e_call Tryd.func46 (by kernel_rfl) rfl #[.agg (#[.slice (some a) n z, .int .i64 la]), .int .i64 j, .agg (#[.int .i64 s.id, .int .i64 s.box, .int .i64 s.ctr, .bool true, .string (str (s.qi ++ t.data.toList.take (min t.size (room s.qi false)))), .string (str s.qo)])] (by rfl) rfl rfl (by first | rfl | (simp only [List.map_toArray, List.map_cons, List.map_nil]; first | done | rfl)) ((with_ (la := la) (j := j) (s := (⟨s.id, s.box, s.ctr, true, s.qi ++ t.data.toList.take (min t.size (room s.qi false)), s.qo⟩ : HS)) HNL HN HS_ SQ)) ?_
      rintro en w59 ⟨A57, z58, rfl, ⟨h154, h255, h456⟩, cc53⟩
      refine ⟨_, rfl, ?_⟩
      have nx60 := Lib.hid (show g3 ∉ xb (.slice A57 n z58) from fun hk => by have := h456 _ hk; have := Fg3.out.lt; omega)
      have nx61 := Lib.hid (show g11 ∉ xb (.slice A57 n z58) from fun hk => by have := h456 _ hk; have := Fg11.out.lt; omega)
      have nx62 := Lib.hid (show g26 ∉ xb (.slice A57 n z58) from fun hk => by have := h456 _ hk; have := Fg26.out.lt; omega)
      have H4_A57 := Lib.hid (show ∀ k, k ∈ xb (.slice A57 n z58) → w.heap.size ≤ k from fun k hk => Nat.le_trans C0.out.size (h456 k hk)); clear h456
      have H2_A57 := Lib.hid h255; clear h255
      have C0' := Lib.hid (show Ch [] w w59 from C0.out.trans' cc53 (fun x hx => absurd hx (by simp)))
      have SQ' := Lib.hid (show SrcIs w59 (.slice (some a) n z) (n) ((L).flatMap sesC) 6 from SQ.out.chx cc53 xnin_nil)
      have Fg3' := Lib.hid (show Blk w59 g3 (#[.slice (some a) n z, .int .i64 la]) 44 from cc53.blk Fg3.out nin_nil)
      have Fg11' := Lib.hid (show Blk w59 g11 (#[.slice none 0 0, .int .i64 0]) 44 from cc53.blk Fg11.out nin_nil)
      have Fg26' := Lib.hid (show Blk w59 g26 (#[.int .i64 s.id, .int .i64 s.box, .int .i64 s.ctr, .bool true, .string (str (s.qi ++ t.data.toList.take (min t.size (room s.qi false)))), .string (str s.qo)]) 49 from cc53.blk Fg26.out nin_nil)
      clear C0 SQ Fg3 Fg11 Fg26
      have C0 := C0'; clear C0'
      have SQ := SQ'; clear SQ'
      have Fg3 := Fg3'; clear Fg3'
      have Fg11 := Fg11'; clear Fg11'
      have Fg26 := Fg26'; clear Fg26'
      clear cc53
      have SN := Lib.hid (show SrcIs w59 (.slice A57 n z58) (n) ((L.set j (⟨s.id, s.box, s.ctr, true, s.qi ++ t.data.toList.take (min t.size (room s.qi false)), s.qo⟩ : HS)).flatMap sesC) 6 from h154)
      refine hK52 _ _ ?_; clear hK52 K52
      (try simp only [zP, zN, zA, zB, zC])
      refine pu_ (v := .int .i64 m) (y_move rfl (by rfl) (by rfl)) ?_
      (try simp only [zP, zN, zA, zB, zC])
      refine ef_ (fun K63 hK63 => ?_)
      refine e_storeN (cells := #[.slice A57 n z58, .int .i64 la]) (by rfl) rfl rfl (by rfl) (by rfl) Fg11.out (by kernel_rfl) (by rfl) (ones_cons rfl (ones_cons rfl ones_nil)) ?_
      rintro w64 B65 C66
      have C0' := Lib.hid (show Ch [] w w64 from C0.out.trans' C66 (inw_cons (.inr nw16.out) inw_nil))
      have SQ' := Lib.hid (show SrcIs w64 (.slice (some a) n z) (n) ((L).flatMap sesC) 6 from SQ.out.chx C66 (xnin_cons nx17.out xnin_nil))
      have Fg3' := Lib.hid (show Blk w64 g3 (#[.slice (some a) n z, .int .i64 la]) 44 from C66.blk Fg3.out (nin_cons ne18.out nin_nil))
      have Fg26' := Lib.hid (show Blk w64 g26 (#[.int .i64 s.id, .int .i64 s.box, .int .i64 s.ctr, .bool true, .string (str (s.qi ++ t.data.toList.take (min t.size (room s.qi false)))), .string (str s.qo)]) 49 from C66.blk Fg26.out (nin_cons (Blk.ne_type Fg26.out Fg11.out (by decide)) nin_nil))
      have SN' := Lib.hid (show SrcIs w64 (.slice A57 n z58) (n) ((L.set j (⟨s.id, s.box, s.ctr, true, s.qi ++ t.data.toList.take (min t.size (room s.qi false)), s.qo⟩ : HS)).flatMap sesC) 6 from SN.out.chx C66 (xnin_cons nx61.out xnin_nil))
      clear C0 SQ Fg3 Fg26 SN
      have C0 := C0'; clear C0'
      have SQ := SQ'; clear SQ'
      have Fg3 := Fg3'; clear Fg3'
      have Fg26 := Fg26'; clear Fg26'
      have SN := SN'; clear SN'
      clear Fg11; have Fg11 := Lib.hid (show Blk w64 g11 (#[.slice A57 n z58, .int .i64 la]) 44 from B65); clear B65 C66
      refine hK63 _ _ ?_; clear hK63 K63
      (try simp only [zP, zN, zA, zB, zC])
      refine pu_ (v := .int .i64 m) (y_assign rfl (by rfl) (by rfl)) ?_
      (try simp only [zP, zN, zA, zB, zC])
      refine pu_ (v := .int .i64 0) (y_assign rfl (by rfl) (by rfl)) ?_
      (try simp only [zP, zN, zA, zB, zC])
      refine nl_ (hK51 _ _ ?_); clear hK51 K51
      refine wp_ret ?_
      refine hQ _ _ _ ?_
      refine bodyPost_ret (res3 rfl (rdv_cell (by rfl) (run_loadVar_row _ _ 44 44 (#[.slice A57 n z58, .int .i64 la]) (0, 0) _ Fg11.out Tryd.underlying44 rfl (by kernel_rfl))) (rdv_tmp (v := .int .i64 m) (by rfl)) (rdv_tmp (v := .int .i64 0) (by rfl))) rfl ?_
      exact ⟨_, _, by rw [HM.out], ⟨SN.out, H2_A57.out, H4_A57.out⟩, C0.out⟩
theorem rread_none {Aq : Option Addr} {n z : Nat} {la : Int} {L : List HS} (HNL : Hid (L.length = n)) (HN : Hid (n ≤ 100)) {id : Int} (HF : Hid (fx id L = none)) {most : Int}  (SQ : Hid (SrcIs w (.slice Aq n z) (n) ((L).flatMap sesC) 6)) :
    Calls Tryd.prog 35 #[.agg #[.slice Aq n z, .int .i64 la], .int .i64 id, .int .i64 most] w fun en w' => en = .returned (.tuple #[.agg #[.slice Aq n z, .int .i64 la], .string ⟨#[]⟩, .int .i64 6]) ∧ Ch [] w w' := by
  have C0 := Lib.hid (Ch.refl [] w)
  have HFI := Lib.hid (show fxI id L = -1 by unfold fxI; rw [HF.out])
  have DN := Lib.hid (show (-1 : Int) < 0 by omega)
  go_enter Tryd.func35, Tryd.ntmps35
  refine q_ (fun Q hQ hP => ?_)
  refine s_ (fun K1 hK1 => ?_)
  refine ef_ (fun K2 hK2 => ?_)
  refine e_boxN (by rfl) rfl rfl (cs := #[.slice Aq n z, .int .i64 la]) (v := .agg #[.slice Aq n z, .int .i64 la]) (by rfl) rfl ?_
  rintro g3 w4 HG5 B6 C7
  have nw8 := Lib.hid (show w.heap.size ≤ g3 by have := C0.out.size; have := HG5.out; omega)
  have nx9 := Lib.hid (SQ.out.ne_new (by decide) HG5)
  have C0' := Lib.hid (show Ch [] w w4 from C0.out.trans' C7 (fun x hx => absurd hx (by simp)))
  have SQ' := Lib.hid (show SrcIs w4 (.slice Aq n z) (n) ((L).flatMap sesC) 6 from SQ.out.chx C7 xnin_nil)
  clear C0 SQ
  have C0 := C0'; clear C0'
  have SQ := SQ'; clear SQ'
  have Fg3 := Lib.hid (show Blk w4 g3 (#[.slice Aq n z, .int .i64 la]) 44 from B6); clear B6 C7
  refine hK2 _ _ ?_; clear hK2 K2
  (try simp only [zP, zN, zA, zB, zC])
  refine ef_ (fun K10 hK10 => ?_)
  refine e_alloc (by rfl) rfl rfl (cs := #[.slice none 0 0, .int .i64 0]) (by kernel_rfl) ?_
  rintro g11 w12 HG13 B14 C15
  have nw16 := Lib.hid (show w.heap.size ≤ g11 by have := C0.out.size; have := HG13.out; omega)
  have nx17 := Lib.hid (SQ.out.ne_new (by decide) HG13)
  have ne18 := Lib.hid (Fg3.out.ne_new HG13)
  have C0' := Lib.hid (show Ch [] w w12 from C0.out.trans' C15 (fun x hx => absurd hx (by simp)))
  have SQ' := Lib.hid (show SrcIs w12 (.slice Aq n z) (n) ((L).flatMap sesC) 6 from SQ.out.chx C15 xnin_nil)
  have Fg3' := Lib.hid (show Blk w12 g3 (#[.slice Aq n z, .int .i64 la]) 44 from C15.blk Fg3.out nin_nil)
  clear C0 SQ Fg3
  have C0 := C0'; clear C0'
  have SQ := SQ'; clear SQ'
  have Fg3 := Fg3'; clear Fg3'
  have Fg11 := Lib.hid (show Blk w12 g11 (#[.slice none 0 0, .int .i64 0]) 44 from B14); clear B14 C15
  refine hK10 _ _ ?_; clear hK10 K10
  (try simp only [zP, zN, zA, zB, zC])
  refine pu_ (v := .string {data := #[]}) (y_assign rfl (by rfl) (by rfl)) ?_
  (try simp only [zP, zN, zA, zB, zC])
  refine pu_ (v := .int .i64 0) (y_assign rfl (by rfl) (by rfl)) ?_
  (try simp only [zP, zN, zA, zB, zC])
  refine nl_ (hK1 _ _ ?_); clear hK1 K1
  refine s_ (fun K19 hK19 => ?_)
  refine ld_ (v := .agg (#[.slice Aq n z, .int .i64 la])) rfl (by rfl) (by rfl) (run_loadVar_row _ _ 44 44 (#[.slice Aq n z, .int .i64 la]) (0, 0) _ Fg3.out Tryd.underlying44 rfl (by kernel_rfl)) ?_
  (try simp only [zP, zN, zA, zB, zC])
  refine pu_ (v := .int .i64 id) (y_move rfl (by rfl) (by rfl)) ?_
  (try simp only [zP, zN, zA, zB, zC])
  refine ef_ (fun K20 hK20 => ?_)
  refine e_call Tryd.func18 (by kernel_rfl) rfl #[.agg (#[.slice Aq n z, .int .i64 la]), .int .i64 id] (by rfl) rfl rfl (by first | rfl | (simp only [List.map_toArray, List.map_cons, List.map_nil]; first | done | rfl)) ((by have h9 := rindex_ (id := id) (la := la) HNL HN SQ; rw [HFI.out] at h9; exact h9)) ?_
  rintro en w21 ⟨rfl, cc⟩
  refine ⟨_, rfl, ?_⟩
  have C0' := Lib.hid (show Ch [] w w21 from C0.out.trans' cc (fun x hx => absurd hx (by simp)))
  have SQ' := Lib.hid (show SrcIs w21 (.slice Aq n z) (n) ((L).flatMap sesC) 6 from SQ.out.chx cc xnin_nil)
  have Fg3' := Lib.hid (show Blk w21 g3 (#[.slice Aq n z, .int .i64 la]) 44 from cc.blk Fg3.out nin_nil)
  have Fg11' := Lib.hid (show Blk w21 g11 (#[.slice none 0 0, .int .i64 0]) 44 from cc.blk Fg11.out nin_nil)
  clear C0 SQ Fg3 Fg11
  have C0 := C0'; clear C0'
  have SQ := SQ'; clear SQ'
  have Fg3 := Fg3'; clear Fg3'
  have Fg11 := Fg11'; clear Fg11'
  clear cc
  refine hK20 _ _ ?_; clear hK20 K20
  (try simp only [zP, zN, zA, zB, zC])
  refine pu_ (v := .int .i64 (-1)) (y_assign rfl (by rfl) (by rfl)) ?_
  (try simp only [zP, zN, zA, zB, zC])
  refine nl_ (hK19 _ _ ?_); clear hK19 K19
  refine sq_ (fun K22 hK22 => ?_)
  refine s_ (fun K23 hK23 => ?_)
  refine pu_ (v := .int .i64 (-1)) (y_move rfl (by rfl) (by rfl)) ?_
  (try simp only [zP, zN, zA, zB, zC])
  refine pu_ (v := .bool true) (y_run (by rfl) (fun W => by have d := DN.out; go_simp)) ?_
  (try simp only [zP, zN, zA, zB, zC])
  refine nl_ (hK23 _ _ ?_); clear hK23 K23
  refine wp_cond_true rfl ?_
  refine s_ (fun K24 hK24 => ?_)
  refine ld_ (v := .agg (#[.slice Aq n z, .int .i64 la])) rfl (by rfl) (by rfl) (run_loadVar_row _ _ 44 44 (#[.slice Aq n z, .int .i64 la]) (0, 0) _ Fg3.out Tryd.underlying44 rfl (by kernel_rfl)) ?_
  (try simp only [zP, zN, zA, zB, zC])
  refine ef_ (fun K25 hK25 => ?_)
  refine e_storeN (cells := (#[.slice Aq n z, .int .i64 la])) (by rfl) rfl rfl (by rfl) (by rfl) Fg11.out (by kernel_rfl) (by rfl) (ones_cons rfl (ones_cons rfl ones_nil)) ?_
  rintro w26 B27 C28
  have C0' := Lib.hid (show Ch [] w w26 from C0.out.trans' C28 (inw_cons (.inr nw16.out) inw_nil))
  have SQ' := Lib.hid (show SrcIs w26 (.slice Aq n z) (n) ((L).flatMap sesC) 6 from SQ.out.chx C28 (xnin_cons nx17.out xnin_nil))
  have Fg3' := Lib.hid (show Blk w26 g3 (#[.slice Aq n z, .int .i64 la]) 44 from C28.blk Fg3.out (nin_cons ne18.out nin_nil))
  clear C0 SQ Fg3
  have C0 := C0'; clear C0'
  have SQ := SQ'; clear SQ'
  have Fg3 := Fg3'; clear Fg3'
  clear Fg11; have Fg11 := Lib.hid (show Blk w26 g11 ((#[.slice Aq n z, .int .i64 la])) 44 from B27); clear B27 C28
  refine hK25 _ _ ?_; clear hK25 K25
  (try simp only [zP, zN, zA, zB, zC])
  refine pu_ (v := .string {data := #[]}) (y_assign rfl (by rfl) (by rfl)) ?_
  (try simp only [zP, zN, zA, zB, zC])
  refine pu_ (v := .int .i64 6) (y_assign rfl (by rfl) (by rfl)) ?_
  (try simp only [zP, zN, zA, zB, zC])
  refine nl_ (hK24 _ _ ?_); clear hK24 K24
  refine wp_ret ?_
  refine th_ret ?_
  refine hQ _ _ _ ?_
  refine bodyPost_ret (res3 rfl (rdv_cell (by rfl) (run_loadVar_row _ _ 44 44 ((#[.slice Aq n z, .int .i64 la])) (0, 0) _ Fg11.out Tryd.underlying44 rfl (by kernel_rfl))) (rdv_tmp (v := .string {data := #[]}) (by rfl)) (rdv_tmp (v := .int .i64 6) (by rfl))) rfl ?_
  exact ⟨rfl, C0.out⟩
theorem rread_closed {Aq : Option Addr} {n z : Nat} {la : Int} {L : List HS} (HNL : Hid (L.length = n)) (HN : Hid (n ≤ 100)) {id : Int} {j : Nat} {s : HS} (HF : Hid (fx id L = some j)) (HS_ : Hid (L[j]? = some s)) (HOP : Hid (s.op = false)) {most : Int} {m : Nat} (HM : Hid (m = rdN s.qo most)) (H0 : Hid (m = 0)) (SQ : Hid (SrcIs w (.slice Aq n z) (n) ((L).flatMap sesC) 6)) :
    Calls Tryd.prog 35 #[.agg #[.slice Aq n z, .int .i64 la], .int .i64 id, .int .i64 most] w fun en w' => en = .returned (.tuple #[.agg #[.slice Aq n z, .int .i64 la], .string ⟨#[]⟩, .int .i64 400]) ∧ Ch [] w w' := by
  have C0 := Lib.hid (Ch.refl [] w)
  have HFI := Lib.hid (show fxI id L = j by unfold fxI; rw [HF.out])
  have HJ := Lib.hid (show j < n by have := (List.getElem?_eq_some_iff.1 HS_.out).1; have := HNL.out; omega)
  have DJ := Lib.hid (show (j : Int) < (n : Int) by have := HJ.out; omega)
  have DZ := Lib.hid (show ¬ (j : Int) < 0 by omega)
  have HQS := Lib.hid (show (str s.qo).size = s.qo.length from str_size _)
  have HFW := Lib.hid (show fewI most ((str s.qo).size : Int) = (m : Int) by unfold fewI; have h1 := HM.out; have h2 := HQS.out; unfold rdN at h1; omega)
  have D30 := Lib.hid (show m = 0 from H0.out)
  go_enter Tryd.func35, Tryd.ntmps35
  refine q_ (fun Q hQ hP => ?_)
  refine s_ (fun K1 hK1 => ?_)
  refine ef_ (fun K2 hK2 => ?_)
  refine e_boxN (by rfl) rfl rfl (cs := #[.slice Aq n z, .int .i64 la]) (v := .agg #[.slice Aq n z, .int .i64 la]) (by rfl) rfl ?_
  rintro g3 w4 HG5 B6 C7
  have nw8 := Lib.hid (show w.heap.size ≤ g3 by have := C0.out.size; have := HG5.out; omega)
  have nx9 := Lib.hid (SQ.out.ne_new (by decide) HG5)
  have C0' := Lib.hid (show Ch [] w w4 from C0.out.trans' C7 (fun x hx => absurd hx (by simp)))
  have SQ' := Lib.hid (show SrcIs w4 (.slice Aq n z) (n) ((L).flatMap sesC) 6 from SQ.out.chx C7 xnin_nil)
  clear C0 SQ
  have C0 := C0'; clear C0'
  have SQ := SQ'; clear SQ'
  have Fg3 := Lib.hid (show Blk w4 g3 (#[.slice Aq n z, .int .i64 la]) 44 from B6); clear B6 C7
  refine hK2 _ _ ?_; clear hK2 K2
  (try simp only [zP, zN, zA, zB, zC])
  refine ef_ (fun K10 hK10 => ?_)
  refine e_alloc (by rfl) rfl rfl (cs := #[.slice none 0 0, .int .i64 0]) (by kernel_rfl) ?_
  rintro g11 w12 HG13 B14 C15
  have nw16 := Lib.hid (show w.heap.size ≤ g11 by have := C0.out.size; have := HG13.out; omega)
  have nx17 := Lib.hid (SQ.out.ne_new (by decide) HG13)
  have ne18 := Lib.hid (Fg3.out.ne_new HG13)
  have C0' := Lib.hid (show Ch [] w w12 from C0.out.trans' C15 (fun x hx => absurd hx (by simp)))
  have SQ' := Lib.hid (show SrcIs w12 (.slice Aq n z) (n) ((L).flatMap sesC) 6 from SQ.out.chx C15 xnin_nil)
  have Fg3' := Lib.hid (show Blk w12 g3 (#[.slice Aq n z, .int .i64 la]) 44 from C15.blk Fg3.out nin_nil)
  clear C0 SQ Fg3
  have C0 := C0'; clear C0'
  have SQ := SQ'; clear SQ'
  have Fg3 := Fg3'; clear Fg3'
  have Fg11 := Lib.hid (show Blk w12 g11 (#[.slice none 0 0, .int .i64 0]) 44 from B14); clear B14 C15
  refine hK10 _ _ ?_; clear hK10 K10
  (try simp only [zP, zN, zA, zB, zC])
  refine pu_ (v := .string {data := #[]}) (y_assign rfl (by rfl) (by rfl)) ?_
  (try simp only [zP, zN, zA, zB, zC])
  refine pu_ (v := .int .i64 0) (y_assign rfl (by rfl) (by rfl)) ?_
  (try simp only [zP, zN, zA, zB, zC])
  refine nl_ (hK1 _ _ ?_); clear hK1 K1
  refine s_ (fun K19 hK19 => ?_)
  refine ld_ (v := .agg (#[.slice Aq n z, .int .i64 la])) rfl (by rfl) (by rfl) (run_loadVar_row _ _ 44 44 (#[.slice Aq n z, .int .i64 la]) (0, 0) _ Fg3.out Tryd.underlying44 rfl (by kernel_rfl)) ?_
  (try simp only [zP, zN, zA, zB, zC])
  refine pu_ (v := .int .i64 id) (y_move rfl (by rfl) (by rfl)) ?_
  (try simp only [zP, zN, zA, zB, zC])
  refine ef_ (fun K20 hK20 => ?_)
  refine e_call Tryd.func18 (by kernel_rfl) rfl #[.agg (#[.slice Aq n z, .int .i64 la]), .int .i64 id] (by rfl) rfl rfl (by first | rfl | (simp only [List.map_toArray, List.map_cons, List.map_nil]; first | done | rfl)) ((by have h9 := rindex_ (id := id) (la := la) HNL HN SQ; rw [HFI.out] at h9; exact h9)) ?_
  rintro en w21 ⟨rfl, cc⟩
  refine ⟨_, rfl, ?_⟩
  have C0' := Lib.hid (show Ch [] w w21 from C0.out.trans' cc (fun x hx => absurd hx (by simp)))
  have SQ' := Lib.hid (show SrcIs w21 (.slice Aq n z) (n) ((L).flatMap sesC) 6 from SQ.out.chx cc xnin_nil)
  have Fg3' := Lib.hid (show Blk w21 g3 (#[.slice Aq n z, .int .i64 la]) 44 from cc.blk Fg3.out nin_nil)
  have Fg11' := Lib.hid (show Blk w21 g11 (#[.slice none 0 0, .int .i64 0]) 44 from cc.blk Fg11.out nin_nil)
  clear C0 SQ Fg3 Fg11
  have C0 := C0'; clear C0'
  have SQ := SQ'; clear SQ'
  have Fg3 := Fg3'; clear Fg3'
  have Fg11 := Fg11'; clear Fg11'
  clear cc
  refine hK20 _ _ ?_; clear hK20 K20
  (try simp only [zP, zN, zA, zB, zC])
  refine pu_ (v := .int .i64 j) (y_assign rfl (by rfl) (by rfl)) ?_
  (try simp only [zP, zN, zA, zB, zC])
  refine nl_ (hK19 _ _ ?_); clear hK19 K19
  refine sq_ (fun K22 hK22 => ?_)
  refine s_ (fun K23 hK23 => ?_)
  refine pu_ (v := .int .i64 j) (y_move rfl (by rfl) (by rfl)) ?_
  (try simp only [zP, zN, zA, zB, zC])
  refine pu_ (v := .bool false) (y_run (by rfl) (fun W => by have d := DZ.out; go_simp)) ?_
  (try simp only [zP, zN, zA, zB, zC])
  refine nl_ (hK23 _ _ ?_); clear hK23 K23
  refine wp_cond_false rfl ?_
  refine wp_skip ?_
  refine th_norm (hK22 _ _ ?_); try clear hK22 K22
  skip
  · obtain ⟨a, hsm_a⟩ := src_some SQ.out (by have := HJ.out; omega)
    subst hsm_a
    refine s_ (fun K24 hK24 => ?_)
    refine pu_ (v := .pointer (some ⟨g3, 0, none⟩)) (y_run (by rfl) (fun W => by go_simp)) ?_
    (try simp only [zP, zN, zA, zB, zC])
    refine ld_ (v := .slice (some a) n z) rfl (by rfl) (by rfl) (run_load_one ((Fg3.out.cell 0).trans rfl) Tryd.underlying42 rfl) ?_
    (try simp only [zP, zN, zA, zB, zC])
    refine pu_ (v := .int .i64 j) (y_move rfl (by rfl) (by rfl)) ?_
    (try simp only [zP, zN, zA, zB, zC])
    refine pu_ (v := .pointer (some (a.add (j * 6)))) (y_run (by rfl) (fun W => by have d := DJ.out; go_simp)) ?_
    (try simp only [zP, zN, zA, zB, zC])
    refine ld_ (v := .agg #[.int .i64 s.id, .int .i64 s.box, .int .i64 s.ctr, .bool false, .string (str s.qi), .string (str s.qo)]) rfl (by rfl) (by rfl) (run_loadVar_at (cs := [.int .i64 s.id, .int .i64 s.box, .int .i64 s.ctr, .bool false, .string (str s.qi), .string (str s.qo)]) (src_ses SQ.out HS_.out HOP.out) Tryd.underlying49 rfl (by kernel_rfl)) ?_
    (try simp only [zP, zN, zA, zB, zC])
    refine ef_ (fun K25 hK25 => ?_)
    refine e_alloc (by rfl) rfl rfl (cs := #[.int .i64 0, .int .i64 0, .int .i64 0, .bool false, .string ⟨#[]⟩, .string ⟨#[]⟩]) (by kernel_rfl) ?_
    rintro g26 w27 HG28 B29 C30
    have nw31 := Lib.hid (show w.heap.size ≤ g26 by have := C0.out.size; have := HG28.out; omega)
    have nx32 := Lib.hid (SQ.out.ne_new (by decide) HG28)
    have C0' := Lib.hid (show Ch [] w w27 from C0.out.trans' C30 (fun x hx => absurd hx (by simp)))
    have SQ' := Lib.hid (show SrcIs w27 (.slice (some a) n z) (n) ((L).flatMap sesC) 6 from SQ.out.chx C30 xnin_nil)
    have Fg3' := Lib.hid (show Blk w27 g3 (#[.slice (some a) n z, .int .i64 la]) 44 from C30.blk Fg3.out nin_nil)
    have Fg11' := Lib.hid (show Blk w27 g11 (#[.slice none 0 0, .int .i64 0]) 44 from C30.blk Fg11.out nin_nil)
    clear C0 SQ Fg3 Fg11
    have C0 := C0'; clear C0'
    have SQ := SQ'; clear SQ'
    have Fg3 := Fg3'; clear Fg3'
    have Fg11 := Fg11'; clear Fg11'
    have Fg26 := Lib.hid (show Blk w27 g26 (#[.int .i64 0, .int .i64 0, .int .i64 0, .bool false, .string ⟨#[]⟩, .string ⟨#[]⟩]) 49 from B29); clear B29 C30
    refine hK25 _ _ ?_; clear hK25 K25
    (try simp only [zP, zN, zA, zB, zC])
    refine ef_ (fun K33 hK33 => ?_)
    refine e_storeN (cells := #[.int .i64 s.id, .int .i64 s.box, .int .i64 s.ctr, .bool false, .string (str s.qi), .string (str s.qo)]) (by rfl) rfl rfl (by rfl) (by rfl) Fg26.out (by kernel_rfl) (by rfl) (ones_cons rfl (ones_cons rfl (ones_cons rfl (ones_cons rfl (ones_cons rfl (ones_cons rfl ones_nil)))))) ?_
    rintro w34 B35 C36
    have C0' := Lib.hid (show Ch [] w w34 from C0.out.trans' C36 (inw_cons (.inr nw31.out) inw_nil))
    have SQ' := Lib.hid (show SrcIs w34 (.slice (some a) n z) (n) ((L).flatMap sesC) 6 from SQ.out.chx C36 (xnin_cons nx32.out xnin_nil))
    have Fg3' := Lib.hid (show Blk w34 g3 (#[.slice (some a) n z, .int .i64 la]) 44 from C36.blk Fg3.out (nin_cons (Blk.ne_type Fg3.out Fg26.out (by decide)) nin_nil))
    have Fg11' := Lib.hid (show Blk w34 g11 (#[.slice none 0 0, .int .i64 0]) 44 from C36.blk Fg11.out (nin_cons (Blk.ne_type Fg11.out Fg26.out (by decide)) nin_nil))
    clear C0 SQ Fg3 Fg11
    have C0 := C0'; clear C0'
    have SQ := SQ'; clear SQ'
    have Fg3 := Fg3'; clear Fg3'
    have Fg11 := Fg11'; clear Fg11'
    clear Fg26; have Fg26 := Lib.hid (show Blk w34 g26 (#[.int .i64 s.id, .int .i64 s.box, .int .i64 s.ctr, .bool false, .string (str s.qi), .string (str s.qo)]) 49 from B35); clear B35 C36
    refine hK33 _ _ ?_; clear hK33 K33
    (try simp only [zP, zN, zA, zB, zC])
    refine nl_ (hK24 _ _ ?_); clear hK24 K24
    refine s_ (fun K37 hK37 => ?_)
    refine pu_ (v := .int .i64 most) (y_move rfl (by rfl) (by rfl)) ?_
    (try simp only [zP, zN, zA, zB, zC])
    refine pu_ (v := .pointer (some ⟨g26, 5, none⟩)) (y_run (by rfl) (fun W => by go_simp)) ?_
    (try simp only [zP, zN, zA, zB, zC])
    refine ld_ (v := .string (str s.qo)) rfl (by rfl) (by rfl) (run_load_one ((Fg26.out.cell 5).trans rfl) Tryd.underlying9 rfl) ?_
    (try simp only [zP, zN, zA, zB, zC])
    refine pu_ (v := .int .i64 (str s.qo).size) (y_run (by rfl) (fun W => by go_simp)) ?_
    (try simp only [zP, zN, zA, zB, zC])
    refine ef_ (fun K38 hK38 => ?_)
    refine e_call Tryd.func45 (by kernel_rfl) rfl #[.int .i64 most, .int .i64 (str s.qo).size] (by rfl) rfl rfl (by first | rfl | (simp only [List.map_toArray, List.map_cons, List.map_nil]; first | done | rfl)) ((by have h9 := few_ (w := w34) (most) (((str s.qo).size : Int)); rw [HFW.out] at h9; exact h9)) ?_
    rintro en w40 ⟨rfl, cc39⟩
    refine ⟨_, rfl, ?_⟩
    have C0' := Lib.hid (show Ch [] w w40 from C0.out.trans' cc39 (fun x hx => absurd hx (by simp)))
    have SQ' := Lib.hid (show SrcIs w40 (.slice (some a) n z) (n) ((L).flatMap sesC) 6 from SQ.out.chx cc39 xnin_nil)
    have Fg3' := Lib.hid (show Blk w40 g3 (#[.slice (some a) n z, .int .i64 la]) 44 from cc39.blk Fg3.out nin_nil)
    have Fg11' := Lib.hid (show Blk w40 g11 (#[.slice none 0 0, .int .i64 0]) 44 from cc39.blk Fg11.out nin_nil)
    have Fg26' := Lib.hid (show Blk w40 g26 (#[.int .i64 s.id, .int .i64 s.box, .int .i64 s.ctr, .bool false, .string (str s.qi), .string (str s.qo)]) 49 from cc39.blk Fg26.out nin_nil)
    clear C0 SQ Fg3 Fg11 Fg26
    have C0 := C0'; clear C0'
    have SQ := SQ'; clear SQ'
    have Fg3 := Fg3'; clear Fg3'
    have Fg11 := Fg11'; clear Fg11'
    have Fg26 := Fg26'; clear Fg26'
    clear cc39
    refine hK38 _ _ ?_; clear hK38 K38
    (try simp only [zP, zN, zA, zB, zC])
    refine pu_ (v := .int .i64 m) (y_assign rfl (by rfl) (by rfl)) ?_
    (try simp only [zP, zN, zA, zB, zC])
    refine nl_ (hK37 _ _ ?_); clear hK37 K37
    refine sq_ (fun K41 hK41 => ?_)
    refine s_ (fun K42 hK42 => ?_)
    refine pu_ (v := .int .i64 m) (y_move rfl (by rfl) (by rfl)) ?_
    (try simp only [zP, zN, zA, zB, zC])
    refine pu_ (v := .bool true) (y_run (by rfl) (fun W => by have d := D30.out; go_simp)) ?_
    (try simp only [zP, zN, zA, zB, zC])
    refine pu_ (v := .bool true) (y_move rfl (by rfl) (by rfl)) ?_
    (try simp only [zP, zN, zA, zB, zC])
    refine pu_ (v := .pointer (some ⟨g26, 3, none⟩)) (y_run (by rfl) (fun W => by go_simp)) ?_
    (try simp only [zP, zN, zA, zB, zC])
    refine ld_ (v := .bool false) rfl (by rfl) (by rfl) (run_load_one ((Fg26.out.cell 3).trans rfl) Tryd.underlying4 rfl) ?_
    (try simp only [zP, zN, zA, zB, zC])
    refine pu_ (v := .bool true) (y_run (by rfl) (fun W => by go_simp)) ?_
    (try simp only [zP, zN, zA, zB, zC])
    refine pu_ (v := .bool true) (y_pick (t := true) (by rfl) rfl (by rfl) (by rfl)) ?_
    (try simp only [zP, zN, zA, zB, zC])
    refine nl_ (hK42 _ _ ?_); clear hK42 K42
    refine wp_cond_true rfl ?_
    refine s_ (fun K43 hK43 => ?_)
    refine ld_ (v := .agg (#[.slice (some a) n z, .int .i64 la])) rfl (by rfl) (by rfl) (run_loadVar_row _ _ 44 44 (#[.slice (some a) n z, .int .i64 la]) (0, 0) _ Fg3.out Tryd.underlying44 rfl (by kernel_rfl)) ?_
    (try simp only [zP, zN, zA, zB, zC])
    refine ef_ (fun K44 hK44 => ?_)
    refine e_storeN (cells := (#[.slice (some a) n z, .int .i64 la])) (by rfl) rfl rfl (by rfl) (by rfl) Fg11.out (by kernel_rfl) (by rfl) (ones_cons rfl (ones_cons rfl ones_nil)) ?_
    rintro w45 B46 C47
    have C0' := Lib.hid (show Ch [] w w45 from C0.out.trans' C47 (inw_cons (.inr nw16.out) inw_nil))
    have SQ' := Lib.hid (show SrcIs w45 (.slice (some a) n z) (n) ((L).flatMap sesC) 6 from SQ.out.chx C47 (xnin_cons nx17.out xnin_nil))
    have Fg3' := Lib.hid (show Blk w45 g3 (#[.slice (some a) n z, .int .i64 la]) 44 from C47.blk Fg3.out (nin_cons ne18.out nin_nil))
    have Fg26' := Lib.hid (show Blk w45 g26 (#[.int .i64 s.id, .int .i64 s.box, .int .i64 s.ctr, .bool false, .string (str s.qi), .string (str s.qo)]) 49 from C47.blk Fg26.out (nin_cons (Blk.ne_type Fg26.out Fg11.out (by decide)) nin_nil))
    clear C0 SQ Fg3 Fg26
    have C0 := C0'; clear C0'
    have SQ := SQ'; clear SQ'
    have Fg3 := Fg3'; clear Fg3'
    have Fg26 := Fg26'; clear Fg26'
    clear Fg11; have Fg11 := Lib.hid (show Blk w45 g11 ((#[.slice (some a) n z, .int .i64 la])) 44 from B46); clear B46 C47
    refine hK44 _ _ ?_; clear hK44 K44
    (try simp only [zP, zN, zA, zB, zC])
    refine pu_ (v := .string {data := #[]}) (y_assign rfl (by rfl) (by rfl)) ?_
    (try simp only [zP, zN, zA, zB, zC])
    refine pu_ (v := .int .i64 400) (y_assign rfl (by rfl) (by rfl)) ?_
    (try simp only [zP, zN, zA, zB, zC])
    refine nl_ (hK43 _ _ ?_); clear hK43 K43
    refine wp_ret ?_
    refine th_ret ?_
    refine hQ _ _ _ ?_
    refine bodyPost_ret (res3 rfl (rdv_cell (by rfl) (run_loadVar_row _ _ 44 44 ((#[.slice (some a) n z, .int .i64 la])) (0, 0) _ Fg11.out Tryd.underlying44 rfl (by kernel_rfl))) (rdv_tmp (v := .string {data := #[]}) (by rfl)) (rdv_tmp (v := .int .i64 400) (by rfl))) rfl ?_
    exact ⟨rfl, C0.out⟩
theorem rread_open {Aq : Option Addr} {n z : Nat} {la : Int} {L : List HS} (HNL : Hid (L.length = n)) (HN : Hid (n ≤ 100)) {id : Int} {j : Nat} {s : HS} (HF : Hid (fx id L = some j)) (HS_ : Hid (L[j]? = some s)) (HOP : Hid (s.op = true)) {most : Int} {m : Nat} (HM : Hid (m = rdN s.qo most))  (SQ : Hid (SrcIs w (.slice Aq n z) (n) ((L).flatMap sesC) 6)) :
    Calls Tryd.prog 35 #[.agg #[.slice Aq n z, .int .i64 la], .int .i64 id, .int .i64 most] w fun en w' => ∃ Q' z', en = .returned (.tuple #[.agg #[.slice Q' n z', .int .i64 la], .string (str (s.qo.take m)), .int .i64 0]) ∧ NewQ w w' n (L.set j (⟨s.id, s.box, s.ctr, true, s.qi, s.qo.drop m⟩ : HS)) Q' z' ∧ Ch [] w w' := by
  have C0 := Lib.hid (Ch.refl [] w)
  have HFI := Lib.hid (show fxI id L = j by unfold fxI; rw [HF.out])
  have HJ := Lib.hid (show j < n by have := (List.getElem?_eq_some_iff.1 HS_.out).1; have := HNL.out; omega)
  have DJ := Lib.hid (show (j : Int) < (n : Int) by have := HJ.out; omega)
  have DZ := Lib.hid (show ¬ (j : Int) < 0 by omega)
  have HQS := Lib.hid (show (str s.qo).size = s.qo.length from str_size _)
  have HFW := Lib.hid (show fewI most ((str s.qo).size : Int) = (m : Int) by unfold fewI; have h1 := HM.out; have h2 := HQS.out; unfold rdN at h1; omega)
  have D40 := Lib.hid (show (m : Int) ≤ ((str s.qo).size : Int) by have h1 := HM.out; have h2 := HQS.out; unfold rdN at h1; omega)
  have E40 := Lib.hid (str_ext s.qo m)
  have E44 := Lib.hid (str_from s.qo m)
  go_enter Tryd.func35, Tryd.ntmps35
  refine q_ (fun Q hQ hP => ?_)
  refine s_ (fun K1 hK1 => ?_)
  refine ef_ (fun K2 hK2 => ?_)
  refine e_boxN (by rfl) rfl rfl (cs := #[.slice Aq n z, .int .i64 la]) (v := .agg #[.slice Aq n z, .int .i64 la]) (by rfl) rfl ?_
  rintro g3 w4 HG5 B6 C7
  have nw8 := Lib.hid (show w.heap.size ≤ g3 by have := C0.out.size; have := HG5.out; omega)
  have nx9 := Lib.hid (SQ.out.ne_new (by decide) HG5)
  have C0' := Lib.hid (show Ch [] w w4 from C0.out.trans' C7 (fun x hx => absurd hx (by simp)))
  have SQ' := Lib.hid (show SrcIs w4 (.slice Aq n z) (n) ((L).flatMap sesC) 6 from SQ.out.chx C7 xnin_nil)
  clear C0 SQ
  have C0 := C0'; clear C0'
  have SQ := SQ'; clear SQ'
  have Fg3 := Lib.hid (show Blk w4 g3 (#[.slice Aq n z, .int .i64 la]) 44 from B6); clear B6 C7
  refine hK2 _ _ ?_; clear hK2 K2
  (try simp only [zP, zN, zA, zB, zC])
  refine ef_ (fun K10 hK10 => ?_)
  refine e_alloc (by rfl) rfl rfl (cs := #[.slice none 0 0, .int .i64 0]) (by kernel_rfl) ?_
  rintro g11 w12 HG13 B14 C15
  have nw16 := Lib.hid (show w.heap.size ≤ g11 by have := C0.out.size; have := HG13.out; omega)
  have nx17 := Lib.hid (SQ.out.ne_new (by decide) HG13)
  have ne18 := Lib.hid (Fg3.out.ne_new HG13)
  have C0' := Lib.hid (show Ch [] w w12 from C0.out.trans' C15 (fun x hx => absurd hx (by simp)))
  have SQ' := Lib.hid (show SrcIs w12 (.slice Aq n z) (n) ((L).flatMap sesC) 6 from SQ.out.chx C15 xnin_nil)
  have Fg3' := Lib.hid (show Blk w12 g3 (#[.slice Aq n z, .int .i64 la]) 44 from C15.blk Fg3.out nin_nil)
  clear C0 SQ Fg3
  have C0 := C0'; clear C0'
  have SQ := SQ'; clear SQ'
  have Fg3 := Fg3'; clear Fg3'
  have Fg11 := Lib.hid (show Blk w12 g11 (#[.slice none 0 0, .int .i64 0]) 44 from B14); clear B14 C15
  refine hK10 _ _ ?_; clear hK10 K10
  (try simp only [zP, zN, zA, zB, zC])
  refine pu_ (v := .string {data := #[]}) (y_assign rfl (by rfl) (by rfl)) ?_
  (try simp only [zP, zN, zA, zB, zC])
  refine pu_ (v := .int .i64 0) (y_assign rfl (by rfl) (by rfl)) ?_
  (try simp only [zP, zN, zA, zB, zC])
  refine nl_ (hK1 _ _ ?_); clear hK1 K1
  refine s_ (fun K19 hK19 => ?_)
  refine ld_ (v := .agg (#[.slice Aq n z, .int .i64 la])) rfl (by rfl) (by rfl) (run_loadVar_row _ _ 44 44 (#[.slice Aq n z, .int .i64 la]) (0, 0) _ Fg3.out Tryd.underlying44 rfl (by kernel_rfl)) ?_
  (try simp only [zP, zN, zA, zB, zC])
  refine pu_ (v := .int .i64 id) (y_move rfl (by rfl) (by rfl)) ?_
  (try simp only [zP, zN, zA, zB, zC])
  refine ef_ (fun K20 hK20 => ?_)
  refine e_call Tryd.func18 (by kernel_rfl) rfl #[.agg (#[.slice Aq n z, .int .i64 la]), .int .i64 id] (by rfl) rfl rfl (by first | rfl | (simp only [List.map_toArray, List.map_cons, List.map_nil]; first | done | rfl)) ((by have h9 := rindex_ (id := id) (la := la) HNL HN SQ; rw [HFI.out] at h9; exact h9)) ?_
  rintro en w21 ⟨rfl, cc⟩
  refine ⟨_, rfl, ?_⟩
  have C0' := Lib.hid (show Ch [] w w21 from C0.out.trans' cc (fun x hx => absurd hx (by simp)))
  have SQ' := Lib.hid (show SrcIs w21 (.slice Aq n z) (n) ((L).flatMap sesC) 6 from SQ.out.chx cc xnin_nil)
  have Fg3' := Lib.hid (show Blk w21 g3 (#[.slice Aq n z, .int .i64 la]) 44 from cc.blk Fg3.out nin_nil)
  have Fg11' := Lib.hid (show Blk w21 g11 (#[.slice none 0 0, .int .i64 0]) 44 from cc.blk Fg11.out nin_nil)
  clear C0 SQ Fg3 Fg11
  have C0 := C0'; clear C0'
  have SQ := SQ'; clear SQ'
  have Fg3 := Fg3'; clear Fg3'
  have Fg11 := Fg11'; clear Fg11'
  clear cc
  refine hK20 _ _ ?_; clear hK20 K20
  (try simp only [zP, zN, zA, zB, zC])
  refine pu_ (v := .int .i64 j) (y_assign rfl (by rfl) (by rfl)) ?_
  (try simp only [zP, zN, zA, zB, zC])
  refine nl_ (hK19 _ _ ?_); clear hK19 K19
  refine sq_ (fun K22 hK22 => ?_)
  refine s_ (fun K23 hK23 => ?_)
  refine pu_ (v := .int .i64 j) (y_move rfl (by rfl) (by rfl)) ?_
  (try simp only [zP, zN, zA, zB, zC])
  refine pu_ (v := .bool false) (y_run (by rfl) (fun W => by have d := DZ.out; go_simp)) ?_
  (try simp only [zP, zN, zA, zB, zC])
  refine nl_ (hK23 _ _ ?_); clear hK23 K23
  refine wp_cond_false rfl ?_
  refine wp_skip ?_
  refine th_norm (hK22 _ _ ?_); try clear hK22 K22
  skip
  · obtain ⟨a, hsm_a⟩ := src_some SQ.out (by have := HJ.out; omega)
    subst hsm_a
    refine s_ (fun K24 hK24 => ?_)
    refine pu_ (v := .pointer (some ⟨g3, 0, none⟩)) (y_run (by rfl) (fun W => by go_simp)) ?_
    (try simp only [zP, zN, zA, zB, zC])
    refine ld_ (v := .slice (some a) n z) rfl (by rfl) (by rfl) (run_load_one ((Fg3.out.cell 0).trans rfl) Tryd.underlying42 rfl) ?_
    (try simp only [zP, zN, zA, zB, zC])
    refine pu_ (v := .int .i64 j) (y_move rfl (by rfl) (by rfl)) ?_
    (try simp only [zP, zN, zA, zB, zC])
    refine pu_ (v := .pointer (some (a.add (j * 6)))) (y_run (by rfl) (fun W => by have d := DJ.out; go_simp)) ?_
    (try simp only [zP, zN, zA, zB, zC])
    refine ld_ (v := .agg #[.int .i64 s.id, .int .i64 s.box, .int .i64 s.ctr, .bool true, .string (str s.qi), .string (str s.qo)]) rfl (by rfl) (by rfl) (run_loadVar_at (cs := [.int .i64 s.id, .int .i64 s.box, .int .i64 s.ctr, .bool true, .string (str s.qi), .string (str s.qo)]) (src_ses SQ.out HS_.out HOP.out) Tryd.underlying49 rfl (by kernel_rfl)) ?_
    (try simp only [zP, zN, zA, zB, zC])
    refine ef_ (fun K25 hK25 => ?_)
    refine e_alloc (by rfl) rfl rfl (cs := #[.int .i64 0, .int .i64 0, .int .i64 0, .bool false, .string ⟨#[]⟩, .string ⟨#[]⟩]) (by kernel_rfl) ?_
    rintro g26 w27 HG28 B29 C30
    have nw31 := Lib.hid (show w.heap.size ≤ g26 by have := C0.out.size; have := HG28.out; omega)
    have nx32 := Lib.hid (SQ.out.ne_new (by decide) HG28)
    have C0' := Lib.hid (show Ch [] w w27 from C0.out.trans' C30 (fun x hx => absurd hx (by simp)))
    have SQ' := Lib.hid (show SrcIs w27 (.slice (some a) n z) (n) ((L).flatMap sesC) 6 from SQ.out.chx C30 xnin_nil)
    have Fg3' := Lib.hid (show Blk w27 g3 (#[.slice (some a) n z, .int .i64 la]) 44 from C30.blk Fg3.out nin_nil)
    have Fg11' := Lib.hid (show Blk w27 g11 (#[.slice none 0 0, .int .i64 0]) 44 from C30.blk Fg11.out nin_nil)
    clear C0 SQ Fg3 Fg11
    have C0 := C0'; clear C0'
    have SQ := SQ'; clear SQ'
    have Fg3 := Fg3'; clear Fg3'
    have Fg11 := Fg11'; clear Fg11'
    have Fg26 := Lib.hid (show Blk w27 g26 (#[.int .i64 0, .int .i64 0, .int .i64 0, .bool false, .string ⟨#[]⟩, .string ⟨#[]⟩]) 49 from B29); clear B29 C30
    refine hK25 _ _ ?_; clear hK25 K25
    (try simp only [zP, zN, zA, zB, zC])
    refine ef_ (fun K33 hK33 => ?_)
    refine e_storeN (cells := #[.int .i64 s.id, .int .i64 s.box, .int .i64 s.ctr, .bool true, .string (str s.qi), .string (str s.qo)]) (by rfl) rfl rfl (by rfl) (by rfl) Fg26.out (by kernel_rfl) (by rfl) (ones_cons rfl (ones_cons rfl (ones_cons rfl (ones_cons rfl (ones_cons rfl (ones_cons rfl ones_nil)))))) ?_
    rintro w34 B35 C36
    have C0' := Lib.hid (show Ch [] w w34 from C0.out.trans' C36 (inw_cons (.inr nw31.out) inw_nil))
    have SQ' := Lib.hid (show SrcIs w34 (.slice (some a) n z) (n) ((L).flatMap sesC) 6 from SQ.out.chx C36 (xnin_cons nx32.out xnin_nil))
    have Fg3' := Lib.hid (show Blk w34 g3 (#[.slice (some a) n z, .int .i64 la]) 44 from C36.blk Fg3.out (nin_cons (Blk.ne_type Fg3.out Fg26.out (by decide)) nin_nil))
    have Fg11' := Lib.hid (show Blk w34 g11 (#[.slice none 0 0, .int .i64 0]) 44 from C36.blk Fg11.out (nin_cons (Blk.ne_type Fg11.out Fg26.out (by decide)) nin_nil))
    clear C0 SQ Fg3 Fg11
    have C0 := C0'; clear C0'
    have SQ := SQ'; clear SQ'
    have Fg3 := Fg3'; clear Fg3'
    have Fg11 := Fg11'; clear Fg11'
    clear Fg26; have Fg26 := Lib.hid (show Blk w34 g26 (#[.int .i64 s.id, .int .i64 s.box, .int .i64 s.ctr, .bool true, .string (str s.qi), .string (str s.qo)]) 49 from B35); clear B35 C36
    refine hK33 _ _ ?_; clear hK33 K33
    (try simp only [zP, zN, zA, zB, zC])
    refine nl_ (hK24 _ _ ?_); clear hK24 K24
    refine s_ (fun K37 hK37 => ?_)
    refine pu_ (v := .int .i64 most) (y_move rfl (by rfl) (by rfl)) ?_
    (try simp only [zP, zN, zA, zB, zC])
    refine pu_ (v := .pointer (some ⟨g26, 5, none⟩)) (y_run (by rfl) (fun W => by go_simp)) ?_
    (try simp only [zP, zN, zA, zB, zC])
    refine ld_ (v := .string (str s.qo)) rfl (by rfl) (by rfl) (run_load_one ((Fg26.out.cell 5).trans rfl) Tryd.underlying9 rfl) ?_
    (try simp only [zP, zN, zA, zB, zC])
    refine pu_ (v := .int .i64 (str s.qo).size) (y_run (by rfl) (fun W => by go_simp)) ?_
    (try simp only [zP, zN, zA, zB, zC])
    refine ef_ (fun K38 hK38 => ?_)
    refine e_call Tryd.func45 (by kernel_rfl) rfl #[.int .i64 most, .int .i64 (str s.qo).size] (by rfl) rfl rfl (by first | rfl | (simp only [List.map_toArray, List.map_cons, List.map_nil]; first | done | rfl)) ((by have h9 := few_ (w := w34) (most) (((str s.qo).size : Int)); rw [HFW.out] at h9; exact h9)) ?_
    rintro en w40 ⟨rfl, cc39⟩
    refine ⟨_, rfl, ?_⟩
    have C0' := Lib.hid (show Ch [] w w40 from C0.out.trans' cc39 (fun x hx => absurd hx (by simp)))
    have SQ' := Lib.hid (show SrcIs w40 (.slice (some a) n z) (n) ((L).flatMap sesC) 6 from SQ.out.chx cc39 xnin_nil)
    have Fg3' := Lib.hid (show Blk w40 g3 (#[.slice (some a) n z, .int .i64 la]) 44 from cc39.blk Fg3.out nin_nil)
    have Fg11' := Lib.hid (show Blk w40 g11 (#[.slice none 0 0, .int .i64 0]) 44 from cc39.blk Fg11.out nin_nil)
    have Fg26' := Lib.hid (show Blk w40 g26 (#[.int .i64 s.id, .int .i64 s.box, .int .i64 s.ctr, .bool true, .string (str s.qi), .string (str s.qo)]) 49 from cc39.blk Fg26.out nin_nil)
    clear C0 SQ Fg3 Fg11 Fg26
    have C0 := C0'; clear C0'
    have SQ := SQ'; clear SQ'
    have Fg3 := Fg3'; clear Fg3'
    have Fg11 := Fg11'; clear Fg11'
    have Fg26 := Fg26'; clear Fg26'
    clear cc39
    refine hK38 _ _ ?_; clear hK38 K38
    (try simp only [zP, zN, zA, zB, zC])
    refine pu_ (v := .int .i64 m) (y_assign rfl (by rfl) (by rfl)) ?_
    (try simp only [zP, zN, zA, zB, zC])
    refine nl_ (hK37 _ _ ?_); clear hK37 K37
    refine sq_ (fun K41 hK41 => ?_)
    rcases (show m = 0 ∨ ¬ m = 0 by omega) with h | h
    · have D30 := Lib.hid (show  m = 0 by omega)
      clear h
      refine s_ (fun K42 hK42 => ?_)
      refine pu_ (v := .int .i64 m) (y_move rfl (by rfl) (by rfl)) ?_
      (try simp only [zP, zN, zA, zB, zC])
      refine pu_ (v := .bool true) (y_run (by rfl) (fun W => by have d := D30.out; go_simp)) ?_
      (try simp only [zP, zN, zA, zB, zC])
      refine pu_ (v := .bool true) (y_move rfl (by rfl) (by rfl)) ?_
      (try simp only [zP, zN, zA, zB, zC])
      refine pu_ (v := .pointer (some ⟨g26, 3, none⟩)) (y_run (by rfl) (fun W => by go_simp)) ?_
      (try simp only [zP, zN, zA, zB, zC])
      refine ld_ (v := .bool true) rfl (by rfl) (by rfl) (run_load_one ((Fg26.out.cell 3).trans rfl) Tryd.underlying4 rfl) ?_
      (try simp only [zP, zN, zA, zB, zC])
      refine pu_ (v := .bool false) (y_run (by rfl) (fun W => by go_simp)) ?_
      (try simp only [zP, zN, zA, zB, zC])
      refine pu_ (v := .bool false) (y_pick (t := true) (by rfl) rfl (by rfl) (by rfl)) ?_
      (try simp only [zP, zN, zA, zB, zC])
      refine nl_ (hK42 _ _ ?_); clear hK42 K42
      refine wp_cond_false rfl ?_
      refine wp_skip ?_
      refine th_norm (hK41 _ _ ?_); try clear hK41 K41
      refine s_ (fun K43 hK43 => ?_)
      refine pu_ (v := .pointer (some ⟨g26, 5, none⟩)) (y_run (by rfl) (fun W => by go_simp)) ?_
      (try simp only [zP, zN, zA, zB, zC])
      refine ld_ (v := .string (str s.qo)) rfl (by rfl) (by rfl) (run_load_one ((Fg26.out.cell 5).trans rfl) Tryd.underlying9 rfl) ?_
      (try simp only [zP, zN, zA, zB, zC])
      refine pu_ (v := .int .i64 m) (y_move rfl (by rfl) (by rfl)) ?_
      (try simp only [zP, zN, zA, zB, zC])
      refine pu_ (v := .string (str (s.qo.take m))) (y_run (by rfl) (fun W => by rw [← E40.out]; have d := D40.out; go_simp)) ?_
      (try simp only [zP, zN, zA, zB, zC])
      refine pu_ (v := .string (str (s.qo.take m))) (y_assign rfl (by rfl) (by rfl)) ?_
      (try simp only [zP, zN, zA, zB, zC])
      refine nl_ (hK43 _ _ ?_); clear hK43 K43
      refine s_ (fun K44 hK44 => ?_)
      refine pu_ (v := .pointer (some ⟨g26, 5, none⟩)) (y_run (by rfl) (fun W => by go_simp)) ?_
      (try simp only [zP, zN, zA, zB, zC])
      refine ld_ (v := .string (str s.qo)) rfl (by rfl) (by rfl) (run_load_one ((Fg26.out.cell 5).trans rfl) Tryd.underlying9 rfl) ?_
      (try simp only [zP, zN, zA, zB, zC])
      refine pu_ (v := .int .i64 m) (y_move rfl (by rfl) (by rfl)) ?_
      (try simp only [zP, zN, zA, zB, zC])
      refine pu_ (v := .string (str (s.qo.drop m))) (y_run (by rfl) (fun W => by rw [← E44.out]; have d := D40.out; go_simp)) ?_
      (try simp only [zP, zN, zA, zB, zC])
      refine pu_ (v := .pointer (some ⟨g26, 5, none⟩)) (y_run (by rfl) (fun W => by go_simp)) ?_
      (try simp only [zP, zN, zA, zB, zC])
      refine ef_ (fun K45 hK45 => ?_)
      refine e_store1 (b := g26) (j := 5) (v := .string (str (s.qo.drop m))) (by rfl) rfl rfl (by rfl) (by rfl) Fg26.out (show 5 < 6 by omega) (by kernel_rfl) rfl ?_
      rintro w46 B47 C48
      have C0' := Lib.hid (show Ch [] w w46 from C0.out.trans' C48 (inw_cons (.inr nw31.out) inw_nil))
      have SQ' := Lib.hid (show SrcIs w46 (.slice (some a) n z) (n) ((L).flatMap sesC) 6 from SQ.out.chx C48 (xnin_cons nx32.out xnin_nil))
      have Fg3' := Lib.hid (show Blk w46 g3 (#[.slice (some a) n z, .int .i64 la]) 44 from C48.blk Fg3.out (nin_cons (Blk.ne_type Fg3.out Fg26.out (by decide)) nin_nil))
      have Fg11' := Lib.hid (show Blk w46 g11 (#[.slice none 0 0, .int .i64 0]) 44 from C48.blk Fg11.out (nin_cons (Blk.ne_type Fg11.out Fg26.out (by decide)) nin_nil))
      clear C0 SQ Fg3 Fg11
      have C0 := C0'; clear C0'
      have SQ := SQ'; clear SQ'
      have Fg3 := Fg3'; clear Fg3'
      have Fg11 := Fg11'; clear Fg11'
      clear Fg26; have Fg26 := Lib.hid (show Blk w46 g26 (#[.int .i64 s.id, .int .i64 s.box, .int .i64 s.ctr, .bool true, .string (str s.qi), .string (str (s.qo.drop m))]) 49 from B47); clear B47 C48
      refine hK45 _ _ ?_; clear hK45 K45
      (try simp only [zP, zN, zA, zB, zC])
      refine nl_ (hK44 _ _ ?_); clear hK44 K44
      refine s_ (fun K49 hK49 => ?_)
      refine ld_ (v := .agg (#[.slice (some a) n z, .int .i64 la])) rfl (by rfl) (by rfl) (run_loadVar_row _ _ 44 44 (#[.slice (some a) n z, .int .i64 la]) (0, 0) _ Fg3.out Tryd.underlying44 rfl (by kernel_rfl)) ?_
      (try simp only [zP, zN, zA, zB, zC])
      refine pu_ (v := .int .i64 j) (y_move rfl (by rfl) (by rfl)) ?_
      (try simp only [zP, zN, zA, zB, zC])
      refine ld_ (v := .agg (#[.int .i64 s.id, .int .i64 s.box, .int .i64 s.ctr, .bool true, .string (str s.qi), .string (str (s.qo.drop m))])) rfl (by rfl) (by rfl) (run_loadVar_row _ _ 49 49 (#[.int .i64 s.id, .int .i64 s.box, .int .i64 s.ctr, .bool true, .string (str s.qi), .string (str (s.qo.drop m))]) (0, 0) _ Fg26.out Tryd.underlying49 rfl (by kernel_rfl)) ?_
      (try simp only [zP, zN, zA, zB, zC])
      refine ef_ (fun K50 hK50 => ?_)
      refine e_call Tryd.func46 (by kernel_rfl) rfl #[.agg (#[.slice (some a) n z, .int .i64 la]), .int .i64 j, .agg (#[.int .i64 s.id, .int .i64 s.box, .int .i64 s.ctr, .bool true, .string (str s.qi), .string (str (s.qo.drop m))])] (by rfl) rfl rfl (by first | rfl | (simp only [List.map_toArray, List.map_cons, List.map_nil]; first | done | rfl)) ((with_ (la := la) (j := j) (s := (⟨s.id, s.box, s.ctr, true, s.qi, s.qo.drop m⟩ : HS)) HNL HN HS_ SQ)) ?_
      rintro en w57 ⟨A55, z56, rfl, ⟨h152, h253, h454⟩, cc51⟩
      refine ⟨_, rfl, ?_⟩
      have nx58 := Lib.hid (show g3 ∉ xb (.slice A55 n z56) from fun hk => by have := h454 _ hk; have := Fg3.out.lt; omega)
      have nx59 := Lib.hid (show g11 ∉ xb (.slice A55 n z56) from fun hk => by have := h454 _ hk; have := Fg11.out.lt; omega)
      have nx60 := Lib.hid (show g26 ∉ xb (.slice A55 n z56) from fun hk => by have := h454 _ hk; have := Fg26.out.lt; omega)
      have H4_A55 := Lib.hid (show ∀ k, k ∈ xb (.slice A55 n z56) → w.heap.size ≤ k from fun k hk => Nat.le_trans C0.out.size (h454 k hk)); clear h454
      have H2_A55 := Lib.hid h253; clear h253
      have C0' := Lib.hid (show Ch [] w w57 from C0.out.trans' cc51 (fun x hx => absurd hx (by simp)))
      have SQ' := Lib.hid (show SrcIs w57 (.slice (some a) n z) (n) ((L).flatMap sesC) 6 from SQ.out.chx cc51 xnin_nil)
      have Fg3' := Lib.hid (show Blk w57 g3 (#[.slice (some a) n z, .int .i64 la]) 44 from cc51.blk Fg3.out nin_nil)
      have Fg11' := Lib.hid (show Blk w57 g11 (#[.slice none 0 0, .int .i64 0]) 44 from cc51.blk Fg11.out nin_nil)
      have Fg26' := Lib.hid (show Blk w57 g26 (#[.int .i64 s.id, .int .i64 s.box, .int .i64 s.ctr, .bool true, .string (str s.qi), .string (str (s.qo.drop m))]) 49 from cc51.blk Fg26.out nin_nil)
      clear C0 SQ Fg3 Fg11 Fg26
      have C0 := C0'; clear C0'
      have SQ := SQ'; clear SQ'
      have Fg3 := Fg3'; clear Fg3'
      have Fg11 := Fg11'; clear Fg11'
      have Fg26 := Fg26'; clear Fg26'
      clear cc51
      have SN := Lib.hid (show SrcIs w57 (.slice A55 n z56) (n) ((L.set j (⟨s.id, s.box, s.ctr, true, s.qi, s.qo.drop m⟩ : HS)).flatMap sesC) 6 from h152)
      refine hK50 _ _ ?_; clear hK50 K50
      (try simp only [zP, zN, zA, zB, zC])
      refine pu_ (v := .string (str (s.qo.take m))) (y_move rfl (by rfl) (by rfl)) ?_
      (try simp only [zP, zN, zA, zB, zC])
      refine ef_ (fun K61 hK61 => ?_)
      refine e_storeN (cells := #[.slice A55 n z56, .int .i64 la]) (by rfl) rfl rfl (by rfl) (by rfl) Fg11.out (by kernel_rfl) (by rfl) (ones_cons rfl (ones_cons rfl ones_nil)) ?_
      rintro w62 B63 C64
      have C0' := Lib.hid (show Ch [] w w62 from C0.out.trans' C64 (inw_cons (.inr nw16.out) inw_nil))
      have SQ' := Lib.hid (show SrcIs w62 (.slice (some a) n z) (n) ((L).flatMap sesC) 6 from SQ.out.chx C64 (xnin_cons nx17.out xnin_nil))
      have Fg3' := Lib.hid (show Blk w62 g3 (#[.slice (some a) n z, .int .i64 la]) 44 from C64.blk Fg3.out (nin_cons ne18.out nin_nil))
      have Fg26' := Lib.hid (show Blk w62 g26 (#[.int .i64 s.id, .int .i64 s.box, .int .i64 s.ctr, .bool true, .string (str s.qi), .string (str (s.qo.drop m))]) 49 from C64.blk Fg26.out (nin_cons (Blk.ne_type Fg26.out Fg11.out (by decide)) nin_nil))
      have SN' := Lib.hid (show SrcIs w62 (.slice A55 n z56) (n) ((L.set j (⟨s.id, s.box, s.ctr, true, s.qi, s.qo.drop m⟩ : HS)).flatMap sesC) 6 from SN.out.chx C64 (xnin_cons nx59.out xnin_nil))
      clear C0 SQ Fg3 Fg26 SN
      have C0 := C0'; clear C0'
      have SQ := SQ'; clear SQ'
      have Fg3 := Fg3'; clear Fg3'
      have Fg26 := Fg26'; clear Fg26'
      have SN := SN'; clear SN'
      clear Fg11; have Fg11 := Lib.hid (show Blk w62 g11 (#[.slice A55 n z56, .int .i64 la]) 44 from B63); clear B63 C64
      refine hK61 _ _ ?_; clear hK61 K61
      (try simp only [zP, zN, zA, zB, zC])
      refine pu_ (v := .string (str (s.qo.take m))) (y_assign rfl (by rfl) (by rfl)) ?_
      (try simp only [zP, zN, zA, zB, zC])
      refine pu_ (v := .int .i64 0) (y_assign rfl (by rfl) (by rfl)) ?_
      (try simp only [zP, zN, zA, zB, zC])
      refine nl_ (hK49 _ _ ?_); clear hK49 K49
      refine wp_ret ?_
      refine hQ _ _ _ ?_
      refine bodyPost_ret (res3 rfl (rdv_cell (by rfl) (run_loadVar_row _ _ 44 44 (#[.slice A55 n z56, .int .i64 la]) (0, 0) _ Fg11.out Tryd.underlying44 rfl (by kernel_rfl))) (rdv_tmp (v := .string (str (s.qo.take m))) (by rfl)) (rdv_tmp (v := .int .i64 0) (by rfl))) rfl ?_
      exact ⟨_, _, rfl, ⟨SN.out, H2_A55.out, H4_A55.out⟩, C0.out⟩
    · have D30 := Lib.hid (show ¬ m = 0 by omega)
      clear h
      refine s_ (fun K65 hK65 => ?_)
      refine pu_ (v := .int .i64 m) (y_move rfl (by rfl) (by rfl)) ?_
      (try simp only [zP, zN, zA, zB, zC])
      refine pu_ (v := .bool false) (y_run (by rfl) (fun W => by have d := D30.out; go_simp)) ?_
      (try simp only [zP, zN, zA, zB, zC])
      refine pu_ (v := .bool false) (y_move rfl (by rfl) (by rfl)) ?_
      (try simp only [zP, zN, zA, zB, zC])
      refine pu_ (y_off (by rfl)) ?_
      (try simp only [zP, zN, zA, zB, zC])
      refine pu_ (y_off (by rfl)) ?_
      (try simp only [zP, zN, zA, zB, zC])
      refine pu_ (y_off (by rfl)) ?_
      (try simp only [zP, zN, zA, zB, zC])
      refine pu_ (v := .bool false) (y_pick (t := false) (by rfl) rfl (by rfl) (by rfl)) ?_
      (try simp only [zP, zN, zA, zB, zC])
      refine nl_ (hK65 _ _ ?_); clear hK65 K65
      refine wp_cond_false rfl ?_
      refine wp_skip ?_
      refine th_norm (hK41 _ _ ?_); try clear hK41 K41
      refine s_ (fun K66 hK66 => ?_)
      refine pu_ (v := .pointer (some ⟨g26, 5, none⟩)) (y_run (by rfl) (fun W => by go_simp)) ?_
      (try simp only [zP, zN, zA, zB, zC])
      refine ld_ (v := .string (str s.qo)) rfl (by rfl) (by rfl) (run_load_one ((Fg26.out.cell 5).trans rfl) Tryd.underlying9 rfl) ?_
      (try simp only [zP, zN, zA, zB, zC])
      refine pu_ (v := .int .i64 m) (y_move rfl (by rfl) (by rfl)) ?_
      (try simp only [zP, zN, zA, zB, zC])
      refine pu_ (v := .string (str (s.qo.take m))) (y_run (by rfl) (fun W => by rw [← E40.out]; have d := D40.out; go_simp)) ?_
      (try simp only [zP, zN, zA, zB, zC])
      refine pu_ (v := .string (str (s.qo.take m))) (y_assign rfl (by rfl) (by rfl)) ?_
      (try simp only [zP, zN, zA, zB, zC])
      refine nl_ (hK66 _ _ ?_); clear hK66 K66
      refine s_ (fun K67 hK67 => ?_)
      refine pu_ (v := .pointer (some ⟨g26, 5, none⟩)) (y_run (by rfl) (fun W => by go_simp)) ?_
      (try simp only [zP, zN, zA, zB, zC])
      refine ld_ (v := .string (str s.qo)) rfl (by rfl) (by rfl) (run_load_one ((Fg26.out.cell 5).trans rfl) Tryd.underlying9 rfl) ?_
      (try simp only [zP, zN, zA, zB, zC])
      refine pu_ (v := .int .i64 m) (y_move rfl (by rfl) (by rfl)) ?_
      (try simp only [zP, zN, zA, zB, zC])
      refine pu_ (v := .string (str (s.qo.drop m))) (y_run (by rfl) (fun W => by rw [← E44.out]; have d := D40.out; go_simp)) ?_
      (try simp only [zP, zN, zA, zB, zC])
      refine pu_ (v := .pointer (some ⟨g26, 5, none⟩)) (y_run (by rfl) (fun W => by go_simp)) ?_
      (try simp only [zP, zN, zA, zB, zC])
      refine ef_ (fun K68 hK68 => ?_)
      refine e_store1 (b := g26) (j := 5) (v := .string (str (s.qo.drop m))) (by rfl) rfl rfl (by rfl) (by rfl) Fg26.out (show 5 < 6 by omega) (by kernel_rfl) rfl ?_
      rintro w69 B70 C71
      have C0' := Lib.hid (show Ch [] w w69 from C0.out.trans' C71 (inw_cons (.inr nw31.out) inw_nil))
      have SQ' := Lib.hid (show SrcIs w69 (.slice (some a) n z) (n) ((L).flatMap sesC) 6 from SQ.out.chx C71 (xnin_cons nx32.out xnin_nil))
      have Fg3' := Lib.hid (show Blk w69 g3 (#[.slice (some a) n z, .int .i64 la]) 44 from C71.blk Fg3.out (nin_cons (Blk.ne_type Fg3.out Fg26.out (by decide)) nin_nil))
      have Fg11' := Lib.hid (show Blk w69 g11 (#[.slice none 0 0, .int .i64 0]) 44 from C71.blk Fg11.out (nin_cons (Blk.ne_type Fg11.out Fg26.out (by decide)) nin_nil))
      clear C0 SQ Fg3 Fg11
      have C0 := C0'; clear C0'
      have SQ := SQ'; clear SQ'
      have Fg3 := Fg3'; clear Fg3'
      have Fg11 := Fg11'; clear Fg11'
      clear Fg26; have Fg26 := Lib.hid (show Blk w69 g26 (#[.int .i64 s.id, .int .i64 s.box, .int .i64 s.ctr, .bool true, .string (str s.qi), .string (str (s.qo.drop m))]) 49 from B70); clear B70 C71
      refine hK68 _ _ ?_; clear hK68 K68
      (try simp only [zP, zN, zA, zB, zC])
      refine nl_ (hK67 _ _ ?_); clear hK67 K67
      refine s_ (fun K72 hK72 => ?_)
      refine ld_ (v := .agg (#[.slice (some a) n z, .int .i64 la])) rfl (by rfl) (by rfl) (run_loadVar_row _ _ 44 44 (#[.slice (some a) n z, .int .i64 la]) (0, 0) _ Fg3.out Tryd.underlying44 rfl (by kernel_rfl)) ?_
      (try simp only [zP, zN, zA, zB, zC])
      refine pu_ (v := .int .i64 j) (y_move rfl (by rfl) (by rfl)) ?_
      (try simp only [zP, zN, zA, zB, zC])
      refine ld_ (v := .agg (#[.int .i64 s.id, .int .i64 s.box, .int .i64 s.ctr, .bool true, .string (str s.qi), .string (str (s.qo.drop m))])) rfl (by rfl) (by rfl) (run_loadVar_row _ _ 49 49 (#[.int .i64 s.id, .int .i64 s.box, .int .i64 s.ctr, .bool true, .string (str s.qi), .string (str (s.qo.drop m))]) (0, 0) _ Fg26.out Tryd.underlying49 rfl (by kernel_rfl)) ?_
      (try simp only [zP, zN, zA, zB, zC])
      refine ef_ (fun K73 hK73 => ?_)
      refine e_call Tryd.func46 (by kernel_rfl) rfl #[.agg (#[.slice (some a) n z, .int .i64 la]), .int .i64 j, .agg (#[.int .i64 s.id, .int .i64 s.box, .int .i64 s.ctr, .bool true, .string (str s.qi), .string (str (s.qo.drop m))])] (by rfl) rfl rfl (by first | rfl | (simp only [List.map_toArray, List.map_cons, List.map_nil]; first | done | rfl)) ((with_ (la := la) (j := j) (s := (⟨s.id, s.box, s.ctr, true, s.qi, s.qo.drop m⟩ : HS)) HNL HN HS_ SQ)) ?_
      rintro en w80 ⟨A78, z79, rfl, ⟨h175, h276, h477⟩, cc74⟩
      refine ⟨_, rfl, ?_⟩
      have nx81 := Lib.hid (show g3 ∉ xb (.slice A78 n z79) from fun hk => by have := h477 _ hk; have := Fg3.out.lt; omega)
      have nx82 := Lib.hid (show g11 ∉ xb (.slice A78 n z79) from fun hk => by have := h477 _ hk; have := Fg11.out.lt; omega)
      have nx83 := Lib.hid (show g26 ∉ xb (.slice A78 n z79) from fun hk => by have := h477 _ hk; have := Fg26.out.lt; omega)
      have H4_A78 := Lib.hid (show ∀ k, k ∈ xb (.slice A78 n z79) → w.heap.size ≤ k from fun k hk => Nat.le_trans C0.out.size (h477 k hk)); clear h477
      have H2_A78 := Lib.hid h276; clear h276
      have C0' := Lib.hid (show Ch [] w w80 from C0.out.trans' cc74 (fun x hx => absurd hx (by simp)))
      have SQ' := Lib.hid (show SrcIs w80 (.slice (some a) n z) (n) ((L).flatMap sesC) 6 from SQ.out.chx cc74 xnin_nil)
      have Fg3' := Lib.hid (show Blk w80 g3 (#[.slice (some a) n z, .int .i64 la]) 44 from cc74.blk Fg3.out nin_nil)
      have Fg11' := Lib.hid (show Blk w80 g11 (#[.slice none 0 0, .int .i64 0]) 44 from cc74.blk Fg11.out nin_nil)
      have Fg26' := Lib.hid (show Blk w80 g26 (#[.int .i64 s.id, .int .i64 s.box, .int .i64 s.ctr, .bool true, .string (str s.qi), .string (str (s.qo.drop m))]) 49 from cc74.blk Fg26.out nin_nil)
      clear C0 SQ Fg3 Fg11 Fg26
      have C0 := C0'; clear C0'
      have SQ := SQ'; clear SQ'
      have Fg3 := Fg3'; clear Fg3'
      have Fg11 := Fg11'; clear Fg11'
      have Fg26 := Fg26'; clear Fg26'
      clear cc74
      have SN := Lib.hid (show SrcIs w80 (.slice A78 n z79) (n) ((L.set j (⟨s.id, s.box, s.ctr, true, s.qi, s.qo.drop m⟩ : HS)).flatMap sesC) 6 from h175)
      refine hK73 _ _ ?_; clear hK73 K73
      (try simp only [zP, zN, zA, zB, zC])
      refine pu_ (v := .string (str (s.qo.take m))) (y_move rfl (by rfl) (by rfl)) ?_
      (try simp only [zP, zN, zA, zB, zC])
      refine ef_ (fun K84 hK84 => ?_)
      refine e_storeN (cells := #[.slice A78 n z79, .int .i64 la]) (by rfl) rfl rfl (by rfl) (by rfl) Fg11.out (by kernel_rfl) (by rfl) (ones_cons rfl (ones_cons rfl ones_nil)) ?_
      rintro w85 B86 C87
      have C0' := Lib.hid (show Ch [] w w85 from C0.out.trans' C87 (inw_cons (.inr nw16.out) inw_nil))
      have SQ' := Lib.hid (show SrcIs w85 (.slice (some a) n z) (n) ((L).flatMap sesC) 6 from SQ.out.chx C87 (xnin_cons nx17.out xnin_nil))
      have Fg3' := Lib.hid (show Blk w85 g3 (#[.slice (some a) n z, .int .i64 la]) 44 from C87.blk Fg3.out (nin_cons ne18.out nin_nil))
      have Fg26' := Lib.hid (show Blk w85 g26 (#[.int .i64 s.id, .int .i64 s.box, .int .i64 s.ctr, .bool true, .string (str s.qi), .string (str (s.qo.drop m))]) 49 from C87.blk Fg26.out (nin_cons (Blk.ne_type Fg26.out Fg11.out (by decide)) nin_nil))
      have SN' := Lib.hid (show SrcIs w85 (.slice A78 n z79) (n) ((L.set j (⟨s.id, s.box, s.ctr, true, s.qi, s.qo.drop m⟩ : HS)).flatMap sesC) 6 from SN.out.chx C87 (xnin_cons nx82.out xnin_nil))
      clear C0 SQ Fg3 Fg26 SN
      have C0 := C0'; clear C0'
      have SQ := SQ'; clear SQ'
      have Fg3 := Fg3'; clear Fg3'
      have Fg26 := Fg26'; clear Fg26'
      have SN := SN'; clear SN'
      clear Fg11; have Fg11 := Lib.hid (show Blk w85 g11 (#[.slice A78 n z79, .int .i64 la]) 44 from B86); clear B86 C87
      refine hK84 _ _ ?_; clear hK84 K84
      (try simp only [zP, zN, zA, zB, zC])
      refine pu_ (v := .string (str (s.qo.take m))) (y_assign rfl (by rfl) (by rfl)) ?_
      (try simp only [zP, zN, zA, zB, zC])
      refine pu_ (v := .int .i64 0) (y_assign rfl (by rfl) (by rfl)) ?_
      (try simp only [zP, zN, zA, zB, zC])
      refine nl_ (hK72 _ _ ?_); clear hK72 K72
      refine wp_ret ?_
      refine hQ _ _ _ ?_
      refine bodyPost_ret (res3 rfl (rdv_cell (by rfl) (run_loadVar_row _ _ 44 44 (#[.slice A78 n z79, .int .i64 la]) (0, 0) _ Fg11.out Tryd.underlying44 rfl (by kernel_rfl))) (rdv_tmp (v := .string (str (s.qo.take m))) (by rfl)) (rdv_tmp (v := .int .i64 0) (by rfl))) rfl ?_
      exact ⟨_, _, rfl, ⟨SN.out, H2_A78.out, H4_A78.out⟩, C0.out⟩
theorem rread_left {Aq : Option Addr} {n z : Nat} {la : Int} {L : List HS} (HNL : Hid (L.length = n)) (HN : Hid (n ≤ 100)) {id : Int} {j : Nat} {s : HS} (HF : Hid (fx id L = some j)) (HS_ : Hid (L[j]? = some s)) (HOP : Hid (s.op = false)) {most : Int} {m : Nat} (HM : Hid (m = rdN s.qo most)) (H0 : Hid (¬ m = 0)) (SQ : Hid (SrcIs w (.slice Aq n z) (n) ((L).flatMap sesC) 6)) :
    Calls Tryd.prog 35 #[.agg #[.slice Aq n z, .int .i64 la], .int .i64 id, .int .i64 most] w fun en w' => ∃ Q' z', en = .returned (.tuple #[.agg #[.slice Q' n z', .int .i64 la], .string (str (s.qo.take m)), .int .i64 0]) ∧ NewQ w w' n (L.set j (⟨s.id, s.box, s.ctr, false, s.qi, s.qo.drop m⟩ : HS)) Q' z' ∧ Ch [] w w' := by
  have C0 := Lib.hid (Ch.refl [] w)
  have HFI := Lib.hid (show fxI id L = j by unfold fxI; rw [HF.out])
  have HJ := Lib.hid (show j < n by have := (List.getElem?_eq_some_iff.1 HS_.out).1; have := HNL.out; omega)
  have DJ := Lib.hid (show (j : Int) < (n : Int) by have := HJ.out; omega)
  have DZ := Lib.hid (show ¬ (j : Int) < 0 by omega)
  have HQS := Lib.hid (show (str s.qo).size = s.qo.length from str_size _)
  have HFW := Lib.hid (show fewI most ((str s.qo).size : Int) = (m : Int) by unfold fewI; have h1 := HM.out; have h2 := HQS.out; unfold rdN at h1; omega)
  have D40 := Lib.hid (show (m : Int) ≤ ((str s.qo).size : Int) by have h1 := HM.out; have h2 := HQS.out; unfold rdN at h1; omega)
  have E40 := Lib.hid (str_ext s.qo m)
  have E44 := Lib.hid (str_from s.qo m)
  have D30 := Lib.hid (show ¬ m = 0 from H0.out)
  go_enter Tryd.func35, Tryd.ntmps35
  refine q_ (fun Q hQ hP => ?_)
  refine s_ (fun K1 hK1 => ?_)
  refine ef_ (fun K2 hK2 => ?_)
  refine e_boxN (by rfl) rfl rfl (cs := #[.slice Aq n z, .int .i64 la]) (v := .agg #[.slice Aq n z, .int .i64 la]) (by rfl) rfl ?_
  rintro g3 w4 HG5 B6 C7
  have nw8 := Lib.hid (show w.heap.size ≤ g3 by have := C0.out.size; have := HG5.out; omega)
  have nx9 := Lib.hid (SQ.out.ne_new (by decide) HG5)
  have C0' := Lib.hid (show Ch [] w w4 from C0.out.trans' C7 (fun x hx => absurd hx (by simp)))
  have SQ' := Lib.hid (show SrcIs w4 (.slice Aq n z) (n) ((L).flatMap sesC) 6 from SQ.out.chx C7 xnin_nil)
  clear C0 SQ
  have C0 := C0'; clear C0'
  have SQ := SQ'; clear SQ'
  have Fg3 := Lib.hid (show Blk w4 g3 (#[.slice Aq n z, .int .i64 la]) 44 from B6); clear B6 C7
  refine hK2 _ _ ?_; clear hK2 K2
  (try simp only [zP, zN, zA, zB, zC])
  refine ef_ (fun K10 hK10 => ?_)
  refine e_alloc (by rfl) rfl rfl (cs := #[.slice none 0 0, .int .i64 0]) (by kernel_rfl) ?_
  rintro g11 w12 HG13 B14 C15
  have nw16 := Lib.hid (show w.heap.size ≤ g11 by have := C0.out.size; have := HG13.out; omega)
  have nx17 := Lib.hid (SQ.out.ne_new (by decide) HG13)
  have ne18 := Lib.hid (Fg3.out.ne_new HG13)
  have C0' := Lib.hid (show Ch [] w w12 from C0.out.trans' C15 (fun x hx => absurd hx (by simp)))
  have SQ' := Lib.hid (show SrcIs w12 (.slice Aq n z) (n) ((L).flatMap sesC) 6 from SQ.out.chx C15 xnin_nil)
  have Fg3' := Lib.hid (show Blk w12 g3 (#[.slice Aq n z, .int .i64 la]) 44 from C15.blk Fg3.out nin_nil)
  clear C0 SQ Fg3
  have C0 := C0'; clear C0'
  have SQ := SQ'; clear SQ'
  have Fg3 := Fg3'; clear Fg3'
  have Fg11 := Lib.hid (show Blk w12 g11 (#[.slice none 0 0, .int .i64 0]) 44 from B14); clear B14 C15
  refine hK10 _ _ ?_; clear hK10 K10
  (try simp only [zP, zN, zA, zB, zC])
  refine pu_ (v := .string {data := #[]}) (y_assign rfl (by rfl) (by rfl)) ?_
  (try simp only [zP, zN, zA, zB, zC])
  refine pu_ (v := .int .i64 0) (y_assign rfl (by rfl) (by rfl)) ?_
  (try simp only [zP, zN, zA, zB, zC])
  refine nl_ (hK1 _ _ ?_); clear hK1 K1
  refine s_ (fun K19 hK19 => ?_)
  refine ld_ (v := .agg (#[.slice Aq n z, .int .i64 la])) rfl (by rfl) (by rfl) (run_loadVar_row _ _ 44 44 (#[.slice Aq n z, .int .i64 la]) (0, 0) _ Fg3.out Tryd.underlying44 rfl (by kernel_rfl)) ?_
  (try simp only [zP, zN, zA, zB, zC])
  refine pu_ (v := .int .i64 id) (y_move rfl (by rfl) (by rfl)) ?_
  (try simp only [zP, zN, zA, zB, zC])
  refine ef_ (fun K20 hK20 => ?_)
  refine e_call Tryd.func18 (by kernel_rfl) rfl #[.agg (#[.slice Aq n z, .int .i64 la]), .int .i64 id] (by rfl) rfl rfl (by first | rfl | (simp only [List.map_toArray, List.map_cons, List.map_nil]; first | done | rfl)) ((by have h9 := rindex_ (id := id) (la := la) HNL HN SQ; rw [HFI.out] at h9; exact h9)) ?_
  rintro en w21 ⟨rfl, cc⟩
  refine ⟨_, rfl, ?_⟩
  have C0' := Lib.hid (show Ch [] w w21 from C0.out.trans' cc (fun x hx => absurd hx (by simp)))
  have SQ' := Lib.hid (show SrcIs w21 (.slice Aq n z) (n) ((L).flatMap sesC) 6 from SQ.out.chx cc xnin_nil)
  have Fg3' := Lib.hid (show Blk w21 g3 (#[.slice Aq n z, .int .i64 la]) 44 from cc.blk Fg3.out nin_nil)
  have Fg11' := Lib.hid (show Blk w21 g11 (#[.slice none 0 0, .int .i64 0]) 44 from cc.blk Fg11.out nin_nil)
  clear C0 SQ Fg3 Fg11
  have C0 := C0'; clear C0'
  have SQ := SQ'; clear SQ'
  have Fg3 := Fg3'; clear Fg3'
  have Fg11 := Fg11'; clear Fg11'
  clear cc
  refine hK20 _ _ ?_; clear hK20 K20
  (try simp only [zP, zN, zA, zB, zC])
  refine pu_ (v := .int .i64 j) (y_assign rfl (by rfl) (by rfl)) ?_
  (try simp only [zP, zN, zA, zB, zC])
  refine nl_ (hK19 _ _ ?_); clear hK19 K19
  refine sq_ (fun K22 hK22 => ?_)
  refine s_ (fun K23 hK23 => ?_)
  refine pu_ (v := .int .i64 j) (y_move rfl (by rfl) (by rfl)) ?_
  (try simp only [zP, zN, zA, zB, zC])
  refine pu_ (v := .bool false) (y_run (by rfl) (fun W => by have d := DZ.out; go_simp)) ?_
  (try simp only [zP, zN, zA, zB, zC])
  refine nl_ (hK23 _ _ ?_); clear hK23 K23
  refine wp_cond_false rfl ?_
  refine wp_skip ?_
  refine th_norm (hK22 _ _ ?_); try clear hK22 K22
  skip
  · obtain ⟨a, hsm_a⟩ := src_some SQ.out (by have := HJ.out; omega)
    subst hsm_a
    refine s_ (fun K24 hK24 => ?_)
    refine pu_ (v := .pointer (some ⟨g3, 0, none⟩)) (y_run (by rfl) (fun W => by go_simp)) ?_
    (try simp only [zP, zN, zA, zB, zC])
    refine ld_ (v := .slice (some a) n z) rfl (by rfl) (by rfl) (run_load_one ((Fg3.out.cell 0).trans rfl) Tryd.underlying42 rfl) ?_
    (try simp only [zP, zN, zA, zB, zC])
    refine pu_ (v := .int .i64 j) (y_move rfl (by rfl) (by rfl)) ?_
    (try simp only [zP, zN, zA, zB, zC])
    refine pu_ (v := .pointer (some (a.add (j * 6)))) (y_run (by rfl) (fun W => by have d := DJ.out; go_simp)) ?_
    (try simp only [zP, zN, zA, zB, zC])
    refine ld_ (v := .agg #[.int .i64 s.id, .int .i64 s.box, .int .i64 s.ctr, .bool false, .string (str s.qi), .string (str s.qo)]) rfl (by rfl) (by rfl) (run_loadVar_at (cs := [.int .i64 s.id, .int .i64 s.box, .int .i64 s.ctr, .bool false, .string (str s.qi), .string (str s.qo)]) (src_ses SQ.out HS_.out HOP.out) Tryd.underlying49 rfl (by kernel_rfl)) ?_
    (try simp only [zP, zN, zA, zB, zC])
    refine ef_ (fun K25 hK25 => ?_)
    refine e_alloc (by rfl) rfl rfl (cs := #[.int .i64 0, .int .i64 0, .int .i64 0, .bool false, .string ⟨#[]⟩, .string ⟨#[]⟩]) (by kernel_rfl) ?_
    rintro g26 w27 HG28 B29 C30
    have nw31 := Lib.hid (show w.heap.size ≤ g26 by have := C0.out.size; have := HG28.out; omega)
    have nx32 := Lib.hid (SQ.out.ne_new (by decide) HG28)
    have C0' := Lib.hid (show Ch [] w w27 from C0.out.trans' C30 (fun x hx => absurd hx (by simp)))
    have SQ' := Lib.hid (show SrcIs w27 (.slice (some a) n z) (n) ((L).flatMap sesC) 6 from SQ.out.chx C30 xnin_nil)
    have Fg3' := Lib.hid (show Blk w27 g3 (#[.slice (some a) n z, .int .i64 la]) 44 from C30.blk Fg3.out nin_nil)
    have Fg11' := Lib.hid (show Blk w27 g11 (#[.slice none 0 0, .int .i64 0]) 44 from C30.blk Fg11.out nin_nil)
    clear C0 SQ Fg3 Fg11
    have C0 := C0'; clear C0'
    have SQ := SQ'; clear SQ'
    have Fg3 := Fg3'; clear Fg3'
    have Fg11 := Fg11'; clear Fg11'
    have Fg26 := Lib.hid (show Blk w27 g26 (#[.int .i64 0, .int .i64 0, .int .i64 0, .bool false, .string ⟨#[]⟩, .string ⟨#[]⟩]) 49 from B29); clear B29 C30
    refine hK25 _ _ ?_; clear hK25 K25
    (try simp only [zP, zN, zA, zB, zC])
    refine ef_ (fun K33 hK33 => ?_)
    refine e_storeN (cells := #[.int .i64 s.id, .int .i64 s.box, .int .i64 s.ctr, .bool false, .string (str s.qi), .string (str s.qo)]) (by rfl) rfl rfl (by rfl) (by rfl) Fg26.out (by kernel_rfl) (by rfl) (ones_cons rfl (ones_cons rfl (ones_cons rfl (ones_cons rfl (ones_cons rfl (ones_cons rfl ones_nil)))))) ?_
    rintro w34 B35 C36
    have C0' := Lib.hid (show Ch [] w w34 from C0.out.trans' C36 (inw_cons (.inr nw31.out) inw_nil))
    have SQ' := Lib.hid (show SrcIs w34 (.slice (some a) n z) (n) ((L).flatMap sesC) 6 from SQ.out.chx C36 (xnin_cons nx32.out xnin_nil))
    have Fg3' := Lib.hid (show Blk w34 g3 (#[.slice (some a) n z, .int .i64 la]) 44 from C36.blk Fg3.out (nin_cons (Blk.ne_type Fg3.out Fg26.out (by decide)) nin_nil))
    have Fg11' := Lib.hid (show Blk w34 g11 (#[.slice none 0 0, .int .i64 0]) 44 from C36.blk Fg11.out (nin_cons (Blk.ne_type Fg11.out Fg26.out (by decide)) nin_nil))
    clear C0 SQ Fg3 Fg11
    have C0 := C0'; clear C0'
    have SQ := SQ'; clear SQ'
    have Fg3 := Fg3'; clear Fg3'
    have Fg11 := Fg11'; clear Fg11'
    clear Fg26; have Fg26 := Lib.hid (show Blk w34 g26 (#[.int .i64 s.id, .int .i64 s.box, .int .i64 s.ctr, .bool false, .string (str s.qi), .string (str s.qo)]) 49 from B35); clear B35 C36
    refine hK33 _ _ ?_; clear hK33 K33
    (try simp only [zP, zN, zA, zB, zC])
    refine nl_ (hK24 _ _ ?_); clear hK24 K24
    refine s_ (fun K37 hK37 => ?_)
    refine pu_ (v := .int .i64 most) (y_move rfl (by rfl) (by rfl)) ?_
    (try simp only [zP, zN, zA, zB, zC])
    refine pu_ (v := .pointer (some ⟨g26, 5, none⟩)) (y_run (by rfl) (fun W => by go_simp)) ?_
    (try simp only [zP, zN, zA, zB, zC])
    refine ld_ (v := .string (str s.qo)) rfl (by rfl) (by rfl) (run_load_one ((Fg26.out.cell 5).trans rfl) Tryd.underlying9 rfl) ?_
    (try simp only [zP, zN, zA, zB, zC])
    refine pu_ (v := .int .i64 (str s.qo).size) (y_run (by rfl) (fun W => by go_simp)) ?_
    (try simp only [zP, zN, zA, zB, zC])
    refine ef_ (fun K38 hK38 => ?_)
    refine e_call Tryd.func45 (by kernel_rfl) rfl #[.int .i64 most, .int .i64 (str s.qo).size] (by rfl) rfl rfl (by first | rfl | (simp only [List.map_toArray, List.map_cons, List.map_nil]; first | done | rfl)) ((by have h9 := few_ (w := w34) (most) (((str s.qo).size : Int)); rw [HFW.out] at h9; exact h9)) ?_
    rintro en w40 ⟨rfl, cc39⟩
    refine ⟨_, rfl, ?_⟩
    have C0' := Lib.hid (show Ch [] w w40 from C0.out.trans' cc39 (fun x hx => absurd hx (by simp)))
    have SQ' := Lib.hid (show SrcIs w40 (.slice (some a) n z) (n) ((L).flatMap sesC) 6 from SQ.out.chx cc39 xnin_nil)
    have Fg3' := Lib.hid (show Blk w40 g3 (#[.slice (some a) n z, .int .i64 la]) 44 from cc39.blk Fg3.out nin_nil)
    have Fg11' := Lib.hid (show Blk w40 g11 (#[.slice none 0 0, .int .i64 0]) 44 from cc39.blk Fg11.out nin_nil)
    have Fg26' := Lib.hid (show Blk w40 g26 (#[.int .i64 s.id, .int .i64 s.box, .int .i64 s.ctr, .bool false, .string (str s.qi), .string (str s.qo)]) 49 from cc39.blk Fg26.out nin_nil)
    clear C0 SQ Fg3 Fg11 Fg26
    have C0 := C0'; clear C0'
    have SQ := SQ'; clear SQ'
    have Fg3 := Fg3'; clear Fg3'
    have Fg11 := Fg11'; clear Fg11'
    have Fg26 := Fg26'; clear Fg26'
    clear cc39
    refine hK38 _ _ ?_; clear hK38 K38
    (try simp only [zP, zN, zA, zB, zC])
    refine pu_ (v := .int .i64 m) (y_assign rfl (by rfl) (by rfl)) ?_
    (try simp only [zP, zN, zA, zB, zC])
    refine nl_ (hK37 _ _ ?_); clear hK37 K37
    refine sq_ (fun K41 hK41 => ?_)
    refine s_ (fun K42 hK42 => ?_)
    refine pu_ (v := .int .i64 m) (y_move rfl (by rfl) (by rfl)) ?_
    (try simp only [zP, zN, zA, zB, zC])
    refine pu_ (v := .bool false) (y_run (by rfl) (fun W => by have d := D30.out; go_simp)) ?_
    (try simp only [zP, zN, zA, zB, zC])
    refine pu_ (v := .bool false) (y_move rfl (by rfl) (by rfl)) ?_
    (try simp only [zP, zN, zA, zB, zC])
    refine pu_ (y_off (by rfl)) ?_
    (try simp only [zP, zN, zA, zB, zC])
    refine pu_ (y_off (by rfl)) ?_
    (try simp only [zP, zN, zA, zB, zC])
    refine pu_ (y_off (by rfl)) ?_
    (try simp only [zP, zN, zA, zB, zC])
    refine pu_ (v := .bool false) (y_pick (t := false) (by rfl) rfl (by rfl) (by rfl)) ?_
    (try simp only [zP, zN, zA, zB, zC])
    refine nl_ (hK42 _ _ ?_); clear hK42 K42
    refine wp_cond_false rfl ?_
    refine wp_skip ?_
    refine th_norm (hK41 _ _ ?_); try clear hK41 K41
    refine s_ (fun K43 hK43 => ?_)
    refine pu_ (v := .pointer (some ⟨g26, 5, none⟩)) (y_run (by rfl) (fun W => by go_simp)) ?_
    (try simp only [zP, zN, zA, zB, zC])
    refine ld_ (v := .string (str s.qo)) rfl (by rfl) (by rfl) (run_load_one ((Fg26.out.cell 5).trans rfl) Tryd.underlying9 rfl) ?_
    (try simp only [zP, zN, zA, zB, zC])
    refine pu_ (v := .int .i64 m) (y_move rfl (by rfl) (by rfl)) ?_
    (try simp only [zP, zN, zA, zB, zC])
    refine pu_ (v := .string (str (s.qo.take m))) (y_run (by rfl) (fun W => by rw [← E40.out]; have d := D40.out; go_simp)) ?_
    (try simp only [zP, zN, zA, zB, zC])
    refine pu_ (v := .string (str (s.qo.take m))) (y_assign rfl (by rfl) (by rfl)) ?_
    (try simp only [zP, zN, zA, zB, zC])
    refine nl_ (hK43 _ _ ?_); clear hK43 K43
    refine s_ (fun K44 hK44 => ?_)
    refine pu_ (v := .pointer (some ⟨g26, 5, none⟩)) (y_run (by rfl) (fun W => by go_simp)) ?_
    (try simp only [zP, zN, zA, zB, zC])
    refine ld_ (v := .string (str s.qo)) rfl (by rfl) (by rfl) (run_load_one ((Fg26.out.cell 5).trans rfl) Tryd.underlying9 rfl) ?_
    (try simp only [zP, zN, zA, zB, zC])
    refine pu_ (v := .int .i64 m) (y_move rfl (by rfl) (by rfl)) ?_
    (try simp only [zP, zN, zA, zB, zC])
    refine pu_ (v := .string (str (s.qo.drop m))) (y_run (by rfl) (fun W => by rw [← E44.out]; have d := D40.out; go_simp)) ?_
    (try simp only [zP, zN, zA, zB, zC])
    refine pu_ (v := .pointer (some ⟨g26, 5, none⟩)) (y_run (by rfl) (fun W => by go_simp)) ?_
    (try simp only [zP, zN, zA, zB, zC])
    refine ef_ (fun K45 hK45 => ?_)
    refine e_store1 (b := g26) (j := 5) (v := .string (str (s.qo.drop m))) (by rfl) rfl rfl (by rfl) (by rfl) Fg26.out (show 5 < 6 by omega) (by kernel_rfl) rfl ?_
    rintro w46 B47 C48
    have C0' := Lib.hid (show Ch [] w w46 from C0.out.trans' C48 (inw_cons (.inr nw31.out) inw_nil))
    have SQ' := Lib.hid (show SrcIs w46 (.slice (some a) n z) (n) ((L).flatMap sesC) 6 from SQ.out.chx C48 (xnin_cons nx32.out xnin_nil))
    have Fg3' := Lib.hid (show Blk w46 g3 (#[.slice (some a) n z, .int .i64 la]) 44 from C48.blk Fg3.out (nin_cons (Blk.ne_type Fg3.out Fg26.out (by decide)) nin_nil))
    have Fg11' := Lib.hid (show Blk w46 g11 (#[.slice none 0 0, .int .i64 0]) 44 from C48.blk Fg11.out (nin_cons (Blk.ne_type Fg11.out Fg26.out (by decide)) nin_nil))
    clear C0 SQ Fg3 Fg11
    have C0 := C0'; clear C0'
    have SQ := SQ'; clear SQ'
    have Fg3 := Fg3'; clear Fg3'
    have Fg11 := Fg11'; clear Fg11'
    clear Fg26; have Fg26 := Lib.hid (show Blk w46 g26 (#[.int .i64 s.id, .int .i64 s.box, .int .i64 s.ctr, .bool false, .string (str s.qi), .string (str (s.qo.drop m))]) 49 from B47); clear B47 C48
    refine hK45 _ _ ?_; clear hK45 K45
    (try simp only [zP, zN, zA, zB, zC])
    refine nl_ (hK44 _ _ ?_); clear hK44 K44
    refine s_ (fun K49 hK49 => ?_)
    refine ld_ (v := .agg (#[.slice (some a) n z, .int .i64 la])) rfl (by rfl) (by rfl) (run_loadVar_row _ _ 44 44 (#[.slice (some a) n z, .int .i64 la]) (0, 0) _ Fg3.out Tryd.underlying44 rfl (by kernel_rfl)) ?_
    (try simp only [zP, zN, zA, zB, zC])
    refine pu_ (v := .int .i64 j) (y_move rfl (by rfl) (by rfl)) ?_
    (try simp only [zP, zN, zA, zB, zC])
    refine ld_ (v := .agg (#[.int .i64 s.id, .int .i64 s.box, .int .i64 s.ctr, .bool false, .string (str s.qi), .string (str (s.qo.drop m))])) rfl (by rfl) (by rfl) (run_loadVar_row _ _ 49 49 (#[.int .i64 s.id, .int .i64 s.box, .int .i64 s.ctr, .bool false, .string (str s.qi), .string (str (s.qo.drop m))]) (0, 0) _ Fg26.out Tryd.underlying49 rfl (by kernel_rfl)) ?_
    (try simp only [zP, zN, zA, zB, zC])
    refine ef_ (fun K50 hK50 => ?_)
    refine e_call Tryd.func46 (by kernel_rfl) rfl #[.agg (#[.slice (some a) n z, .int .i64 la]), .int .i64 j, .agg (#[.int .i64 s.id, .int .i64 s.box, .int .i64 s.ctr, .bool false, .string (str s.qi), .string (str (s.qo.drop m))])] (by rfl) rfl rfl (by first | rfl | (simp only [List.map_toArray, List.map_cons, List.map_nil]; first | done | rfl)) ((with_ (la := la) (j := j) (s := (⟨s.id, s.box, s.ctr, false, s.qi, s.qo.drop m⟩ : HS)) HNL HN HS_ SQ)) ?_
    rintro en w57 ⟨A55, z56, rfl, ⟨h152, h253, h454⟩, cc51⟩
    refine ⟨_, rfl, ?_⟩
    have nx58 := Lib.hid (show g3 ∉ xb (.slice A55 n z56) from fun hk => by have := h454 _ hk; have := Fg3.out.lt; omega)
    have nx59 := Lib.hid (show g11 ∉ xb (.slice A55 n z56) from fun hk => by have := h454 _ hk; have := Fg11.out.lt; omega)
    have nx60 := Lib.hid (show g26 ∉ xb (.slice A55 n z56) from fun hk => by have := h454 _ hk; have := Fg26.out.lt; omega)
    have H4_A55 := Lib.hid (show ∀ k, k ∈ xb (.slice A55 n z56) → w.heap.size ≤ k from fun k hk => Nat.le_trans C0.out.size (h454 k hk)); clear h454
    have H2_A55 := Lib.hid h253; clear h253
    have C0' := Lib.hid (show Ch [] w w57 from C0.out.trans' cc51 (fun x hx => absurd hx (by simp)))
    have SQ' := Lib.hid (show SrcIs w57 (.slice (some a) n z) (n) ((L).flatMap sesC) 6 from SQ.out.chx cc51 xnin_nil)
    have Fg3' := Lib.hid (show Blk w57 g3 (#[.slice (some a) n z, .int .i64 la]) 44 from cc51.blk Fg3.out nin_nil)
    have Fg11' := Lib.hid (show Blk w57 g11 (#[.slice none 0 0, .int .i64 0]) 44 from cc51.blk Fg11.out nin_nil)
    have Fg26' := Lib.hid (show Blk w57 g26 (#[.int .i64 s.id, .int .i64 s.box, .int .i64 s.ctr, .bool false, .string (str s.qi), .string (str (s.qo.drop m))]) 49 from cc51.blk Fg26.out nin_nil)
    clear C0 SQ Fg3 Fg11 Fg26
    have C0 := C0'; clear C0'
    have SQ := SQ'; clear SQ'
    have Fg3 := Fg3'; clear Fg3'
    have Fg11 := Fg11'; clear Fg11'
    have Fg26 := Fg26'; clear Fg26'
    clear cc51
    have SN := Lib.hid (show SrcIs w57 (.slice A55 n z56) (n) ((L.set j (⟨s.id, s.box, s.ctr, false, s.qi, s.qo.drop m⟩ : HS)).flatMap sesC) 6 from h152)
    refine hK50 _ _ ?_; clear hK50 K50
    (try simp only [zP, zN, zA, zB, zC])
    refine pu_ (v := .string (str (s.qo.take m))) (y_move rfl (by rfl) (by rfl)) ?_
    (try simp only [zP, zN, zA, zB, zC])
    refine ef_ (fun K61 hK61 => ?_)
    refine e_storeN (cells := #[.slice A55 n z56, .int .i64 la]) (by rfl) rfl rfl (by rfl) (by rfl) Fg11.out (by kernel_rfl) (by rfl) (ones_cons rfl (ones_cons rfl ones_nil)) ?_
    rintro w62 B63 C64
    have C0' := Lib.hid (show Ch [] w w62 from C0.out.trans' C64 (inw_cons (.inr nw16.out) inw_nil))
    have SQ' := Lib.hid (show SrcIs w62 (.slice (some a) n z) (n) ((L).flatMap sesC) 6 from SQ.out.chx C64 (xnin_cons nx17.out xnin_nil))
    have Fg3' := Lib.hid (show Blk w62 g3 (#[.slice (some a) n z, .int .i64 la]) 44 from C64.blk Fg3.out (nin_cons ne18.out nin_nil))
    have Fg26' := Lib.hid (show Blk w62 g26 (#[.int .i64 s.id, .int .i64 s.box, .int .i64 s.ctr, .bool false, .string (str s.qi), .string (str (s.qo.drop m))]) 49 from C64.blk Fg26.out (nin_cons (Blk.ne_type Fg26.out Fg11.out (by decide)) nin_nil))
    have SN' := Lib.hid (show SrcIs w62 (.slice A55 n z56) (n) ((L.set j (⟨s.id, s.box, s.ctr, false, s.qi, s.qo.drop m⟩ : HS)).flatMap sesC) 6 from SN.out.chx C64 (xnin_cons nx59.out xnin_nil))
    clear C0 SQ Fg3 Fg26 SN
    have C0 := C0'; clear C0'
    have SQ := SQ'; clear SQ'
    have Fg3 := Fg3'; clear Fg3'
    have Fg26 := Fg26'; clear Fg26'
    have SN := SN'; clear SN'
    clear Fg11; have Fg11 := Lib.hid (show Blk w62 g11 (#[.slice A55 n z56, .int .i64 la]) 44 from B63); clear B63 C64
    refine hK61 _ _ ?_; clear hK61 K61
    (try simp only [zP, zN, zA, zB, zC])
    refine pu_ (v := .string (str (s.qo.take m))) (y_assign rfl (by rfl) (by rfl)) ?_
    (try simp only [zP, zN, zA, zB, zC])
    refine pu_ (v := .int .i64 0) (y_assign rfl (by rfl) (by rfl)) ?_
    (try simp only [zP, zN, zA, zB, zC])
    refine nl_ (hK49 _ _ ?_); clear hK49 K49
    refine wp_ret ?_
    refine hQ _ _ _ ?_
    refine bodyPost_ret (res3 rfl (rdv_cell (by rfl) (run_loadVar_row _ _ 44 44 (#[.slice A55 n z56, .int .i64 la]) (0, 0) _ Fg11.out Tryd.underlying44 rfl (by kernel_rfl))) (rdv_tmp (v := .string (str (s.qo.take m))) (by rfl)) (rdv_tmp (v := .int .i64 0) (by rfl))) rfl ?_
    exact ⟨_, _, rfl, ⟨SN.out, H2_A55.out, H4_A55.out⟩, C0.out⟩
theorem rturn_none {Aq : Option Addr} {n z : Nat} {la : Int} {L : List HS} (HNL : Hid (L.length = n)) (HN : Hid (n ≤ 100)) {id : Int} (HF : Hid (fx id L = none)) {most : Int}  (SQ : Hid (SrcIs w (.slice Aq n z) (n) ((L).flatMap sesC) 6)) :
    Calls Tryd.prog 36 #[.agg #[.slice Aq n z, .int .i64 la], .int .i64 id, .int .i64 most] w fun en w' => en = .returned (.tuple #[.agg #[.slice Aq n z, .int .i64 la], .int .i64 0]) ∧ Ch [] w w' := by
  have C0 := Lib.hid (Ch.refl [] w)
  have HFI := Lib.hid (show fxI id L = -1 by unfold fxI; rw [HF.out])
  have DN := Lib.hid (show (-1 : Int) < 0 by omega)
  go_enter Tryd.func36, Tryd.ntmps36
  refine q_ (fun Q hQ hP => ?_)
  refine s_ (fun K1 hK1 => ?_)
  refine ef_ (fun K2 hK2 => ?_)
  refine e_boxN (by rfl) rfl rfl (cs := #[.slice Aq n z, .int .i64 la]) (v := .agg #[.slice Aq n z, .int .i64 la]) (by rfl) rfl ?_
  rintro g3 w4 HG5 B6 C7
  have nw8 := Lib.hid (show w.heap.size ≤ g3 by have := C0.out.size; have := HG5.out; omega)
  have nx9 := Lib.hid (SQ.out.ne_new (by decide) HG5)
  have C0' := Lib.hid (show Ch [] w w4 from C0.out.trans' C7 (fun x hx => absurd hx (by simp)))
  have SQ' := Lib.hid (show SrcIs w4 (.slice Aq n z) (n) ((L).flatMap sesC) 6 from SQ.out.chx C7 xnin_nil)
  clear C0 SQ
  have C0 := C0'; clear C0'
  have SQ := SQ'; clear SQ'
  have Fg3 := Lib.hid (show Blk w4 g3 (#[.slice Aq n z, .int .i64 la]) 44 from B6); clear B6 C7
  refine hK2 _ _ ?_; clear hK2 K2
  (try simp only [zP, zN, zA, zB, zC])
  refine ef_ (fun K10 hK10 => ?_)
  refine e_alloc (by rfl) rfl rfl (cs := #[.slice none 0 0, .int .i64 0]) (by kernel_rfl) ?_
  rintro g11 w12 HG13 B14 C15
  have nw16 := Lib.hid (show w.heap.size ≤ g11 by have := C0.out.size; have := HG13.out; omega)
  have nx17 := Lib.hid (SQ.out.ne_new (by decide) HG13)
  have ne18 := Lib.hid (Fg3.out.ne_new HG13)
  have C0' := Lib.hid (show Ch [] w w12 from C0.out.trans' C15 (fun x hx => absurd hx (by simp)))
  have SQ' := Lib.hid (show SrcIs w12 (.slice Aq n z) (n) ((L).flatMap sesC) 6 from SQ.out.chx C15 xnin_nil)
  have Fg3' := Lib.hid (show Blk w12 g3 (#[.slice Aq n z, .int .i64 la]) 44 from C15.blk Fg3.out nin_nil)
  clear C0 SQ Fg3
  have C0 := C0'; clear C0'
  have SQ := SQ'; clear SQ'
  have Fg3 := Fg3'; clear Fg3'
  have Fg11 := Lib.hid (show Blk w12 g11 (#[.slice none 0 0, .int .i64 0]) 44 from B14); clear B14 C15
  refine hK10 _ _ ?_; clear hK10 K10
  (try simp only [zP, zN, zA, zB, zC])
  refine pu_ (v := .int .i64 0) (y_assign rfl (by rfl) (by rfl)) ?_
  (try simp only [zP, zN, zA, zB, zC])
  refine nl_ (hK1 _ _ ?_); clear hK1 K1
  refine s_ (fun K19 hK19 => ?_)
  refine ld_ (v := .agg (#[.slice Aq n z, .int .i64 la])) rfl (by rfl) (by rfl) (run_loadVar_row _ _ 44 44 (#[.slice Aq n z, .int .i64 la]) (0, 0) _ Fg3.out Tryd.underlying44 rfl (by kernel_rfl)) ?_
  (try simp only [zP, zN, zA, zB, zC])
  refine pu_ (v := .int .i64 id) (y_move rfl (by rfl) (by rfl)) ?_
  (try simp only [zP, zN, zA, zB, zC])
  refine ef_ (fun K20 hK20 => ?_)
  refine e_call Tryd.func18 (by kernel_rfl) rfl #[.agg (#[.slice Aq n z, .int .i64 la]), .int .i64 id] (by rfl) rfl rfl (by first | rfl | (simp only [List.map_toArray, List.map_cons, List.map_nil]; first | done | rfl)) ((by have h9 := rindex_ (id := id) (la := la) HNL HN SQ; rw [HFI.out] at h9; exact h9)) ?_
  rintro en w21 ⟨rfl, cc⟩
  refine ⟨_, rfl, ?_⟩
  have C0' := Lib.hid (show Ch [] w w21 from C0.out.trans' cc (fun x hx => absurd hx (by simp)))
  have SQ' := Lib.hid (show SrcIs w21 (.slice Aq n z) (n) ((L).flatMap sesC) 6 from SQ.out.chx cc xnin_nil)
  have Fg3' := Lib.hid (show Blk w21 g3 (#[.slice Aq n z, .int .i64 la]) 44 from cc.blk Fg3.out nin_nil)
  have Fg11' := Lib.hid (show Blk w21 g11 (#[.slice none 0 0, .int .i64 0]) 44 from cc.blk Fg11.out nin_nil)
  clear C0 SQ Fg3 Fg11
  have C0 := C0'; clear C0'
  have SQ := SQ'; clear SQ'
  have Fg3 := Fg3'; clear Fg3'
  have Fg11 := Fg11'; clear Fg11'
  clear cc
  refine hK20 _ _ ?_; clear hK20 K20
  (try simp only [zP, zN, zA, zB, zC])
  refine pu_ (v := .int .i64 (-1)) (y_assign rfl (by rfl) (by rfl)) ?_
  (try simp only [zP, zN, zA, zB, zC])
  refine nl_ (hK19 _ _ ?_); clear hK19 K19
  refine sq_ (fun K22 hK22 => ?_)
  refine s_ (fun K23 hK23 => ?_)
  refine pu_ (v := .int .i64 (-1)) (y_move rfl (by rfl) (by rfl)) ?_
  (try simp only [zP, zN, zA, zB, zC])
  refine pu_ (v := .bool true) (y_run (by rfl) (fun W => by have d := DN.out; go_simp)) ?_
  (try simp only [zP, zN, zA, zB, zC])
  refine pu_ (v := .bool true) (y_move rfl (by rfl) (by rfl)) ?_
  (try simp only [zP, zN, zA, zB, zC])
  refine pu_ (y_off (by rfl)) ?_
  (try simp only [zP, zN, zA, zB, zC])
  refine pu_ (y_off (by rfl)) ?_
  (try simp only [zP, zN, zA, zB, zC])
  refine pu_ (y_off (by rfl)) ?_
  (try simp only [zP, zN, zA, zB, zC])
  refine pu_ (y_off (by rfl)) ?_
  (try simp only [zP, zN, zA, zB, zC])
  refine pu_ (y_off (by rfl)) ?_
  (try simp only [zP, zN, zA, zB, zC])
  refine pu_ (y_off (by rfl)) ?_
  (try simp only [zP, zN, zA, zB, zC])
  refine pu_ (y_off (by rfl)) ?_
  (try simp only [zP, zN, zA, zB, zC])
  refine pu_ (v := .bool true) (y_pick (t := true) (by rfl) rfl (by rfl) (by rfl)) ?_
  (try simp only [zP, zN, zA, zB, zC])
  refine nl_ (hK23 _ _ ?_); clear hK23 K23
  refine wp_cond_true rfl ?_
  refine s_ (fun K24 hK24 => ?_)
  refine ld_ (v := .agg (#[.slice Aq n z, .int .i64 la])) rfl (by rfl) (by rfl) (run_loadVar_row _ _ 44 44 (#[.slice Aq n z, .int .i64 la]) (0, 0) _ Fg3.out Tryd.underlying44 rfl (by kernel_rfl)) ?_
  (try simp only [zP, zN, zA, zB, zC])
  refine ef_ (fun K25 hK25 => ?_)
  refine e_storeN (cells := (#[.slice Aq n z, .int .i64 la])) (by rfl) rfl rfl (by rfl) (by rfl) Fg11.out (by kernel_rfl) (by rfl) (ones_cons rfl (ones_cons rfl ones_nil)) ?_
  rintro w26 B27 C28
  have C0' := Lib.hid (show Ch [] w w26 from C0.out.trans' C28 (inw_cons (.inr nw16.out) inw_nil))
  have SQ' := Lib.hid (show SrcIs w26 (.slice Aq n z) (n) ((L).flatMap sesC) 6 from SQ.out.chx C28 (xnin_cons nx17.out xnin_nil))
  have Fg3' := Lib.hid (show Blk w26 g3 (#[.slice Aq n z, .int .i64 la]) 44 from C28.blk Fg3.out (nin_cons ne18.out nin_nil))
  clear C0 SQ Fg3
  have C0 := C0'; clear C0'
  have SQ := SQ'; clear SQ'
  have Fg3 := Fg3'; clear Fg3'
  clear Fg11; have Fg11 := Lib.hid (show Blk w26 g11 ((#[.slice Aq n z, .int .i64 la])) 44 from B27); clear B27 C28
  refine hK25 _ _ ?_; clear hK25 K25
  (try simp only [zP, zN, zA, zB, zC])
  refine pu_ (v := .int .i64 0) (y_assign rfl (by rfl) (by rfl)) ?_
  (try simp only [zP, zN, zA, zB, zC])
  refine nl_ (hK24 _ _ ?_); clear hK24 K24
  refine wp_ret ?_
  refine th_ret ?_
  refine hQ _ _ _ ?_
  refine bodyPost_ret (res2 rfl (rdv_cell (by rfl) (run_loadVar_row _ _ 44 44 ((#[.slice Aq n z, .int .i64 la])) (0, 0) _ Fg11.out Tryd.underlying44 rfl (by kernel_rfl))) (rdv_tmp (v := .int .i64 0) (by rfl))) rfl ?_
  exact ⟨rfl, C0.out⟩
theorem rturn_closed {Aq : Option Addr} {n z : Nat} {la : Int} {L : List HS} (HNL : Hid (L.length = n)) (HN : Hid (n ≤ 100)) {id : Int} {j : Nat} {s : HS} (HF : Hid (fx id L = some j)) (HS_ : Hid (L[j]? = some s)) (HOP : Hid (s.op = false)) {most : Int}  (SQ : Hid (SrcIs w (.slice Aq n z) (n) ((L).flatMap sesC) 6)) :
    Calls Tryd.prog 36 #[.agg #[.slice Aq n z, .int .i64 la], .int .i64 id, .int .i64 most] w fun en w' => en = .returned (.tuple #[.agg #[.slice Aq n z, .int .i64 la], .int .i64 0]) ∧ Ch [] w w' := by
  have C0 := Lib.hid (Ch.refl [] w)
  have HFI := Lib.hid (show fxI id L = j by unfold fxI; rw [HF.out])
  have HJ := Lib.hid (show j < n by have := (List.getElem?_eq_some_iff.1 HS_.out).1; have := HNL.out; omega)
  have DJ := Lib.hid (show (j : Int) < (n : Int) by have := HJ.out; omega)
  have DZ := Lib.hid (show ¬ (j : Int) < 0 by omega)
  go_enter Tryd.func36, Tryd.ntmps36
  refine q_ (fun Q hQ hP => ?_)
  refine s_ (fun K1 hK1 => ?_)
  refine ef_ (fun K2 hK2 => ?_)
  refine e_boxN (by rfl) rfl rfl (cs := #[.slice Aq n z, .int .i64 la]) (v := .agg #[.slice Aq n z, .int .i64 la]) (by rfl) rfl ?_
  rintro g3 w4 HG5 B6 C7
  have nw8 := Lib.hid (show w.heap.size ≤ g3 by have := C0.out.size; have := HG5.out; omega)
  have nx9 := Lib.hid (SQ.out.ne_new (by decide) HG5)
  have C0' := Lib.hid (show Ch [] w w4 from C0.out.trans' C7 (fun x hx => absurd hx (by simp)))
  have SQ' := Lib.hid (show SrcIs w4 (.slice Aq n z) (n) ((L).flatMap sesC) 6 from SQ.out.chx C7 xnin_nil)
  clear C0 SQ
  have C0 := C0'; clear C0'
  have SQ := SQ'; clear SQ'
  have Fg3 := Lib.hid (show Blk w4 g3 (#[.slice Aq n z, .int .i64 la]) 44 from B6); clear B6 C7
  refine hK2 _ _ ?_; clear hK2 K2
  (try simp only [zP, zN, zA, zB, zC])
  refine ef_ (fun K10 hK10 => ?_)
  refine e_alloc (by rfl) rfl rfl (cs := #[.slice none 0 0, .int .i64 0]) (by kernel_rfl) ?_
  rintro g11 w12 HG13 B14 C15
  have nw16 := Lib.hid (show w.heap.size ≤ g11 by have := C0.out.size; have := HG13.out; omega)
  have nx17 := Lib.hid (SQ.out.ne_new (by decide) HG13)
  have ne18 := Lib.hid (Fg3.out.ne_new HG13)
  have C0' := Lib.hid (show Ch [] w w12 from C0.out.trans' C15 (fun x hx => absurd hx (by simp)))
  have SQ' := Lib.hid (show SrcIs w12 (.slice Aq n z) (n) ((L).flatMap sesC) 6 from SQ.out.chx C15 xnin_nil)
  have Fg3' := Lib.hid (show Blk w12 g3 (#[.slice Aq n z, .int .i64 la]) 44 from C15.blk Fg3.out nin_nil)
  clear C0 SQ Fg3
  have C0 := C0'; clear C0'
  have SQ := SQ'; clear SQ'
  have Fg3 := Fg3'; clear Fg3'
  have Fg11 := Lib.hid (show Blk w12 g11 (#[.slice none 0 0, .int .i64 0]) 44 from B14); clear B14 C15
  refine hK10 _ _ ?_; clear hK10 K10
  (try simp only [zP, zN, zA, zB, zC])
  refine pu_ (v := .int .i64 0) (y_assign rfl (by rfl) (by rfl)) ?_
  (try simp only [zP, zN, zA, zB, zC])
  refine nl_ (hK1 _ _ ?_); clear hK1 K1
  refine s_ (fun K19 hK19 => ?_)
  refine ld_ (v := .agg (#[.slice Aq n z, .int .i64 la])) rfl (by rfl) (by rfl) (run_loadVar_row _ _ 44 44 (#[.slice Aq n z, .int .i64 la]) (0, 0) _ Fg3.out Tryd.underlying44 rfl (by kernel_rfl)) ?_
  (try simp only [zP, zN, zA, zB, zC])
  refine pu_ (v := .int .i64 id) (y_move rfl (by rfl) (by rfl)) ?_
  (try simp only [zP, zN, zA, zB, zC])
  refine ef_ (fun K20 hK20 => ?_)
  refine e_call Tryd.func18 (by kernel_rfl) rfl #[.agg (#[.slice Aq n z, .int .i64 la]), .int .i64 id] (by rfl) rfl rfl (by first | rfl | (simp only [List.map_toArray, List.map_cons, List.map_nil]; first | done | rfl)) ((by have h9 := rindex_ (id := id) (la := la) HNL HN SQ; rw [HFI.out] at h9; exact h9)) ?_
  rintro en w21 ⟨rfl, cc⟩
  refine ⟨_, rfl, ?_⟩
  have C0' := Lib.hid (show Ch [] w w21 from C0.out.trans' cc (fun x hx => absurd hx (by simp)))
  have SQ' := Lib.hid (show SrcIs w21 (.slice Aq n z) (n) ((L).flatMap sesC) 6 from SQ.out.chx cc xnin_nil)
  have Fg3' := Lib.hid (show Blk w21 g3 (#[.slice Aq n z, .int .i64 la]) 44 from cc.blk Fg3.out nin_nil)
  have Fg11' := Lib.hid (show Blk w21 g11 (#[.slice none 0 0, .int .i64 0]) 44 from cc.blk Fg11.out nin_nil)
  clear C0 SQ Fg3 Fg11
  have C0 := C0'; clear C0'
  have SQ := SQ'; clear SQ'
  have Fg3 := Fg3'; clear Fg3'
  have Fg11 := Fg11'; clear Fg11'
  clear cc
  refine hK20 _ _ ?_; clear hK20 K20
  (try simp only [zP, zN, zA, zB, zC])
  refine pu_ (v := .int .i64 j) (y_assign rfl (by rfl) (by rfl)) ?_
  (try simp only [zP, zN, zA, zB, zC])
  refine nl_ (hK19 _ _ ?_); clear hK19 K19
  refine sq_ (fun K22 hK22 => ?_)
  skip
  · obtain ⟨a, hsm_a⟩ := src_some SQ.out (by have := HJ.out; omega)
    subst hsm_a
    refine s_ (fun K23 hK23 => ?_)
    refine pu_ (v := .int .i64 j) (y_move rfl (by rfl) (by rfl)) ?_
    (try simp only [zP, zN, zA, zB, zC])
    refine pu_ (v := .bool false) (y_run (by rfl) (fun W => by have d := DZ.out; go_simp)) ?_
    (try simp only [zP, zN, zA, zB, zC])
    refine pu_ (v := .bool false) (y_move rfl (by rfl) (by rfl)) ?_
    (try simp only [zP, zN, zA, zB, zC])
    refine pu_ (v := .pointer (some ⟨g3, 0, none⟩)) (y_run (by rfl) (fun W => by go_simp)) ?_
    (try simp only [zP, zN, zA, zB, zC])
    refine ld_ (v := .slice (some a) n z) rfl (by rfl) (by rfl) (run_load_one ((Fg3.out.cell 0).trans rfl) Tryd.underlying42 rfl) ?_
    (try simp only [zP, zN, zA, zB, zC])
    refine pu_ (v := .int .i64 j) (y_move rfl (by rfl) (by rfl)) ?_
    (try simp only [zP, zN, zA, zB, zC])
    refine pu_ (v := .pointer (some (a.add (j * 6)))) (y_run (by rfl) (fun W => by have d := DJ.out; go_simp)) ?_
    (try simp only [zP, zN, zA, zB, zC])
    refine pu_ (v := .pointer (some ((a.add (j * 6)).add 3))) (y_run (by rfl) (fun W => by go_simp)) ?_
    (try simp only [zP, zN, zA, zB, zC])
    refine ld_ (v := .bool false) rfl (by rfl) (by rfl) (run_load_one (by have h9 := src_fld SQ.out HS_.out 3 (.bool s.op) (by simp [sesC]); rw [HOP.out] at h9; exact h9) Tryd.underlying4 rfl) ?_
    (try simp only [zP, zN, zA, zB, zC])
    refine pu_ (v := .bool true) (y_run (by rfl) (fun W => by go_simp)) ?_
    (try simp only [zP, zN, zA, zB, zC])
    refine pu_ (v := .bool true) (y_pick (t := false) (by rfl) rfl (by rfl) (by rfl)) ?_
    (try simp only [zP, zN, zA, zB, zC])
    refine nl_ (hK23 _ _ ?_); clear hK23 K23
    refine wp_cond_true rfl ?_
    refine s_ (fun K24 hK24 => ?_)
    refine ld_ (v := .agg (#[.slice (some a) n z, .int .i64 la])) rfl (by rfl) (by rfl) (run_loadVar_row _ _ 44 44 (#[.slice (some a) n z, .int .i64 la]) (0, 0) _ Fg3.out Tryd.underlying44 rfl (by kernel_rfl)) ?_
    (try simp only [zP, zN, zA, zB, zC])
    refine ef_ (fun K25 hK25 => ?_)
    refine e_storeN (cells := (#[.slice (some a) n z, .int .i64 la])) (by rfl) rfl rfl (by rfl) (by rfl) Fg11.out (by kernel_rfl) (by rfl) (ones_cons rfl (ones_cons rfl ones_nil)) ?_
    rintro w26 B27 C28
    have C0' := Lib.hid (show Ch [] w w26 from C0.out.trans' C28 (inw_cons (.inr nw16.out) inw_nil))
    have SQ' := Lib.hid (show SrcIs w26 (.slice (some a) n z) (n) ((L).flatMap sesC) 6 from SQ.out.chx C28 (xnin_cons nx17.out xnin_nil))
    have Fg3' := Lib.hid (show Blk w26 g3 (#[.slice (some a) n z, .int .i64 la]) 44 from C28.blk Fg3.out (nin_cons ne18.out nin_nil))
    clear C0 SQ Fg3
    have C0 := C0'; clear C0'
    have SQ := SQ'; clear SQ'
    have Fg3 := Fg3'; clear Fg3'
    clear Fg11; have Fg11 := Lib.hid (show Blk w26 g11 ((#[.slice (some a) n z, .int .i64 la])) 44 from B27); clear B27 C28
    refine hK25 _ _ ?_; clear hK25 K25
    (try simp only [zP, zN, zA, zB, zC])
    refine pu_ (v := .int .i64 0) (y_assign rfl (by rfl) (by rfl)) ?_
    (try simp only [zP, zN, zA, zB, zC])
    refine nl_ (hK24 _ _ ?_); clear hK24 K24
    refine wp_ret ?_
    refine th_ret ?_
    refine hQ _ _ _ ?_
    refine bodyPost_ret (res2 rfl (rdv_cell (by rfl) (run_loadVar_row _ _ 44 44 ((#[.slice (some a) n z, .int .i64 la])) (0, 0) _ Fg11.out Tryd.underlying44 rfl (by kernel_rfl))) (rdv_tmp (v := .int .i64 0) (by rfl))) rfl ?_
    exact ⟨rfl, C0.out⟩
theorem rturn_ok {Aq : Option Addr} {n z : Nat} {la : Int} {L : List HS} (HNL : Hid (L.length = n)) (HN : Hid (n ≤ 100)) {id : Int} {j : Nat} {s : HS} (HF : Hid (fx id L = some j)) (HS_ : Hid (L[j]? = some s)) (HOP : Hid (s.op = true)) {most : Int} {m : Nat} (HM : Hid (m = tuN s most)) (HQ : Hid (s.qi.length ≤ 64 ∧ s.qo.length ≤ 64)) (SQ : Hid (SrcIs w (.slice Aq n z) (n) ((L).flatMap sesC) 6)) :
    Calls Tryd.prog 36 #[.agg #[.slice Aq n z, .int .i64 la], .int .i64 id, .int .i64 most] w fun en w' => ∃ Q' z', en = .returned (.tuple #[.agg #[.slice Q' n z', .int .i64 la], .int .i64 m]) ∧ NewQ w w' n (L.set j (⟨s.id, s.box, s.ctr, true, s.qi.drop m, s.qo ++ (s.qi.take m).map upB⟩ : HS)) Q' z' ∧ Ch [] w w' := by
  have C0 := Lib.hid (Ch.refl [] w)
  have HFI := Lib.hid (show fxI id L = j by unfold fxI; rw [HF.out])
  have HJ := Lib.hid (show j < n by have := (List.getElem?_eq_some_iff.1 HS_.out).1; have := HNL.out; omega)
  have DJ := Lib.hid (show (j : Int) < (n : Int) by have := HJ.out; omega)
  have DZ := Lib.hid (show ¬ (j : Int) < 0 by omega)
  obtain ⟨m1, hm1⟩ : ∃ m1, m1 = min (max most 0).toNat s.qi.length := ⟨_, rfl⟩
  have HM1 := Lib.hid hm1
  clear hm1
  have HIS := Lib.hid (show (str s.qi).size = s.qi.length from str_size _)
  have HOS := Lib.hid (show (str s.qo).size = s.qo.length from str_size _)
  have D39 := Lib.hid (show IntKind.i64.wrap (64 - ((str s.qo).size : Int)) = 64 - ((str s.qo).size : Int) by rw [wr64 (by have := HOS.out; have := HQ.out; omega)])
  have HF1 := Lib.hid (show fewI most ((str s.qi).size : Int) = (m1 : Int) by unfold fewI; have h1 := HM1.out; have h2 := HIS.out; omega)
  have HF2 := Lib.hid (show fewI (m1 : Int) (64 - ((str s.qo).size : Int)) = (m : Int) by unfold fewI; have h1 := HM1.out; have h2 := HOS.out; have h3 := HM.out; unfold tuN room at h3; simp only [Bool.false_eq_true, if_false] at h3; have := HQ.out; omega)
  have HMI := Lib.hid (show m ≤ s.qi.length by have h3 := HM.out; unfold tuN at h3; omega)
  have D46 := Lib.hid (show (m : Int) ≤ ((str s.qi).size : Int) by have := HMI.out; have := HIS.out; omega)
  have E46 := Lib.hid (str_ext s.qi m)
  have E53 := Lib.hid (str_from s.qi m)
  obtain ⟨cp, hcp⟩ : ∃ cp, cp = str ((s.qi.take m).map upB) := ⟨_, rfl⟩
  have HCP := Lib.hid hcp
  clear hcp
  have E48 := Lib.hid (show str s.qo ++ cp = str (s.qo ++ (s.qi.take m).map upB) by rw [HCP.out]; exact str_append _ _)
  have D48 := Lib.hid (show (str s.qo).size + cp.size ≤ 9223372036854775807 by rw [HCP.out, str_size, str_size, List.length_map, List.length_take]; have := HQ.out; omega)
  go_enter Tryd.func36, Tryd.ntmps36
  refine q_ (fun Q hQ hP => ?_)
  refine s_ (fun K1 hK1 => ?_)
  refine ef_ (fun K2 hK2 => ?_)
  refine e_boxN (by rfl) rfl rfl (cs := #[.slice Aq n z, .int .i64 la]) (v := .agg #[.slice Aq n z, .int .i64 la]) (by rfl) rfl ?_
  rintro g3 w4 HG5 B6 C7
  have nw8 := Lib.hid (show w.heap.size ≤ g3 by have := C0.out.size; have := HG5.out; omega)
  have nx9 := Lib.hid (SQ.out.ne_new (by decide) HG5)
  have C0' := Lib.hid (show Ch [] w w4 from C0.out.trans' C7 (fun x hx => absurd hx (by simp)))
  have SQ' := Lib.hid (show SrcIs w4 (.slice Aq n z) (n) ((L).flatMap sesC) 6 from SQ.out.chx C7 xnin_nil)
  clear C0 SQ
  have C0 := C0'; clear C0'
  have SQ := SQ'; clear SQ'
  have Fg3 := Lib.hid (show Blk w4 g3 (#[.slice Aq n z, .int .i64 la]) 44 from B6); clear B6 C7
  refine hK2 _ _ ?_; clear hK2 K2
  (try simp only [zP, zN, zA, zB, zC])
  refine ef_ (fun K10 hK10 => ?_)
  refine e_alloc (by rfl) rfl rfl (cs := #[.slice none 0 0, .int .i64 0]) (by kernel_rfl) ?_
  rintro g11 w12 HG13 B14 C15
  have nw16 := Lib.hid (show w.heap.size ≤ g11 by have := C0.out.size; have := HG13.out; omega)
  have nx17 := Lib.hid (SQ.out.ne_new (by decide) HG13)
  have ne18 := Lib.hid (Fg3.out.ne_new HG13)
  have C0' := Lib.hid (show Ch [] w w12 from C0.out.trans' C15 (fun x hx => absurd hx (by simp)))
  have SQ' := Lib.hid (show SrcIs w12 (.slice Aq n z) (n) ((L).flatMap sesC) 6 from SQ.out.chx C15 xnin_nil)
  have Fg3' := Lib.hid (show Blk w12 g3 (#[.slice Aq n z, .int .i64 la]) 44 from C15.blk Fg3.out nin_nil)
  clear C0 SQ Fg3
  have C0 := C0'; clear C0'
  have SQ := SQ'; clear SQ'
  have Fg3 := Fg3'; clear Fg3'
  have Fg11 := Lib.hid (show Blk w12 g11 (#[.slice none 0 0, .int .i64 0]) 44 from B14); clear B14 C15
  refine hK10 _ _ ?_; clear hK10 K10
  (try simp only [zP, zN, zA, zB, zC])
  refine pu_ (v := .int .i64 0) (y_assign rfl (by rfl) (by rfl)) ?_
  (try simp only [zP, zN, zA, zB, zC])
  refine nl_ (hK1 _ _ ?_); clear hK1 K1
  refine s_ (fun K19 hK19 => ?_)
  refine ld_ (v := .agg (#[.slice Aq n z, .int .i64 la])) rfl (by rfl) (by rfl) (run_loadVar_row _ _ 44 44 (#[.slice Aq n z, .int .i64 la]) (0, 0) _ Fg3.out Tryd.underlying44 rfl (by kernel_rfl)) ?_
  (try simp only [zP, zN, zA, zB, zC])
  refine pu_ (v := .int .i64 id) (y_move rfl (by rfl) (by rfl)) ?_
  (try simp only [zP, zN, zA, zB, zC])
  refine ef_ (fun K20 hK20 => ?_)
  refine e_call Tryd.func18 (by kernel_rfl) rfl #[.agg (#[.slice Aq n z, .int .i64 la]), .int .i64 id] (by rfl) rfl rfl (by first | rfl | (simp only [List.map_toArray, List.map_cons, List.map_nil]; first | done | rfl)) ((by have h9 := rindex_ (id := id) (la := la) HNL HN SQ; rw [HFI.out] at h9; exact h9)) ?_
  rintro en w21 ⟨rfl, cc⟩
  refine ⟨_, rfl, ?_⟩
  have C0' := Lib.hid (show Ch [] w w21 from C0.out.trans' cc (fun x hx => absurd hx (by simp)))
  have SQ' := Lib.hid (show SrcIs w21 (.slice Aq n z) (n) ((L).flatMap sesC) 6 from SQ.out.chx cc xnin_nil)
  have Fg3' := Lib.hid (show Blk w21 g3 (#[.slice Aq n z, .int .i64 la]) 44 from cc.blk Fg3.out nin_nil)
  have Fg11' := Lib.hid (show Blk w21 g11 (#[.slice none 0 0, .int .i64 0]) 44 from cc.blk Fg11.out nin_nil)
  clear C0 SQ Fg3 Fg11
  have C0 := C0'; clear C0'
  have SQ := SQ'; clear SQ'
  have Fg3 := Fg3'; clear Fg3'
  have Fg11 := Fg11'; clear Fg11'
  clear cc
  refine hK20 _ _ ?_; clear hK20 K20
  (try simp only [zP, zN, zA, zB, zC])
  refine pu_ (v := .int .i64 j) (y_assign rfl (by rfl) (by rfl)) ?_
  (try simp only [zP, zN, zA, zB, zC])
  refine nl_ (hK19 _ _ ?_); clear hK19 K19
  refine sq_ (fun K22 hK22 => ?_)
  skip
  · obtain ⟨a, hsm_a⟩ := src_some SQ.out (by have := HJ.out; omega)
    subst hsm_a
    refine s_ (fun K23 hK23 => ?_)
    refine pu_ (v := .int .i64 j) (y_move rfl (by rfl) (by rfl)) ?_
    (try simp only [zP, zN, zA, zB, zC])
    refine pu_ (v := .bool false) (y_run (by rfl) (fun W => by have d := DZ.out; go_simp)) ?_
    (try simp only [zP, zN, zA, zB, zC])
    refine pu_ (v := .bool false) (y_move rfl (by rfl) (by rfl)) ?_
    (try simp only [zP, zN, zA, zB, zC])
    refine pu_ (v := .pointer (some ⟨g3, 0, none⟩)) (y_run (by rfl) (fun W => by go_simp)) ?_
    (try simp only [zP, zN, zA, zB, zC])
    refine ld_ (v := .slice (some a) n z) rfl (by rfl) (by rfl) (run_load_one ((Fg3.out.cell 0).trans rfl) Tryd.underlying42 rfl) ?_
    (try simp only [zP, zN, zA, zB, zC])
    refine pu_ (v := .int .i64 j) (y_move rfl (by rfl) (by rfl)) ?_
    (try simp only [zP, zN, zA, zB, zC])
    refine pu_ (v := .pointer (some (a.add (j * 6)))) (y_run (by rfl) (fun W => by have d := DJ.out; go_simp)) ?_
    (try simp only [zP, zN, zA, zB, zC])
    refine pu_ (v := .pointer (some ((a.add (j * 6)).add 3))) (y_run (by rfl) (fun W => by go_simp)) ?_
    (try simp only [zP, zN, zA, zB, zC])
    refine ld_ (v := .bool true) rfl (by rfl) (by rfl) (run_load_one (by have h9 := src_fld SQ.out HS_.out 3 (.bool s.op) (by simp [sesC]); rw [HOP.out] at h9; exact h9) Tryd.underlying4 rfl) ?_
    (try simp only [zP, zN, zA, zB, zC])
    refine pu_ (v := .bool false) (y_run (by rfl) (fun W => by go_simp)) ?_
    (try simp only [zP, zN, zA, zB, zC])
    refine pu_ (v := .bool false) (y_pick (t := false) (by rfl) rfl (by rfl) (by rfl)) ?_
    (try simp only [zP, zN, zA, zB, zC])
    refine nl_ (hK23 _ _ ?_); clear hK23 K23
    refine wp_cond_false rfl ?_
    refine wp_skip ?_
    refine th_norm (hK22 _ _ ?_); try clear hK22 K22
    refine s_ (fun K24 hK24 => ?_)
    refine pu_ (v := .pointer (some ⟨g3, 0, none⟩)) (y_run (by rfl) (fun W => by go_simp)) ?_
    (try simp only [zP, zN, zA, zB, zC])
    refine ld_ (v := .slice (some a) n z) rfl (by rfl) (by rfl) (run_load_one ((Fg3.out.cell 0).trans rfl) Tryd.underlying42 rfl) ?_
    (try simp only [zP, zN, zA, zB, zC])
    refine pu_ (v := .int .i64 j) (y_move rfl (by rfl) (by rfl)) ?_
    (try simp only [zP, zN, zA, zB, zC])
    refine pu_ (v := .pointer (some (a.add (j * 6)))) (y_run (by rfl) (fun W => by have d := DJ.out; go_simp)) ?_
    (try simp only [zP, zN, zA, zB, zC])
    refine ld_ (v := .agg #[.int .i64 s.id, .int .i64 s.box, .int .i64 s.ctr, .bool true, .string (str s.qi), .string (str s.qo)]) rfl (by rfl) (by rfl) (run_loadVar_at (cs := [.int .i64 s.id, .int .i64 s.box, .int .i64 s.ctr, .bool true, .string (str s.qi), .string (str s.qo)]) (src_ses SQ.out HS_.out HOP.out) Tryd.underlying49 rfl (by kernel_rfl)) ?_
    (try simp only [zP, zN, zA, zB, zC])
    refine ef_ (fun K25 hK25 => ?_)
    refine e_alloc (by rfl) rfl rfl (cs := #[.int .i64 0, .int .i64 0, .int .i64 0, .bool false, .string ⟨#[]⟩, .string ⟨#[]⟩]) (by kernel_rfl) ?_
    rintro g26 w27 HG28 B29 C30
    have nw31 := Lib.hid (show w.heap.size ≤ g26 by have := C0.out.size; have := HG28.out; omega)
    have nx32 := Lib.hid (SQ.out.ne_new (by decide) HG28)
    have C0' := Lib.hid (show Ch [] w w27 from C0.out.trans' C30 (fun x hx => absurd hx (by simp)))
    have SQ' := Lib.hid (show SrcIs w27 (.slice (some a) n z) (n) ((L).flatMap sesC) 6 from SQ.out.chx C30 xnin_nil)
    have Fg3' := Lib.hid (show Blk w27 g3 (#[.slice (some a) n z, .int .i64 la]) 44 from C30.blk Fg3.out nin_nil)
    have Fg11' := Lib.hid (show Blk w27 g11 (#[.slice none 0 0, .int .i64 0]) 44 from C30.blk Fg11.out nin_nil)
    clear C0 SQ Fg3 Fg11
    have C0 := C0'; clear C0'
    have SQ := SQ'; clear SQ'
    have Fg3 := Fg3'; clear Fg3'
    have Fg11 := Fg11'; clear Fg11'
    have Fg26 := Lib.hid (show Blk w27 g26 (#[.int .i64 0, .int .i64 0, .int .i64 0, .bool false, .string ⟨#[]⟩, .string ⟨#[]⟩]) 49 from B29); clear B29 C30
    refine hK25 _ _ ?_; clear hK25 K25
    (try simp only [zP, zN, zA, zB, zC])
    refine ef_ (fun K33 hK33 => ?_)
    refine e_storeN (cells := #[.int .i64 s.id, .int .i64 s.box, .int .i64 s.ctr, .bool true, .string (str s.qi), .string (str s.qo)]) (by rfl) rfl rfl (by rfl) (by rfl) Fg26.out (by kernel_rfl) (by rfl) (ones_cons rfl (ones_cons rfl (ones_cons rfl (ones_cons rfl (ones_cons rfl (ones_cons rfl ones_nil)))))) ?_
    rintro w34 B35 C36
    have C0' := Lib.hid (show Ch [] w w34 from C0.out.trans' C36 (inw_cons (.inr nw31.out) inw_nil))
    have SQ' := Lib.hid (show SrcIs w34 (.slice (some a) n z) (n) ((L).flatMap sesC) 6 from SQ.out.chx C36 (xnin_cons nx32.out xnin_nil))
    have Fg3' := Lib.hid (show Blk w34 g3 (#[.slice (some a) n z, .int .i64 la]) 44 from C36.blk Fg3.out (nin_cons (Blk.ne_type Fg3.out Fg26.out (by decide)) nin_nil))
    have Fg11' := Lib.hid (show Blk w34 g11 (#[.slice none 0 0, .int .i64 0]) 44 from C36.blk Fg11.out (nin_cons (Blk.ne_type Fg11.out Fg26.out (by decide)) nin_nil))
    clear C0 SQ Fg3 Fg11
    have C0 := C0'; clear C0'
    have SQ := SQ'; clear SQ'
    have Fg3 := Fg3'; clear Fg3'
    have Fg11 := Fg11'; clear Fg11'
    clear Fg26; have Fg26 := Lib.hid (show Blk w34 g26 (#[.int .i64 s.id, .int .i64 s.box, .int .i64 s.ctr, .bool true, .string (str s.qi), .string (str s.qo)]) 49 from B35); clear B35 C36
    refine hK33 _ _ ?_; clear hK33 K33
    (try simp only [zP, zN, zA, zB, zC])
    refine nl_ (hK24 _ _ ?_); clear hK24 K24
    refine sq_ (fun K37 hK37 => ?_)
    refine startk_ (S := fun W => Blk W g26 (#[.int .i64 s.id, .int .i64 s.box, .int .i64 s.ctr, .bool true, .string (str s.qi), .string (str s.qo)]) 49 ∧ True) (ds := []) #[false, false, false, false, false, false, false, false, false, false, false] (by kernel_rfl) rfl rfl (fun W c => ⟨c.blk Fg26.out nin_nil, trivial⟩) (fun w38 C39 hS40 => ?_)
    have C0' := Lib.hid (show Ch [] w w38 from C0.out.trans' C39 (fun x hx => absurd hx (by simp)))
    have SQ' := Lib.hid (show SrcIs w38 (.slice (some a) n z) (n) ((L).flatMap sesC) 6 from SQ.out.chx C39 xnin_nil)
    have Fg3' := Lib.hid (show Blk w38 g3 (#[.slice (some a) n z, .int .i64 la]) 44 from C39.blk Fg3.out nin_nil)
    have Fg11' := Lib.hid (show Blk w38 g11 (#[.slice none 0 0, .int .i64 0]) 44 from C39.blk Fg11.out nin_nil)
    have Fg26' := Lib.hid (show Blk w38 g26 (#[.int .i64 s.id, .int .i64 s.box, .int .i64 s.ctr, .bool true, .string (str s.qi), .string (str s.qo)]) 49 from C39.blk Fg26.out nin_nil)
    clear C0 SQ Fg3 Fg11 Fg26
    have C0 := C0'; clear C0'
    have SQ := SQ'; clear SQ'
    have Fg3 := Fg3'; clear Fg3'
    have Fg11 := Fg11'; clear Fg11'
    have Fg26 := Fg26'; clear Fg26'
    clear C39
    refine pure_ (i := 0) (N := some 31) (v := .int .i64 most) #[true, false, false, false, false, false, false, false, false, false, false] rfl rfl (by kernel_rfl) (fun c a w h => hP c a _ _ w h) (y_move rfl (by rfl) (by rfl)) rfl ?_
    (try simp only [zP, zN, zA, zB, zC])
    refine pure_ (i := 1) (N := some 32) (v := .pointer (some ⟨g26, 4, none⟩)) #[true, true, false, false, false, false, false, false, false, false, false] rfl rfl (by kernel_rfl) (fun c a w h => hP c a _ _ w h) (y_run (by rfl) (fun W => by go_simp)) rfl ?_
    (try simp only [zP, zN, zA, zB, zC])
    refine take_ (i := 2) (N := some 33) (v := .string (str s.qi)) #[true, true, true, false, false, false, false, false, false, false, false] rfl rfl (by kernel_rfl) (fun c a w h => hP c a _ _ w h) (y_load (p := ⟨g26, 4, none⟩) rfl (by rfl) (by rfl) (fun W hS => run_load_one ((hS.1.cell 4).trans rfl) Tryd.underlying9 rfl)) hS40 rfl ?_
    (try simp only [zP, zN, zA, zB, zC])
    refine pure_ (i := 3) (N := some 34) (v := .int .i64 (str s.qi).size) #[true, true, true, true, false, false, false, false, false, false, false] rfl rfl (by kernel_rfl) (fun c a w h => hP c a _ _ w h) (y_run (by rfl) (fun W => by go_simp)) rfl ?_
    (try simp only [zP, zN, zA, zB, zC])
    refine pure_ (i := 5) (N := some 36) (v := .pointer (some ⟨g26, 5, none⟩)) #[true, true, true, true, false, true, false, false, false, false, false] rfl rfl (by kernel_rfl) (fun c a w h => hP c a _ _ w h) (y_run (by rfl) (fun W => by go_simp)) rfl ?_
    (try simp only [zP, zN, zA, zB, zC])
    refine take_ (i := 6) (N := some 37) (v := .string (str s.qo)) #[true, true, true, true, false, true, true, false, false, false, false] rfl rfl (by kernel_rfl) (fun c a w h => hP c a _ _ w h) (y_load (p := ⟨g26, 5, none⟩) rfl (by rfl) (by rfl) (fun W hS => run_load_one ((hS.1.cell 5).trans rfl) Tryd.underlying9 rfl)) hS40 rfl ?_
    (try simp only [zP, zN, zA, zB, zC])
    refine pure_ (i := 7) (N := some 38) (v := .int .i64 (str s.qo).size) #[true, true, true, true, false, true, true, true, false, false, false] rfl rfl (by kernel_rfl) (fun c a w h => hP c a _ _ w h) (y_run (by rfl) (fun W => by go_simp)) rfl ?_
    (try simp only [zP, zN, zA, zB, zC])
    refine pure_ (i := 8) (N := some 39) (v := .int .i64 (64 - ((str s.qo).size : Int))) #[true, true, true, true, false, true, true, true, true, false, false] rfl rfl (by kernel_rfl) (fun c a w h => hP c a _ _ w h) (y_run (by rfl) (fun W => by have d := D39.out; go_simp)) rfl ?_
    (try simp only [zP, zN, zA, zB, zC])
    refine one_ (i := 4) (N := some 35) #[true, true, true, true, true, true, true, true, true, false, false] rfl rfl (by kernel_rfl) (by simp) (fun K41 hK41 => ?_)
    refine e_call Tryd.func45 (by kernel_rfl) rfl #[.int .i64 most, .int .i64 (str s.qi).size] (by rfl) rfl rfl (by first | rfl | (simp only [List.map_toArray, List.map_cons, List.map_nil]; first | done | rfl)) ((by have h9 := few_ (w := w38) (most) (((str s.qi).size : Int)); rw [HF1.out] at h9; exact h9)) ?_
    rintro en w43 ⟨rfl, cc42⟩
    refine ⟨_, rfl, ?_⟩
    have C0' := Lib.hid (show Ch [] w w43 from C0.out.trans' cc42 (fun x hx => absurd hx (by simp)))
    have SQ' := Lib.hid (show SrcIs w43 (.slice (some a) n z) (n) ((L).flatMap sesC) 6 from SQ.out.chx cc42 xnin_nil)
    have Fg3' := Lib.hid (show Blk w43 g3 (#[.slice (some a) n z, .int .i64 la]) 44 from cc42.blk Fg3.out nin_nil)
    have Fg11' := Lib.hid (show Blk w43 g11 (#[.slice none 0 0, .int .i64 0]) 44 from cc42.blk Fg11.out nin_nil)
    have Fg26' := Lib.hid (show Blk w43 g26 (#[.int .i64 s.id, .int .i64 s.box, .int .i64 s.ctr, .bool true, .string (str s.qi), .string (str s.qo)]) 49 from cc42.blk Fg26.out nin_nil)
    clear C0 SQ Fg3 Fg11 Fg26
    have C0 := C0'; clear C0'
    have SQ := SQ'; clear SQ'
    have Fg3 := Fg3'; clear Fg3'
    have Fg11 := Fg11'; clear Fg11'
    have Fg26 := Fg26'; clear Fg26'
    clear cc42
    refine hK41.out _ _ ⟨Fg26.out, trivial⟩ (fun hS44 => ?_); clear hK41 K41
    (try simp only [zP, zN, zA, zB, zC])
    refine one_ (i := 9) (N := some 40) #[true, true, true, true, true, true, true, true, true, true, false] rfl rfl (by kernel_rfl) (by simp) (fun K45 hK45 => ?_)
    refine e_call Tryd.func45 (by kernel_rfl) rfl #[.int .i64 m1, .int .i64 (64 - ((str s.qo).size : Int))] (by rfl) rfl rfl (by first | rfl | (simp only [List.map_toArray, List.map_cons, List.map_nil]; first | done | rfl)) ((by have h9 := few_ (w := w43) ((m1 : Int)) ((64 - ((str s.qo).size : Int))); rw [HF2.out] at h9; exact h9)) ?_
    rintro en w47 ⟨rfl, cc46⟩
    refine ⟨_, rfl, ?_⟩
    have C0' := Lib.hid (show Ch [] w w47 from C0.out.trans' cc46 (fun x hx => absurd hx (by simp)))
    have SQ' := Lib.hid (show SrcIs w47 (.slice (some a) n z) (n) ((L).flatMap sesC) 6 from SQ.out.chx cc46 xnin_nil)
    have Fg3' := Lib.hid (show Blk w47 g3 (#[.slice (some a) n z, .int .i64 la]) 44 from cc46.blk Fg3.out nin_nil)
    have Fg11' := Lib.hid (show Blk w47 g11 (#[.slice none 0 0, .int .i64 0]) 44 from cc46.blk Fg11.out nin_nil)
    have Fg26' := Lib.hid (show Blk w47 g26 (#[.int .i64 s.id, .int .i64 s.box, .int .i64 s.ctr, .bool true, .string (str s.qi), .string (str s.qo)]) 49 from cc46.blk Fg26.out nin_nil)
    clear C0 SQ Fg3 Fg11 Fg26
    have C0 := C0'; clear C0'
    have SQ := SQ'; clear SQ'
    have Fg3 := Fg3'; clear Fg3'
    have Fg11 := Fg11'; clear Fg11'
    have Fg26 := Fg26'; clear Fg26'
    clear cc46
    refine hK45.out _ _ ⟨Fg26.out, trivial⟩ (fun hS48 => ?_); clear hK45 K45
    (try simp only [zP, zN, zA, zB, zC])
    refine pure_ (i := 10) (N := some 10) (v := .int .i64 m) #[true, true, true, true, true, true, true, true, true, true, true] rfl rfl (by kernel_rfl) (fun c a w h => hP c a _ _ w h) (y_assign rfl (by rfl) (by rfl)) rfl ?_
    (try simp only [zP, zN, zA, zB, zC])
    refine done_ (by kernel_rfl) (th_norm (hK37 _ _ ?_)); clear hK37 K37
    refine sq_ (fun K49 hK49 => ?_)
    refine startk_ (S := fun W => Blk W g26 (#[.int .i64 s.id, .int .i64 s.box, .int .i64 s.ctr, .bool true, .string (str s.qi), .string (str s.qo)]) 49 ∧ True) (ds := [9]) #[false, false, false, false, false, false, false, false, false, false] (by kernel_rfl) rfl rfl (fun W c => ⟨c.blk Fg26.out nin_nil, trivial⟩) (fun w50 C51 hS52 => ?_)
    have C0' := Lib.hid (show Ch [] w w50 from C0.out.trans' C51 (fun x hx => absurd hx (by simp)))
    have SQ' := Lib.hid (show SrcIs w50 (.slice (some a) n z) (n) ((L).flatMap sesC) 6 from SQ.out.chx C51 xnin_nil)
    have Fg3' := Lib.hid (show Blk w50 g3 (#[.slice (some a) n z, .int .i64 la]) 44 from C51.blk Fg3.out nin_nil)
    have Fg11' := Lib.hid (show Blk w50 g11 (#[.slice none 0 0, .int .i64 0]) 44 from C51.blk Fg11.out nin_nil)
    have Fg26' := Lib.hid (show Blk w50 g26 (#[.int .i64 s.id, .int .i64 s.box, .int .i64 s.ctr, .bool true, .string (str s.qi), .string (str s.qo)]) 49 from C51.blk Fg26.out nin_nil)
    clear C0 SQ Fg3 Fg11 Fg26
    have C0 := C0'; clear C0'
    have SQ := SQ'; clear SQ'
    have Fg3 := Fg3'; clear Fg3'
    have Fg11 := Fg11'; clear Fg11'
    have Fg26 := Fg26'; clear Fg26'
    clear C51
    refine pure_ (i := 0) (N := some 41) (v := .pointer (some ⟨g26, 5, none⟩)) #[true, false, false, false, false, false, false, false, false, false] rfl rfl (by kernel_rfl) (fun c a w h => hP c a _ _ w h) (y_run (by rfl) (fun W => by go_simp)) rfl ?_
    (try simp only [zP, zN, zA, zB, zC])
    refine take_ (i := 1) (N := some 42) (v := .string (str s.qo)) #[true, true, false, false, false, false, false, false, false, false] rfl rfl (by kernel_rfl) (fun c a w h => hP c a _ _ w h) (y_load (p := ⟨g26, 5, none⟩) rfl (by rfl) (by rfl) (fun W hS => run_load_one ((hS.1.cell 5).trans rfl) Tryd.underlying9 rfl)) hS52 rfl ?_
    (try simp only [zP, zN, zA, zB, zC])
    refine pure_ (i := 2) (N := some 43) (v := .pointer (some ⟨g26, 4, none⟩)) #[true, true, true, false, false, false, false, false, false, false] rfl rfl (by kernel_rfl) (fun c a w h => hP c a _ _ w h) (y_run (by rfl) (fun W => by go_simp)) rfl ?_
    (try simp only [zP, zN, zA, zB, zC])
    refine take_ (i := 3) (N := some 44) (v := .string (str s.qi)) #[true, true, true, true, false, false, false, false, false, false] rfl rfl (by kernel_rfl) (fun c a w h => hP c a _ _ w h) (y_load (p := ⟨g26, 4, none⟩) rfl (by rfl) (by rfl) (fun W hS => run_load_one ((hS.1.cell 4).trans rfl) Tryd.underlying9 rfl)) hS52 rfl ?_
    (try simp only [zP, zN, zA, zB, zC])
    refine pure_ (i := 4) (N := some 45) (v := .int .i64 m) #[true, true, true, true, true, false, false, false, false, false] rfl rfl (by kernel_rfl) (fun c a w h => hP c a _ _ w h) (y_move rfl (by rfl) (by rfl)) rfl ?_
    (try simp only [zP, zN, zA, zB, zC])
    refine pure_ (i := 5) (N := some 46) (v := .string (str (s.qi.take m))) #[true, true, true, true, true, true, false, false, false, false] rfl rfl (by kernel_rfl) (fun c a w h => hP c a _ _ w h) (y_run (by rfl) (fun W => by rw [← E46.out]; have d := D46.out; go_simp)) rfl ?_
    (try simp only [zP, zN, zA, zB, zC])
    refine one_ (i := 6) (N := some 47) #[true, true, true, true, true, true, true, false, false, false] rfl rfl (by kernel_rfl) (by simp) (fun K53 hK53 => ?_)
    refine e_call Tryd.func14 (by kernel_rfl) rfl #[.string (str (s.qi.take m))] (by rfl) rfl rfl (by first | rfl | (simp only [List.map_toArray, List.map_cons, List.map_nil]; first | done | rfl)) ((show Calls Tryd.prog 14 #[.string (str (s.qi.take m))] w50 (fun en w2_ => en = .returned (.string cp) ∧ Ch [] w50 w2_) from by rw [HCP.out]; exact capital_ (w := w50) (t := str (s.qi.take m)) (Lib.hid (by rw [str_size, List.length_take]; have := HQ.out; omega)))) ?_
    rintro en w55 ⟨rfl, cc54⟩
    refine ⟨_, rfl, ?_⟩
    have C0' := Lib.hid (show Ch [] w w55 from C0.out.trans' cc54 (fun x hx => absurd hx (by simp)))
    have SQ' := Lib.hid (show SrcIs w55 (.slice (some a) n z) (n) ((L).flatMap sesC) 6 from SQ.out.chx cc54 xnin_nil)
    have Fg3' := Lib.hid (show Blk w55 g3 (#[.slice (some a) n z, .int .i64 la]) 44 from cc54.blk Fg3.out nin_nil)
    have Fg11' := Lib.hid (show Blk w55 g11 (#[.slice none 0 0, .int .i64 0]) 44 from cc54.blk Fg11.out nin_nil)
    have Fg26' := Lib.hid (show Blk w55 g26 (#[.int .i64 s.id, .int .i64 s.box, .int .i64 s.ctr, .bool true, .string (str s.qi), .string (str s.qo)]) 49 from cc54.blk Fg26.out nin_nil)
    clear C0 SQ Fg3 Fg11 Fg26
    have C0 := C0'; clear C0'
    have SQ := SQ'; clear SQ'
    have Fg3 := Fg3'; clear Fg3'
    have Fg11 := Fg11'; clear Fg11'
    have Fg26 := Fg26'; clear Fg26'
    clear cc54
    refine hK53.out _ _ ⟨Fg26.out, trivial⟩ (fun hS56 => ?_); clear hK53 K53
    (try simp only [zP, zN, zA, zB, zC])
    refine pure_ (i := 7) (N := some 48) (v := .string (str (s.qo ++ (s.qi.take m).map upB))) #[true, true, true, true, true, true, true, true, false, false] rfl rfl (by kernel_rfl) (fun c a w h => hP c a _ _ w h) (y_run (by rfl) (fun W => by rw [← E48.out]; have d := D48.out; go_simp)) rfl ?_
    (try simp only [zP, zN, zA, zB, zC])
    refine pure_ (i := 8) (N := some 49) (v := .pointer (some ⟨g26, 5, none⟩)) #[true, true, true, true, true, true, true, true, true, false] rfl rfl (by kernel_rfl) (fun c a w h => hP c a _ _ w h) (y_run (by rfl) (fun W => by go_simp)) rfl ?_
    (try simp only [zP, zN, zA, zB, zC])
    refine last_ (i := 9) (N := none) #[true, true, true, true, true, true, true, true, true, true] rfl rfl (by kernel_rfl) (by simp) (fun K57 hK57 => ?_)
    refine e_store1 (b := g26) (j := 5) (v := .string (str (s.qo ++ (s.qi.take m).map upB))) (by rfl) rfl rfl (by rfl) (by rfl) Fg26.out (show 5 < 6 by omega) (by kernel_rfl) rfl ?_
    rintro w58 B59 C60
    have C0' := Lib.hid (show Ch [] w w58 from C0.out.trans' C60 (inw_cons (.inr nw31.out) inw_nil))
    have SQ' := Lib.hid (show SrcIs w58 (.slice (some a) n z) (n) ((L).flatMap sesC) 6 from SQ.out.chx C60 (xnin_cons nx32.out xnin_nil))
    have Fg3' := Lib.hid (show Blk w58 g3 (#[.slice (some a) n z, .int .i64 la]) 44 from C60.blk Fg3.out (nin_cons (Blk.ne_type Fg3.out Fg26.out (by decide)) nin_nil))
    have Fg11' := Lib.hid (show Blk w58 g11 (#[.slice none 0 0, .int .i64 0]) 44 from C60.blk Fg11.out (nin_cons (Blk.ne_type Fg11.out Fg26.out (by decide)) nin_nil))
    clear C0 SQ Fg3 Fg11
    have C0 := C0'; clear C0'
    have SQ := SQ'; clear SQ'
    have Fg3 := Fg3'; clear Fg3'
    have Fg11 := Fg11'; clear Fg11'
    clear Fg26; have Fg26 := Lib.hid (show Blk w58 g26 (#[.int .i64 s.id, .int .i64 s.box, .int .i64 s.ctr, .bool true, .string (str s.qi), .string (str (s.qo ++ (s.qi.take m).map upB))]) 49 from B59); clear B59 C60
    refine hK57.out _ _ ?_; clear hK57 K57
    (try simp only [zP, zN, zA, zB, zC])
    refine done_ (by kernel_rfl) (th_norm (hK49 _ _ ?_)); clear hK49 K49
    refine s_ (fun K61 hK61 => ?_)
    refine pu_ (v := .pointer (some ⟨g26, 4, none⟩)) (y_run (by rfl) (fun W => by go_simp)) ?_
    (try simp only [zP, zN, zA, zB, zC])
    refine ld_ (v := .string (str s.qi)) rfl (by rfl) (by rfl) (run_load_one ((Fg26.out.cell 4).trans rfl) Tryd.underlying9 rfl) ?_
    (try simp only [zP, zN, zA, zB, zC])
    refine pu_ (v := .int .i64 m) (y_move rfl (by rfl) (by rfl)) ?_
    (try simp only [zP, zN, zA, zB, zC])
    refine pu_ (v := .string (str (s.qi.drop m))) (y_run (by rfl) (fun W => by rw [← E53.out]; have d := D46.out; go_simp)) ?_
    (try simp only [zP, zN, zA, zB, zC])
    refine pu_ (v := .pointer (some ⟨g26, 4, none⟩)) (y_run (by rfl) (fun W => by go_simp)) ?_
    (try simp only [zP, zN, zA, zB, zC])
    refine ef_ (fun K62 hK62 => ?_)
    refine e_store1 (b := g26) (j := 4) (v := .string (str (s.qi.drop m))) (by rfl) rfl rfl (by rfl) (by rfl) Fg26.out (show 4 < 6 by omega) (by kernel_rfl) rfl ?_
    rintro w63 B64 C65
    have C0' := Lib.hid (show Ch [] w w63 from C0.out.trans' C65 (inw_cons (.inr nw31.out) inw_nil))
    have SQ' := Lib.hid (show SrcIs w63 (.slice (some a) n z) (n) ((L).flatMap sesC) 6 from SQ.out.chx C65 (xnin_cons nx32.out xnin_nil))
    have Fg3' := Lib.hid (show Blk w63 g3 (#[.slice (some a) n z, .int .i64 la]) 44 from C65.blk Fg3.out (nin_cons (Blk.ne_type Fg3.out Fg26.out (by decide)) nin_nil))
    have Fg11' := Lib.hid (show Blk w63 g11 (#[.slice none 0 0, .int .i64 0]) 44 from C65.blk Fg11.out (nin_cons (Blk.ne_type Fg11.out Fg26.out (by decide)) nin_nil))
    clear C0 SQ Fg3 Fg11
    have C0 := C0'; clear C0'
    have SQ := SQ'; clear SQ'
    have Fg3 := Fg3'; clear Fg3'
    have Fg11 := Fg11'; clear Fg11'
    clear Fg26; have Fg26 := Lib.hid (show Blk w63 g26 (#[.int .i64 s.id, .int .i64 s.box, .int .i64 s.ctr, .bool true, .string (str (s.qi.drop m)), .string (str (s.qo ++ (s.qi.take m).map upB))]) 49 from B64); clear B64 C65
    refine hK62 _ _ ?_; clear hK62 K62
    (try simp only [zP, zN, zA, zB, zC])
    refine nl_ (hK61 _ _ ?_); clear hK61 K61
    refine s_ (fun K66 hK66 => ?_)
    refine ld_ (v := .agg (#[.slice (some a) n z, .int .i64 la])) rfl (by rfl) (by rfl) (run_loadVar_row _ _ 44 44 (#[.slice (some a) n z, .int .i64 la]) (0, 0) _ Fg3.out Tryd.underlying44 rfl (by kernel_rfl)) ?_
    (try simp only [zP, zN, zA, zB, zC])
    refine pu_ (v := .int .i64 j) (y_move rfl (by rfl) (by rfl)) ?_
    (try simp only [zP, zN, zA, zB, zC])
    refine ld_ (v := .agg (#[.int .i64 s.id, .int .i64 s.box, .int .i64 s.ctr, .bool true, .string (str (s.qi.drop m)), .string (str (s.qo ++ (s.qi.take m).map upB))])) rfl (by rfl) (by rfl) (run_loadVar_row _ _ 49 49 (#[.int .i64 s.id, .int .i64 s.box, .int .i64 s.ctr, .bool true, .string (str (s.qi.drop m)), .string (str (s.qo ++ (s.qi.take m).map upB))]) (0, 0) _ Fg26.out Tryd.underlying49 rfl (by kernel_rfl)) ?_
    (try simp only [zP, zN, zA, zB, zC])
    refine ef_ (fun K67 hK67 => ?_)
    refine e_call Tryd.func46 (by kernel_rfl) rfl #[.agg (#[.slice (some a) n z, .int .i64 la]), .int .i64 j, .agg (#[.int .i64 s.id, .int .i64 s.box, .int .i64 s.ctr, .bool true, .string (str (s.qi.drop m)), .string (str (s.qo ++ (s.qi.take m).map upB))])] (by rfl) rfl rfl (by first | rfl | (simp only [List.map_toArray, List.map_cons, List.map_nil]; first | done | rfl)) ((with_ (la := la) (j := j) (s := (⟨s.id, s.box, s.ctr, true, s.qi.drop m, s.qo ++ (s.qi.take m).map upB⟩ : HS)) HNL HN HS_ SQ)) ?_
    rintro en w74 ⟨A72, z73, rfl, ⟨h169, h270, h471⟩, cc68⟩
    refine ⟨_, rfl, ?_⟩
    have nx75 := Lib.hid (show g3 ∉ xb (.slice A72 n z73) from fun hk => by have := h471 _ hk; have := Fg3.out.lt; omega)
    have nx76 := Lib.hid (show g11 ∉ xb (.slice A72 n z73) from fun hk => by have := h471 _ hk; have := Fg11.out.lt; omega)
    have nx77 := Lib.hid (show g26 ∉ xb (.slice A72 n z73) from fun hk => by have := h471 _ hk; have := Fg26.out.lt; omega)
    have H4_A72 := Lib.hid (show ∀ k, k ∈ xb (.slice A72 n z73) → w.heap.size ≤ k from fun k hk => Nat.le_trans C0.out.size (h471 k hk)); clear h471
    have H2_A72 := Lib.hid h270; clear h270
    have C0' := Lib.hid (show Ch [] w w74 from C0.out.trans' cc68 (fun x hx => absurd hx (by simp)))
    have SQ' := Lib.hid (show SrcIs w74 (.slice (some a) n z) (n) ((L).flatMap sesC) 6 from SQ.out.chx cc68 xnin_nil)
    have Fg3' := Lib.hid (show Blk w74 g3 (#[.slice (some a) n z, .int .i64 la]) 44 from cc68.blk Fg3.out nin_nil)
    have Fg11' := Lib.hid (show Blk w74 g11 (#[.slice none 0 0, .int .i64 0]) 44 from cc68.blk Fg11.out nin_nil)
    have Fg26' := Lib.hid (show Blk w74 g26 (#[.int .i64 s.id, .int .i64 s.box, .int .i64 s.ctr, .bool true, .string (str (s.qi.drop m)), .string (str (s.qo ++ (s.qi.take m).map upB))]) 49 from cc68.blk Fg26.out nin_nil)
    clear C0 SQ Fg3 Fg11 Fg26
    have C0 := C0'; clear C0'
    have SQ := SQ'; clear SQ'
    have Fg3 := Fg3'; clear Fg3'
    have Fg11 := Fg11'; clear Fg11'
    have Fg26 := Fg26'; clear Fg26'
    clear cc68
    have SN := Lib.hid (show SrcIs w74 (.slice A72 n z73) (n) ((L.set j (⟨s.id, s.box, s.ctr, true, s.qi.drop m, s.qo ++ (s.qi.take m).map upB⟩ : HS)).flatMap sesC) 6 from h169)
    refine hK67 _ _ ?_; clear hK67 K67
    (try simp only [zP, zN, zA, zB, zC])
    refine pu_ (v := .int .i64 m) (y_move rfl (by rfl) (by rfl)) ?_
    (try simp only [zP, zN, zA, zB, zC])
    refine ef_ (fun K78 hK78 => ?_)
    refine e_storeN (cells := #[.slice A72 n z73, .int .i64 la]) (by rfl) rfl rfl (by rfl) (by rfl) Fg11.out (by kernel_rfl) (by rfl) (ones_cons rfl (ones_cons rfl ones_nil)) ?_
    rintro w79 B80 C81
    have C0' := Lib.hid (show Ch [] w w79 from C0.out.trans' C81 (inw_cons (.inr nw16.out) inw_nil))
    have SQ' := Lib.hid (show SrcIs w79 (.slice (some a) n z) (n) ((L).flatMap sesC) 6 from SQ.out.chx C81 (xnin_cons nx17.out xnin_nil))
    have Fg3' := Lib.hid (show Blk w79 g3 (#[.slice (some a) n z, .int .i64 la]) 44 from C81.blk Fg3.out (nin_cons ne18.out nin_nil))
    have Fg26' := Lib.hid (show Blk w79 g26 (#[.int .i64 s.id, .int .i64 s.box, .int .i64 s.ctr, .bool true, .string (str (s.qi.drop m)), .string (str (s.qo ++ (s.qi.take m).map upB))]) 49 from C81.blk Fg26.out (nin_cons (Blk.ne_type Fg26.out Fg11.out (by decide)) nin_nil))
    have SN' := Lib.hid (show SrcIs w79 (.slice A72 n z73) (n) ((L.set j (⟨s.id, s.box, s.ctr, true, s.qi.drop m, s.qo ++ (s.qi.take m).map upB⟩ : HS)).flatMap sesC) 6 from SN.out.chx C81 (xnin_cons nx76.out xnin_nil))
    clear C0 SQ Fg3 Fg26 SN
    have C0 := C0'; clear C0'
    have SQ := SQ'; clear SQ'
    have Fg3 := Fg3'; clear Fg3'
    have Fg26 := Fg26'; clear Fg26'
    have SN := SN'; clear SN'
    clear Fg11; have Fg11 := Lib.hid (show Blk w79 g11 (#[.slice A72 n z73, .int .i64 la]) 44 from B80); clear B80 C81
    refine hK78 _ _ ?_; clear hK78 K78
    (try simp only [zP, zN, zA, zB, zC])
    refine pu_ (v := .int .i64 m) (y_assign rfl (by rfl) (by rfl)) ?_
    (try simp only [zP, zN, zA, zB, zC])
    refine nl_ (hK66 _ _ ?_); clear hK66 K66
    refine wp_ret ?_
    refine hQ _ _ _ ?_
    refine bodyPost_ret (res2 rfl (rdv_cell (by rfl) (run_loadVar_row _ _ 44 44 (#[.slice A72 n z73, .int .i64 la]) (0, 0) _ Fg11.out Tryd.underlying44 rfl (by kernel_rfl))) (rdv_tmp (v := .int .i64 m) (by rfl))) rfl ?_
    exact ⟨_, _, rfl, ⟨SN.out, H2_A72.out, H4_A72.out⟩, C0.out⟩
theorem ropen_full {Aq : Option Addr} {n z : Nat} {la : Nat} {L : List HS} (HNL : Hid (L.length = n)) (HN : Hid (n ≤ 100)) {bx ct : Int} (HF : Hid (8 ≤ n)) (SQ : Hid (SrcIs w (.slice Aq n z) (n) ((L).flatMap sesC) 6)) :
    Calls Tryd.prog 33 #[.agg #[.slice Aq n z, .int .i64 la], .int .i64 bx, .int .i64 ct] w fun en w' => en = .returned (.tuple #[.agg #[.slice Aq n z, .int .i64 la], .int .i64 0, .int .i64 8]) ∧ Ch [] w w' := by
  have C0 := Lib.hid (Ch.refl [] w)
  have D12 := Lib.hid (show (8 : Int) ≤ (n : Int) by have := HF.out; omega)
  go_enter Tryd.func33, Tryd.ntmps33
  refine q_ (fun Q hQ hP => ?_)
  refine s_ (fun K1 hK1 => ?_)
  refine ef_ (fun K2 hK2 => ?_)
  refine e_boxN (by rfl) rfl rfl (cs := #[.slice Aq n z, .int .i64 la]) (v := .agg #[.slice Aq n z, .int .i64 la]) (by rfl) rfl ?_
  rintro g3 w4 HG5 B6 C7
  have nw8 := Lib.hid (show w.heap.size ≤ g3 by have := C0.out.size; have := HG5.out; omega)
  have nx9 := Lib.hid (SQ.out.ne_new (by decide) HG5)
  have C0' := Lib.hid (show Ch [] w w4 from C0.out.trans' C7 (fun x hx => absurd hx (by simp)))
  have SQ' := Lib.hid (show SrcIs w4 (.slice Aq n z) (n) ((L).flatMap sesC) 6 from SQ.out.chx C7 xnin_nil)
  clear C0 SQ
  have C0 := C0'; clear C0'
  have SQ := SQ'; clear SQ'
  have Fg3 := Lib.hid (show Blk w4 g3 (#[.slice Aq n z, .int .i64 la]) 44 from B6); clear B6 C7
  refine hK2 _ _ ?_; clear hK2 K2
  (try simp only [zP, zN, zA, zB, zC])
  refine ef_ (fun K10 hK10 => ?_)
  refine e_alloc (by rfl) rfl rfl (cs := #[.slice none 0 0, .int .i64 0]) (by kernel_rfl) ?_
  rintro g11 w12 HG13 B14 C15
  have nw16 := Lib.hid (show w.heap.size ≤ g11 by have := C0.out.size; have := HG13.out; omega)
  have nx17 := Lib.hid (SQ.out.ne_new (by decide) HG13)
  have ne18 := Lib.hid (Fg3.out.ne_new HG13)
  have C0' := Lib.hid (show Ch [] w w12 from C0.out.trans' C15 (fun x hx => absurd hx (by simp)))
  have SQ' := Lib.hid (show SrcIs w12 (.slice Aq n z) (n) ((L).flatMap sesC) 6 from SQ.out.chx C15 xnin_nil)
  have Fg3' := Lib.hid (show Blk w12 g3 (#[.slice Aq n z, .int .i64 la]) 44 from C15.blk Fg3.out nin_nil)
  clear C0 SQ Fg3
  have C0 := C0'; clear C0'
  have SQ := SQ'; clear SQ'
  have Fg3 := Fg3'; clear Fg3'
  have Fg11 := Lib.hid (show Blk w12 g11 (#[.slice none 0 0, .int .i64 0]) 44 from B14); clear B14 C15
  refine hK10 _ _ ?_; clear hK10 K10
  (try simp only [zP, zN, zA, zB, zC])
  refine pu_ (v := .int .i64 0) (y_assign rfl (by rfl) (by rfl)) ?_
  (try simp only [zP, zN, zA, zB, zC])
  refine pu_ (v := .int .i64 0) (y_assign rfl (by rfl) (by rfl)) ?_
  (try simp only [zP, zN, zA, zB, zC])
  refine nl_ (hK1 _ _ ?_); clear hK1 K1
  refine sq_ (fun K19 hK19 => ?_)
  refine s_ (fun K20 hK20 => ?_)
  refine pu_ (v := .pointer (some ⟨g3, 0, none⟩)) (y_run (by rfl) (fun W => by go_simp)) ?_
  (try simp only [zP, zN, zA, zB, zC])
  refine ld_ (v := .slice Aq n z) rfl (by rfl) (by rfl) (run_load_one ((Fg3.out.cell 0).trans rfl) Tryd.underlying42 rfl) ?_
  (try simp only [zP, zN, zA, zB, zC])
  refine pu_ (v := .int .i64 n) (y_run (by rfl) (fun W => by go_simp)) ?_
  (try simp only [zP, zN, zA, zB, zC])
  refine pu_ (v := .bool true) (y_run (by rfl) (fun W => by have d := D12.out; go_simp)) ?_
  (try simp only [zP, zN, zA, zB, zC])
  refine nl_ (hK20 _ _ ?_); clear hK20 K20
  refine wp_cond_true rfl ?_
  refine s_ (fun K21 hK21 => ?_)
  refine ld_ (v := .agg (#[.slice Aq n z, .int .i64 la])) rfl (by rfl) (by rfl) (run_loadVar_row _ _ 44 44 (#[.slice Aq n z, .int .i64 la]) (0, 0) _ Fg3.out Tryd.underlying44 rfl (by kernel_rfl)) ?_
  (try simp only [zP, zN, zA, zB, zC])
  refine ef_ (fun K22 hK22 => ?_)
  refine e_storeN (cells := (#[.slice Aq n z, .int .i64 la])) (by rfl) rfl rfl (by rfl) (by rfl) Fg11.out (by kernel_rfl) (by rfl) (ones_cons rfl (ones_cons rfl ones_nil)) ?_
  rintro w23 B24 C25
  have C0' := Lib.hid (show Ch [] w w23 from C0.out.trans' C25 (inw_cons (.inr nw16.out) inw_nil))
  have SQ' := Lib.hid (show SrcIs w23 (.slice Aq n z) (n) ((L).flatMap sesC) 6 from SQ.out.chx C25 (xnin_cons nx17.out xnin_nil))
  have Fg3' := Lib.hid (show Blk w23 g3 (#[.slice Aq n z, .int .i64 la]) 44 from C25.blk Fg3.out (nin_cons ne18.out nin_nil))
  clear C0 SQ Fg3
  have C0 := C0'; clear C0'
  have SQ := SQ'; clear SQ'
  have Fg3 := Fg3'; clear Fg3'
  clear Fg11; have Fg11 := Lib.hid (show Blk w23 g11 ((#[.slice Aq n z, .int .i64 la])) 44 from B24); clear B24 C25
  refine hK22 _ _ ?_; clear hK22 K22
  (try simp only [zP, zN, zA, zB, zC])
  refine pu_ (v := .int .i64 0) (y_assign rfl (by rfl) (by rfl)) ?_
  (try simp only [zP, zN, zA, zB, zC])
  refine pu_ (v := .int .i64 8) (y_assign rfl (by rfl) (by rfl)) ?_
  (try simp only [zP, zN, zA, zB, zC])
  refine nl_ (hK21 _ _ ?_); clear hK21 K21
  refine wp_ret ?_
  refine th_ret ?_
  refine hQ _ _ _ ?_
  refine bodyPost_ret (res3 rfl (rdv_cell (by rfl) (run_loadVar_row _ _ 44 44 ((#[.slice Aq n z, .int .i64 la])) (0, 0) _ Fg11.out Tryd.underlying44 rfl (by kernel_rfl))) (rdv_tmp (v := .int .i64 0) (by rfl)) (rdv_tmp (v := .int .i64 8) (by rfl))) rfl ?_
  exact ⟨rfl, C0.out⟩
theorem ropen_ok {Aq : Option Addr} {n z : Nat} {la : Nat} {L : List HS} (HNL : Hid (L.length = n)) (HN : Hid (n ≤ 100)) {bx ct : Int} (HF : Hid (n < 8)) (HLA : Hid (la ≤ 100000)) (SQ : Hid (SrcIs w (.slice Aq n z) (n) ((L).flatMap sesC) 6)) :
    Calls Tryd.prog 33 #[.agg #[.slice Aq n z, .int .i64 la], .int .i64 bx, .int .i64 ct] w fun en w' => ∃ Q' z', en = .returned (.tuple #[.agg #[.slice Q' (n + 1) z', .int .i64 (la + 1 : Nat)], .int .i64 (la + 1 : Nat), .int .i64 0]) ∧ NewQ w w' (n + 1) (L ++ [(⟨(la + 1 : Nat), bx, ct, true, [], []⟩ : HS)]) Q' z' ∧ Ch [] w w' := by
  have C0 := Lib.hid (Ch.refl [] w)
  obtain ⟨i49, I49⟩ := Info.of info49
  have D12 := Lib.hid (show ¬ (8 : Int) ≤ (n : Int) by have := HF.out; omega)
  have Wla := Lib.hid (show IntKind.i64.wrap ((la : Int) + 1) = ((la + 1 : Nat) : Int) by rw [wr64 (by have := HLA.out; omega)]; omega)
  go_enter Tryd.func33, Tryd.ntmps33
  refine q_ (fun Q hQ hP => ?_)
  refine s_ (fun K1 hK1 => ?_)
  refine ef_ (fun K2 hK2 => ?_)
  refine e_boxN (by rfl) rfl rfl (cs := #[.slice Aq n z, .int .i64 la]) (v := .agg #[.slice Aq n z, .int .i64 la]) (by rfl) rfl ?_
  rintro g3 w4 HG5 B6 C7
  have nw8 := Lib.hid (show w.heap.size ≤ g3 by have := C0.out.size; have := HG5.out; omega)
  have nx9 := Lib.hid (SQ.out.ne_new (by decide) HG5)
  have C0' := Lib.hid (show Ch [] w w4 from C0.out.trans' C7 (fun x hx => absurd hx (by simp)))
  have SQ' := Lib.hid (show SrcIs w4 (.slice Aq n z) (n) ((L).flatMap sesC) 6 from SQ.out.chx C7 xnin_nil)
  clear C0 SQ
  have C0 := C0'; clear C0'
  have SQ := SQ'; clear SQ'
  have Fg3 := Lib.hid (show Blk w4 g3 (#[.slice Aq n z, .int .i64 la]) 44 from B6); clear B6 C7
  refine hK2 _ _ ?_; clear hK2 K2
  (try simp only [zP, zN, zA, zB, zC])
  refine ef_ (fun K10 hK10 => ?_)
  refine e_alloc (by rfl) rfl rfl (cs := #[.slice none 0 0, .int .i64 0]) (by kernel_rfl) ?_
  rintro g11 w12 HG13 B14 C15
  have nw16 := Lib.hid (show w.heap.size ≤ g11 by have := C0.out.size; have := HG13.out; omega)
  have nx17 := Lib.hid (SQ.out.ne_new (by decide) HG13)
  have ne18 := Lib.hid (Fg3.out.ne_new HG13)
  have C0' := Lib.hid (show Ch [] w w12 from C0.out.trans' C15 (fun x hx => absurd hx (by simp)))
  have SQ' := Lib.hid (show SrcIs w12 (.slice Aq n z) (n) ((L).flatMap sesC) 6 from SQ.out.chx C15 xnin_nil)
  have Fg3' := Lib.hid (show Blk w12 g3 (#[.slice Aq n z, .int .i64 la]) 44 from C15.blk Fg3.out nin_nil)
  clear C0 SQ Fg3
  have C0 := C0'; clear C0'
  have SQ := SQ'; clear SQ'
  have Fg3 := Fg3'; clear Fg3'
  have Fg11 := Lib.hid (show Blk w12 g11 (#[.slice none 0 0, .int .i64 0]) 44 from B14); clear B14 C15
  refine hK10 _ _ ?_; clear hK10 K10
  (try simp only [zP, zN, zA, zB, zC])
  refine pu_ (v := .int .i64 0) (y_assign rfl (by rfl) (by rfl)) ?_
  (try simp only [zP, zN, zA, zB, zC])
  refine pu_ (v := .int .i64 0) (y_assign rfl (by rfl) (by rfl)) ?_
  (try simp only [zP, zN, zA, zB, zC])
  refine nl_ (hK1 _ _ ?_); clear hK1 K1
  refine sq_ (fun K19 hK19 => ?_)
  refine s_ (fun K20 hK20 => ?_)
  refine pu_ (v := .pointer (some ⟨g3, 0, none⟩)) (y_run (by rfl) (fun W => by go_simp)) ?_
  (try simp only [zP, zN, zA, zB, zC])
  refine ld_ (v := .slice Aq n z) rfl (by rfl) (by rfl) (run_load_one ((Fg3.out.cell 0).trans rfl) Tryd.underlying42 rfl) ?_
  (try simp only [zP, zN, zA, zB, zC])
  refine pu_ (v := .int .i64 n) (y_run (by rfl) (fun W => by go_simp)) ?_
  (try simp only [zP, zN, zA, zB, zC])
  refine pu_ (v := .bool false) (y_run (by rfl) (fun W => by have d := D12.out; go_simp)) ?_
  (try simp only [zP, zN, zA, zB, zC])
  refine nl_ (hK20 _ _ ?_); clear hK20 K20
  refine wp_cond_false rfl ?_
  refine wp_skip ?_
  refine th_norm (hK19 _ _ ?_); try clear hK19 K19
  refine s_ (fun K21 hK21 => ?_)
  refine pu_ (v := .pointer (some ⟨g3, 1, none⟩)) (y_run (by rfl) (fun W => by go_simp)) ?_
  (try simp only [zP, zN, zA, zB, zC])
  refine ld_ (v := .int .i64 la) rfl (by rfl) (by rfl) (run_load_one ((Fg3.out.cell 1).trans rfl) Tryd.underlying3 rfl) ?_
  (try simp only [zP, zN, zA, zB, zC])
  refine pu_ (v := .int .i64 (la + 1 : Nat)) (y_run (by rfl) (fun W => by have d := Wla.out; go_simp)) ?_
  (try simp only [zP, zN, zA, zB, zC])
  refine pu_ (v := .pointer (some ⟨g3, 1, none⟩)) (y_run (by rfl) (fun W => by go_simp)) ?_
  (try simp only [zP, zN, zA, zB, zC])
  refine ef_ (fun K22 hK22 => ?_)
  refine e_store1 (b := g3) (j := 1) (v := .int .i64 (la + 1 : Nat)) (by rfl) rfl rfl (by rfl) (by rfl) Fg3.out (show 1 < 2 by omega) (by kernel_rfl) rfl ?_
  rintro w23 B24 C25
  have C0' := Lib.hid (show Ch [] w w23 from C0.out.trans' C25 (inw_cons (.inr nw8.out) inw_nil))
  have SQ' := Lib.hid (show SrcIs w23 (.slice Aq n z) (n) ((L).flatMap sesC) 6 from SQ.out.chx C25 (xnin_cons nx9.out xnin_nil))
  have Fg11' := Lib.hid (show Blk w23 g11 (#[.slice none 0 0, .int .i64 0]) 44 from C25.blk Fg11.out (nin_cons (Ne.symm ne18.out) nin_nil))
  clear C0 SQ Fg11
  have C0 := C0'; clear C0'
  have SQ := SQ'; clear SQ'
  have Fg11 := Fg11'; clear Fg11'
  clear Fg3; have Fg3 := Lib.hid (show Blk w23 g3 (#[.slice Aq n z, .int .i64 (la + 1 : Nat)]) 44 from B24); clear B24 C25
  refine hK22 _ _ ?_; clear hK22 K22
  (try simp only [zP, zN, zA, zB, zC])
  refine nl_ (hK21 _ _ ?_); clear hK21 K21
  refine sq_ (fun K26 hK26 => ?_)
  refine startk_ (S := fun W => Blk W g3 (#[.slice Aq n z, .int .i64 (la + 1 : Nat)]) 44 ∧ True) (ds := [12]) #[false, false, false, false, false, false, false, false, false, false, false, false, false] (by kernel_rfl) rfl rfl (fun W c => ⟨c.blk Fg3.out nin_nil, trivial⟩) (fun w27 C28 hS29 => ?_)
  have C0' := Lib.hid (show Ch [] w w27 from C0.out.trans' C28 (fun x hx => absurd hx (by simp)))
  have SQ' := Lib.hid (show SrcIs w27 (.slice Aq n z) (n) ((L).flatMap sesC) 6 from SQ.out.chx C28 xnin_nil)
  have Fg3' := Lib.hid (show Blk w27 g3 (#[.slice Aq n z, .int .i64 (la + 1 : Nat)]) 44 from C28.blk Fg3.out nin_nil)
  have Fg11' := Lib.hid (show Blk w27 g11 (#[.slice none 0 0, .int .i64 0]) 44 from C28.blk Fg11.out nin_nil)
  clear C0 SQ Fg3 Fg11
  have C0 := C0'; clear C0'
  have SQ := SQ'; clear SQ'
  have Fg3 := Fg3'; clear Fg3'
  have Fg11 := Fg11'; clear Fg11'
  clear C28
  refine pure_ (i := 1) (N := some 19) (v := .pointer (some ⟨g3, 0, none⟩)) #[false, true, false, false, false, false, false, false, false, false, false, false, false] rfl rfl (by kernel_rfl) (fun c a w h => hP c a _ _ w h) (y_run (by rfl) (fun W => by go_simp)) rfl ?_
  (try simp only [zP, zN, zA, zB, zC])
  refine take_ (i := 2) (N := some 20) (v := .slice Aq n z) #[false, true, true, false, false, false, false, false, false, false, false, false, false] rfl rfl (by kernel_rfl) (fun c a w h => hP c a _ _ w h) (y_load (p := ⟨g3, 0, none⟩) rfl (by rfl) (by rfl) (fun W hS => run_load_one ((hS.1.cell 0).trans rfl) Tryd.underlying42 rfl)) hS29 rfl ?_
  (try simp only [zP, zN, zA, zB, zC])
  refine pure_ (i := 4) (N := some 22) (v := .pointer (some ⟨g3, 1, none⟩)) #[false, true, true, false, true, false, false, false, false, false, false, false, false] rfl rfl (by kernel_rfl) (fun c a w h => hP c a _ _ w h) (y_run (by rfl) (fun W => by go_simp)) rfl ?_
  (try simp only [zP, zN, zA, zB, zC])
  refine take_ (i := 5) (N := some 23) (v := .int .i64 (la + 1 : Nat)) #[false, true, true, false, true, true, false, false, false, false, false, false, false] rfl rfl (by kernel_rfl) (fun c a w h => hP c a _ _ w h) (y_load (p := ⟨g3, 1, none⟩) rfl (by rfl) (by rfl) (fun W hS => run_load_one ((hS.1.cell 1).trans rfl) Tryd.underlying3 rfl)) hS29 rfl ?_
  (try simp only [zP, zN, zA, zB, zC])
  refine pure_ (i := 6) (N := some 24) (v := .int .i64 bx) #[false, true, true, false, true, true, true, false, false, false, false, false, false] rfl rfl (by kernel_rfl) (fun c a w h => hP c a _ _ w h) (y_move rfl (by rfl) (by rfl)) rfl ?_
  (try simp only [zP, zN, zA, zB, zC])
  refine pure_ (i := 7) (N := some 25) (v := .int .i64 ct) #[false, true, true, false, true, true, true, true, false, false, false, false, false] rfl rfl (by kernel_rfl) (fun c a w h => hP c a _ _ w h) (y_move rfl (by rfl) (by rfl)) rfl ?_
  (try simp only [zP, zN, zA, zB, zC])
  refine pure_ (i := 8) (N := some 26) (v := .agg #[.int .i64 (la + 1 : Nat), .int .i64 bx, .int .i64 ct, .bool true, .string ⟨#[]⟩, .string ⟨#[]⟩]) #[false, true, true, false, true, true, true, true, true, false, false, false, false] rfl rfl (by kernel_rfl) (fun c a w h => hP c a _ _ w h) (y_build (vs := #[(0, .int .i64 (la + 1 : Nat)), (1, .int .i64 bx), (2, .int .i64 ct), (3, .bool true)]) (by rfl) rfl (by first | rfl | (simp only [List.map_toArray, List.map_cons, List.map_nil]; first | done | rfl)) (by kernel_rfl)) rfl ?_
  (try simp only [zP, zN, zA, zB, zC])
  refine two_ (i := 0) (j := 9) (Ni := some 18) (Nj := some 27) #[true, true, true, false, true, true, true, true, true, false, false, false, false] #[false, true, true, false, true, true, true, true, true, true, false, false, false] rfl rfl rfl rfl (by kernel_rfl) (by simp) (by simp) (fun K30 hK30 => ?_) (fun K31 hK31 => ?_)
  · refine e_buildS0 (by rfl) rfl rfl Tryd.underlying42 I49.hi ?_
    rintro g32 w33 HG34 C36
    have C0' := Lib.hid (show Ch [] w w33 from C0.out.trans' C36 (fun x hx => absurd hx (by simp)))
    have SQ' := Lib.hid (show SrcIs w33 (.slice Aq n z) (n) ((L).flatMap sesC) 6 from SQ.out.chx C36 xnin_nil)
    have Fg3' := Lib.hid (show Blk w33 g3 (#[.slice Aq n z, .int .i64 (la + 1 : Nat)]) 44 from C36.blk Fg3.out nin_nil)
    have Fg11' := Lib.hid (show Blk w33 g11 (#[.slice none 0 0, .int .i64 0]) 44 from C36.blk Fg11.out nin_nil)
    clear C0 SQ Fg3 Fg11
    have C0 := C0'; clear C0'
    have SQ := SQ'; clear SQ'
    have Fg3 := Fg3'; clear Fg3'
    have Fg11 := Fg11'; clear Fg11'
    clear C36
    have Z37 := Lib.hid (show OwnS w33 w.heap.size 49 6 (.slice (some ⟨g32, 0, none⟩) 0 0) (0) ([]) from OwnS.nil _ _ _ _ _)
    refine hK30.out _ _ ⟨Fg3.out, trivial⟩ (fun hS38 => ?_); clear hK30 K30
    (try simp only [zP, zN, zA, zB, zC])
    refine two_ (i := 3) (j := 9) (Ni := some 21) (Nj := some 27) #[true, true, true, true, true, true, true, true, true, false, false, false, false] #[true, true, true, false, true, true, true, true, true, true, false, false, false] rfl rfl rfl rfl (by kernel_rfl) (by simp) (by simp) (fun K39 hK39 => ?_) (fun K40 hK40 => ?_)
    · refine e_append (by rfl) rfl rfl (w.heap.size) 49 _ _ 6 64 Tryd.underlying42 I49.hi I49.hz I49.hs I49.hb rfl (by decide) (.slice (some ⟨g32, 0, none⟩) 0 0) (0) ([]) (by rfl) Z37.out (.slice Aq n z) n (L.flatMap sesC) (by rfl) SQ.out (flat_one sesC_one L) (by have := HF.out; unfold maxLen; omega) (by have := HF.out; omega) C0.out.size ?_
      rintro v41 w42 O43 C44 R45 -
      replace C44 : Ch [] _ _ := C44
      replace R45 : ∀ k, k ∈ rl v41 → w33.heap.size ≤ k := fun k hk => (R45 k hk).elim (fun h => absurd h (by simp [rl])) (fun h => h)
      have rw46 := Lib.hid (show ∀ z_, z_ ∈ rl v41 → z_ ∈ [] ∨ w.heap.size ≤ z_ from fun x hx => .inr (by have := R45 x hx; have := C0.out.size; omega))
      have xr47 := Lib.hid (show ∀ k, k ∈ xb (.slice Aq n z) → k ∉ rl v41 from fun k hk hm => by have := R45 k hm; have := SQ.out.lt (by decide) k hk; omega)
      have C0' := Lib.hid (show Ch [] w w42 from C0.out.trans' C44 (fun x hx => absurd hx (by simp)))
      have SQ' := Lib.hid (show SrcIs w42 (.slice Aq n z) (n) ((L).flatMap sesC) 6 from SQ.out.chx C44 xnin_nil)
      have Fg3' := Lib.hid (show Blk w42 g3 (#[.slice Aq n z, .int .i64 (la + 1 : Nat)]) 44 from C44.blk Fg3.out nin_nil)
      have Fg11' := Lib.hid (show Blk w42 g11 (#[.slice none 0 0, .int .i64 0]) 44 from C44.blk Fg11.out nin_nil)
      clear C0 SQ Fg3 Fg11
      have C0 := C0'; clear C0'
      have SQ := SQ'; clear SQ'
      have Fg3 := Fg3'; clear Fg3'
      have Fg11 := Fg11'; clear Fg11'
      clear Z37
      have Z37 := Lib.hid (show OwnS w42 w.heap.size 49 6 (v41) (n) (L.flatMap sesC) from (by simpa using O43)); clear O43 C44
      refine hK39.out _ _ ⟨Fg3.out, trivial⟩ (fun hS48 => ?_); clear hK39 K39
      (try simp only [zP, zN, zA, zB, zC])
      refine one_ (i := 9) (N := some 27) #[true, true, true, true, true, true, true, true, true, true, false, false, false] rfl rfl (by kernel_rfl) (by simp) (fun K49 hK49 => ?_)
      refine e_buildS (parts := #[(0, .agg #[.int .i64 (la + 1 : Nat), .int .i64 bx, .int .i64 ct, .bool true, .string ⟨#[]⟩, .string ⟨#[]⟩])]) (cells := #[.int .i64 (la + 1 : Nat), .int .i64 bx, .int .i64 ct, .bool true, .string ⟨#[]⟩, .string ⟨#[]⟩]) (by rfl) rfl rfl (by first | rfl | (simp only [List.map_toArray, List.map_cons, List.map_nil]; first | done | rfl)) Tryd.underlying42 I49.hi I49.hz I49.hs (by decide) (by decide) (by kernel_rfl) ?_
      rintro g50 w51 HG52 B53 C54
      have nw55 := Lib.hid (show w.heap.size ≤ g50 by have := C0.out.size; have := HG52.out; omega)
      have nx56 := Lib.hid (SQ.out.ne_new (by decide) HG52)
      have nr57 := Lib.hid (Z37.out.ne_new HG52)
      have C0' := Lib.hid (show Ch [] w w51 from C0.out.trans' C54 (fun x hx => absurd hx (by simp)))
      have SQ' := Lib.hid (show SrcIs w51 (.slice Aq n z) (n) ((L).flatMap sesC) 6 from SQ.out.chx C54 xnin_nil)
      have Fg3' := Lib.hid (show Blk w51 g3 (#[.slice Aq n z, .int .i64 (la + 1 : Nat)]) 44 from C54.blk Fg3.out nin_nil)
      have Fg11' := Lib.hid (show Blk w51 g11 (#[.slice none 0 0, .int .i64 0]) 44 from C54.blk Fg11.out nin_nil)
      have Z37' := Lib.hid (show OwnS w51 w.heap.size 49 6 (v41) (n) (L.flatMap sesC) from Z37.out.ch C54 rnin_nil)
      clear C0 SQ Fg3 Fg11 Z37
      have C0 := C0'; clear C0'
      have SQ := SQ'; clear SQ'
      have Fg3 := Fg3'; clear Fg3'
      have Fg11 := Fg11'; clear Fg11'
      have Z37 := Z37'; clear Z37'
      have Fg50 := Lib.hid (show Blk w51 g50 (#[.int .i64 (la + 1 : Nat), .int .i64 bx, .int .i64 ct, .bool true, .string ⟨#[]⟩, .string ⟨#[]⟩]) 49 from B53); clear B53 C54
      refine hK49.out _ _ ⟨Fg3.out, trivial⟩ (fun hS58 => ?_); clear hK49 K49
      (try simp only [zP, zN, zA, zB, zC])
      refine one_ (i := 10) (N := some 28) #[true, true, true, true, true, true, true, true, true, true, true, false, false] rfl rfl (by kernel_rfl) (by simp) (fun K59 hK59 => ?_)
      refine e_append (by rfl) rfl rfl (w.heap.size) 49 _ _ 6 64 Tryd.underlying42 I49.hi I49.hz I49.hs I49.hb rfl (by decide) (v41) (n) (L.flatMap sesC) (by rfl) Z37.out (.slice (some ⟨g50, 0, none⟩) 1 1) 1 (sesC (⟨(la + 1 : Nat), bx, ct, true, [], []⟩ : HS)) (by rfl) ⟨rfl, .inr ⟨_, _, rfl, CellsAt.blk Fg50.out 0⟩⟩ (sesC_one (⟨(la + 1 : Nat), bx, ct, true, [], []⟩ : HS)) (by have := HF.out; unfold maxLen; omega) (by have := HF.out; omega) C0.out.size ?_
      rintro v60 w61 O62 C63 R64 -
      have rw65 := Lib.hid (show ∀ z_, z_ ∈ rl v60 → z_ ∈ [] ∨ w.heap.size ≤ z_ from fun x hx => (R64 x hx).elim (fun h => rw46.out _ h) (fun h => .inr (by have := C0.out.size; omega)))
      have xr66 := Lib.hid (show ∀ k, k ∈ xb (.slice Aq n z) → k ∉ rl v60 from fun k hk hm => (R64 k hm).elim (fun h => xr47.out k hk h) (fun h => by have := SQ.out.lt (by decide) k hk; omega))
      have nr67 := Lib.hid (show g50 ∉ rl v60 from fun hk => (R64 _ hk).elim nr57.out (fun h => by have := Fg50.out.lt; omega))
      have C0' := Lib.hid (show Ch [] w w61 from C0.out.trans' C63 (fun x hx => .inr (Z37.out.lt x hx).1))
      have SQ' := Lib.hid (show SrcIs w61 (.slice Aq n z) (n) ((L).flatMap sesC) 6 from SQ.out.chx C63 xr47.out)
      have Fg3' := Lib.hid (show Blk w61 g3 (#[.slice Aq n z, .int .i64 (la + 1 : Nat)]) 44 from C63.blk Fg3.out (Z37.out.ne Fg3.out (by decide)))
      have Fg11' := Lib.hid (show Blk w61 g11 (#[.slice none 0 0, .int .i64 0]) 44 from C63.blk Fg11.out (Z37.out.ne Fg11.out (by decide)))
      have Fg50' := Lib.hid (show Blk w61 g50 (#[.int .i64 (la + 1 : Nat), .int .i64 bx, .int .i64 ct, .bool true, .string ⟨#[]⟩, .string ⟨#[]⟩]) 49 from C63.blk Fg50.out nr57.out)
      clear C0 SQ Fg3 Fg11 Fg50
      have C0 := C0'; clear C0'
      have SQ := SQ'; clear SQ'
      have Fg3 := Fg3'; clear Fg3'
      have Fg11 := Fg11'; clear Fg11'
      have Fg50 := Fg50'; clear Fg50'
      clear Z37
      have Z37 := Lib.hid (show OwnS w61 w.heap.size 49 6 (v60) (n + 1) (L.flatMap sesC ++ sesC (⟨(la + 1 : Nat), bx, ct, true, [], []⟩ : HS)) from O62); clear O62 C63
      refine hK59.out _ _ ⟨Fg3.out, trivial⟩ (fun hS68 => ?_); clear hK59 K59
      (try simp only [zP, zN, zA, zB, zC])
      refine pure_ (i := 11) (N := some 29) (v := .pointer (some ⟨g3, 0, none⟩)) #[true, true, true, true, true, true, true, true, true, true, true, true, false] rfl rfl (by kernel_rfl) (fun c a w h => hP c a _ _ w h) (y_run (by rfl) (fun W => by go_simp)) rfl ?_
      (try simp only [zP, zN, zA, zB, zC])
      refine last_ (i := 12) (N := none) #[true, true, true, true, true, true, true, true, true, true, true, true, true] rfl rfl (by kernel_rfl) (by simp) (fun K69 hK69 => ?_)
      refine e_store1 (b := g3) (j := 0) (v := v60) (by rfl) rfl rfl (by rfl) (by rfl) Fg3.out (show 0 < 2 by omega) (by kernel_rfl) Z37.out.one ?_
      rintro w70 B71 C72
      have C0' := Lib.hid (show Ch [] w w70 from C0.out.trans' C72 (inw_cons (.inr nw8.out) inw_nil))
      have SQ' := Lib.hid (show SrcIs w70 (.slice Aq n z) (n) ((L).flatMap sesC) 6 from SQ.out.chx C72 (xnin_cons nx9.out xnin_nil))
      have Fg11' := Lib.hid (show Blk w70 g11 (#[.slice none 0 0, .int .i64 0]) 44 from C72.blk Fg11.out (nin_cons (Ne.symm ne18.out) nin_nil))
      have Z37' := Lib.hid (show OwnS w70 w.heap.size 49 6 (v60) (n + 1) (L.flatMap sesC ++ sesC (⟨(la + 1 : Nat), bx, ct, true, [], []⟩ : HS)) from Z37.out.ch C72 (rnin_cons (Z37.out.ne Fg3.out (by decide)) rnin_nil))
      have Fg50' := Lib.hid (show Blk w70 g50 (#[.int .i64 (la + 1 : Nat), .int .i64 bx, .int .i64 ct, .bool true, .string ⟨#[]⟩, .string ⟨#[]⟩]) 49 from C72.blk Fg50.out (nin_cons (Blk.ne_type Fg50.out Fg3.out (by decide)) nin_nil))
      clear C0 SQ Fg11 Z37 Fg50
      have C0 := C0'; clear C0'
      have SQ := SQ'; clear SQ'
      have Fg11 := Fg11'; clear Fg11'
      have Z37 := Z37'; clear Z37'
      have Fg50 := Fg50'; clear Fg50'
      clear Fg3; have Fg3 := Lib.hid (show Blk w70 g3 (#[v60, .int .i64 (la + 1 : Nat)]) 44 from B71); clear B71 C72
      refine hK69.out _ _ ?_; clear hK69 K69
      (try simp only [zP, zN, zA, zB, zC])
      refine done_ (by kernel_rfl) (th_norm (hK26 _ _ ?_)); clear hK26 K26
      refine sq_ (fun K73 hK73 => ?_)
      refine startk_ (S := fun W => Blk W g3 (#[v60, .int .i64 (la + 1 : Nat)]) 44 ∧ True) (ds := []) #[false, false, false, false, false, false] (by kernel_rfl) rfl rfl (fun W c => ⟨c.blk Fg3.out nin_nil, trivial⟩) (fun w74 C75 hS76 => ?_)
      have C0' := Lib.hid (show Ch [] w w74 from C0.out.trans' C75 (fun x hx => absurd hx (by simp)))
      have SQ' := Lib.hid (show SrcIs w74 (.slice Aq n z) (n) ((L).flatMap sesC) 6 from SQ.out.chx C75 xnin_nil)
      have Fg3' := Lib.hid (show Blk w74 g3 (#[v60, .int .i64 (la + 1 : Nat)]) 44 from C75.blk Fg3.out nin_nil)
      have Fg11' := Lib.hid (show Blk w74 g11 (#[.slice none 0 0, .int .i64 0]) 44 from C75.blk Fg11.out nin_nil)
      have Z37' := Lib.hid (show OwnS w74 w.heap.size 49 6 (v60) (n + 1) (L.flatMap sesC ++ sesC (⟨(la + 1 : Nat), bx, ct, true, [], []⟩ : HS)) from Z37.out.ch C75 rnin_nil)
      have Fg50' := Lib.hid (show Blk w74 g50 (#[.int .i64 (la + 1 : Nat), .int .i64 bx, .int .i64 ct, .bool true, .string ⟨#[]⟩, .string ⟨#[]⟩]) 49 from C75.blk Fg50.out nin_nil)
      clear C0 SQ Fg3 Fg11 Z37 Fg50
      have C0 := C0'; clear C0'
      have SQ := SQ'; clear SQ'
      have Fg3 := Fg3'; clear Fg3'
      have Fg11 := Fg11'; clear Fg11'
      have Z37 := Z37'; clear Z37'
      have Fg50 := Fg50'; clear Fg50'
      clear C75
      refine take_ (i := 0) (N := some 30) (v := .agg (#[v60, .int .i64 (la + 1 : Nat)])) #[true, false, false, false, false, false] rfl rfl (by kernel_rfl) (fun c a w h => hP c a _ _ w h) (y_load (p := ⟨g3, 0, none⟩) rfl (by rfl) (by rfl) (fun W hS => run_loadVar_row _ _ 44 44 (#[v60, .int .i64 (la + 1 : Nat)]) (0, 0) _ hS.1 Tryd.underlying44 rfl (by kernel_rfl))) hS76 rfl ?_
      (try simp only [zP, zN, zA, zB, zC])
      refine pure_ (i := 1) (N := some 31) (v := .pointer (some ⟨g3, 1, none⟩)) #[true, true, false, false, false, false] rfl rfl (by kernel_rfl) (fun c a w h => hP c a _ _ w h) (y_run (by rfl) (fun W => by go_simp)) rfl ?_
      (try simp only [zP, zN, zA, zB, zC])
      refine take_ (i := 2) (N := some 32) (v := .int .i64 (la + 1 : Nat)) #[true, true, true, false, false, false] rfl rfl (by kernel_rfl) (fun c a w h => hP c a _ _ w h) (y_load (p := ⟨g3, 1, none⟩) rfl (by rfl) (by rfl) (fun W hS => run_load_one ((hS.1.cell 1).trans rfl) Tryd.underlying3 rfl)) hS76 rfl ?_
      (try simp only [zP, zN, zA, zB, zC])
      refine one_ (i := 3) (N := none) #[true, true, true, true, false, false] rfl rfl (by kernel_rfl) (by simp) (fun K77 hK77 => ?_)
      refine e_storeN (cells := (#[v60, .int .i64 (la + 1 : Nat)])) (by rfl) rfl rfl (by rfl) (by rfl) Fg11.out (by kernel_rfl) (by rfl) (ones_cons Z37.out.one (ones_cons rfl ones_nil)) ?_
      rintro w78 B79 C80
      have C0' := Lib.hid (show Ch [] w w78 from C0.out.trans' C80 (inw_cons (.inr nw16.out) inw_nil))
      have SQ' := Lib.hid (show SrcIs w78 (.slice Aq n z) (n) ((L).flatMap sesC) 6 from SQ.out.chx C80 (xnin_cons nx17.out xnin_nil))
      have Fg3' := Lib.hid (show Blk w78 g3 (#[v60, .int .i64 (la + 1 : Nat)]) 44 from C80.blk Fg3.out (nin_cons ne18.out nin_nil))
      have Z37' := Lib.hid (show OwnS w78 w.heap.size 49 6 (v60) (n + 1) (L.flatMap sesC ++ sesC (⟨(la + 1 : Nat), bx, ct, true, [], []⟩ : HS)) from Z37.out.ch C80 (rnin_cons (Z37.out.ne Fg11.out (by decide)) rnin_nil))
      have Fg50' := Lib.hid (show Blk w78 g50 (#[.int .i64 (la + 1 : Nat), .int .i64 bx, .int .i64 ct, .bool true, .string ⟨#[]⟩, .string ⟨#[]⟩]) 49 from C80.blk Fg50.out (nin_cons (Blk.ne_type Fg50.out Fg11.out (by decide)) nin_nil))
      clear C0 SQ Fg3 Z37 Fg50
      have C0 := C0'; clear C0'
      have SQ := SQ'; clear SQ'
      have Fg3 := Fg3'; clear Fg3'
      have Z37 := Z37'; clear Z37'
      have Fg50 := Fg50'; clear Fg50'
      clear Fg11; have Fg11 := Lib.hid (show Blk w78 g11 ((#[v60, .int .i64 (la + 1 : Nat)])) 44 from B79); clear B79 C80
      refine hK77.out _ _ ⟨Fg3.out, trivial⟩ (fun hS81 => ?_); clear hK77 K77
      (try simp only [zP, zN, zA, zB, zC])
      refine pure_ (i := 4) (N := some 7) (v := .int .i64 (la + 1 : Nat)) #[true, true, true, true, true, false] rfl rfl (by kernel_rfl) (fun c a w h => hP c a _ _ w h) (y_assign rfl (by rfl) (by rfl)) rfl ?_
      (try simp only [zP, zN, zA, zB, zC])
      refine pure_ (i := 5) (N := some 8) (v := .int .i64 0) #[true, true, true, true, true, true] rfl rfl (by kernel_rfl) (fun c a w h => hP c a _ _ w h) (y_assign rfl (by rfl) (by rfl)) rfl ?_
      (try simp only [zP, zN, zA, zB, zC])
      refine done_ (by kernel_rfl) (th_norm (hK73 _ _ ?_)); clear hK73 K73
      refine wp_ret ?_
      refine hQ _ _ _ ?_
      refine bodyPost_ret (res3 rfl (rdv_cell (by rfl) (run_loadVar_row _ _ 44 44 ((#[v60, .int .i64 (la + 1 : Nat)])) (0, 0) _ Fg11.out Tryd.underlying44 rfl (by kernel_rfl))) (rdv_tmp (v := .int .i64 (la + 1 : Nat)) (by rfl)) (rdv_tmp (v := .int .i64 0) (by rfl))) rfl ?_
      have h9 := Z37.out
      rw [show L.flatMap sesC ++ sesC (⟨(la + 1 : Nat), bx, ct, true, [], []⟩ : HS) = (L ++ [(⟨(la + 1 : Nat), bx, ct, true, [], []⟩ : HS)]).flatMap sesC by simp] at h9
      obtain ⟨A9, c9, hv9, hn9, hm9⟩ := h9.slice
      subst hv9
      exact ⟨_, _, rfl, ⟨h9.src, ⟨hn9, hm9⟩, fun k hk => (h9.lt k (xb_rl' h9 k hk)).1⟩, C0.out⟩
    · refine e_buildS (parts := #[(0, .agg #[.int .i64 (la + 1 : Nat), .int .i64 bx, .int .i64 ct, .bool true, .string ⟨#[]⟩, .string ⟨#[]⟩])]) (cells := #[.int .i64 (la + 1 : Nat), .int .i64 bx, .int .i64 ct, .bool true, .string ⟨#[]⟩, .string ⟨#[]⟩]) (by rfl) rfl rfl (by first | rfl | (simp only [List.map_toArray, List.map_cons, List.map_nil]; first | done | rfl)) Tryd.underlying42 I49.hi I49.hz I49.hs (by decide) (by decide) (by kernel_rfl) ?_
      rintro g82 w83 HG84 B85 C86
      have nw87 := Lib.hid (show w.heap.size ≤ g82 by have := C0.out.size; have := HG84.out; omega)
      have nx88 := Lib.hid (SQ.out.ne_new (by decide) HG84)
      have nr89 := Lib.hid (Z37.out.ne_new HG84)
      have C0' := Lib.hid (show Ch [] w w83 from C0.out.trans' C86 (fun x hx => absurd hx (by simp)))
      have SQ' := Lib.hid (show SrcIs w83 (.slice Aq n z) (n) ((L).flatMap sesC) 6 from SQ.out.chx C86 xnin_nil)
      have Fg3' := Lib.hid (show Blk w83 g3 (#[.slice Aq n z, .int .i64 (la + 1 : Nat)]) 44 from C86.blk Fg3.out nin_nil)
      have Fg11' := Lib.hid (show Blk w83 g11 (#[.slice none 0 0, .int .i64 0]) 44 from C86.blk Fg11.out nin_nil)
      have Z37' := Lib.hid (show OwnS w83 w.heap.size 49 6 (.slice (some ⟨g32, 0, none⟩) 0 0) (0) ([]) from Z37.out.ch C86 (fun k hk => absurd hk (by simp [rl])))
      clear C0 SQ Fg3 Fg11 Z37
      have C0 := C0'; clear C0'
      have SQ := SQ'; clear SQ'
      have Fg3 := Fg3'; clear Fg3'
      have Fg11 := Fg11'; clear Fg11'
      have Z37 := Z37'; clear Z37'
      have Fg82 := Lib.hid (show Blk w83 g82 (#[.int .i64 (la + 1 : Nat), .int .i64 bx, .int .i64 ct, .bool true, .string ⟨#[]⟩, .string ⟨#[]⟩]) 49 from B85); clear B85 C86
      refine hK40.out _ _ ⟨Fg3.out, trivial⟩ (fun hS90 => ?_); clear hK40 K40
      (try simp only [zP, zN, zA, zB, zC])
      refine one_ (i := 3) (N := some 21) #[true, true, true, true, true, true, true, true, true, true, false, false, false] rfl rfl (by kernel_rfl) (by simp) (fun K91 hK91 => ?_)
      refine e_append (by rfl) rfl rfl (w.heap.size) 49 _ _ 6 64 Tryd.underlying42 I49.hi I49.hz I49.hs I49.hb rfl (by decide) (.slice (some ⟨g32, 0, none⟩) 0 0) (0) ([]) (by rfl) Z37.out (.slice Aq n z) n (L.flatMap sesC) (by rfl) SQ.out (flat_one sesC_one L) (by have := HF.out; unfold maxLen; omega) (by have := HF.out; omega) C0.out.size ?_
      rintro v92 w93 O94 C95 R96 -
      replace C95 : Ch [] _ _ := C95
      replace R96 : ∀ k, k ∈ rl v92 → w83.heap.size ≤ k := fun k hk => (R96 k hk).elim (fun h => absurd h (by simp [rl])) (fun h => h)
      have rw97 := Lib.hid (show ∀ z_, z_ ∈ rl v92 → z_ ∈ [] ∨ w.heap.size ≤ z_ from fun x hx => .inr (by have := R96 x hx; have := C0.out.size; omega))
      have xr98 := Lib.hid (show ∀ k, k ∈ xb (.slice Aq n z) → k ∉ rl v92 from fun k hk hm => by have := R96 k hm; have := SQ.out.lt (by decide) k hk; omega)
      have nr99 := Lib.hid (show g82 ∉ rl v92 from fun hk => by have := R96 _ hk; have := Fg82.out.lt; omega)
      have C0' := Lib.hid (show Ch [] w w93 from C0.out.trans' C95 (fun x hx => absurd hx (by simp)))
      have SQ' := Lib.hid (show SrcIs w93 (.slice Aq n z) (n) ((L).flatMap sesC) 6 from SQ.out.chx C95 xnin_nil)
      have Fg3' := Lib.hid (show Blk w93 g3 (#[.slice Aq n z, .int .i64 (la + 1 : Nat)]) 44 from C95.blk Fg3.out nin_nil)
      have Fg11' := Lib.hid (show Blk w93 g11 (#[.slice none 0 0, .int .i64 0]) 44 from C95.blk Fg11.out nin_nil)
      have Fg82' := Lib.hid (show Blk w93 g82 (#[.int .i64 (la + 1 : Nat), .int .i64 bx, .int .i64 ct, .bool true, .string ⟨#[]⟩, .string ⟨#[]⟩]) 49 from C95.blk Fg82.out nin_nil)
      clear C0 SQ Fg3 Fg11 Fg82
      have C0 := C0'; clear C0'
      have SQ := SQ'; clear SQ'
      have Fg3 := Fg3'; clear Fg3'
      have Fg11 := Fg11'; clear Fg11'
      have Fg82 := Fg82'; clear Fg82'
      clear Z37
      have Z37 := Lib.hid (show OwnS w93 w.heap.size 49 6 (v92) (n) (L.flatMap sesC) from (by simpa using O94)); clear O94 C95
      refine hK91.out _ _ ⟨Fg3.out, trivial⟩ (fun hS100 => ?_); clear hK91 K91
      (try simp only [zP, zN, zA, zB, zC])
      refine one_ (i := 10) (N := some 28) #[true, true, true, true, true, true, true, true, true, true, true, false, false] rfl rfl (by kernel_rfl) (by simp) (fun K101 hK101 => ?_)
      refine e_append (by rfl) rfl rfl (w.heap.size) 49 _ _ 6 64 Tryd.underlying42 I49.hi I49.hz I49.hs I49.hb rfl (by decide) (v92) (n) (L.flatMap sesC) (by rfl) Z37.out (.slice (some ⟨g82, 0, none⟩) 1 1) 1 (sesC (⟨(la + 1 : Nat), bx, ct, true, [], []⟩ : HS)) (by rfl) ⟨rfl, .inr ⟨_, _, rfl, CellsAt.blk Fg82.out 0⟩⟩ (sesC_one (⟨(la + 1 : Nat), bx, ct, true, [], []⟩ : HS)) (by have := HF.out; unfold maxLen; omega) (by have := HF.out; omega) C0.out.size ?_
      rintro v102 w103 O104 C105 R106 -
      have rw107 := Lib.hid (show ∀ z_, z_ ∈ rl v102 → z_ ∈ [] ∨ w.heap.size ≤ z_ from fun x hx => (R106 x hx).elim (fun h => rw97.out _ h) (fun h => .inr (by have := C0.out.size; omega)))
      have xr108 := Lib.hid (show ∀ k, k ∈ xb (.slice Aq n z) → k ∉ rl v102 from fun k hk hm => (R106 k hm).elim (fun h => xr98.out k hk h) (fun h => by have := SQ.out.lt (by decide) k hk; omega))
      have nr109 := Lib.hid (show g82 ∉ rl v102 from fun hk => (R106 _ hk).elim nr99.out (fun h => by have := Fg82.out.lt; omega))
      have C0' := Lib.hid (show Ch [] w w103 from C0.out.trans' C105 (fun x hx => .inr (Z37.out.lt x hx).1))
      have SQ' := Lib.hid (show SrcIs w103 (.slice Aq n z) (n) ((L).flatMap sesC) 6 from SQ.out.chx C105 xr98.out)
      have Fg3' := Lib.hid (show Blk w103 g3 (#[.slice Aq n z, .int .i64 (la + 1 : Nat)]) 44 from C105.blk Fg3.out (Z37.out.ne Fg3.out (by decide)))
      have Fg11' := Lib.hid (show Blk w103 g11 (#[.slice none 0 0, .int .i64 0]) 44 from C105.blk Fg11.out (Z37.out.ne Fg11.out (by decide)))
      have Fg82' := Lib.hid (show Blk w103 g82 (#[.int .i64 (la + 1 : Nat), .int .i64 bx, .int .i64 ct, .bool true, .string ⟨#[]⟩, .string ⟨#[]⟩]) 49 from C105.blk Fg82.out nr99.out)
      clear C0 SQ Fg3 Fg11 Fg82
      have C0 := C0'; clear C0'
      have SQ := SQ'; clear SQ'
      have Fg3 := Fg3'; clear Fg3'
      have Fg11 := Fg11'; clear Fg11'
      have Fg82 := Fg82'; clear Fg82'
      clear Z37
      have Z37 := Lib.hid (show OwnS w103 w.heap.size 49 6 (v102) (n + 1) (L.flatMap sesC ++ sesC (⟨(la + 1 : Nat), bx, ct, true, [], []⟩ : HS)) from O104); clear O104 C105
      refine hK101.out _ _ ⟨Fg3.out, trivial⟩ (fun hS110 => ?_); clear hK101 K101
      (try simp only [zP, zN, zA, zB, zC])
      refine pure_ (i := 11) (N := some 29) (v := .pointer (some ⟨g3, 0, none⟩)) #[true, true, true, true, true, true, true, true, true, true, true, true, false] rfl rfl (by kernel_rfl) (fun c a w h => hP c a _ _ w h) (y_run (by rfl) (fun W => by go_simp)) rfl ?_
      (try simp only [zP, zN, zA, zB, zC])
      refine last_ (i := 12) (N := none) #[true, true, true, true, true, true, true, true, true, true, true, true, true] rfl rfl (by kernel_rfl) (by simp) (fun K111 hK111 => ?_)
      refine e_store1 (b := g3) (j := 0) (v := v102) (by rfl) rfl rfl (by rfl) (by rfl) Fg3.out (show 0 < 2 by omega) (by kernel_rfl) Z37.out.one ?_
      rintro w112 B113 C114
      have C0' := Lib.hid (show Ch [] w w112 from C0.out.trans' C114 (inw_cons (.inr nw8.out) inw_nil))
      have SQ' := Lib.hid (show SrcIs w112 (.slice Aq n z) (n) ((L).flatMap sesC) 6 from SQ.out.chx C114 (xnin_cons nx9.out xnin_nil))
      have Fg11' := Lib.hid (show Blk w112 g11 (#[.slice none 0 0, .int .i64 0]) 44 from C114.blk Fg11.out (nin_cons (Ne.symm ne18.out) nin_nil))
      have Z37' := Lib.hid (show OwnS w112 w.heap.size 49 6 (v102) (n + 1) (L.flatMap sesC ++ sesC (⟨(la + 1 : Nat), bx, ct, true, [], []⟩ : HS)) from Z37.out.ch C114 (rnin_cons (Z37.out.ne Fg3.out (by decide)) rnin_nil))
      have Fg82' := Lib.hid (show Blk w112 g82 (#[.int .i64 (la + 1 : Nat), .int .i64 bx, .int .i64 ct, .bool true, .string ⟨#[]⟩, .string ⟨#[]⟩]) 49 from C114.blk Fg82.out (nin_cons (Blk.ne_type Fg82.out Fg3.out (by decide)) nin_nil))
      clear C0 SQ Fg11 Z37 Fg82
      have C0 := C0'; clear C0'
      have SQ := SQ'; clear SQ'
      have Fg11 := Fg11'; clear Fg11'
      have Z37 := Z37'; clear Z37'
      have Fg82 := Fg82'; clear Fg82'
      clear Fg3; have Fg3 := Lib.hid (show Blk w112 g3 (#[v102, .int .i64 (la + 1 : Nat)]) 44 from B113); clear B113 C114
      refine hK111.out _ _ ?_; clear hK111 K111
      (try simp only [zP, zN, zA, zB, zC])
      refine done_ (by kernel_rfl) (th_norm (hK26 _ _ ?_)); clear hK26 K26
      refine sq_ (fun K115 hK115 => ?_)
      refine startk_ (S := fun W => Blk W g3 (#[v102, .int .i64 (la + 1 : Nat)]) 44 ∧ True) (ds := []) #[false, false, false, false, false, false] (by kernel_rfl) rfl rfl (fun W c => ⟨c.blk Fg3.out nin_nil, trivial⟩) (fun w116 C117 hS118 => ?_)
      have C0' := Lib.hid (show Ch [] w w116 from C0.out.trans' C117 (fun x hx => absurd hx (by simp)))
      have SQ' := Lib.hid (show SrcIs w116 (.slice Aq n z) (n) ((L).flatMap sesC) 6 from SQ.out.chx C117 xnin_nil)
      have Fg3' := Lib.hid (show Blk w116 g3 (#[v102, .int .i64 (la + 1 : Nat)]) 44 from C117.blk Fg3.out nin_nil)
      have Fg11' := Lib.hid (show Blk w116 g11 (#[.slice none 0 0, .int .i64 0]) 44 from C117.blk Fg11.out nin_nil)
      have Z37' := Lib.hid (show OwnS w116 w.heap.size 49 6 (v102) (n + 1) (L.flatMap sesC ++ sesC (⟨(la + 1 : Nat), bx, ct, true, [], []⟩ : HS)) from Z37.out.ch C117 rnin_nil)
      have Fg82' := Lib.hid (show Blk w116 g82 (#[.int .i64 (la + 1 : Nat), .int .i64 bx, .int .i64 ct, .bool true, .string ⟨#[]⟩, .string ⟨#[]⟩]) 49 from C117.blk Fg82.out nin_nil)
      clear C0 SQ Fg3 Fg11 Z37 Fg82
      have C0 := C0'; clear C0'
      have SQ := SQ'; clear SQ'
      have Fg3 := Fg3'; clear Fg3'
      have Fg11 := Fg11'; clear Fg11'
      have Z37 := Z37'; clear Z37'
      have Fg82 := Fg82'; clear Fg82'
      clear C117
      refine take_ (i := 0) (N := some 30) (v := .agg (#[v102, .int .i64 (la + 1 : Nat)])) #[true, false, false, false, false, false] rfl rfl (by kernel_rfl) (fun c a w h => hP c a _ _ w h) (y_load (p := ⟨g3, 0, none⟩) rfl (by rfl) (by rfl) (fun W hS => run_loadVar_row _ _ 44 44 (#[v102, .int .i64 (la + 1 : Nat)]) (0, 0) _ hS.1 Tryd.underlying44 rfl (by kernel_rfl))) hS118 rfl ?_
      (try simp only [zP, zN, zA, zB, zC])
      refine pure_ (i := 1) (N := some 31) (v := .pointer (some ⟨g3, 1, none⟩)) #[true, true, false, false, false, false] rfl rfl (by kernel_rfl) (fun c a w h => hP c a _ _ w h) (y_run (by rfl) (fun W => by go_simp)) rfl ?_
      (try simp only [zP, zN, zA, zB, zC])
      refine take_ (i := 2) (N := some 32) (v := .int .i64 (la + 1 : Nat)) #[true, true, true, false, false, false] rfl rfl (by kernel_rfl) (fun c a w h => hP c a _ _ w h) (y_load (p := ⟨g3, 1, none⟩) rfl (by rfl) (by rfl) (fun W hS => run_load_one ((hS.1.cell 1).trans rfl) Tryd.underlying3 rfl)) hS118 rfl ?_
      (try simp only [zP, zN, zA, zB, zC])
      refine one_ (i := 3) (N := none) #[true, true, true, true, false, false] rfl rfl (by kernel_rfl) (by simp) (fun K119 hK119 => ?_)
      refine e_storeN (cells := (#[v102, .int .i64 (la + 1 : Nat)])) (by rfl) rfl rfl (by rfl) (by rfl) Fg11.out (by kernel_rfl) (by rfl) (ones_cons Z37.out.one (ones_cons rfl ones_nil)) ?_
      rintro w120 B121 C122
      have C0' := Lib.hid (show Ch [] w w120 from C0.out.trans' C122 (inw_cons (.inr nw16.out) inw_nil))
      have SQ' := Lib.hid (show SrcIs w120 (.slice Aq n z) (n) ((L).flatMap sesC) 6 from SQ.out.chx C122 (xnin_cons nx17.out xnin_nil))
      have Fg3' := Lib.hid (show Blk w120 g3 (#[v102, .int .i64 (la + 1 : Nat)]) 44 from C122.blk Fg3.out (nin_cons ne18.out nin_nil))
      have Z37' := Lib.hid (show OwnS w120 w.heap.size 49 6 (v102) (n + 1) (L.flatMap sesC ++ sesC (⟨(la + 1 : Nat), bx, ct, true, [], []⟩ : HS)) from Z37.out.ch C122 (rnin_cons (Z37.out.ne Fg11.out (by decide)) rnin_nil))
      have Fg82' := Lib.hid (show Blk w120 g82 (#[.int .i64 (la + 1 : Nat), .int .i64 bx, .int .i64 ct, .bool true, .string ⟨#[]⟩, .string ⟨#[]⟩]) 49 from C122.blk Fg82.out (nin_cons (Blk.ne_type Fg82.out Fg11.out (by decide)) nin_nil))
      clear C0 SQ Fg3 Z37 Fg82
      have C0 := C0'; clear C0'
      have SQ := SQ'; clear SQ'
      have Fg3 := Fg3'; clear Fg3'
      have Z37 := Z37'; clear Z37'
      have Fg82 := Fg82'; clear Fg82'
      clear Fg11; have Fg11 := Lib.hid (show Blk w120 g11 ((#[v102, .int .i64 (la + 1 : Nat)])) 44 from B121); clear B121 C122
      refine hK119.out _ _ ⟨Fg3.out, trivial⟩ (fun hS123 => ?_); clear hK119 K119
      (try simp only [zP, zN, zA, zB, zC])
      refine pure_ (i := 4) (N := some 7) (v := .int .i64 (la + 1 : Nat)) #[true, true, true, true, true, false] rfl rfl (by kernel_rfl) (fun c a w h => hP c a _ _ w h) (y_assign rfl (by rfl) (by rfl)) rfl ?_
      (try simp only [zP, zN, zA, zB, zC])
      refine pure_ (i := 5) (N := some 8) (v := .int .i64 0) #[true, true, true, true, true, true] rfl rfl (by kernel_rfl) (fun c a w h => hP c a _ _ w h) (y_assign rfl (by rfl) (by rfl)) rfl ?_
      (try simp only [zP, zN, zA, zB, zC])
      refine done_ (by kernel_rfl) (th_norm (hK115 _ _ ?_)); clear hK115 K115
      refine wp_ret ?_
      refine hQ _ _ _ ?_
      refine bodyPost_ret (res3 rfl (rdv_cell (by rfl) (run_loadVar_row _ _ 44 44 ((#[v102, .int .i64 (la + 1 : Nat)])) (0, 0) _ Fg11.out Tryd.underlying44 rfl (by kernel_rfl))) (rdv_tmp (v := .int .i64 (la + 1 : Nat)) (by rfl)) (rdv_tmp (v := .int .i64 0) (by rfl))) rfl ?_
      have h9 := Z37.out
      rw [show L.flatMap sesC ++ sesC (⟨(la + 1 : Nat), bx, ct, true, [], []⟩ : HS) = (L ++ [(⟨(la + 1 : Nat), bx, ct, true, [], []⟩ : HS)]).flatMap sesC by simp] at h9
      obtain ⟨A9, c9, hv9, hn9, hm9⟩ := h9.slice
      subst hv9
      exact ⟨_, _, rfl, ⟨h9.src, ⟨hn9, hm9⟩, fun k hk => (h9.lt k (xb_rl' h9 k hk)).1⟩, C0.out⟩
  · refine e_buildS (parts := #[(0, .agg #[.int .i64 (la + 1 : Nat), .int .i64 bx, .int .i64 ct, .bool true, .string ⟨#[]⟩, .string ⟨#[]⟩])]) (cells := #[.int .i64 (la + 1 : Nat), .int .i64 bx, .int .i64 ct, .bool true, .string ⟨#[]⟩, .string ⟨#[]⟩]) (by rfl) rfl rfl (by first | rfl | (simp only [List.map_toArray, List.map_cons, List.map_nil]; first | done | rfl)) Tryd.underlying42 I49.hi I49.hz I49.hs (by decide) (by decide) (by kernel_rfl) ?_
    rintro g124 w125 HG126 B127 C128
    have nw129 := Lib.hid (show w.heap.size ≤ g124 by have := C0.out.size; have := HG126.out; omega)
    have nx130 := Lib.hid (SQ.out.ne_new (by decide) HG126)
    have C0' := Lib.hid (show Ch [] w w125 from C0.out.trans' C128 (fun x hx => absurd hx (by simp)))
    have SQ' := Lib.hid (show SrcIs w125 (.slice Aq n z) (n) ((L).flatMap sesC) 6 from SQ.out.chx C128 xnin_nil)
    have Fg3' := Lib.hid (show Blk w125 g3 (#[.slice Aq n z, .int .i64 (la + 1 : Nat)]) 44 from C128.blk Fg3.out nin_nil)
    have Fg11' := Lib.hid (show Blk w125 g11 (#[.slice none 0 0, .int .i64 0]) 44 from C128.blk Fg11.out nin_nil)
    clear C0 SQ Fg3 Fg11
    have C0 := C0'; clear C0'
    have SQ := SQ'; clear SQ'
    have Fg3 := Fg3'; clear Fg3'
    have Fg11 := Fg11'; clear Fg11'
    have Fg124 := Lib.hid (show Blk w125 g124 (#[.int .i64 (la + 1 : Nat), .int .i64 bx, .int .i64 ct, .bool true, .string ⟨#[]⟩, .string ⟨#[]⟩]) 49 from B127); clear B127 C128
    refine hK31.out _ _ ⟨Fg3.out, trivial⟩ (fun hS131 => ?_); clear hK31 K31
    (try simp only [zP, zN, zA, zB, zC])
    refine one_ (i := 0) (N := some 18) #[true, true, true, false, true, true, true, true, true, true, false, false, false] rfl rfl (by kernel_rfl) (by simp) (fun K132 hK132 => ?_)
    refine e_buildS0 (by rfl) rfl rfl Tryd.underlying42 I49.hi ?_
    rintro g133 w134 HG135 C137
    have C0' := Lib.hid (show Ch [] w w134 from C0.out.trans' C137 (fun x hx => absurd hx (by simp)))
    have SQ' := Lib.hid (show SrcIs w134 (.slice Aq n z) (n) ((L).flatMap sesC) 6 from SQ.out.chx C137 xnin_nil)
    have Fg3' := Lib.hid (show Blk w134 g3 (#[.slice Aq n z, .int .i64 (la + 1 : Nat)]) 44 from C137.blk Fg3.out nin_nil)
    have Fg11' := Lib.hid (show Blk w134 g11 (#[.slice none 0 0, .int .i64 0]) 44 from C137.blk Fg11.out nin_nil)
    have Fg124' := Lib.hid (show Blk w134 g124 (#[.int .i64 (la + 1 : Nat), .int .i64 bx, .int .i64 ct, .bool true, .string ⟨#[]⟩, .string ⟨#[]⟩]) 49 from C137.blk Fg124.out nin_nil)
    clear C0 SQ Fg3 Fg11 Fg124
    have C0 := C0'; clear C0'
    have SQ := SQ'; clear SQ'
    have Fg3 := Fg3'; clear Fg3'
    have Fg11 := Fg11'; clear Fg11'
    have Fg124 := Fg124'; clear Fg124'
    clear C137
    have Z138 := Lib.hid (show OwnS w134 w.heap.size 49 6 (.slice (some ⟨g133, 0, none⟩) 0 0) (0) ([]) from OwnS.nil _ _ _ _ _)
    refine hK132.out _ _ ⟨Fg3.out, trivial⟩ (fun hS139 => ?_); clear hK132 K132
    (try simp only [zP, zN, zA, zB, zC])
    refine one_ (i := 3) (N := some 21) #[true, true, true, true, true, true, true, true, true, true, false, false, false] rfl rfl (by kernel_rfl) (by simp) (fun K140 hK140 => ?_)
    refine e_append (by rfl) rfl rfl (w.heap.size) 49 _ _ 6 64 Tryd.underlying42 I49.hi I49.hz I49.hs I49.hb rfl (by decide) (.slice (some ⟨g133, 0, none⟩) 0 0) (0) ([]) (by rfl) Z138.out (.slice Aq n z) n (L.flatMap sesC) (by rfl) SQ.out (flat_one sesC_one L) (by have := HF.out; unfold maxLen; omega) (by have := HF.out; omega) C0.out.size ?_
    rintro v141 w142 O143 C144 R145 -
    replace C144 : Ch [] _ _ := C144
    replace R145 : ∀ k, k ∈ rl v141 → w134.heap.size ≤ k := fun k hk => (R145 k hk).elim (fun h => absurd h (by simp [rl])) (fun h => h)
    have rw146 := Lib.hid (show ∀ z_, z_ ∈ rl v141 → z_ ∈ [] ∨ w.heap.size ≤ z_ from fun x hx => .inr (by have := R145 x hx; have := C0.out.size; omega))
    have xr147 := Lib.hid (show ∀ k, k ∈ xb (.slice Aq n z) → k ∉ rl v141 from fun k hk hm => by have := R145 k hm; have := SQ.out.lt (by decide) k hk; omega)
    have nr148 := Lib.hid (show g124 ∉ rl v141 from fun hk => by have := R145 _ hk; have := Fg124.out.lt; omega)
    have C0' := Lib.hid (show Ch [] w w142 from C0.out.trans' C144 (fun x hx => absurd hx (by simp)))
    have SQ' := Lib.hid (show SrcIs w142 (.slice Aq n z) (n) ((L).flatMap sesC) 6 from SQ.out.chx C144 xnin_nil)
    have Fg3' := Lib.hid (show Blk w142 g3 (#[.slice Aq n z, .int .i64 (la + 1 : Nat)]) 44 from C144.blk Fg3.out nin_nil)
    have Fg11' := Lib.hid (show Blk w142 g11 (#[.slice none 0 0, .int .i64 0]) 44 from C144.blk Fg11.out nin_nil)
    have Fg124' := Lib.hid (show Blk w142 g124 (#[.int .i64 (la + 1 : Nat), .int .i64 bx, .int .i64 ct, .bool true, .string ⟨#[]⟩, .string ⟨#[]⟩]) 49 from C144.blk Fg124.out nin_nil)
    clear C0 SQ Fg3 Fg11 Fg124
    have C0 := C0'; clear C0'
    have SQ := SQ'; clear SQ'
    have Fg3 := Fg3'; clear Fg3'
    have Fg11 := Fg11'; clear Fg11'
    have Fg124 := Fg124'; clear Fg124'
    clear Z138
    have Z138 := Lib.hid (show OwnS w142 w.heap.size 49 6 (v141) (n) (L.flatMap sesC) from (by simpa using O143)); clear O143 C144
    refine hK140.out _ _ ⟨Fg3.out, trivial⟩ (fun hS149 => ?_); clear hK140 K140
    (try simp only [zP, zN, zA, zB, zC])
    refine one_ (i := 10) (N := some 28) #[true, true, true, true, true, true, true, true, true, true, true, false, false] rfl rfl (by kernel_rfl) (by simp) (fun K150 hK150 => ?_)
    refine e_append (by rfl) rfl rfl (w.heap.size) 49 _ _ 6 64 Tryd.underlying42 I49.hi I49.hz I49.hs I49.hb rfl (by decide) (v141) (n) (L.flatMap sesC) (by rfl) Z138.out (.slice (some ⟨g124, 0, none⟩) 1 1) 1 (sesC (⟨(la + 1 : Nat), bx, ct, true, [], []⟩ : HS)) (by rfl) ⟨rfl, .inr ⟨_, _, rfl, CellsAt.blk Fg124.out 0⟩⟩ (sesC_one (⟨(la + 1 : Nat), bx, ct, true, [], []⟩ : HS)) (by have := HF.out; unfold maxLen; omega) (by have := HF.out; omega) C0.out.size ?_
    rintro v151 w152 O153 C154 R155 -
    have rw156 := Lib.hid (show ∀ z_, z_ ∈ rl v151 → z_ ∈ [] ∨ w.heap.size ≤ z_ from fun x hx => (R155 x hx).elim (fun h => rw146.out _ h) (fun h => .inr (by have := C0.out.size; omega)))
    have xr157 := Lib.hid (show ∀ k, k ∈ xb (.slice Aq n z) → k ∉ rl v151 from fun k hk hm => (R155 k hm).elim (fun h => xr147.out k hk h) (fun h => by have := SQ.out.lt (by decide) k hk; omega))
    have nr158 := Lib.hid (show g124 ∉ rl v151 from fun hk => (R155 _ hk).elim nr148.out (fun h => by have := Fg124.out.lt; omega))
    have C0' := Lib.hid (show Ch [] w w152 from C0.out.trans' C154 (fun x hx => .inr (Z138.out.lt x hx).1))
    have SQ' := Lib.hid (show SrcIs w152 (.slice Aq n z) (n) ((L).flatMap sesC) 6 from SQ.out.chx C154 xr147.out)
    have Fg3' := Lib.hid (show Blk w152 g3 (#[.slice Aq n z, .int .i64 (la + 1 : Nat)]) 44 from C154.blk Fg3.out (Z138.out.ne Fg3.out (by decide)))
    have Fg11' := Lib.hid (show Blk w152 g11 (#[.slice none 0 0, .int .i64 0]) 44 from C154.blk Fg11.out (Z138.out.ne Fg11.out (by decide)))
    have Fg124' := Lib.hid (show Blk w152 g124 (#[.int .i64 (la + 1 : Nat), .int .i64 bx, .int .i64 ct, .bool true, .string ⟨#[]⟩, .string ⟨#[]⟩]) 49 from C154.blk Fg124.out nr148.out)
    clear C0 SQ Fg3 Fg11 Fg124
    have C0 := C0'; clear C0'
    have SQ := SQ'; clear SQ'
    have Fg3 := Fg3'; clear Fg3'
    have Fg11 := Fg11'; clear Fg11'
    have Fg124 := Fg124'; clear Fg124'
    clear Z138
    have Z138 := Lib.hid (show OwnS w152 w.heap.size 49 6 (v151) (n + 1) (L.flatMap sesC ++ sesC (⟨(la + 1 : Nat), bx, ct, true, [], []⟩ : HS)) from O153); clear O153 C154
    refine hK150.out _ _ ⟨Fg3.out, trivial⟩ (fun hS159 => ?_); clear hK150 K150
    (try simp only [zP, zN, zA, zB, zC])
    refine pure_ (i := 11) (N := some 29) (v := .pointer (some ⟨g3, 0, none⟩)) #[true, true, true, true, true, true, true, true, true, true, true, true, false] rfl rfl (by kernel_rfl) (fun c a w h => hP c a _ _ w h) (y_run (by rfl) (fun W => by go_simp)) rfl ?_
    (try simp only [zP, zN, zA, zB, zC])
    refine last_ (i := 12) (N := none) #[true, true, true, true, true, true, true, true, true, true, true, true, true] rfl rfl (by kernel_rfl) (by simp) (fun K160 hK160 => ?_)
    refine e_store1 (b := g3) (j := 0) (v := v151) (by rfl) rfl rfl (by rfl) (by rfl) Fg3.out (show 0 < 2 by omega) (by kernel_rfl) Z138.out.one ?_
    rintro w161 B162 C163
    have C0' := Lib.hid (show Ch [] w w161 from C0.out.trans' C163 (inw_cons (.inr nw8.out) inw_nil))
    have SQ' := Lib.hid (show SrcIs w161 (.slice Aq n z) (n) ((L).flatMap sesC) 6 from SQ.out.chx C163 (xnin_cons nx9.out xnin_nil))
    have Fg11' := Lib.hid (show Blk w161 g11 (#[.slice none 0 0, .int .i64 0]) 44 from C163.blk Fg11.out (nin_cons (Ne.symm ne18.out) nin_nil))
    have Fg124' := Lib.hid (show Blk w161 g124 (#[.int .i64 (la + 1 : Nat), .int .i64 bx, .int .i64 ct, .bool true, .string ⟨#[]⟩, .string ⟨#[]⟩]) 49 from C163.blk Fg124.out (nin_cons (Blk.ne_type Fg124.out Fg3.out (by decide)) nin_nil))
    have Z138' := Lib.hid (show OwnS w161 w.heap.size 49 6 (v151) (n + 1) (L.flatMap sesC ++ sesC (⟨(la + 1 : Nat), bx, ct, true, [], []⟩ : HS)) from Z138.out.ch C163 (rnin_cons (Z138.out.ne Fg3.out (by decide)) rnin_nil))
    clear C0 SQ Fg11 Fg124 Z138
    have C0 := C0'; clear C0'
    have SQ := SQ'; clear SQ'
    have Fg11 := Fg11'; clear Fg11'
    have Fg124 := Fg124'; clear Fg124'
    have Z138 := Z138'; clear Z138'
    clear Fg3; have Fg3 := Lib.hid (show Blk w161 g3 (#[v151, .int .i64 (la + 1 : Nat)]) 44 from B162); clear B162 C163
    refine hK160.out _ _ ?_; clear hK160 K160
    (try simp only [zP, zN, zA, zB, zC])
    refine done_ (by kernel_rfl) (th_norm (hK26 _ _ ?_)); clear hK26 K26
    refine sq_ (fun K164 hK164 => ?_)
    refine startk_ (S := fun W => Blk W g3 (#[v151, .int .i64 (la + 1 : Nat)]) 44 ∧ True) (ds := []) #[false, false, false, false, false, false] (by kernel_rfl) rfl rfl (fun W c => ⟨c.blk Fg3.out nin_nil, trivial⟩) (fun w165 C166 hS167 => ?_)
    have C0' := Lib.hid (show Ch [] w w165 from C0.out.trans' C166 (fun x hx => absurd hx (by simp)))
    have SQ' := Lib.hid (show SrcIs w165 (.slice Aq n z) (n) ((L).flatMap sesC) 6 from SQ.out.chx C166 xnin_nil)
    have Fg3' := Lib.hid (show Blk w165 g3 (#[v151, .int .i64 (la + 1 : Nat)]) 44 from C166.blk Fg3.out nin_nil)
    have Fg11' := Lib.hid (show Blk w165 g11 (#[.slice none 0 0, .int .i64 0]) 44 from C166.blk Fg11.out nin_nil)
    have Fg124' := Lib.hid (show Blk w165 g124 (#[.int .i64 (la + 1 : Nat), .int .i64 bx, .int .i64 ct, .bool true, .string ⟨#[]⟩, .string ⟨#[]⟩]) 49 from C166.blk Fg124.out nin_nil)
    have Z138' := Lib.hid (show OwnS w165 w.heap.size 49 6 (v151) (n + 1) (L.flatMap sesC ++ sesC (⟨(la + 1 : Nat), bx, ct, true, [], []⟩ : HS)) from Z138.out.ch C166 rnin_nil)
    clear C0 SQ Fg3 Fg11 Fg124 Z138
    have C0 := C0'; clear C0'
    have SQ := SQ'; clear SQ'
    have Fg3 := Fg3'; clear Fg3'
    have Fg11 := Fg11'; clear Fg11'
    have Fg124 := Fg124'; clear Fg124'
    have Z138 := Z138'; clear Z138'
    clear C166
    refine take_ (i := 0) (N := some 30) (v := .agg (#[v151, .int .i64 (la + 1 : Nat)])) #[true, false, false, false, false, false] rfl rfl (by kernel_rfl) (fun c a w h => hP c a _ _ w h) (y_load (p := ⟨g3, 0, none⟩) rfl (by rfl) (by rfl) (fun W hS => run_loadVar_row _ _ 44 44 (#[v151, .int .i64 (la + 1 : Nat)]) (0, 0) _ hS.1 Tryd.underlying44 rfl (by kernel_rfl))) hS167 rfl ?_
    (try simp only [zP, zN, zA, zB, zC])
    refine pure_ (i := 1) (N := some 31) (v := .pointer (some ⟨g3, 1, none⟩)) #[true, true, false, false, false, false] rfl rfl (by kernel_rfl) (fun c a w h => hP c a _ _ w h) (y_run (by rfl) (fun W => by go_simp)) rfl ?_
    (try simp only [zP, zN, zA, zB, zC])
    refine take_ (i := 2) (N := some 32) (v := .int .i64 (la + 1 : Nat)) #[true, true, true, false, false, false] rfl rfl (by kernel_rfl) (fun c a w h => hP c a _ _ w h) (y_load (p := ⟨g3, 1, none⟩) rfl (by rfl) (by rfl) (fun W hS => run_load_one ((hS.1.cell 1).trans rfl) Tryd.underlying3 rfl)) hS167 rfl ?_
    (try simp only [zP, zN, zA, zB, zC])
    refine one_ (i := 3) (N := none) #[true, true, true, true, false, false] rfl rfl (by kernel_rfl) (by simp) (fun K168 hK168 => ?_)
    refine e_storeN (cells := (#[v151, .int .i64 (la + 1 : Nat)])) (by rfl) rfl rfl (by rfl) (by rfl) Fg11.out (by kernel_rfl) (by rfl) (ones_cons Z138.out.one (ones_cons rfl ones_nil)) ?_
    rintro w169 B170 C171
    have C0' := Lib.hid (show Ch [] w w169 from C0.out.trans' C171 (inw_cons (.inr nw16.out) inw_nil))
    have SQ' := Lib.hid (show SrcIs w169 (.slice Aq n z) (n) ((L).flatMap sesC) 6 from SQ.out.chx C171 (xnin_cons nx17.out xnin_nil))
    have Fg3' := Lib.hid (show Blk w169 g3 (#[v151, .int .i64 (la + 1 : Nat)]) 44 from C171.blk Fg3.out (nin_cons ne18.out nin_nil))
    have Fg124' := Lib.hid (show Blk w169 g124 (#[.int .i64 (la + 1 : Nat), .int .i64 bx, .int .i64 ct, .bool true, .string ⟨#[]⟩, .string ⟨#[]⟩]) 49 from C171.blk Fg124.out (nin_cons (Blk.ne_type Fg124.out Fg11.out (by decide)) nin_nil))
    have Z138' := Lib.hid (show OwnS w169 w.heap.size 49 6 (v151) (n + 1) (L.flatMap sesC ++ sesC (⟨(la + 1 : Nat), bx, ct, true, [], []⟩ : HS)) from Z138.out.ch C171 (rnin_cons (Z138.out.ne Fg11.out (by decide)) rnin_nil))
    clear C0 SQ Fg3 Fg124 Z138
    have C0 := C0'; clear C0'
    have SQ := SQ'; clear SQ'
    have Fg3 := Fg3'; clear Fg3'
    have Fg124 := Fg124'; clear Fg124'
    have Z138 := Z138'; clear Z138'
    clear Fg11; have Fg11 := Lib.hid (show Blk w169 g11 ((#[v151, .int .i64 (la + 1 : Nat)])) 44 from B170); clear B170 C171
    refine hK168.out _ _ ⟨Fg3.out, trivial⟩ (fun hS172 => ?_); clear hK168 K168
    (try simp only [zP, zN, zA, zB, zC])
    refine pure_ (i := 4) (N := some 7) (v := .int .i64 (la + 1 : Nat)) #[true, true, true, true, true, false] rfl rfl (by kernel_rfl) (fun c a w h => hP c a _ _ w h) (y_assign rfl (by rfl) (by rfl)) rfl ?_
    (try simp only [zP, zN, zA, zB, zC])
    refine pure_ (i := 5) (N := some 8) (v := .int .i64 0) #[true, true, true, true, true, true] rfl rfl (by kernel_rfl) (fun c a w h => hP c a _ _ w h) (y_assign rfl (by rfl) (by rfl)) rfl ?_
    (try simp only [zP, zN, zA, zB, zC])
    refine done_ (by kernel_rfl) (th_norm (hK164 _ _ ?_)); clear hK164 K164
    refine wp_ret ?_
    refine hQ _ _ _ ?_
    refine bodyPost_ret (res3 rfl (rdv_cell (by rfl) (run_loadVar_row _ _ 44 44 ((#[v151, .int .i64 (la + 1 : Nat)])) (0, 0) _ Fg11.out Tryd.underlying44 rfl (by kernel_rfl))) (rdv_tmp (v := .int .i64 (la + 1 : Nat)) (by rfl)) (rdv_tmp (v := .int .i64 0) (by rfl))) rfl ?_
    have h9 := Z138.out
    rw [show L.flatMap sesC ++ sesC (⟨(la + 1 : Nat), bx, ct, true, [], []⟩ : HS) = (L ++ [(⟨(la + 1 : Nat), bx, ct, true, [], []⟩ : HS)]).flatMap sesC by simp] at h9
    obtain ⟨A9, c9, hv9, hn9, hm9⟩ := h9.slice
    subst hv9
    exact ⟨_, _, rfl, ⟨h9.src, ⟨hn9, hm9⟩, fun k hk => (h9.lt k (xb_rl' h9 k hk)).1⟩, C0.out⟩
theorem rclose_none {Aq : Option Addr} {n z : Nat} {la : Int} {L : List HS} (HNL : Hid (L.length = n)) (HN : Hid (n ≤ 100)) {id : Int} (HF : Hid (fx id L = none))  (SQ : Hid (SrcIs w (.slice Aq n z) (n) ((L).flatMap sesC) 6)) :
    Calls Tryd.prog 37 #[.agg #[.slice Aq n z, .int .i64 la], .int .i64 id] w fun en w' => en = .returned (.tuple #[.agg #[.slice Aq n z, .int .i64 la], .int .i64 6]) ∧ Ch [] w w' := by
  have C0 := Lib.hid (Ch.refl [] w)
  have HFI := Lib.hid (show fxI id L = -1 by unfold fxI; rw [HF.out])
  have DN := Lib.hid (show (-1 : Int) < 0 by omega)
  go_enter Tryd.func37, Tryd.ntmps37
  refine q_ (fun Q hQ hP => ?_)
  refine s_ (fun K1 hK1 => ?_)
  refine ef_ (fun K2 hK2 => ?_)
  refine e_boxN (by rfl) rfl rfl (cs := #[.slice Aq n z, .int .i64 la]) (v := .agg #[.slice Aq n z, .int .i64 la]) (by rfl) rfl ?_
  rintro g3 w4 HG5 B6 C7
  have nw8 := Lib.hid (show w.heap.size ≤ g3 by have := C0.out.size; have := HG5.out; omega)
  have nx9 := Lib.hid (SQ.out.ne_new (by decide) HG5)
  have C0' := Lib.hid (show Ch [] w w4 from C0.out.trans' C7 (fun x hx => absurd hx (by simp)))
  have SQ' := Lib.hid (show SrcIs w4 (.slice Aq n z) (n) ((L).flatMap sesC) 6 from SQ.out.chx C7 xnin_nil)
  clear C0 SQ
  have C0 := C0'; clear C0'
  have SQ := SQ'; clear SQ'
  have Fg3 := Lib.hid (show Blk w4 g3 (#[.slice Aq n z, .int .i64 la]) 44 from B6); clear B6 C7
  refine hK2 _ _ ?_; clear hK2 K2
  (try simp only [zP, zN, zA, zB, zC])
  refine ef_ (fun K10 hK10 => ?_)
  refine e_alloc (by rfl) rfl rfl (cs := #[.slice none 0 0, .int .i64 0]) (by kernel_rfl) ?_
  rintro g11 w12 HG13 B14 C15
  have nw16 := Lib.hid (show w.heap.size ≤ g11 by have := C0.out.size; have := HG13.out; omega)
  have nx17 := Lib.hid (SQ.out.ne_new (by decide) HG13)
  have ne18 := Lib.hid (Fg3.out.ne_new HG13)
  have C0' := Lib.hid (show Ch [] w w12 from C0.out.trans' C15 (fun x hx => absurd hx (by simp)))
  have SQ' := Lib.hid (show SrcIs w12 (.slice Aq n z) (n) ((L).flatMap sesC) 6 from SQ.out.chx C15 xnin_nil)
  have Fg3' := Lib.hid (show Blk w12 g3 (#[.slice Aq n z, .int .i64 la]) 44 from C15.blk Fg3.out nin_nil)
  clear C0 SQ Fg3
  have C0 := C0'; clear C0'
  have SQ := SQ'; clear SQ'
  have Fg3 := Fg3'; clear Fg3'
  have Fg11 := Lib.hid (show Blk w12 g11 (#[.slice none 0 0, .int .i64 0]) 44 from B14); clear B14 C15
  refine hK10 _ _ ?_; clear hK10 K10
  (try simp only [zP, zN, zA, zB, zC])
  refine pu_ (v := .int .i64 0) (y_assign rfl (by rfl) (by rfl)) ?_
  (try simp only [zP, zN, zA, zB, zC])
  refine nl_ (hK1 _ _ ?_); clear hK1 K1
  refine s_ (fun K19 hK19 => ?_)
  refine ld_ (v := .agg (#[.slice Aq n z, .int .i64 la])) rfl (by rfl) (by rfl) (run_loadVar_row _ _ 44 44 (#[.slice Aq n z, .int .i64 la]) (0, 0) _ Fg3.out Tryd.underlying44 rfl (by kernel_rfl)) ?_
  (try simp only [zP, zN, zA, zB, zC])
  refine pu_ (v := .int .i64 id) (y_move rfl (by rfl) (by rfl)) ?_
  (try simp only [zP, zN, zA, zB, zC])
  refine ef_ (fun K20 hK20 => ?_)
  refine e_call Tryd.func18 (by kernel_rfl) rfl #[.agg (#[.slice Aq n z, .int .i64 la]), .int .i64 id] (by rfl) rfl rfl (by first | rfl | (simp only [List.map_toArray, List.map_cons, List.map_nil]; first | done | rfl)) ((by have h9 := rindex_ (id := id) (la := la) HNL HN SQ; rw [HFI.out] at h9; exact h9)) ?_
  rintro en w21 ⟨rfl, cc⟩
  refine ⟨_, rfl, ?_⟩
  have C0' := Lib.hid (show Ch [] w w21 from C0.out.trans' cc (fun x hx => absurd hx (by simp)))
  have SQ' := Lib.hid (show SrcIs w21 (.slice Aq n z) (n) ((L).flatMap sesC) 6 from SQ.out.chx cc xnin_nil)
  have Fg3' := Lib.hid (show Blk w21 g3 (#[.slice Aq n z, .int .i64 la]) 44 from cc.blk Fg3.out nin_nil)
  have Fg11' := Lib.hid (show Blk w21 g11 (#[.slice none 0 0, .int .i64 0]) 44 from cc.blk Fg11.out nin_nil)
  clear C0 SQ Fg3 Fg11
  have C0 := C0'; clear C0'
  have SQ := SQ'; clear SQ'
  have Fg3 := Fg3'; clear Fg3'
  have Fg11 := Fg11'; clear Fg11'
  clear cc
  refine hK20 _ _ ?_; clear hK20 K20
  (try simp only [zP, zN, zA, zB, zC])
  refine pu_ (v := .int .i64 (-1)) (y_assign rfl (by rfl) (by rfl)) ?_
  (try simp only [zP, zN, zA, zB, zC])
  refine nl_ (hK19 _ _ ?_); clear hK19 K19
  refine sq_ (fun K22 hK22 => ?_)
  refine s_ (fun K23 hK23 => ?_)
  refine pu_ (v := .int .i64 (-1)) (y_move rfl (by rfl) (by rfl)) ?_
  (try simp only [zP, zN, zA, zB, zC])
  refine pu_ (v := .bool true) (y_run (by rfl) (fun W => by have d := DN.out; go_simp)) ?_
  (try simp only [zP, zN, zA, zB, zC])
  refine nl_ (hK23 _ _ ?_); clear hK23 K23
  refine wp_cond_true rfl ?_
  refine s_ (fun K24 hK24 => ?_)
  refine ld_ (v := .agg (#[.slice Aq n z, .int .i64 la])) rfl (by rfl) (by rfl) (run_loadVar_row _ _ 44 44 (#[.slice Aq n z, .int .i64 la]) (0, 0) _ Fg3.out Tryd.underlying44 rfl (by kernel_rfl)) ?_
  (try simp only [zP, zN, zA, zB, zC])
  refine ef_ (fun K25 hK25 => ?_)
  refine e_storeN (cells := (#[.slice Aq n z, .int .i64 la])) (by rfl) rfl rfl (by rfl) (by rfl) Fg11.out (by kernel_rfl) (by rfl) (ones_cons rfl (ones_cons rfl ones_nil)) ?_
  rintro w26 B27 C28
  have C0' := Lib.hid (show Ch [] w w26 from C0.out.trans' C28 (inw_cons (.inr nw16.out) inw_nil))
  have SQ' := Lib.hid (show SrcIs w26 (.slice Aq n z) (n) ((L).flatMap sesC) 6 from SQ.out.chx C28 (xnin_cons nx17.out xnin_nil))
  have Fg3' := Lib.hid (show Blk w26 g3 (#[.slice Aq n z, .int .i64 la]) 44 from C28.blk Fg3.out (nin_cons ne18.out nin_nil))
  clear C0 SQ Fg3
  have C0 := C0'; clear C0'
  have SQ := SQ'; clear SQ'
  have Fg3 := Fg3'; clear Fg3'
  clear Fg11; have Fg11 := Lib.hid (show Blk w26 g11 ((#[.slice Aq n z, .int .i64 la])) 44 from B27); clear B27 C28
  refine hK25 _ _ ?_; clear hK25 K25
  (try simp only [zP, zN, zA, zB, zC])
  refine pu_ (v := .int .i64 6) (y_assign rfl (by rfl) (by rfl)) ?_
  (try simp only [zP, zN, zA, zB, zC])
  refine nl_ (hK24 _ _ ?_); clear hK24 K24
  refine wp_ret ?_
  refine th_ret ?_
  refine hQ _ _ _ ?_
  refine bodyPost_ret (res2 rfl (rdv_cell (by rfl) (run_loadVar_row _ _ 44 44 ((#[.slice Aq n z, .int .i64 la])) (0, 0) _ Fg11.out Tryd.underlying44 rfl (by kernel_rfl))) (rdv_tmp (v := .int .i64 6) (by rfl))) rfl ?_
  exact ⟨rfl, C0.out⟩
theorem rclose_ok {Aq : Option Addr} {n z : Nat} {la : Int} {L : List HS} (HNL : Hid (L.length = n)) (HN : Hid (n ≤ 100)) {id : Int} {j : Nat} {s : HS} (HF : Hid (fx id L = some j)) (HS_ : Hid (L[j]? = some s)) (HZ : Hid (n ≤ z ∧ z ≤ maxLen)) (SQ : Hid (SrcIs w (.slice Aq n z) (n) ((L).flatMap sesC) 6)) :
    Calls Tryd.prog 37 #[.agg #[.slice Aq n z, .int .i64 la], .int .i64 id] w fun en w' => ∃ Q' z', en = .returned (.tuple #[.agg #[.slice Q' (n - 1) z', .int .i64 la], .int .i64 0]) ∧ NewQ w w' (n - 1) (L.eraseIdx j) Q' z' ∧ Ch [] w w' := by
  have C0 := Lib.hid (Ch.refl [] w)
  obtain ⟨i49, I49⟩ := Info.of info49
  have HFI := Lib.hid (show fxI id L = j by unfold fxI; rw [HF.out])
  have HJ := Lib.hid (show j < n by have := (List.getElem?_eq_some_iff.1 HS_.out).1; have := HNL.out; omega)
  have DJ := Lib.hid (show (j : Int) < (n : Int) by have := HJ.out; omega)
  have DZ := Lib.hid (show ¬ (j : Int) < 0 by omega)
  have Wj := Lib.hid (show IntKind.i64.wrap ((j : Int) + 1) = ((j + 1 : Nat) : Int) by rw [wr64 (by have := HJ.out; have := HN.out; omega)]; omega)
  go_enter Tryd.func37, Tryd.ntmps37
  refine q_ (fun Q hQ hP => ?_)
  refine s_ (fun K1 hK1 => ?_)
  refine ef_ (fun K2 hK2 => ?_)
  refine e_boxN (by rfl) rfl rfl (cs := #[.slice Aq n z, .int .i64 la]) (v := .agg #[.slice Aq n z, .int .i64 la]) (by rfl) rfl ?_
  rintro g3 w4 HG5 B6 C7
  have nw8 := Lib.hid (show w.heap.size ≤ g3 by have := C0.out.size; have := HG5.out; omega)
  have nx9 := Lib.hid (SQ.out.ne_new (by decide) HG5)
  have C0' := Lib.hid (show Ch [] w w4 from C0.out.trans' C7 (fun x hx => absurd hx (by simp)))
  have SQ' := Lib.hid (show SrcIs w4 (.slice Aq n z) (n) ((L).flatMap sesC) 6 from SQ.out.chx C7 xnin_nil)
  clear C0 SQ
  have C0 := C0'; clear C0'
  have SQ := SQ'; clear SQ'
  have Fg3 := Lib.hid (show Blk w4 g3 (#[.slice Aq n z, .int .i64 la]) 44 from B6); clear B6 C7
  refine hK2 _ _ ?_; clear hK2 K2
  (try simp only [zP, zN, zA, zB, zC])
  refine ef_ (fun K10 hK10 => ?_)
  refine e_alloc (by rfl) rfl rfl (cs := #[.slice none 0 0, .int .i64 0]) (by kernel_rfl) ?_
  rintro g11 w12 HG13 B14 C15
  have nw16 := Lib.hid (show w.heap.size ≤ g11 by have := C0.out.size; have := HG13.out; omega)
  have nx17 := Lib.hid (SQ.out.ne_new (by decide) HG13)
  have ne18 := Lib.hid (Fg3.out.ne_new HG13)
  have C0' := Lib.hid (show Ch [] w w12 from C0.out.trans' C15 (fun x hx => absurd hx (by simp)))
  have SQ' := Lib.hid (show SrcIs w12 (.slice Aq n z) (n) ((L).flatMap sesC) 6 from SQ.out.chx C15 xnin_nil)
  have Fg3' := Lib.hid (show Blk w12 g3 (#[.slice Aq n z, .int .i64 la]) 44 from C15.blk Fg3.out nin_nil)
  clear C0 SQ Fg3
  have C0 := C0'; clear C0'
  have SQ := SQ'; clear SQ'
  have Fg3 := Fg3'; clear Fg3'
  have Fg11 := Lib.hid (show Blk w12 g11 (#[.slice none 0 0, .int .i64 0]) 44 from B14); clear B14 C15
  refine hK10 _ _ ?_; clear hK10 K10
  (try simp only [zP, zN, zA, zB, zC])
  refine pu_ (v := .int .i64 0) (y_assign rfl (by rfl) (by rfl)) ?_
  (try simp only [zP, zN, zA, zB, zC])
  refine nl_ (hK1 _ _ ?_); clear hK1 K1
  refine s_ (fun K19 hK19 => ?_)
  refine ld_ (v := .agg (#[.slice Aq n z, .int .i64 la])) rfl (by rfl) (by rfl) (run_loadVar_row _ _ 44 44 (#[.slice Aq n z, .int .i64 la]) (0, 0) _ Fg3.out Tryd.underlying44 rfl (by kernel_rfl)) ?_
  (try simp only [zP, zN, zA, zB, zC])
  refine pu_ (v := .int .i64 id) (y_move rfl (by rfl) (by rfl)) ?_
  (try simp only [zP, zN, zA, zB, zC])
  refine ef_ (fun K20 hK20 => ?_)
  refine e_call Tryd.func18 (by kernel_rfl) rfl #[.agg (#[.slice Aq n z, .int .i64 la]), .int .i64 id] (by rfl) rfl rfl (by first | rfl | (simp only [List.map_toArray, List.map_cons, List.map_nil]; first | done | rfl)) ((by have h9 := rindex_ (id := id) (la := la) HNL HN SQ; rw [HFI.out] at h9; exact h9)) ?_
  rintro en w21 ⟨rfl, cc⟩
  refine ⟨_, rfl, ?_⟩
  have C0' := Lib.hid (show Ch [] w w21 from C0.out.trans' cc (fun x hx => absurd hx (by simp)))
  have SQ' := Lib.hid (show SrcIs w21 (.slice Aq n z) (n) ((L).flatMap sesC) 6 from SQ.out.chx cc xnin_nil)
  have Fg3' := Lib.hid (show Blk w21 g3 (#[.slice Aq n z, .int .i64 la]) 44 from cc.blk Fg3.out nin_nil)
  have Fg11' := Lib.hid (show Blk w21 g11 (#[.slice none 0 0, .int .i64 0]) 44 from cc.blk Fg11.out nin_nil)
  clear C0 SQ Fg3 Fg11
  have C0 := C0'; clear C0'
  have SQ := SQ'; clear SQ'
  have Fg3 := Fg3'; clear Fg3'
  have Fg11 := Fg11'; clear Fg11'
  clear cc
  refine hK20 _ _ ?_; clear hK20 K20
  (try simp only [zP, zN, zA, zB, zC])
  refine pu_ (v := .int .i64 j) (y_assign rfl (by rfl) (by rfl)) ?_
  (try simp only [zP, zN, zA, zB, zC])
  refine nl_ (hK19 _ _ ?_); clear hK19 K19
  refine sq_ (fun K22 hK22 => ?_)
  refine s_ (fun K23 hK23 => ?_)
  refine pu_ (v := .int .i64 j) (y_move rfl (by rfl) (by rfl)) ?_
  (try simp only [zP, zN, zA, zB, zC])
  refine pu_ (v := .bool false) (y_run (by rfl) (fun W => by have d := DZ.out; go_simp)) ?_
  (try simp only [zP, zN, zA, zB, zC])
  refine nl_ (hK23 _ _ ?_); clear hK23 K23
  refine wp_cond_false rfl ?_
  refine wp_skip ?_
  refine th_norm (hK22 _ _ ?_); try clear hK22 K22
  skip
  · obtain ⟨a, hsm_a⟩ := src_some SQ.out (by have := HJ.out; omega)
    subst hsm_a
    obtain ⟨A2, hA2⟩ : ∃ A2, A2 = (if z = j + 1 then a else a.add ((j + 1) * 6)) := ⟨_, rfl⟩
    have HA2 := Lib.hid hA2
    clear hA2
    have SL1 := Lib.hid (fun W => run_slice_upto (P := Tryd.prog) (W := W) Tryd.underlying42 (by kernel_rfl) (sz := 6) a j n z (j : Int) rfl (by have := HJ.out; have := HZ.out; omega))
    have SL2 := Lib.hid (fun W => run_slice_from (P := Tryd.prog) (W := W) Tryd.underlying42 (by kernel_rfl) (sz := 6) a (j + 1) n z ((j + 1 : Nat) : Int) rfl HJ.out HZ.out.1 HZ.out.2)
    rw [← HA2.out] at SL2
    refine sq_ (fun K24 hK24 => ?_)
    refine startk_ (S := fun W => Blk W g3 (#[.slice (some a) n z, .int .i64 la]) 44 ∧ True) (ds := [13]) #[false, false, false, false, false, false, false, false, false, false, false, false, false, false] (by kernel_rfl) rfl rfl (fun W c => ⟨c.blk Fg3.out nin_nil, trivial⟩) (fun w25 C26 hS27 => ?_)
    have C0' := Lib.hid (show Ch [] w w25 from C0.out.trans' C26 (fun x hx => absurd hx (by simp)))
    have SQ' := Lib.hid (show SrcIs w25 (.slice (some a) n z) (n) ((L).flatMap sesC) 6 from SQ.out.chx C26 xnin_nil)
    have Fg3' := Lib.hid (show Blk w25 g3 (#[.slice (some a) n z, .int .i64 la]) 44 from C26.blk Fg3.out nin_nil)
    have Fg11' := Lib.hid (show Blk w25 g11 (#[.slice none 0 0, .int .i64 0]) 44 from C26.blk Fg11.out nin_nil)
    clear C0 SQ Fg3 Fg11
    have C0 := C0'; clear C0'
    have SQ := SQ'; clear SQ'
    have Fg3 := Fg3'; clear Fg3'
    have Fg11 := Fg11'; clear Fg11'
    clear C26
    refine pure_ (i := 1) (N := some 14) (v := .pointer (some ⟨g3, 0, none⟩)) #[false, true, false, false, false, false, false, false, false, false, false, false, false, false] rfl rfl (by kernel_rfl) (fun c a w h => hP c a _ _ w h) (y_run (by rfl) (fun W => by go_simp)) rfl ?_
    (try simp only [zP, zN, zA, zB, zC])
    refine take_ (i := 2) (N := some 15) (v := .slice (some a) n z) #[false, true, true, false, false, false, false, false, false, false, false, false, false, false] rfl rfl (by kernel_rfl) (fun c a w h => hP c a _ _ w h) (y_load (p := ⟨g3, 0, none⟩) rfl (by rfl) (by rfl) (fun W hS => run_load_one ((hS.1.cell 0).trans rfl) Tryd.underlying42 rfl)) hS27 rfl ?_
    (try simp only [zP, zN, zA, zB, zC])
    refine pure_ (i := 3) (N := some 16) (v := .int .i64 j) #[false, true, true, true, false, false, false, false, false, false, false, false, false, false] rfl rfl (by kernel_rfl) (fun c a w h => hP c a _ _ w h) (y_move rfl (by rfl) (by rfl)) rfl ?_
    (try simp only [zP, zN, zA, zB, zC])
    refine pure_ (i := 4) (N := some 17) (v := .slice (some a) j z) #[false, true, true, true, true, false, false, false, false, false, false, false, false, false] rfl rfl (by kernel_rfl) (fun c a w h => hP c a _ _ w h) (y_slice (by rfl) rfl (by rfl) (by rfl) (by rfl) (by rfl) SL1.out) rfl ?_
    (try simp only [zP, zN, zA, zB, zC])
    refine pure_ (i := 6) (N := some 19) (v := .pointer (some ⟨g3, 0, none⟩)) #[false, true, true, true, true, false, true, false, false, false, false, false, false, false] rfl rfl (by kernel_rfl) (fun c a w h => hP c a _ _ w h) (y_run (by rfl) (fun W => by go_simp)) rfl ?_
    (try simp only [zP, zN, zA, zB, zC])
    refine take_ (i := 7) (N := some 20) (v := .slice (some a) n z) #[false, true, true, true, true, false, true, true, false, false, false, false, false, false] rfl rfl (by kernel_rfl) (fun c a w h => hP c a _ _ w h) (y_load (p := ⟨g3, 0, none⟩) rfl (by rfl) (by rfl) (fun W hS => run_load_one ((hS.1.cell 0).trans rfl) Tryd.underlying42 rfl)) hS27 rfl ?_
    (try simp only [zP, zN, zA, zB, zC])
    refine pure_ (i := 8) (N := some 21) (v := .int .i64 j) #[false, true, true, true, true, false, true, true, true, false, false, false, false, false] rfl rfl (by kernel_rfl) (fun c a w h => hP c a _ _ w h) (y_move rfl (by rfl) (by rfl)) rfl ?_
    (try simp only [zP, zN, zA, zB, zC])
    refine pure_ (i := 9) (N := some 22) (v := .int .i64 (j + 1 : Nat)) #[false, true, true, true, true, false, true, true, true, true, false, false, false, false] rfl rfl (by kernel_rfl) (fun c a w h => hP c a _ _ w h) (y_run (by rfl) (fun W => by have d := Wj.out; go_simp)) rfl ?_
    (try simp only [zP, zN, zA, zB, zC])
    refine pure_ (i := 10) (N := some 23) (v := .slice (some A2) (n - (j + 1)) (z - (j + 1))) #[false, true, true, true, true, false, true, true, true, true, true, false, false, false] rfl rfl (by kernel_rfl) (fun c a w h => hP c a _ _ w h) (y_slice (by rfl) rfl (by rfl) (by rfl) (by rfl) (by rfl) SL2.out) rfl ?_
    (try simp only [zP, zN, zA, zB, zC])
    refine one_ (i := 0) (N := some 13) #[true, true, true, true, true, false, true, true, true, true, true, false, false, false] rfl rfl (by kernel_rfl) (by simp) (fun K28 hK28 => ?_)
    refine e_buildS0 (by rfl) rfl rfl Tryd.underlying42 I49.hi ?_
    rintro g29 w30 HG31 C33
    have C0' := Lib.hid (show Ch [] w w30 from C0.out.trans' C33 (fun x hx => absurd hx (by simp)))
    have SQ' := Lib.hid (show SrcIs w30 (.slice (some a) n z) (n) ((L).flatMap sesC) 6 from SQ.out.chx C33 xnin_nil)
    have Fg3' := Lib.hid (show Blk w30 g3 (#[.slice (some a) n z, .int .i64 la]) 44 from C33.blk Fg3.out nin_nil)
    have Fg11' := Lib.hid (show Blk w30 g11 (#[.slice none 0 0, .int .i64 0]) 44 from C33.blk Fg11.out nin_nil)
    clear C0 SQ Fg3 Fg11
    have C0 := C0'; clear C0'
    have SQ := SQ'; clear SQ'
    have Fg3 := Fg3'; clear Fg3'
    have Fg11 := Fg11'; clear Fg11'
    clear C33
    have Z34 := Lib.hid (show OwnS w30 w.heap.size 49 6 (.slice (some ⟨g29, 0, none⟩) 0 0) (0) ([]) from OwnS.nil _ _ _ _ _)
    refine hK28.out _ _ ⟨Fg3.out, trivial⟩ (fun hS35 => ?_); clear hK28 K28
    (try simp only [zP, zN, zA, zB, zC])
    refine one_ (i := 5) (N := some 18) #[true, true, true, true, true, true, true, true, true, true, true, false, false, false] rfl rfl (by kernel_rfl) (by simp) (fun K36 hK36 => ?_)
    refine e_append (by rfl) rfl rfl (w.heap.size) 49 _ _ 6 64 Tryd.underlying42 I49.hi I49.hz I49.hs I49.hb rfl (by decide) (.slice (some ⟨g29, 0, none⟩) 0 0) (0) ([]) (by rfl) Z34.out (.slice (some a) j z) j ((L.take j).flatMap sesC) (by rfl) (src_take SQ.out (Nat.le_of_lt HJ.out)) (flat_one sesC_one _) (by have := HN.out; have := HJ.out; unfold maxLen; omega) (by have := HN.out; have := HJ.out; omega) C0.out.size ?_
    rintro v37 w38 O39 C40 R41 -
    replace C40 : Ch [] _ _ := C40
    replace R41 : ∀ k, k ∈ rl v37 → w30.heap.size ≤ k := fun k hk => (R41 k hk).elim (fun h => absurd h (by simp [rl])) (fun h => h)
    have rw42 := Lib.hid (show ∀ z_, z_ ∈ rl v37 → z_ ∈ [] ∨ w.heap.size ≤ z_ from fun x hx => .inr (by have := R41 x hx; have := C0.out.size; omega))
    have xr43 := Lib.hid (show ∀ k, k ∈ xb (.slice (some a) n z) → k ∉ rl v37 from fun k hk hm => by have := R41 k hm; have := SQ.out.lt (by decide) k hk; omega)
    have C0' := Lib.hid (show Ch [] w w38 from C0.out.trans' C40 (fun x hx => absurd hx (by simp)))
    have SQ' := Lib.hid (show SrcIs w38 (.slice (some a) n z) (n) ((L).flatMap sesC) 6 from SQ.out.chx C40 xnin_nil)
    have Fg3' := Lib.hid (show Blk w38 g3 (#[.slice (some a) n z, .int .i64 la]) 44 from C40.blk Fg3.out nin_nil)
    have Fg11' := Lib.hid (show Blk w38 g11 (#[.slice none 0 0, .int .i64 0]) 44 from C40.blk Fg11.out nin_nil)
    clear C0 SQ Fg3 Fg11
    have C0 := C0'; clear C0'
    have SQ := SQ'; clear SQ'
    have Fg3 := Fg3'; clear Fg3'
    have Fg11 := Fg11'; clear Fg11'
    clear Z34
    have Z34 := Lib.hid (show OwnS w38 w.heap.size 49 6 (v37) (j) ((L.take j).flatMap sesC) from (by simpa using O39)); clear O39 C40
    refine hK36.out _ _ ⟨Fg3.out, trivial⟩ (fun hS44 => ?_); clear hK36 K36
    (try simp only [zP, zN, zA, zB, zC])
    refine one_ (i := 11) (N := some 24) #[true, true, true, true, true, true, true, true, true, true, true, true, false, false] rfl rfl (by kernel_rfl) (by simp) (fun K45 hK45 => ?_)
    refine e_append (by rfl) rfl rfl (w.heap.size) 49 _ _ 6 64 Tryd.underlying42 I49.hi I49.hz I49.hs I49.hb rfl (by decide) (v37) (j) ((L.take j).flatMap sesC) (by rfl) Z34.out (.slice (some A2) (n - (j + 1)) (z - (j + 1))) (n - (j + 1)) ((L.drop (j + 1)).flatMap sesC) (by rfl) (src_drop SQ.out HJ.out HZ.out.1 (fun h9 => by rw [HA2.out, if_neg (by have := HZ.out; omega)])) (flat_one sesC_one _) (by have := HN.out; have := HJ.out; unfold maxLen; omega) (by have := HN.out; have := HJ.out; omega) C0.out.size ?_
    rintro v46 w47 O48 C49 R50 -
    have rw51 := Lib.hid (show ∀ z_, z_ ∈ rl v46 → z_ ∈ [] ∨ w.heap.size ≤ z_ from fun x hx => (R50 x hx).elim (fun h => rw42.out _ h) (fun h => .inr (by have := C0.out.size; omega)))
    have xr52 := Lib.hid (show ∀ k, k ∈ xb (.slice (some a) n z) → k ∉ rl v46 from fun k hk hm => (R50 k hm).elim (fun h => xr43.out k hk h) (fun h => by have := SQ.out.lt (by decide) k hk; omega))
    have C0' := Lib.hid (show Ch [] w w47 from C0.out.trans' C49 (fun x hx => .inr (Z34.out.lt x hx).1))
    have SQ' := Lib.hid (show SrcIs w47 (.slice (some a) n z) (n) ((L).flatMap sesC) 6 from SQ.out.chx C49 xr43.out)
    have Fg3' := Lib.hid (show Blk w47 g3 (#[.slice (some a) n z, .int .i64 la]) 44 from C49.blk Fg3.out (Z34.out.ne Fg3.out (by decide)))
    have Fg11' := Lib.hid (show Blk w47 g11 (#[.slice none 0 0, .int .i64 0]) 44 from C49.blk Fg11.out (Z34.out.ne Fg11.out (by decide)))
    clear C0 SQ Fg3 Fg11
    have C0 := C0'; clear C0'
    have SQ := SQ'; clear SQ'
    have Fg3 := Fg3'; clear Fg3'
    have Fg11 := Fg11'; clear Fg11'
    clear Z34
    have Z34 := Lib.hid (show OwnS w47 w.heap.size 49 6 (v46) (j + (n - (j + 1))) ((L.take j).flatMap sesC ++ (L.drop (j + 1)).flatMap sesC) from O48); clear O48 C49
    refine hK45.out _ _ ⟨Fg3.out, trivial⟩ (fun hS53 => ?_); clear hK45 K45
    (try simp only [zP, zN, zA, zB, zC])
    refine pure_ (i := 12) (N := some 25) (v := .pointer (some ⟨g3, 0, none⟩)) #[true, true, true, true, true, true, true, true, true, true, true, true, true, false] rfl rfl (by kernel_rfl) (fun c a w h => hP c a _ _ w h) (y_run (by rfl) (fun W => by go_simp)) rfl ?_
    (try simp only [zP, zN, zA, zB, zC])
    refine last_ (i := 13) (N := none) #[true, true, true, true, true, true, true, true, true, true, true, true, true, true] rfl rfl (by kernel_rfl) (by simp) (fun K54 hK54 => ?_)
    refine e_store1 (b := g3) (j := 0) (v := v46) (by rfl) rfl rfl (by rfl) (by rfl) Fg3.out (show 0 < 2 by omega) (by kernel_rfl) Z34.out.one ?_
    rintro w55 B56 C57
    have C0' := Lib.hid (show Ch [] w w55 from C0.out.trans' C57 (inw_cons (.inr nw8.out) inw_nil))
    have SQ' := Lib.hid (show SrcIs w55 (.slice (some a) n z) (n) ((L).flatMap sesC) 6 from SQ.out.chx C57 (xnin_cons nx9.out xnin_nil))
    have Fg11' := Lib.hid (show Blk w55 g11 (#[.slice none 0 0, .int .i64 0]) 44 from C57.blk Fg11.out (nin_cons (Ne.symm ne18.out) nin_nil))
    have Z34' := Lib.hid (show OwnS w55 w.heap.size 49 6 (v46) (j + (n - (j + 1))) ((L.take j).flatMap sesC ++ (L.drop (j + 1)).flatMap sesC) from Z34.out.ch C57 (rnin_cons (Z34.out.ne Fg3.out (by decide)) rnin_nil))
    clear C0 SQ Fg11 Z34
    have C0 := C0'; clear C0'
    have SQ := SQ'; clear SQ'
    have Fg11 := Fg11'; clear Fg11'
    have Z34 := Z34'; clear Z34'
    clear Fg3; have Fg3 := Lib.hid (show Blk w55 g3 (#[v46, .int .i64 la]) 44 from B56); clear B56 C57
    refine hK54.out _ _ ?_; clear hK54 K54
    (try simp only [zP, zN, zA, zB, zC])
    refine done_ (by kernel_rfl) (th_norm (hK24 _ _ ?_)); clear hK24 K24
    refine s_ (fun K58 hK58 => ?_)
    refine ld_ (v := .agg (#[v46, .int .i64 la])) rfl (by rfl) (by rfl) (run_loadVar_row _ _ 44 44 (#[v46, .int .i64 la]) (0, 0) _ Fg3.out Tryd.underlying44 rfl (by kernel_rfl)) ?_
    (try simp only [zP, zN, zA, zB, zC])
    refine ef_ (fun K59 hK59 => ?_)
    refine e_storeN (cells := (#[v46, .int .i64 la])) (by rfl) rfl rfl (by rfl) (by rfl) Fg11.out (by kernel_rfl) (by rfl) (ones_cons Z34.out.one (ones_cons rfl ones_nil)) ?_
    rintro w60 B61 C62
    have C0' := Lib.hid (show Ch [] w w60 from C0.out.trans' C62 (inw_cons (.inr nw16.out) inw_nil))
    have SQ' := Lib.hid (show SrcIs w60 (.slice (some a) n z) (n) ((L).flatMap sesC) 6 from SQ.out.chx C62 (xnin_cons nx17.out xnin_nil))
    have Fg3' := Lib.hid (show Blk w60 g3 (#[v46, .int .i64 la]) 44 from C62.blk Fg3.out (nin_cons ne18.out nin_nil))
    have Z34' := Lib.hid (show OwnS w60 w.heap.size 49 6 (v46) (j + (n - (j + 1))) ((L.take j).flatMap sesC ++ (L.drop (j + 1)).flatMap sesC) from Z34.out.ch C62 (rnin_cons (Z34.out.ne Fg11.out (by decide)) rnin_nil))
    clear C0 SQ Fg3 Z34
    have C0 := C0'; clear C0'
    have SQ := SQ'; clear SQ'
    have Fg3 := Fg3'; clear Fg3'
    have Z34 := Z34'; clear Z34'
    clear Fg11; have Fg11 := Lib.hid (show Blk w60 g11 ((#[v46, .int .i64 la])) 44 from B61); clear B61 C62
    refine hK59 _ _ ?_; clear hK59 K59
    (try simp only [zP, zN, zA, zB, zC])
    refine pu_ (v := .int .i64 0) (y_assign rfl (by rfl) (by rfl)) ?_
    (try simp only [zP, zN, zA, zB, zC])
    refine nl_ (hK58 _ _ ?_); clear hK58 K58
    refine wp_ret ?_
    refine hQ _ _ _ ?_
    refine bodyPost_ret (res2 rfl (rdv_cell (by rfl) (run_loadVar_row _ _ 44 44 ((#[v46, .int .i64 la])) (0, 0) _ Fg11.out Tryd.underlying44 rfl (by kernel_rfl))) (rdv_tmp (v := .int .i64 0) (by rfl))) rfl ?_
    have h9 := Z34.out
    rw [show j + (n - (j + 1)) = n - 1 by have := HJ.out; omega, ← List.flatMap_append, ← List.eraseIdx_eq_take_drop_succ] at h9
    obtain ⟨A9, c9, hv9, hn9, hm9⟩ := h9.slice
    subst hv9
    exact ⟨_, _, rfl, ⟨h9.src, ⟨hn9, hm9⟩, fun k hk => (h9.lt k (xb_rl' h9 k hk)).1⟩, C0.out⟩
end
end Go.Proofs.YtcfkdglaedpnjaaDoor.V
