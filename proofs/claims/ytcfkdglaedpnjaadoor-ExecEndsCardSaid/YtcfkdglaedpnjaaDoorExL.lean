/- The walk of does: an act, done to both, is one and the same. -/
import Derived.Test.YtcfkdglaedpnjaaDoorExJ
namespace Go.Proofs.YtcfkdglaedpnjaaDoor.V
open Go Go.RowKit Go.Proofs.YtcfkdglaedpnjaaDoor.K Go.Proofs.YtcfkdglaedpnjaaDoor.R Go.Proofs.YtcfkdglaedpnjaaDoorW.PrintLast
set_option linter.unusedVariables false
set_option linter.unusedSimpArgs false
set_option maxRecDepth 100000
set_option maxHeartbeats 1600000
section
variable {w : World}
theorem does_open {Aq : Option Addr} {z lo x c : Nat} {Bs0 : List Nat} {E : HX} {o : HA} {w0 : World} (HZ : Hid (E.L.length ≤ z ∧ z ≤ maxLen)) (HN : Hid (E.L.length ≤ 8)) (HC : Hid (c ≤ 90000)) (HLA : Hid (E.last ≤ 100000)) (HOK : Hid (IntOk o.n)) (HSZ : Hid (o.s.size ≤ 300)) (HTB : Hid (Tabs w0)) (HLO : Hid (lo = w0.heap.size)) (HB0 : Hid (Below w0.heap.size w0 w)) (HXS : Hid (∀ k, k ∈ xb (.slice Aq E.L.length z) → k ∉ Bs0)) (HK : Hid (o.kind = 0)) (EX : Hid (ExIs w lo Bs0 x (c) (E))) (SQ : Hid (SrcIs w (.slice Aq E.L.length z) (E.L.length) (E.L.flatMap sesC) 6)) :
    Calls Tryd.prog 17 #[.pointer (some ⟨x, 0, none⟩), .agg #[.slice Aq E.L.length z, .int .i64 E.last], .agg #[.int .i64 o.kind, .int .i64 o.id, .int .i64 o.box, .int .i64 o.ctr, .int .i64 o.n, .string o.s]] w fun en w' => ∃ Q' z' Bs', en = .returned (.tuple #[.agg #[.slice Q' (openS E o.box o.ctr).L.length z', .int .i64 (openS E o.box o.ctr).last], .bool true]) ∧ RStep w w' Aq z E Q' z' (openS E o.box o.ctr) ∧ ExIs w' lo Bs' x (c + 64) (openS E o.box o.ctr) ∧ Ch Bs0 w w' ∧ (∀ k, k ∈ Bs' → k ∈ Bs0 ∨ w.heap.size ≤ k) ∧ ∀ k, k ∈ xb (.slice Q' (openS E o.box o.ctr).L.length z') → k ∉ Bs' := by
  have C0 := Lib.hid (Ch.refl (Bs0) w)
  have D32 := Lib.hid (show  o.kind = 0 by have := HK.out; omega)
  have HSH := Lib.hid (show Shorts E from EX.out.qs)
  have HSB := Lib.hid (show ∀ k_, k_ ∈ Bs0 → k_ ∈ Bs0 ∨ w.heap.size ≤ k_ from fun k_ hk_ => .inl hk_)
  have HL0 := Lib.hid (show ∀ y, y ∈ Bs0 → w0.heap.size ≤ y from fun y hy => by rw [← HLO.out]; exact (EX.out.lt y hy).1)
  go_enter Tryd.func17, Tryd.ntmps17
  refine q_ (fun Q hQ hP => ?_)
  refine s_ (fun K1 hK1 => ?_)
  refine ef_ (fun K2 hK2 => ?_)
  refine e_boxN (by rfl) rfl rfl (cs := #[.slice Aq E.L.length z, .int .i64 E.last]) (v := .agg #[.slice Aq E.L.length z, .int .i64 E.last]) (by rfl) rfl ?_
  rintro g3 w4 HG5 B6 C7
  have nw8 := Lib.hid (show w.heap.size ≤ g3 by have := C0.out.size; have := HG5.out; omega)
  have hs9 := Lib.hid (show g3 ∉ Bs0 from fun hk => by have h8 := (EX.out.lt _ hk).2; have := HG5.out; omega)
  have nx10 := Lib.hid (SQ.out.ne_new (by decide) HG5)
  have C0' := Lib.hid (show Ch (Bs0) w w4 from C0.out.trans' C7 (fun x hx => absurd hx (by simp)))
  have EX' := Lib.hid (show ExIs w4 lo Bs0 x (c) (E) from EX.out.ch C7 (fun _ _ h => absurd h (by simp)))
  have SQ' := Lib.hid (show SrcIs w4 (.slice Aq E.L.length z) (E.L.length) (E.L.flatMap sesC) 6 from SQ.out.chx C7 xnin_nil)
  clear C0 EX SQ
  have C0 := C0'; clear C0'
  have EX := EX'; clear EX'
  have SQ := SQ'; clear SQ'
  have Fg3 := Lib.hid (show Blk w4 g3 (#[.slice Aq E.L.length z, .int .i64 E.last]) 44 from B6); clear B6 C7
  refine hK2 _ _ ?_; clear hK2 K2
  (try simp only [zP, zN, zA, zB, zC])
  refine ef_ (fun K11 hK11 => ?_)
  refine e_boxN (by rfl) rfl rfl (cs := #[.int .i64 o.kind, .int .i64 o.id, .int .i64 o.box, .int .i64 o.ctr, .int .i64 o.n, .string o.s]) (v := .agg #[.int .i64 o.kind, .int .i64 o.id, .int .i64 o.box, .int .i64 o.ctr, .int .i64 o.n, .string o.s]) (by rfl) rfl ?_
  rintro g12 w13 HG14 B15 C16
  have nw17 := Lib.hid (show w.heap.size ≤ g12 by have := C0.out.size; have := HG14.out; omega)
  have hs18 := Lib.hid (show g12 ∉ Bs0 from fun hk => by have h8 := (EX.out.lt _ hk).2; have := HG14.out; omega)
  have nx19 := Lib.hid (SQ.out.ne_new (by decide) HG14)
  have C0' := Lib.hid (show Ch (Bs0) w w13 from C0.out.trans' C16 (fun x hx => absurd hx (by simp)))
  have EX' := Lib.hid (show ExIs w13 lo Bs0 x (c) (E) from EX.out.ch C16 (fun _ _ h => absurd h (by simp)))
  have SQ' := Lib.hid (show SrcIs w13 (.slice Aq E.L.length z) (E.L.length) (E.L.flatMap sesC) 6 from SQ.out.chx C16 xnin_nil)
  have Fg3' := Lib.hid (show Blk w13 g3 (#[.slice Aq E.L.length z, .int .i64 E.last]) 44 from C16.blk Fg3.out nin_nil)
  clear C0 EX SQ Fg3
  have C0 := C0'; clear C0'
  have EX := EX'; clear EX'
  have SQ := SQ'; clear SQ'
  have Fg3 := Fg3'; clear Fg3'
  have Fg12 := Lib.hid (show Blk w13 g12 (#[.int .i64 o.kind, .int .i64 o.id, .int .i64 o.box, .int .i64 o.ctr, .int .i64 o.n, .string o.s]) 28 from B15); clear B15 C16
  refine hK11 _ _ ?_; clear hK11 K11
  (try simp only [zP, zN, zA, zB, zC])
  refine ef_ (fun K20 hK20 => ?_)
  refine e_alloc (by rfl) rfl rfl (cs := #[.slice none 0 0, .int .i64 0]) (by kernel_rfl) ?_
  rintro g21 w22 HG23 B24 C25
  have nw26 := Lib.hid (show w.heap.size ≤ g21 by have := C0.out.size; have := HG23.out; omega)
  have hs27 := Lib.hid (show g21 ∉ Bs0 from fun hk => by have h8 := (EX.out.lt _ hk).2; have := HG23.out; omega)
  have nx28 := Lib.hid (SQ.out.ne_new (by decide) HG23)
  have ne29 := Lib.hid (Fg3.out.ne_new HG23)
  have C0' := Lib.hid (show Ch (Bs0) w w22 from C0.out.trans' C25 (fun x hx => absurd hx (by simp)))
  have EX' := Lib.hid (show ExIs w22 lo Bs0 x (c) (E) from EX.out.ch C25 (fun _ _ h => absurd h (by simp)))
  have SQ' := Lib.hid (show SrcIs w22 (.slice Aq E.L.length z) (E.L.length) (E.L.flatMap sesC) 6 from SQ.out.chx C25 xnin_nil)
  have Fg3' := Lib.hid (show Blk w22 g3 (#[.slice Aq E.L.length z, .int .i64 E.last]) 44 from C25.blk Fg3.out nin_nil)
  have Fg12' := Lib.hid (show Blk w22 g12 (#[.int .i64 o.kind, .int .i64 o.id, .int .i64 o.box, .int .i64 o.ctr, .int .i64 o.n, .string o.s]) 28 from C25.blk Fg12.out nin_nil)
  clear C0 EX SQ Fg3 Fg12
  have C0 := C0'; clear C0'
  have EX := EX'; clear EX'
  have SQ := SQ'; clear SQ'
  have Fg3 := Fg3'; clear Fg3'
  have Fg12 := Fg12'; clear Fg12'
  have Fg21 := Lib.hid (show Blk w22 g21 (#[.slice none 0 0, .int .i64 0]) 44 from B24); clear B24 C25
  refine hK20 _ _ ?_; clear hK20 K20
  (try simp only [zP, zN, zA, zB, zC])
  refine pu_ (v := .bool false) (y_assign rfl (by rfl) (by rfl)) ?_
  (try simp only [zP, zN, zA, zB, zC])
  refine nl_ (hK1 _ _ ?_); clear hK1 K1
  refine s_ (fun K30 hK30 => ?_)
  refine pu_ (v := .int .i64 0) (y_assign rfl (by rfl) (by rfl)) ?_
  (try simp only [zP, zN, zA, zB, zC])
  refine pu_ (v := .int .i64 0) (y_assign rfl (by rfl) (by rfl)) ?_
  (try simp only [zP, zN, zA, zB, zC])
  refine nl_ (hK30 _ _ ?_); clear hK30 K30
  refine s_ (fun K31 hK31 => ?_)
  refine pu_ (v := .string {data := #[]}) (y_assign rfl (by rfl) (by rfl)) ?_
  (try simp only [zP, zN, zA, zB, zC])
  refine pu_ (v := .string {data := #[]}) (y_assign rfl (by rfl) (by rfl)) ?_
  (try simp only [zP, zN, zA, zB, zC])
  refine nl_ (hK31 _ _ ?_); clear hK31 K31
  refine s_ (fun K32 hK32 => ?_)
  refine pu_ (v := .int .i64 0) (y_assign rfl (by rfl) (by rfl)) ?_
  (try simp only [zP, zN, zA, zB, zC])
  refine pu_ (v := .int .i64 0) (y_assign rfl (by rfl) (by rfl)) ?_
  (try simp only [zP, zN, zA, zB, zC])
  refine nl_ (hK32 _ _ ?_); clear hK32 K32
  refine sq_ (fun K33 hK33 => ?_)
  refine s_ (fun K34 hK34 => ?_)
  refine pu_ (v := .pointer (some ⟨g12, 0, none⟩)) (y_run (by rfl) (fun W => by go_simp)) ?_
  (try simp only [zP, zN, zA, zB, zC])
  refine ld_ (v := .int .i64 o.kind) rfl (by rfl) (by rfl) (run_load_one ((Fg12.out.cell 0).trans rfl) Tryd.underlying3 rfl) ?_
  (try simp only [zP, zN, zA, zB, zC])
  refine nl_ (hK34 _ _ ?_); clear hK34 K34
  refine wp_block ?_
  refine s_ (fun K35 hK35 => ?_)
  refine pu_ (v := .bool true) (y_run (by rfl) (fun W => by have d := D32.out; go_simp)) ?_
  (try simp only [zP, zN, zA, zB, zC])
  refine pu_ (v := .bool true) (y_assign rfl (by rfl) (by rfl)) ?_
  (try simp only [zP, zN, zA, zB, zC])
  refine nl_ (hK35 _ _ ?_); clear hK35 K35
  refine wp_cond_true rfl ?_
  refine s_ (fun K36 hK36 => ?_)
  refine pu_ (v := .pointer (some ⟨x, 0, none⟩)) (y_move rfl (by rfl) (by rfl)) ?_
  (try simp only [zP, zN, zA, zB, zC])
  refine pu_ (v := .pointer (some ⟨g12, 2, none⟩)) (y_run (by rfl) (fun W => by go_simp)) ?_
  (try simp only [zP, zN, zA, zB, zC])
  refine ld_ (v := .int .i64 o.box) rfl (by rfl) (by rfl) (run_load_one ((Fg12.out.cell 2).trans rfl) Tryd.underlying3 rfl) ?_
  (try simp only [zP, zN, zA, zB, zC])
  refine pu_ (v := .pointer (some ⟨g12, 3, none⟩)) (y_run (by rfl) (fun W => by go_simp)) ?_
  (try simp only [zP, zN, zA, zB, zC])
  refine ld_ (v := .int .i64 o.ctr) rfl (by rfl) (by rfl) (run_load_one ((Fg12.out.cell 3).trans rfl) Tryd.underlying3 rfl) ?_
  (try simp only [zP, zN, zA, zB, zC])
  refine ef_ (fun K37 hK37 => ?_)
  refine e_call Tryd.func8 (by kernel_rfl) rfl #[.pointer (some ⟨x, 0, none⟩), .int .i64 o.box, .int .i64 o.ctr] (by rfl) rfl rfl (by first | rfl | (simp only [List.map_toArray, List.map_cons, List.map_nil]; first | done | rfl)) ((open_l (bx := o.box) (ct := o.ctr) EX.out (by have := HN.out; omega) HLA.out (by rw [HLO.out]; exact Nat.le_trans HB0.out.size C0.out.size))) ?_
  rintro en w39 ⟨rfl, Bs38, bk, cc, bel⟩
  refine ⟨_, rfl, ?_⟩
  have hs40 := Lib.hid (show g3 ∉ Bs38 from fun h9 => (bel _ h9).elim hs9.out (fun h8 => by have := Fg3.out.lt; omega))
  have hs41 := Lib.hid (show g12 ∉ Bs38 from fun h9 => (bel _ h9).elim hs18.out (fun h8 => by have := Fg12.out.lt; omega))
  have hs42 := Lib.hid (show g21 ∉ Bs38 from fun h9 => (bel _ h9).elim hs27.out (fun h8 => by have := Fg21.out.lt; omega))
  have hr43 := Lib.hid (show ∀ k_, k_ ∈ xb (.slice Aq E.L.length z) → k_ ∉ Bs38 from fun k_ hk_ hB_ => (bel k_ hB_).elim (HXS.out k_ hk_) (fun h8 => by have := SQ.out.lt (by decide) k_ hk_; omega))
  have hb44 := Lib.hid (show ∀ k_, k_ ∈ Bs38 → k_ ∈ Bs0 ∨ w.heap.size ≤ k_ from fun k_ hk_ => (bel k_ hk_).elim (HSB.out k_) (fun h_ => .inr (Nat.le_trans C0.out.size h_)))
  have C0' := Lib.hid (show Ch (Bs0) w w39 from C0.out.trans' cc (fun x hx => .inl hx))
  have SQ' := Lib.hid (show SrcIs w39 (.slice Aq E.L.length z) (E.L.length) (E.L.flatMap sesC) 6 from SQ.out.chx cc HXS.out)
  have Fg3' := Lib.hid (show Blk w39 g3 (#[.slice Aq E.L.length z, .int .i64 E.last]) 44 from cc.blk Fg3.out hs9.out)
  have Fg12' := Lib.hid (show Blk w39 g12 (#[.int .i64 o.kind, .int .i64 o.id, .int .i64 o.box, .int .i64 o.ctr, .int .i64 o.n, .string o.s]) 28 from cc.blk Fg12.out hs18.out)
  have Fg21' := Lib.hid (show Blk w39 g21 (#[.slice none 0 0, .int .i64 0]) 44 from cc.blk Fg21.out hs27.out)
  clear C0 SQ Fg3 Fg12 Fg21
  have C0 := C0'; clear C0'
  have SQ := SQ'; clear SQ'
  have Fg3 := Fg3'; clear Fg3'
  have Fg12 := Fg12'; clear Fg12'
  have Fg21 := Fg21'; clear Fg21'
  clear EX cc bel
  have EX := Lib.hid (show ExIs w39 lo Bs38 x (c) (openS E o.box o.ctr) from bk)
  clear bk
  refine hK37 _ _ ?_; clear hK37 K37
  (try simp only [zP, zN, zA, zB, zC])
  refine pu_ (v := .tuple #[.int .i64 (openR E).1, .int .i64 (openR E).2]) (y_move rfl (by rfl) (by rfl)) ?_
  (try simp only [zP, zN, zA, zB, zC])
  refine pu_ (v := .int .i64 (openR E).1) (y_run (by rfl) (fun W => by go_simp)) ?_
  (try simp only [zP, zN, zA, zB, zC])
  refine pu_ (v := .int .i64 (openR E).2) (y_run (by rfl) (fun W => by go_simp)) ?_
  (try simp only [zP, zN, zA, zB, zC])
  refine pu_ (v := .int .i64 (openR E).1) (y_assign rfl (by rfl) (by rfl)) ?_
  (try simp only [zP, zN, zA, zB, zC])
  refine pu_ (v := .int .i64 (openR E).2) (y_assign rfl (by rfl) (by rfl)) ?_
  (try simp only [zP, zN, zA, zB, zC])
  refine nl_ (hK36 _ _ ?_); clear hK36 K36
  refine r_ ?_
  refine ld_ (v := .agg (#[.slice Aq E.L.length z, .int .i64 E.last])) rfl (by rfl) (by rfl) (run_loadVar_row _ _ 44 44 (#[.slice Aq E.L.length z, .int .i64 E.last]) (0, 0) _ Fg3.out Tryd.underlying44 rfl (by kernel_rfl)) ?_
  (try simp only [zP, zN, zA, zB, zC])
  refine pu_ (v := .pointer (some ⟨g12, 2, none⟩)) (y_run (by rfl) (fun W => by go_simp)) ?_
  (try simp only [zP, zN, zA, zB, zC])
  refine ld_ (v := .int .i64 o.box) rfl (by rfl) (by rfl) (run_load_one ((Fg12.out.cell 2).trans rfl) Tryd.underlying3 rfl) ?_
  (try simp only [zP, zN, zA, zB, zC])
  refine pu_ (v := .pointer (some ⟨g12, 3, none⟩)) (y_run (by rfl) (fun W => by go_simp)) ?_
  (try simp only [zP, zN, zA, zB, zC])
  refine ld_ (v := .int .i64 o.ctr) rfl (by rfl) (by rfl) (run_load_one ((Fg12.out.cell 3).trans rfl) Tryd.underlying3 rfl) ?_
  (try simp only [zP, zN, zA, zB, zC])
  refine ef_ (fun K45 hK45 => ?_)
  refine e_call Tryd.func33 (by kernel_rfl) rfl #[.agg (#[.slice Aq E.L.length z, .int .i64 E.last]), .int .i64 o.box, .int .i64 o.ctr] (by rfl) rfl rfl (by first | rfl | (simp only [List.map_toArray, List.map_cons, List.map_nil]; first | done | rfl)) ((ropen_l (bx := o.box) (ct := o.ctr) ⟨SQ.out, HZ.out⟩ (by have := HN.out; omega) HLA.out)) ?_
  rintro en w52 ⟨A46, z47, rfl, ⟨⟨h148, h249⟩, h450⟩, cc51⟩
  refine ⟨_, rfl, ?_⟩
  have xs53 := Lib.hid (show ∀ k_, k_ ∈ xb (.slice A46 (openS E o.box o.ctr).L.length z47) → k_ ∉ Bs38 from fun k_ hk_ hB_ => (h450 k_ hk_).elim (fun h7 => hr43.out k_ h7 hB_) (fun h8 => by have := (EX.out.lt k_ hB_).2; omega))
  have nx54 := Lib.hid (show g3 ∉ xb (.slice A46 (openS E o.box o.ctr).L.length z47) from fun hk => (h450 _ hk).elim nx10.out (fun h8 => by have := Fg3.out.lt; omega))
  have nx55 := Lib.hid (show g12 ∉ xb (.slice A46 (openS E o.box o.ctr).L.length z47) from fun hk => (h450 _ hk).elim nx19.out (fun h8 => by have := Fg12.out.lt; omega))
  have nx56 := Lib.hid (show g21 ∉ xb (.slice A46 (openS E o.box o.ctr).L.length z47) from fun hk => (h450 _ hk).elim nx28.out (fun h8 => by have := Fg21.out.lt; omega))
  have HNW := Lib.hid (show ∀ k, k ∈ xb (.slice A46 (openS E o.box o.ctr).L.length z47) → k ∈ xb (.slice Aq E.L.length z) ∨ w.heap.size ≤ k from fun k hk => (h450 k hk).imp (fun h => h) (fun h => Nat.le_trans C0.out.size h)); clear h450
  have HZ2 := Lib.hid h249; clear h249
  have C0' := Lib.hid (show Ch (Bs0) w w52 from C0.out.trans' cc51 (fun x hx => absurd hx (by simp)))
  have EX' := Lib.hid (show ExIs w52 lo Bs38 x (c) (openS E o.box o.ctr) from EX.out.ch cc51 (fun _ _ h => absurd h (by simp)))
  have SQ' := Lib.hid (show SrcIs w52 (.slice Aq E.L.length z) (E.L.length) (E.L.flatMap sesC) 6 from SQ.out.chx cc51 xnin_nil)
  have Fg3' := Lib.hid (show Blk w52 g3 (#[.slice Aq E.L.length z, .int .i64 E.last]) 44 from cc51.blk Fg3.out nin_nil)
  have Fg12' := Lib.hid (show Blk w52 g12 (#[.int .i64 o.kind, .int .i64 o.id, .int .i64 o.box, .int .i64 o.ctr, .int .i64 o.n, .string o.s]) 28 from cc51.blk Fg12.out nin_nil)
  have Fg21' := Lib.hid (show Blk w52 g21 (#[.slice none 0 0, .int .i64 0]) 44 from cc51.blk Fg21.out nin_nil)
  clear C0 EX SQ Fg3 Fg12 Fg21
  have C0 := C0'; clear C0'
  have EX := EX'; clear EX'
  have SQ := SQ'; clear SQ'
  have Fg3 := Fg3'; clear Fg3'
  have Fg12 := Fg12'; clear Fg12'
  have Fg21 := Fg21'; clear Fg21'
  clear cc51
  have SN := Lib.hid (show SrcIs w52 (.slice A46 (openS E o.box o.ctr).L.length z47) ((openS E o.box o.ctr).L.length) ((openS E o.box o.ctr).L.flatMap sesC) 6 from h148)
  refine hK45 _ _ ?_; clear hK45 K45
  (try simp only [zP, zN, zA, zB, zC])
  refine pu_ (v := .tuple #[.agg #[.slice A46 (openS E o.box o.ctr).L.length z47, .int .i64 (openS E o.box o.ctr).last], .int .i64 (openR E).1, .int .i64 (openR E).2]) (y_move rfl (by rfl) (by rfl)) ?_
  (try simp only [zP, zN, zA, zB, zC])
  refine pu_ (v := .agg #[.slice A46 (openS E o.box o.ctr).L.length z47, .int .i64 (openS E o.box o.ctr).last]) (y_run (by rfl) (fun W => by go_simp)) ?_
  (try simp only [zP, zN, zA, zB, zC])
  refine pu_ (v := .int .i64 (openR E).1) (y_run (by rfl) (fun W => by go_simp)) ?_
  (try simp only [zP, zN, zA, zB, zC])
  refine pu_ (v := .int .i64 (openR E).2) (y_run (by rfl) (fun W => by go_simp)) ?_
  (try simp only [zP, zN, zA, zB, zC])
  refine ef_ (fun K57 hK57 => ?_)
  refine e_storeN (cells := #[.slice A46 (openS E o.box o.ctr).L.length z47, .int .i64 (openS E o.box o.ctr).last]) (by rfl) rfl rfl (by rfl) (by rfl) Fg3.out (by kernel_rfl) (by rfl) (ones_cons rfl (ones_cons rfl ones_nil)) ?_
  rintro w58 B59 C60
  have C0' := Lib.hid (show Ch (Bs0) w w58 from C0.out.trans' C60 (inw_cons (.inr nw8.out) inw_nil))
  have EX' := Lib.hid (show ExIs w58 lo Bs38 x (c) (openS E o.box o.ctr) from EX.out.ch C60 (fun k hk hm => (List.mem_cons.1 hm).elim (fun e => hs40.out (e ▸ hk)) (fun h => (fun _ _ h => absurd h (by simp)) k hk h)))
  have SQ' := Lib.hid (show SrcIs w58 (.slice Aq E.L.length z) (E.L.length) (E.L.flatMap sesC) 6 from SQ.out.chx C60 (xnin_cons nx10.out xnin_nil))
  have Fg12' := Lib.hid (show Blk w58 g12 (#[.int .i64 o.kind, .int .i64 o.id, .int .i64 o.box, .int .i64 o.ctr, .int .i64 o.n, .string o.s]) 28 from C60.blk Fg12.out (nin_cons (Blk.ne_type Fg12.out Fg3.out (by decide)) nin_nil))
  have Fg21' := Lib.hid (show Blk w58 g21 (#[.slice none 0 0, .int .i64 0]) 44 from C60.blk Fg21.out (nin_cons (Ne.symm ne29.out) nin_nil))
  have SN' := Lib.hid (show SrcIs w58 (.slice A46 (openS E o.box o.ctr).L.length z47) ((openS E o.box o.ctr).L.length) ((openS E o.box o.ctr).L.flatMap sesC) 6 from SN.out.chx C60 (xnin_cons nx54.out xnin_nil))
  clear C0 EX SQ Fg12 Fg21 SN
  have C0 := C0'; clear C0'
  have EX := EX'; clear EX'
  have SQ := SQ'; clear SQ'
  have Fg12 := Fg12'; clear Fg12'
  have Fg21 := Fg21'; clear Fg21'
  have SN := SN'; clear SN'
  clear Fg3; have Fg3 := Lib.hid (show Blk w58 g3 (#[.slice A46 (openS E o.box o.ctr).L.length z47, .int .i64 (openS E o.box o.ctr).last]) 44 from B59); clear B59 C60
  refine hK57 _ _ ?_; clear hK57 K57
  (try simp only [zP, zN, zA, zB, zC])
  refine pu_ (v := .int .i64 (openR E).1) (y_assign rfl (by rfl) (by rfl)) ?_
  (try simp only [zP, zN, zA, zB, zC])
  refine pu_ (v := .int .i64 (openR E).2) (y_assign rfl (by rfl) (by rfl)) ?_
  (try simp only [zP, zN, zA, zB, zC])
  refine nl_ ?_
  refine ib_norm ?_
  refine th_norm (hK33 _ _ ?_); try clear hK33 K33
  refine s_ (fun K61 hK61 => ?_)
  refine ld_ (v := .agg (#[.slice A46 (openS E o.box o.ctr).L.length z47, .int .i64 (openS E o.box o.ctr).last])) rfl (by rfl) (by rfl) (run_loadVar_row _ _ 44 44 (#[.slice A46 (openS E o.box o.ctr).L.length z47, .int .i64 (openS E o.box o.ctr).last]) (0, 0) _ Fg3.out Tryd.underlying44 rfl (by kernel_rfl)) ?_
  (try simp only [zP, zN, zA, zB, zC])
  refine pu_ (v := .int .i64 (openR E).1) (y_move rfl (by rfl) (by rfl)) ?_
  (try simp only [zP, zN, zA, zB, zC])
  refine pu_ (v := .int .i64 (openR E).1) (y_move rfl (by rfl) (by rfl)) ?_
  (try simp only [zP, zN, zA, zB, zC])
  refine pu_ (v := .bool true) (y_run (by rfl) (fun W => by first | (go_simp; done) | (go_simp; rfl) | (go_simp; decide))) ?_
  (try simp only [zP, zN, zA, zB, zC])
  refine pu_ (v := .bool true) (y_move rfl (by rfl) (by rfl)) ?_
  (try simp only [zP, zN, zA, zB, zC])
  refine pu_ (v := .string {data := #[]}) (y_move rfl (by rfl) (by rfl)) ?_
  (try simp only [zP, zN, zA, zB, zC])
  refine pu_ (v := .string {data := #[]}) (y_move rfl (by rfl) (by rfl)) ?_
  (try simp only [zP, zN, zA, zB, zC])
  refine pu_ (v := .bool true) (y_run (by rfl) (fun W => by first | (go_simp; done) | (go_simp; rfl) | (go_simp; decide))) ?_
  (try simp only [zP, zN, zA, zB, zC])
  refine pu_ (v := .bool true) (y_pick (t := true) (by rfl) rfl (by rfl) (by rfl)) ?_
  (try simp only [zP, zN, zA, zB, zC])
  refine pu_ (v := .bool true) (y_move rfl (by rfl) (by rfl)) ?_
  (try simp only [zP, zN, zA, zB, zC])
  refine pu_ (v := .int .i64 (openR E).2) (y_move rfl (by rfl) (by rfl)) ?_
  (try simp only [zP, zN, zA, zB, zC])
  refine pu_ (v := .int .i64 (openR E).2) (y_move rfl (by rfl) (by rfl)) ?_
  (try simp only [zP, zN, zA, zB, zC])
  refine pu_ (v := .bool true) (y_run (by rfl) (fun W => by first | (go_simp; done) | (go_simp; rfl) | (go_simp; decide))) ?_
  (try simp only [zP, zN, zA, zB, zC])
  refine pu_ (v := .bool true) (y_pick (t := true) (by rfl) rfl (by rfl) (by rfl)) ?_
  (try simp only [zP, zN, zA, zB, zC])
  refine ef_ (fun K62 hK62 => ?_)
  refine e_storeN (cells := (#[.slice A46 (openS E o.box o.ctr).L.length z47, .int .i64 (openS E o.box o.ctr).last])) (by rfl) rfl rfl (by rfl) (by rfl) Fg21.out (by kernel_rfl) (by rfl) (ones_cons rfl (ones_cons rfl ones_nil)) ?_
  rintro w63 B64 C65
  have C0' := Lib.hid (show Ch (Bs0) w w63 from C0.out.trans' C65 (inw_cons (.inr nw26.out) inw_nil))
  have EX' := Lib.hid (show ExIs w63 lo Bs38 x (c) (openS E o.box o.ctr) from EX.out.ch C65 (fun k hk hm => (List.mem_cons.1 hm).elim (fun e => hs42.out (e ▸ hk)) (fun h => (fun _ _ h => absurd h (by simp)) k hk h)))
  have SQ' := Lib.hid (show SrcIs w63 (.slice Aq E.L.length z) (E.L.length) (E.L.flatMap sesC) 6 from SQ.out.chx C65 (xnin_cons nx28.out xnin_nil))
  have Fg3' := Lib.hid (show Blk w63 g3 (#[.slice A46 (openS E o.box o.ctr).L.length z47, .int .i64 (openS E o.box o.ctr).last]) 44 from C65.blk Fg3.out (nin_cons ne29.out nin_nil))
  have Fg12' := Lib.hid (show Blk w63 g12 (#[.int .i64 o.kind, .int .i64 o.id, .int .i64 o.box, .int .i64 o.ctr, .int .i64 o.n, .string o.s]) 28 from C65.blk Fg12.out (nin_cons (Blk.ne_type Fg12.out Fg21.out (by decide)) nin_nil))
  have SN' := Lib.hid (show SrcIs w63 (.slice A46 (openS E o.box o.ctr).L.length z47) ((openS E o.box o.ctr).L.length) ((openS E o.box o.ctr).L.flatMap sesC) 6 from SN.out.chx C65 (xnin_cons nx56.out xnin_nil))
  clear C0 EX SQ Fg3 Fg12 SN
  have C0 := C0'; clear C0'
  have EX := EX'; clear EX'
  have SQ := SQ'; clear SQ'
  have Fg3 := Fg3'; clear Fg3'
  have Fg12 := Fg12'; clear Fg12'
  have SN := SN'; clear SN'
  clear Fg21; have Fg21 := Lib.hid (show Blk w63 g21 ((#[.slice A46 (openS E o.box o.ctr).L.length z47, .int .i64 (openS E o.box o.ctr).last])) 44 from B64); clear B64 C65
  refine hK62 _ _ ?_; clear hK62 K62
  (try simp only [zP, zN, zA, zB, zC])
  refine pu_ (v := .bool true) (y_assign rfl (by rfl) (by rfl)) ?_
  (try simp only [zP, zN, zA, zB, zC])
  refine nl_ (hK61 _ _ ?_); clear hK61 K61
  refine wp_ret ?_
  refine hQ _ _ _ ?_
  refine bodyPost_ret (res2 rfl (rdv_cell (by rfl) (run_loadVar_row _ _ 44 44 ((#[.slice A46 (openS E o.box o.ctr).L.length z47, .int .i64 (openS E o.box o.ctr).last])) (0, 0) _ Fg21.out Tryd.underlying44 rfl (by kernel_rfl))) (rdv_tmp (v := .bool true) (by rfl))) rfl ?_
  exact ⟨_, _, _, rfl, ⟨⟨SN.out, HZ2.out⟩, HNW.out⟩, EX.out.up (by omega), C0.out, hb44.out, xs53.out⟩
theorem does_write {Aq : Option Addr} {z lo x c : Nat} {Bs0 : List Nat} {E : HX} {o : HA} {w0 : World} (HZ : Hid (E.L.length ≤ z ∧ z ≤ maxLen)) (HN : Hid (E.L.length ≤ 8)) (HC : Hid (c ≤ 90000)) (HLA : Hid (E.last ≤ 100000)) (HOK : Hid (IntOk o.n)) (HSZ : Hid (o.s.size ≤ 300)) (HTB : Hid (Tabs w0)) (HLO : Hid (lo = w0.heap.size)) (HB0 : Hid (Below w0.heap.size w0 w)) (HXS : Hid (∀ k, k ∈ xb (.slice Aq E.L.length z) → k ∉ Bs0)) (HK : Hid (o.kind = 1)) (EX : Hid (ExIs w lo Bs0 x (c) (E))) (SQ : Hid (SrcIs w (.slice Aq E.L.length z) (E.L.length) (E.L.flatMap sesC) 6)) :
    Calls Tryd.prog 17 #[.pointer (some ⟨x, 0, none⟩), .agg #[.slice Aq E.L.length z, .int .i64 E.last], .agg #[.int .i64 o.kind, .int .i64 o.id, .int .i64 o.box, .int .i64 o.ctr, .int .i64 o.n, .string o.s]] w fun en w' => ∃ Q' z' Bs', en = .returned (.tuple #[.agg #[.slice Q' (writeS E o.id o.s).L.length z', .int .i64 (writeS E o.id o.s).last], .bool true]) ∧ RStep w w' Aq z E Q' z' (writeS E o.id o.s) ∧ ExIs w' lo Bs' x (c + 64) (writeS E o.id o.s) ∧ Ch Bs0 w w' ∧ (∀ k, k ∈ Bs' → k ∈ Bs0 ∨ w.heap.size ≤ k) ∧ ∀ k, k ∈ xb (.slice Q' (writeS E o.id o.s).L.length z') → k ∉ Bs' := by
  have C0 := Lib.hid (Ch.refl (Bs0) w)
  have D32 := Lib.hid (show ¬ o.kind = 0 by have := HK.out; omega)
  have D53 := Lib.hid (show  o.kind = 1 by have := HK.out; omega)
  have HSH := Lib.hid (show Shorts E from EX.out.qs)
  have HSB := Lib.hid (show ∀ k_, k_ ∈ Bs0 → k_ ∈ Bs0 ∨ w.heap.size ≤ k_ from fun k_ hk_ => .inl hk_)
  have HL0 := Lib.hid (show ∀ y, y ∈ Bs0 → w0.heap.size ≤ y from fun y hy => by rw [← HLO.out]; exact (EX.out.lt y hy).1)
  go_enter Tryd.func17, Tryd.ntmps17
  refine q_ (fun Q hQ hP => ?_)
  refine s_ (fun K1 hK1 => ?_)
  refine ef_ (fun K2 hK2 => ?_)
  refine e_boxN (by rfl) rfl rfl (cs := #[.slice Aq E.L.length z, .int .i64 E.last]) (v := .agg #[.slice Aq E.L.length z, .int .i64 E.last]) (by rfl) rfl ?_
  rintro g3 w4 HG5 B6 C7
  have nw8 := Lib.hid (show w.heap.size ≤ g3 by have := C0.out.size; have := HG5.out; omega)
  have hs9 := Lib.hid (show g3 ∉ Bs0 from fun hk => by have h8 := (EX.out.lt _ hk).2; have := HG5.out; omega)
  have nx10 := Lib.hid (SQ.out.ne_new (by decide) HG5)
  have C0' := Lib.hid (show Ch (Bs0) w w4 from C0.out.trans' C7 (fun x hx => absurd hx (by simp)))
  have EX' := Lib.hid (show ExIs w4 lo Bs0 x (c) (E) from EX.out.ch C7 (fun _ _ h => absurd h (by simp)))
  have SQ' := Lib.hid (show SrcIs w4 (.slice Aq E.L.length z) (E.L.length) (E.L.flatMap sesC) 6 from SQ.out.chx C7 xnin_nil)
  clear C0 EX SQ
  have C0 := C0'; clear C0'
  have EX := EX'; clear EX'
  have SQ := SQ'; clear SQ'
  have Fg3 := Lib.hid (show Blk w4 g3 (#[.slice Aq E.L.length z, .int .i64 E.last]) 44 from B6); clear B6 C7
  refine hK2 _ _ ?_; clear hK2 K2
  (try simp only [zP, zN, zA, zB, zC])
  refine ef_ (fun K11 hK11 => ?_)
  refine e_boxN (by rfl) rfl rfl (cs := #[.int .i64 o.kind, .int .i64 o.id, .int .i64 o.box, .int .i64 o.ctr, .int .i64 o.n, .string o.s]) (v := .agg #[.int .i64 o.kind, .int .i64 o.id, .int .i64 o.box, .int .i64 o.ctr, .int .i64 o.n, .string o.s]) (by rfl) rfl ?_
  rintro g12 w13 HG14 B15 C16
  have nw17 := Lib.hid (show w.heap.size ≤ g12 by have := C0.out.size; have := HG14.out; omega)
  have hs18 := Lib.hid (show g12 ∉ Bs0 from fun hk => by have h8 := (EX.out.lt _ hk).2; have := HG14.out; omega)
  have nx19 := Lib.hid (SQ.out.ne_new (by decide) HG14)
  have C0' := Lib.hid (show Ch (Bs0) w w13 from C0.out.trans' C16 (fun x hx => absurd hx (by simp)))
  have EX' := Lib.hid (show ExIs w13 lo Bs0 x (c) (E) from EX.out.ch C16 (fun _ _ h => absurd h (by simp)))
  have SQ' := Lib.hid (show SrcIs w13 (.slice Aq E.L.length z) (E.L.length) (E.L.flatMap sesC) 6 from SQ.out.chx C16 xnin_nil)
  have Fg3' := Lib.hid (show Blk w13 g3 (#[.slice Aq E.L.length z, .int .i64 E.last]) 44 from C16.blk Fg3.out nin_nil)
  clear C0 EX SQ Fg3
  have C0 := C0'; clear C0'
  have EX := EX'; clear EX'
  have SQ := SQ'; clear SQ'
  have Fg3 := Fg3'; clear Fg3'
  have Fg12 := Lib.hid (show Blk w13 g12 (#[.int .i64 o.kind, .int .i64 o.id, .int .i64 o.box, .int .i64 o.ctr, .int .i64 o.n, .string o.s]) 28 from B15); clear B15 C16
  refine hK11 _ _ ?_; clear hK11 K11
  (try simp only [zP, zN, zA, zB, zC])
  refine ef_ (fun K20 hK20 => ?_)
  refine e_alloc (by rfl) rfl rfl (cs := #[.slice none 0 0, .int .i64 0]) (by kernel_rfl) ?_
  rintro g21 w22 HG23 B24 C25
  have nw26 := Lib.hid (show w.heap.size ≤ g21 by have := C0.out.size; have := HG23.out; omega)
  have hs27 := Lib.hid (show g21 ∉ Bs0 from fun hk => by have h8 := (EX.out.lt _ hk).2; have := HG23.out; omega)
  have nx28 := Lib.hid (SQ.out.ne_new (by decide) HG23)
  have ne29 := Lib.hid (Fg3.out.ne_new HG23)
  have C0' := Lib.hid (show Ch (Bs0) w w22 from C0.out.trans' C25 (fun x hx => absurd hx (by simp)))
  have EX' := Lib.hid (show ExIs w22 lo Bs0 x (c) (E) from EX.out.ch C25 (fun _ _ h => absurd h (by simp)))
  have SQ' := Lib.hid (show SrcIs w22 (.slice Aq E.L.length z) (E.L.length) (E.L.flatMap sesC) 6 from SQ.out.chx C25 xnin_nil)
  have Fg3' := Lib.hid (show Blk w22 g3 (#[.slice Aq E.L.length z, .int .i64 E.last]) 44 from C25.blk Fg3.out nin_nil)
  have Fg12' := Lib.hid (show Blk w22 g12 (#[.int .i64 o.kind, .int .i64 o.id, .int .i64 o.box, .int .i64 o.ctr, .int .i64 o.n, .string o.s]) 28 from C25.blk Fg12.out nin_nil)
  clear C0 EX SQ Fg3 Fg12
  have C0 := C0'; clear C0'
  have EX := EX'; clear EX'
  have SQ := SQ'; clear SQ'
  have Fg3 := Fg3'; clear Fg3'
  have Fg12 := Fg12'; clear Fg12'
  have Fg21 := Lib.hid (show Blk w22 g21 (#[.slice none 0 0, .int .i64 0]) 44 from B24); clear B24 C25
  refine hK20 _ _ ?_; clear hK20 K20
  (try simp only [zP, zN, zA, zB, zC])
  refine pu_ (v := .bool false) (y_assign rfl (by rfl) (by rfl)) ?_
  (try simp only [zP, zN, zA, zB, zC])
  refine nl_ (hK1 _ _ ?_); clear hK1 K1
  refine s_ (fun K30 hK30 => ?_)
  refine pu_ (v := .int .i64 0) (y_assign rfl (by rfl) (by rfl)) ?_
  (try simp only [zP, zN, zA, zB, zC])
  refine pu_ (v := .int .i64 0) (y_assign rfl (by rfl) (by rfl)) ?_
  (try simp only [zP, zN, zA, zB, zC])
  refine nl_ (hK30 _ _ ?_); clear hK30 K30
  refine s_ (fun K31 hK31 => ?_)
  refine pu_ (v := .string {data := #[]}) (y_assign rfl (by rfl) (by rfl)) ?_
  (try simp only [zP, zN, zA, zB, zC])
  refine pu_ (v := .string {data := #[]}) (y_assign rfl (by rfl) (by rfl)) ?_
  (try simp only [zP, zN, zA, zB, zC])
  refine nl_ (hK31 _ _ ?_); clear hK31 K31
  refine s_ (fun K32 hK32 => ?_)
  refine pu_ (v := .int .i64 0) (y_assign rfl (by rfl) (by rfl)) ?_
  (try simp only [zP, zN, zA, zB, zC])
  refine pu_ (v := .int .i64 0) (y_assign rfl (by rfl) (by rfl)) ?_
  (try simp only [zP, zN, zA, zB, zC])
  refine nl_ (hK32 _ _ ?_); clear hK32 K32
  refine sq_ (fun K33 hK33 => ?_)
  refine s_ (fun K34 hK34 => ?_)
  refine pu_ (v := .pointer (some ⟨g12, 0, none⟩)) (y_run (by rfl) (fun W => by go_simp)) ?_
  (try simp only [zP, zN, zA, zB, zC])
  refine ld_ (v := .int .i64 o.kind) rfl (by rfl) (by rfl) (run_load_one ((Fg12.out.cell 0).trans rfl) Tryd.underlying3 rfl) ?_
  (try simp only [zP, zN, zA, zB, zC])
  refine nl_ (hK34 _ _ ?_); clear hK34 K34
  refine wp_block ?_
  refine s_ (fun K35 hK35 => ?_)
  refine pu_ (v := .bool false) (y_run (by rfl) (fun W => by have d := D32.out; go_simp)) ?_
  (try simp only [zP, zN, zA, zB, zC])
  refine pu_ (v := .bool false) (y_assign rfl (by rfl) (by rfl)) ?_
  (try simp only [zP, zN, zA, zB, zC])
  refine nl_ (hK35 _ _ ?_); clear hK35 K35
  refine wp_cond_false rfl ?_
  refine s_ (fun K36 hK36 => ?_)
  refine pu_ (v := .bool true) (y_run (by rfl) (fun W => by have d := D53.out; go_simp)) ?_
  (try simp only [zP, zN, zA, zB, zC])
  refine pu_ (v := .bool true) (y_assign rfl (by rfl) (by rfl)) ?_
  (try simp only [zP, zN, zA, zB, zC])
  refine nl_ (hK36 _ _ ?_); clear hK36 K36
  refine wp_cond_true rfl ?_
  refine s_ (fun K37 hK37 => ?_)
  refine pu_ (v := .pointer (some ⟨x, 0, none⟩)) (y_move rfl (by rfl) (by rfl)) ?_
  (try simp only [zP, zN, zA, zB, zC])
  refine pu_ (v := .pointer (some ⟨g12, 1, none⟩)) (y_run (by rfl) (fun W => by go_simp)) ?_
  (try simp only [zP, zN, zA, zB, zC])
  refine ld_ (v := .int .i64 o.id) rfl (by rfl) (by rfl) (run_load_one ((Fg12.out.cell 1).trans rfl) Tryd.underlying3 rfl) ?_
  (try simp only [zP, zN, zA, zB, zC])
  refine pu_ (v := .pointer (some ⟨g12, 5, none⟩)) (y_run (by rfl) (fun W => by go_simp)) ?_
  (try simp only [zP, zN, zA, zB, zC])
  refine ld_ (v := .string o.s) rfl (by rfl) (by rfl) (run_load_one ((Fg12.out.cell 5).trans rfl) Tryd.underlying9 rfl) ?_
  (try simp only [zP, zN, zA, zB, zC])
  refine ef_ (fun K38 hK38 => ?_)
  refine e_call Tryd.func9 (by kernel_rfl) rfl #[.pointer (some ⟨x, 0, none⟩), .int .i64 o.id, .string o.s] (by rfl) rfl rfl (by first | rfl | (simp only [List.map_toArray, List.map_cons, List.map_nil]; first | done | rfl)) ((write_l (id := o.id) (t := o.s) EX.out (by have := HN.out; omega) (by have := HC.out; omega) (by have := HSZ.out; omega))) ?_
  rintro en w40 ⟨rfl, Bs39, bk, cc, bel⟩
  refine ⟨_, rfl, ?_⟩
  have hs41 := Lib.hid (show g3 ∉ Bs39 from fun h9 => (bel _ h9).elim hs9.out (fun h8 => by have := Fg3.out.lt; omega))
  have hs42 := Lib.hid (show g12 ∉ Bs39 from fun h9 => (bel _ h9).elim hs18.out (fun h8 => by have := Fg12.out.lt; omega))
  have hs43 := Lib.hid (show g21 ∉ Bs39 from fun h9 => (bel _ h9).elim hs27.out (fun h8 => by have := Fg21.out.lt; omega))
  have hr44 := Lib.hid (show ∀ k_, k_ ∈ xb (.slice Aq E.L.length z) → k_ ∉ Bs39 from fun k_ hk_ hB_ => (bel k_ hB_).elim (HXS.out k_ hk_) (fun h8 => by have := SQ.out.lt (by decide) k_ hk_; omega))
  have hb45 := Lib.hid (show ∀ k_, k_ ∈ Bs39 → k_ ∈ Bs0 ∨ w.heap.size ≤ k_ from fun k_ hk_ => (bel k_ hk_).elim (HSB.out k_) (fun h_ => .inr (Nat.le_trans C0.out.size h_)))
  have C0' := Lib.hid (show Ch (Bs0) w w40 from C0.out.trans' cc (fun x hx => .inl hx))
  have SQ' := Lib.hid (show SrcIs w40 (.slice Aq E.L.length z) (E.L.length) (E.L.flatMap sesC) 6 from SQ.out.chx cc HXS.out)
  have Fg3' := Lib.hid (show Blk w40 g3 (#[.slice Aq E.L.length z, .int .i64 E.last]) 44 from cc.blk Fg3.out hs9.out)
  have Fg12' := Lib.hid (show Blk w40 g12 (#[.int .i64 o.kind, .int .i64 o.id, .int .i64 o.box, .int .i64 o.ctr, .int .i64 o.n, .string o.s]) 28 from cc.blk Fg12.out hs18.out)
  have Fg21' := Lib.hid (show Blk w40 g21 (#[.slice none 0 0, .int .i64 0]) 44 from cc.blk Fg21.out hs27.out)
  clear C0 SQ Fg3 Fg12 Fg21
  have C0 := C0'; clear C0'
  have SQ := SQ'; clear SQ'
  have Fg3 := Fg3'; clear Fg3'
  have Fg12 := Fg12'; clear Fg12'
  have Fg21 := Fg21'; clear Fg21'
  clear EX cc bel
  have EX := Lib.hid (show ExIs w40 lo Bs39 x (c + 64) (writeS E o.id o.s) from bk)
  clear bk
  refine hK38 _ _ ?_; clear hK38 K38
  (try simp only [zP, zN, zA, zB, zC])
  refine pu_ (v := .tuple #[.int .i64 (writeR E o.id o.s).1, .int .i64 (writeR E o.id o.s).2]) (y_move rfl (by rfl) (by rfl)) ?_
  (try simp only [zP, zN, zA, zB, zC])
  refine pu_ (v := .int .i64 (writeR E o.id o.s).1) (y_run (by rfl) (fun W => by go_simp)) ?_
  (try simp only [zP, zN, zA, zB, zC])
  refine pu_ (v := .int .i64 (writeR E o.id o.s).2) (y_run (by rfl) (fun W => by go_simp)) ?_
  (try simp only [zP, zN, zA, zB, zC])
  refine pu_ (v := .int .i64 (writeR E o.id o.s).1) (y_assign rfl (by rfl) (by rfl)) ?_
  (try simp only [zP, zN, zA, zB, zC])
  refine pu_ (v := .int .i64 (writeR E o.id o.s).2) (y_assign rfl (by rfl) (by rfl)) ?_
  (try simp only [zP, zN, zA, zB, zC])
  refine nl_ (hK37 _ _ ?_); clear hK37 K37
  refine r_ ?_
  refine ld_ (v := .agg (#[.slice Aq E.L.length z, .int .i64 E.last])) rfl (by rfl) (by rfl) (run_loadVar_row _ _ 44 44 (#[.slice Aq E.L.length z, .int .i64 E.last]) (0, 0) _ Fg3.out Tryd.underlying44 rfl (by kernel_rfl)) ?_
  (try simp only [zP, zN, zA, zB, zC])
  refine pu_ (v := .pointer (some ⟨g12, 1, none⟩)) (y_run (by rfl) (fun W => by go_simp)) ?_
  (try simp only [zP, zN, zA, zB, zC])
  refine ld_ (v := .int .i64 o.id) rfl (by rfl) (by rfl) (run_load_one ((Fg12.out.cell 1).trans rfl) Tryd.underlying3 rfl) ?_
  (try simp only [zP, zN, zA, zB, zC])
  refine pu_ (v := .pointer (some ⟨g12, 5, none⟩)) (y_run (by rfl) (fun W => by go_simp)) ?_
  (try simp only [zP, zN, zA, zB, zC])
  refine ld_ (v := .string o.s) rfl (by rfl) (by rfl) (run_load_one ((Fg12.out.cell 5).trans rfl) Tryd.underlying9 rfl) ?_
  (try simp only [zP, zN, zA, zB, zC])
  refine ef_ (fun K46 hK46 => ?_)
  refine e_call Tryd.func34 (by kernel_rfl) rfl #[.agg (#[.slice Aq E.L.length z, .int .i64 E.last]), .int .i64 o.id, .string o.s] (by rfl) rfl rfl (by first | rfl | (simp only [List.map_toArray, List.map_cons, List.map_nil]; first | done | rfl)) ((rwrite_l (id := o.id) (t := o.s) ⟨SQ.out, HZ.out⟩ (by have := HN.out; omega) HSH.out)) ?_
  rintro en w53 ⟨A47, z48, rfl, ⟨⟨h149, h250⟩, h451⟩, cc52⟩
  refine ⟨_, rfl, ?_⟩
  have xs54 := Lib.hid (show ∀ k_, k_ ∈ xb (.slice A47 (writeS E o.id o.s).L.length z48) → k_ ∉ Bs39 from fun k_ hk_ hB_ => (h451 k_ hk_).elim (fun h7 => hr44.out k_ h7 hB_) (fun h8 => by have := (EX.out.lt k_ hB_).2; omega))
  have nx55 := Lib.hid (show g3 ∉ xb (.slice A47 (writeS E o.id o.s).L.length z48) from fun hk => (h451 _ hk).elim nx10.out (fun h8 => by have := Fg3.out.lt; omega))
  have nx56 := Lib.hid (show g12 ∉ xb (.slice A47 (writeS E o.id o.s).L.length z48) from fun hk => (h451 _ hk).elim nx19.out (fun h8 => by have := Fg12.out.lt; omega))
  have nx57 := Lib.hid (show g21 ∉ xb (.slice A47 (writeS E o.id o.s).L.length z48) from fun hk => (h451 _ hk).elim nx28.out (fun h8 => by have := Fg21.out.lt; omega))
  have HNW := Lib.hid (show ∀ k, k ∈ xb (.slice A47 (writeS E o.id o.s).L.length z48) → k ∈ xb (.slice Aq E.L.length z) ∨ w.heap.size ≤ k from fun k hk => (h451 k hk).imp (fun h => h) (fun h => Nat.le_trans C0.out.size h)); clear h451
  have HZ2 := Lib.hid h250; clear h250
  have C0' := Lib.hid (show Ch (Bs0) w w53 from C0.out.trans' cc52 (fun x hx => absurd hx (by simp)))
  have EX' := Lib.hid (show ExIs w53 lo Bs39 x (c + 64) (writeS E o.id o.s) from EX.out.ch cc52 (fun _ _ h => absurd h (by simp)))
  have SQ' := Lib.hid (show SrcIs w53 (.slice Aq E.L.length z) (E.L.length) (E.L.flatMap sesC) 6 from SQ.out.chx cc52 xnin_nil)
  have Fg3' := Lib.hid (show Blk w53 g3 (#[.slice Aq E.L.length z, .int .i64 E.last]) 44 from cc52.blk Fg3.out nin_nil)
  have Fg12' := Lib.hid (show Blk w53 g12 (#[.int .i64 o.kind, .int .i64 o.id, .int .i64 o.box, .int .i64 o.ctr, .int .i64 o.n, .string o.s]) 28 from cc52.blk Fg12.out nin_nil)
  have Fg21' := Lib.hid (show Blk w53 g21 (#[.slice none 0 0, .int .i64 0]) 44 from cc52.blk Fg21.out nin_nil)
  clear C0 EX SQ Fg3 Fg12 Fg21
  have C0 := C0'; clear C0'
  have EX := EX'; clear EX'
  have SQ := SQ'; clear SQ'
  have Fg3 := Fg3'; clear Fg3'
  have Fg12 := Fg12'; clear Fg12'
  have Fg21 := Fg21'; clear Fg21'
  clear cc52
  have SN := Lib.hid (show SrcIs w53 (.slice A47 (writeS E o.id o.s).L.length z48) ((writeS E o.id o.s).L.length) ((writeS E o.id o.s).L.flatMap sesC) 6 from h149)
  refine hK46 _ _ ?_; clear hK46 K46
  (try simp only [zP, zN, zA, zB, zC])
  refine pu_ (v := .tuple #[.agg #[.slice A47 (writeS E o.id o.s).L.length z48, .int .i64 (writeS E o.id o.s).last], .int .i64 (writeR E o.id o.s).1, .int .i64 (writeR E o.id o.s).2]) (y_move rfl (by rfl) (by rfl)) ?_
  (try simp only [zP, zN, zA, zB, zC])
  refine pu_ (v := .agg #[.slice A47 (writeS E o.id o.s).L.length z48, .int .i64 (writeS E o.id o.s).last]) (y_run (by rfl) (fun W => by go_simp)) ?_
  (try simp only [zP, zN, zA, zB, zC])
  refine pu_ (v := .int .i64 (writeR E o.id o.s).1) (y_run (by rfl) (fun W => by go_simp)) ?_
  (try simp only [zP, zN, zA, zB, zC])
  refine pu_ (v := .int .i64 (writeR E o.id o.s).2) (y_run (by rfl) (fun W => by go_simp)) ?_
  (try simp only [zP, zN, zA, zB, zC])
  refine ef_ (fun K58 hK58 => ?_)
  refine e_storeN (cells := #[.slice A47 (writeS E o.id o.s).L.length z48, .int .i64 (writeS E o.id o.s).last]) (by rfl) rfl rfl (by rfl) (by rfl) Fg3.out (by kernel_rfl) (by rfl) (ones_cons rfl (ones_cons rfl ones_nil)) ?_
  rintro w59 B60 C61
  have C0' := Lib.hid (show Ch (Bs0) w w59 from C0.out.trans' C61 (inw_cons (.inr nw8.out) inw_nil))
  have EX' := Lib.hid (show ExIs w59 lo Bs39 x (c + 64) (writeS E o.id o.s) from EX.out.ch C61 (fun k hk hm => (List.mem_cons.1 hm).elim (fun e => hs41.out (e ▸ hk)) (fun h => (fun _ _ h => absurd h (by simp)) k hk h)))
  have SQ' := Lib.hid (show SrcIs w59 (.slice Aq E.L.length z) (E.L.length) (E.L.flatMap sesC) 6 from SQ.out.chx C61 (xnin_cons nx10.out xnin_nil))
  have Fg12' := Lib.hid (show Blk w59 g12 (#[.int .i64 o.kind, .int .i64 o.id, .int .i64 o.box, .int .i64 o.ctr, .int .i64 o.n, .string o.s]) 28 from C61.blk Fg12.out (nin_cons (Blk.ne_type Fg12.out Fg3.out (by decide)) nin_nil))
  have Fg21' := Lib.hid (show Blk w59 g21 (#[.slice none 0 0, .int .i64 0]) 44 from C61.blk Fg21.out (nin_cons (Ne.symm ne29.out) nin_nil))
  have SN' := Lib.hid (show SrcIs w59 (.slice A47 (writeS E o.id o.s).L.length z48) ((writeS E o.id o.s).L.length) ((writeS E o.id o.s).L.flatMap sesC) 6 from SN.out.chx C61 (xnin_cons nx55.out xnin_nil))
  clear C0 EX SQ Fg12 Fg21 SN
  have C0 := C0'; clear C0'
  have EX := EX'; clear EX'
  have SQ := SQ'; clear SQ'
  have Fg12 := Fg12'; clear Fg12'
  have Fg21 := Fg21'; clear Fg21'
  have SN := SN'; clear SN'
  clear Fg3; have Fg3 := Lib.hid (show Blk w59 g3 (#[.slice A47 (writeS E o.id o.s).L.length z48, .int .i64 (writeS E o.id o.s).last]) 44 from B60); clear B60 C61
  refine hK58 _ _ ?_; clear hK58 K58
  (try simp only [zP, zN, zA, zB, zC])
  refine pu_ (v := .int .i64 (writeR E o.id o.s).1) (y_assign rfl (by rfl) (by rfl)) ?_
  (try simp only [zP, zN, zA, zB, zC])
  refine pu_ (v := .int .i64 (writeR E o.id o.s).2) (y_assign rfl (by rfl) (by rfl)) ?_
  (try simp only [zP, zN, zA, zB, zC])
  refine nl_ ?_
  refine ib_norm ?_
  refine th_norm (hK33 _ _ ?_); try clear hK33 K33
  refine s_ (fun K62 hK62 => ?_)
  refine ld_ (v := .agg (#[.slice A47 (writeS E o.id o.s).L.length z48, .int .i64 (writeS E o.id o.s).last])) rfl (by rfl) (by rfl) (run_loadVar_row _ _ 44 44 (#[.slice A47 (writeS E o.id o.s).L.length z48, .int .i64 (writeS E o.id o.s).last]) (0, 0) _ Fg3.out Tryd.underlying44 rfl (by kernel_rfl)) ?_
  (try simp only [zP, zN, zA, zB, zC])
  refine pu_ (v := .int .i64 (writeR E o.id o.s).1) (y_move rfl (by rfl) (by rfl)) ?_
  (try simp only [zP, zN, zA, zB, zC])
  refine pu_ (v := .int .i64 (writeR E o.id o.s).1) (y_move rfl (by rfl) (by rfl)) ?_
  (try simp only [zP, zN, zA, zB, zC])
  refine pu_ (v := .bool true) (y_run (by rfl) (fun W => by first | (go_simp; done) | (go_simp; rfl) | (go_simp; decide))) ?_
  (try simp only [zP, zN, zA, zB, zC])
  refine pu_ (v := .bool true) (y_move rfl (by rfl) (by rfl)) ?_
  (try simp only [zP, zN, zA, zB, zC])
  refine pu_ (v := .string {data := #[]}) (y_move rfl (by rfl) (by rfl)) ?_
  (try simp only [zP, zN, zA, zB, zC])
  refine pu_ (v := .string {data := #[]}) (y_move rfl (by rfl) (by rfl)) ?_
  (try simp only [zP, zN, zA, zB, zC])
  refine pu_ (v := .bool true) (y_run (by rfl) (fun W => by first | (go_simp; done) | (go_simp; rfl) | (go_simp; decide))) ?_
  (try simp only [zP, zN, zA, zB, zC])
  refine pu_ (v := .bool true) (y_pick (t := true) (by rfl) rfl (by rfl) (by rfl)) ?_
  (try simp only [zP, zN, zA, zB, zC])
  refine pu_ (v := .bool true) (y_move rfl (by rfl) (by rfl)) ?_
  (try simp only [zP, zN, zA, zB, zC])
  refine pu_ (v := .int .i64 (writeR E o.id o.s).2) (y_move rfl (by rfl) (by rfl)) ?_
  (try simp only [zP, zN, zA, zB, zC])
  refine pu_ (v := .int .i64 (writeR E o.id o.s).2) (y_move rfl (by rfl) (by rfl)) ?_
  (try simp only [zP, zN, zA, zB, zC])
  refine pu_ (v := .bool true) (y_run (by rfl) (fun W => by first | (go_simp; done) | (go_simp; rfl) | (go_simp; decide))) ?_
  (try simp only [zP, zN, zA, zB, zC])
  refine pu_ (v := .bool true) (y_pick (t := true) (by rfl) rfl (by rfl) (by rfl)) ?_
  (try simp only [zP, zN, zA, zB, zC])
  refine ef_ (fun K63 hK63 => ?_)
  refine e_storeN (cells := (#[.slice A47 (writeS E o.id o.s).L.length z48, .int .i64 (writeS E o.id o.s).last])) (by rfl) rfl rfl (by rfl) (by rfl) Fg21.out (by kernel_rfl) (by rfl) (ones_cons rfl (ones_cons rfl ones_nil)) ?_
  rintro w64 B65 C66
  have C0' := Lib.hid (show Ch (Bs0) w w64 from C0.out.trans' C66 (inw_cons (.inr nw26.out) inw_nil))
  have EX' := Lib.hid (show ExIs w64 lo Bs39 x (c + 64) (writeS E o.id o.s) from EX.out.ch C66 (fun k hk hm => (List.mem_cons.1 hm).elim (fun e => hs43.out (e ▸ hk)) (fun h => (fun _ _ h => absurd h (by simp)) k hk h)))
  have SQ' := Lib.hid (show SrcIs w64 (.slice Aq E.L.length z) (E.L.length) (E.L.flatMap sesC) 6 from SQ.out.chx C66 (xnin_cons nx28.out xnin_nil))
  have Fg3' := Lib.hid (show Blk w64 g3 (#[.slice A47 (writeS E o.id o.s).L.length z48, .int .i64 (writeS E o.id o.s).last]) 44 from C66.blk Fg3.out (nin_cons ne29.out nin_nil))
  have Fg12' := Lib.hid (show Blk w64 g12 (#[.int .i64 o.kind, .int .i64 o.id, .int .i64 o.box, .int .i64 o.ctr, .int .i64 o.n, .string o.s]) 28 from C66.blk Fg12.out (nin_cons (Blk.ne_type Fg12.out Fg21.out (by decide)) nin_nil))
  have SN' := Lib.hid (show SrcIs w64 (.slice A47 (writeS E o.id o.s).L.length z48) ((writeS E o.id o.s).L.length) ((writeS E o.id o.s).L.flatMap sesC) 6 from SN.out.chx C66 (xnin_cons nx57.out xnin_nil))
  clear C0 EX SQ Fg3 Fg12 SN
  have C0 := C0'; clear C0'
  have EX := EX'; clear EX'
  have SQ := SQ'; clear SQ'
  have Fg3 := Fg3'; clear Fg3'
  have Fg12 := Fg12'; clear Fg12'
  have SN := SN'; clear SN'
  clear Fg21; have Fg21 := Lib.hid (show Blk w64 g21 ((#[.slice A47 (writeS E o.id o.s).L.length z48, .int .i64 (writeS E o.id o.s).last])) 44 from B65); clear B65 C66
  refine hK63 _ _ ?_; clear hK63 K63
  (try simp only [zP, zN, zA, zB, zC])
  refine pu_ (v := .bool true) (y_assign rfl (by rfl) (by rfl)) ?_
  (try simp only [zP, zN, zA, zB, zC])
  refine nl_ (hK62 _ _ ?_); clear hK62 K62
  refine wp_ret ?_
  refine hQ _ _ _ ?_
  refine bodyPost_ret (res2 rfl (rdv_cell (by rfl) (run_loadVar_row _ _ 44 44 ((#[.slice A47 (writeS E o.id o.s).L.length z48, .int .i64 (writeS E o.id o.s).last])) (0, 0) _ Fg21.out Tryd.underlying44 rfl (by kernel_rfl))) (rdv_tmp (v := .bool true) (by rfl))) rfl ?_
  exact ⟨_, _, _, rfl, ⟨⟨SN.out, HZ2.out⟩, HNW.out⟩, EX.out.up (by omega), C0.out, hb45.out, xs54.out⟩
theorem does_read {Aq : Option Addr} {z lo x c : Nat} {Bs0 : List Nat} {E : HX} {o : HA} {w0 : World} (HZ : Hid (E.L.length ≤ z ∧ z ≤ maxLen)) (HN : Hid (E.L.length ≤ 8)) (HC : Hid (c ≤ 90000)) (HLA : Hid (E.last ≤ 100000)) (HOK : Hid (IntOk o.n)) (HSZ : Hid (o.s.size ≤ 300)) (HTB : Hid (Tabs w0)) (HLO : Hid (lo = w0.heap.size)) (HB0 : Hid (Below w0.heap.size w0 w)) (HXS : Hid (∀ k, k ∈ xb (.slice Aq E.L.length z) → k ∉ Bs0)) (HK : Hid (o.kind = 2)) (EX : Hid (ExIs w lo Bs0 x (c) (E))) (SQ : Hid (SrcIs w (.slice Aq E.L.length z) (E.L.length) (E.L.flatMap sesC) 6)) :
    Calls Tryd.prog 17 #[.pointer (some ⟨x, 0, none⟩), .agg #[.slice Aq E.L.length z, .int .i64 E.last], .agg #[.int .i64 o.kind, .int .i64 o.id, .int .i64 o.box, .int .i64 o.ctr, .int .i64 o.n, .string o.s]] w fun en w' => ∃ Q' z' Bs', en = .returned (.tuple #[.agg #[.slice Q' (readS E o.id o.n).L.length z', .int .i64 (readS E o.id o.n).last], .bool true]) ∧ RStep w w' Aq z E Q' z' (readS E o.id o.n) ∧ ExIs w' lo Bs' x (c + 64) (readS E o.id o.n) ∧ Ch Bs0 w w' ∧ (∀ k, k ∈ Bs' → k ∈ Bs0 ∨ w.heap.size ≤ k) ∧ ∀ k, k ∈ xb (.slice Q' (readS E o.id o.n).L.length z') → k ∉ Bs' := by
  have C0 := Lib.hid (Ch.refl (Bs0) w)
  have D32 := Lib.hid (show ¬ o.kind = 0 by have := HK.out; omega)
  have D53 := Lib.hid (show ¬ o.kind = 1 by have := HK.out; omega)
  have D74 := Lib.hid (show  o.kind = 2 by have := HK.out; omega)
  have HSH := Lib.hid (show Shorts E from EX.out.qs)
  have HSB := Lib.hid (show ∀ k_, k_ ∈ Bs0 → k_ ∈ Bs0 ∨ w.heap.size ≤ k_ from fun k_ hk_ => .inl hk_)
  have HL0 := Lib.hid (show ∀ y, y ∈ Bs0 → w0.heap.size ≤ y from fun y hy => by rw [← HLO.out]; exact (EX.out.lt y hy).1)
  go_enter Tryd.func17, Tryd.ntmps17
  refine q_ (fun Q hQ hP => ?_)
  refine s_ (fun K1 hK1 => ?_)
  refine ef_ (fun K2 hK2 => ?_)
  refine e_boxN (by rfl) rfl rfl (cs := #[.slice Aq E.L.length z, .int .i64 E.last]) (v := .agg #[.slice Aq E.L.length z, .int .i64 E.last]) (by rfl) rfl ?_
  rintro g3 w4 HG5 B6 C7
  have nw8 := Lib.hid (show w.heap.size ≤ g3 by have := C0.out.size; have := HG5.out; omega)
  have hs9 := Lib.hid (show g3 ∉ Bs0 from fun hk => by have h8 := (EX.out.lt _ hk).2; have := HG5.out; omega)
  have nx10 := Lib.hid (SQ.out.ne_new (by decide) HG5)
  have C0' := Lib.hid (show Ch (Bs0) w w4 from C0.out.trans' C7 (fun x hx => absurd hx (by simp)))
  have EX' := Lib.hid (show ExIs w4 lo Bs0 x (c) (E) from EX.out.ch C7 (fun _ _ h => absurd h (by simp)))
  have SQ' := Lib.hid (show SrcIs w4 (.slice Aq E.L.length z) (E.L.length) (E.L.flatMap sesC) 6 from SQ.out.chx C7 xnin_nil)
  clear C0 EX SQ
  have C0 := C0'; clear C0'
  have EX := EX'; clear EX'
  have SQ := SQ'; clear SQ'
  have Fg3 := Lib.hid (show Blk w4 g3 (#[.slice Aq E.L.length z, .int .i64 E.last]) 44 from B6); clear B6 C7
  refine hK2 _ _ ?_; clear hK2 K2
  (try simp only [zP, zN, zA, zB, zC])
  refine ef_ (fun K11 hK11 => ?_)
  refine e_boxN (by rfl) rfl rfl (cs := #[.int .i64 o.kind, .int .i64 o.id, .int .i64 o.box, .int .i64 o.ctr, .int .i64 o.n, .string o.s]) (v := .agg #[.int .i64 o.kind, .int .i64 o.id, .int .i64 o.box, .int .i64 o.ctr, .int .i64 o.n, .string o.s]) (by rfl) rfl ?_
  rintro g12 w13 HG14 B15 C16
  have nw17 := Lib.hid (show w.heap.size ≤ g12 by have := C0.out.size; have := HG14.out; omega)
  have hs18 := Lib.hid (show g12 ∉ Bs0 from fun hk => by have h8 := (EX.out.lt _ hk).2; have := HG14.out; omega)
  have nx19 := Lib.hid (SQ.out.ne_new (by decide) HG14)
  have C0' := Lib.hid (show Ch (Bs0) w w13 from C0.out.trans' C16 (fun x hx => absurd hx (by simp)))
  have EX' := Lib.hid (show ExIs w13 lo Bs0 x (c) (E) from EX.out.ch C16 (fun _ _ h => absurd h (by simp)))
  have SQ' := Lib.hid (show SrcIs w13 (.slice Aq E.L.length z) (E.L.length) (E.L.flatMap sesC) 6 from SQ.out.chx C16 xnin_nil)
  have Fg3' := Lib.hid (show Blk w13 g3 (#[.slice Aq E.L.length z, .int .i64 E.last]) 44 from C16.blk Fg3.out nin_nil)
  clear C0 EX SQ Fg3
  have C0 := C0'; clear C0'
  have EX := EX'; clear EX'
  have SQ := SQ'; clear SQ'
  have Fg3 := Fg3'; clear Fg3'
  have Fg12 := Lib.hid (show Blk w13 g12 (#[.int .i64 o.kind, .int .i64 o.id, .int .i64 o.box, .int .i64 o.ctr, .int .i64 o.n, .string o.s]) 28 from B15); clear B15 C16
  refine hK11 _ _ ?_; clear hK11 K11
  (try simp only [zP, zN, zA, zB, zC])
  refine ef_ (fun K20 hK20 => ?_)
  refine e_alloc (by rfl) rfl rfl (cs := #[.slice none 0 0, .int .i64 0]) (by kernel_rfl) ?_
  rintro g21 w22 HG23 B24 C25
  have nw26 := Lib.hid (show w.heap.size ≤ g21 by have := C0.out.size; have := HG23.out; omega)
  have hs27 := Lib.hid (show g21 ∉ Bs0 from fun hk => by have h8 := (EX.out.lt _ hk).2; have := HG23.out; omega)
  have nx28 := Lib.hid (SQ.out.ne_new (by decide) HG23)
  have ne29 := Lib.hid (Fg3.out.ne_new HG23)
  have C0' := Lib.hid (show Ch (Bs0) w w22 from C0.out.trans' C25 (fun x hx => absurd hx (by simp)))
  have EX' := Lib.hid (show ExIs w22 lo Bs0 x (c) (E) from EX.out.ch C25 (fun _ _ h => absurd h (by simp)))
  have SQ' := Lib.hid (show SrcIs w22 (.slice Aq E.L.length z) (E.L.length) (E.L.flatMap sesC) 6 from SQ.out.chx C25 xnin_nil)
  have Fg3' := Lib.hid (show Blk w22 g3 (#[.slice Aq E.L.length z, .int .i64 E.last]) 44 from C25.blk Fg3.out nin_nil)
  have Fg12' := Lib.hid (show Blk w22 g12 (#[.int .i64 o.kind, .int .i64 o.id, .int .i64 o.box, .int .i64 o.ctr, .int .i64 o.n, .string o.s]) 28 from C25.blk Fg12.out nin_nil)
  clear C0 EX SQ Fg3 Fg12
  have C0 := C0'; clear C0'
  have EX := EX'; clear EX'
  have SQ := SQ'; clear SQ'
  have Fg3 := Fg3'; clear Fg3'
  have Fg12 := Fg12'; clear Fg12'
  have Fg21 := Lib.hid (show Blk w22 g21 (#[.slice none 0 0, .int .i64 0]) 44 from B24); clear B24 C25
  refine hK20 _ _ ?_; clear hK20 K20
  (try simp only [zP, zN, zA, zB, zC])
  refine pu_ (v := .bool false) (y_assign rfl (by rfl) (by rfl)) ?_
  (try simp only [zP, zN, zA, zB, zC])
  refine nl_ (hK1 _ _ ?_); clear hK1 K1
  refine s_ (fun K30 hK30 => ?_)
  refine pu_ (v := .int .i64 0) (y_assign rfl (by rfl) (by rfl)) ?_
  (try simp only [zP, zN, zA, zB, zC])
  refine pu_ (v := .int .i64 0) (y_assign rfl (by rfl) (by rfl)) ?_
  (try simp only [zP, zN, zA, zB, zC])
  refine nl_ (hK30 _ _ ?_); clear hK30 K30
  refine s_ (fun K31 hK31 => ?_)
  refine pu_ (v := .string {data := #[]}) (y_assign rfl (by rfl) (by rfl)) ?_
  (try simp only [zP, zN, zA, zB, zC])
  refine pu_ (v := .string {data := #[]}) (y_assign rfl (by rfl) (by rfl)) ?_
  (try simp only [zP, zN, zA, zB, zC])
  refine nl_ (hK31 _ _ ?_); clear hK31 K31
  refine s_ (fun K32 hK32 => ?_)
  refine pu_ (v := .int .i64 0) (y_assign rfl (by rfl) (by rfl)) ?_
  (try simp only [zP, zN, zA, zB, zC])
  refine pu_ (v := .int .i64 0) (y_assign rfl (by rfl) (by rfl)) ?_
  (try simp only [zP, zN, zA, zB, zC])
  refine nl_ (hK32 _ _ ?_); clear hK32 K32
  refine sq_ (fun K33 hK33 => ?_)
  refine s_ (fun K34 hK34 => ?_)
  refine pu_ (v := .pointer (some ⟨g12, 0, none⟩)) (y_run (by rfl) (fun W => by go_simp)) ?_
  (try simp only [zP, zN, zA, zB, zC])
  refine ld_ (v := .int .i64 o.kind) rfl (by rfl) (by rfl) (run_load_one ((Fg12.out.cell 0).trans rfl) Tryd.underlying3 rfl) ?_
  (try simp only [zP, zN, zA, zB, zC])
  refine nl_ (hK34 _ _ ?_); clear hK34 K34
  refine wp_block ?_
  refine s_ (fun K35 hK35 => ?_)
  refine pu_ (v := .bool false) (y_run (by rfl) (fun W => by have d := D32.out; go_simp)) ?_
  (try simp only [zP, zN, zA, zB, zC])
  refine pu_ (v := .bool false) (y_assign rfl (by rfl) (by rfl)) ?_
  (try simp only [zP, zN, zA, zB, zC])
  refine nl_ (hK35 _ _ ?_); clear hK35 K35
  refine wp_cond_false rfl ?_
  refine s_ (fun K36 hK36 => ?_)
  refine pu_ (v := .bool false) (y_run (by rfl) (fun W => by have d := D53.out; go_simp)) ?_
  (try simp only [zP, zN, zA, zB, zC])
  refine pu_ (v := .bool false) (y_assign rfl (by rfl) (by rfl)) ?_
  (try simp only [zP, zN, zA, zB, zC])
  refine nl_ (hK36 _ _ ?_); clear hK36 K36
  refine wp_cond_false rfl ?_
  refine s_ (fun K37 hK37 => ?_)
  refine pu_ (v := .bool true) (y_run (by rfl) (fun W => by have d := D74.out; go_simp)) ?_
  (try simp only [zP, zN, zA, zB, zC])
  refine pu_ (v := .bool true) (y_assign rfl (by rfl) (by rfl)) ?_
  (try simp only [zP, zN, zA, zB, zC])
  refine nl_ (hK37 _ _ ?_); clear hK37 K37
  refine wp_cond_true rfl ?_
  refine s_ (fun K38 hK38 => ?_)
  refine pu_ (v := .pointer (some ⟨x, 0, none⟩)) (y_move rfl (by rfl) (by rfl)) ?_
  (try simp only [zP, zN, zA, zB, zC])
  refine pu_ (v := .pointer (some ⟨g12, 1, none⟩)) (y_run (by rfl) (fun W => by go_simp)) ?_
  (try simp only [zP, zN, zA, zB, zC])
  refine ld_ (v := .int .i64 o.id) rfl (by rfl) (by rfl) (run_load_one ((Fg12.out.cell 1).trans rfl) Tryd.underlying3 rfl) ?_
  (try simp only [zP, zN, zA, zB, zC])
  refine pu_ (v := .pointer (some ⟨g12, 4, none⟩)) (y_run (by rfl) (fun W => by go_simp)) ?_
  (try simp only [zP, zN, zA, zB, zC])
  refine ld_ (v := .int .i64 o.n) rfl (by rfl) (by rfl) (run_load_one ((Fg12.out.cell 4).trans rfl) Tryd.underlying3 rfl) ?_
  (try simp only [zP, zN, zA, zB, zC])
  refine ef_ (fun K39 hK39 => ?_)
  refine e_call Tryd.func10 (by kernel_rfl) rfl #[.pointer (some ⟨x, 0, none⟩), .int .i64 o.id, .int .i64 o.n] (by rfl) rfl rfl (by first | rfl | (simp only [List.map_toArray, List.map_cons, List.map_nil]; first | done | rfl)) ((read_l (id := o.id) (m := o.n) EX.out (by have := HN.out; omega) (by have := HC.out; omega) HOK.out)) ?_
  rintro en w41 ⟨rfl, Bs40, bk, cc, bel⟩
  refine ⟨_, rfl, ?_⟩
  have hs42 := Lib.hid (show g3 ∉ Bs40 from fun h9 => (bel _ h9).elim hs9.out (fun h8 => by have := Fg3.out.lt; omega))
  have hs43 := Lib.hid (show g12 ∉ Bs40 from fun h9 => (bel _ h9).elim hs18.out (fun h8 => by have := Fg12.out.lt; omega))
  have hs44 := Lib.hid (show g21 ∉ Bs40 from fun h9 => (bel _ h9).elim hs27.out (fun h8 => by have := Fg21.out.lt; omega))
  have hr45 := Lib.hid (show ∀ k_, k_ ∈ xb (.slice Aq E.L.length z) → k_ ∉ Bs40 from fun k_ hk_ hB_ => (bel k_ hB_).elim (HXS.out k_ hk_) (fun h8 => by have := SQ.out.lt (by decide) k_ hk_; omega))
  have hb46 := Lib.hid (show ∀ k_, k_ ∈ Bs40 → k_ ∈ Bs0 ∨ w.heap.size ≤ k_ from fun k_ hk_ => (bel k_ hk_).elim (HSB.out k_) (fun h_ => .inr (Nat.le_trans C0.out.size h_)))
  have C0' := Lib.hid (show Ch (Bs0) w w41 from C0.out.trans' cc (fun x hx => .inl hx))
  have SQ' := Lib.hid (show SrcIs w41 (.slice Aq E.L.length z) (E.L.length) (E.L.flatMap sesC) 6 from SQ.out.chx cc HXS.out)
  have Fg3' := Lib.hid (show Blk w41 g3 (#[.slice Aq E.L.length z, .int .i64 E.last]) 44 from cc.blk Fg3.out hs9.out)
  have Fg12' := Lib.hid (show Blk w41 g12 (#[.int .i64 o.kind, .int .i64 o.id, .int .i64 o.box, .int .i64 o.ctr, .int .i64 o.n, .string o.s]) 28 from cc.blk Fg12.out hs18.out)
  have Fg21' := Lib.hid (show Blk w41 g21 (#[.slice none 0 0, .int .i64 0]) 44 from cc.blk Fg21.out hs27.out)
  clear C0 SQ Fg3 Fg12 Fg21
  have C0 := C0'; clear C0'
  have SQ := SQ'; clear SQ'
  have Fg3 := Fg3'; clear Fg3'
  have Fg12 := Fg12'; clear Fg12'
  have Fg21 := Fg21'; clear Fg21'
  clear EX cc bel
  have EX := Lib.hid (show ExIs w41 lo Bs40 x (c) (readS E o.id o.n) from bk)
  clear bk
  refine hK39 _ _ ?_; clear hK39 K39
  (try simp only [zP, zN, zA, zB, zC])
  refine pu_ (v := .tuple #[.string (readR E o.id o.n).1, .int .i64 (readR E o.id o.n).2]) (y_move rfl (by rfl) (by rfl)) ?_
  (try simp only [zP, zN, zA, zB, zC])
  refine pu_ (v := .string (readR E o.id o.n).1) (y_run (by rfl) (fun W => by go_simp)) ?_
  (try simp only [zP, zN, zA, zB, zC])
  refine pu_ (v := .int .i64 (readR E o.id o.n).2) (y_run (by rfl) (fun W => by go_simp)) ?_
  (try simp only [zP, zN, zA, zB, zC])
  refine pu_ (v := .string (readR E o.id o.n).1) (y_assign rfl (by rfl) (by rfl)) ?_
  (try simp only [zP, zN, zA, zB, zC])
  refine pu_ (v := .int .i64 (readR E o.id o.n).2) (y_assign rfl (by rfl) (by rfl)) ?_
  (try simp only [zP, zN, zA, zB, zC])
  refine nl_ (hK38 _ _ ?_); clear hK38 K38
  refine r_ ?_
  refine ld_ (v := .agg (#[.slice Aq E.L.length z, .int .i64 E.last])) rfl (by rfl) (by rfl) (run_loadVar_row _ _ 44 44 (#[.slice Aq E.L.length z, .int .i64 E.last]) (0, 0) _ Fg3.out Tryd.underlying44 rfl (by kernel_rfl)) ?_
  (try simp only [zP, zN, zA, zB, zC])
  refine pu_ (v := .pointer (some ⟨g12, 1, none⟩)) (y_run (by rfl) (fun W => by go_simp)) ?_
  (try simp only [zP, zN, zA, zB, zC])
  refine ld_ (v := .int .i64 o.id) rfl (by rfl) (by rfl) (run_load_one ((Fg12.out.cell 1).trans rfl) Tryd.underlying3 rfl) ?_
  (try simp only [zP, zN, zA, zB, zC])
  refine pu_ (v := .pointer (some ⟨g12, 4, none⟩)) (y_run (by rfl) (fun W => by go_simp)) ?_
  (try simp only [zP, zN, zA, zB, zC])
  refine ld_ (v := .int .i64 o.n) rfl (by rfl) (by rfl) (run_load_one ((Fg12.out.cell 4).trans rfl) Tryd.underlying3 rfl) ?_
  (try simp only [zP, zN, zA, zB, zC])
  refine ef_ (fun K47 hK47 => ?_)
  refine e_call Tryd.func35 (by kernel_rfl) rfl #[.agg (#[.slice Aq E.L.length z, .int .i64 E.last]), .int .i64 o.id, .int .i64 o.n] (by rfl) rfl rfl (by first | rfl | (simp only [List.map_toArray, List.map_cons, List.map_nil]; first | done | rfl)) ((rread_l (id := o.id) (m := o.n) ⟨SQ.out, HZ.out⟩ (by have := HN.out; omega))) ?_
  rintro en w54 ⟨A48, z49, rfl, ⟨⟨h150, h251⟩, h452⟩, cc53⟩
  refine ⟨_, rfl, ?_⟩
  have xs55 := Lib.hid (show ∀ k_, k_ ∈ xb (.slice A48 (readS E o.id o.n).L.length z49) → k_ ∉ Bs40 from fun k_ hk_ hB_ => (h452 k_ hk_).elim (fun h7 => hr45.out k_ h7 hB_) (fun h8 => by have := (EX.out.lt k_ hB_).2; omega))
  have nx56 := Lib.hid (show g3 ∉ xb (.slice A48 (readS E o.id o.n).L.length z49) from fun hk => (h452 _ hk).elim nx10.out (fun h8 => by have := Fg3.out.lt; omega))
  have nx57 := Lib.hid (show g12 ∉ xb (.slice A48 (readS E o.id o.n).L.length z49) from fun hk => (h452 _ hk).elim nx19.out (fun h8 => by have := Fg12.out.lt; omega))
  have nx58 := Lib.hid (show g21 ∉ xb (.slice A48 (readS E o.id o.n).L.length z49) from fun hk => (h452 _ hk).elim nx28.out (fun h8 => by have := Fg21.out.lt; omega))
  have HNW := Lib.hid (show ∀ k, k ∈ xb (.slice A48 (readS E o.id o.n).L.length z49) → k ∈ xb (.slice Aq E.L.length z) ∨ w.heap.size ≤ k from fun k hk => (h452 k hk).imp (fun h => h) (fun h => Nat.le_trans C0.out.size h)); clear h452
  have HZ2 := Lib.hid h251; clear h251
  have C0' := Lib.hid (show Ch (Bs0) w w54 from C0.out.trans' cc53 (fun x hx => absurd hx (by simp)))
  have EX' := Lib.hid (show ExIs w54 lo Bs40 x (c) (readS E o.id o.n) from EX.out.ch cc53 (fun _ _ h => absurd h (by simp)))
  have SQ' := Lib.hid (show SrcIs w54 (.slice Aq E.L.length z) (E.L.length) (E.L.flatMap sesC) 6 from SQ.out.chx cc53 xnin_nil)
  have Fg3' := Lib.hid (show Blk w54 g3 (#[.slice Aq E.L.length z, .int .i64 E.last]) 44 from cc53.blk Fg3.out nin_nil)
  have Fg12' := Lib.hid (show Blk w54 g12 (#[.int .i64 o.kind, .int .i64 o.id, .int .i64 o.box, .int .i64 o.ctr, .int .i64 o.n, .string o.s]) 28 from cc53.blk Fg12.out nin_nil)
  have Fg21' := Lib.hid (show Blk w54 g21 (#[.slice none 0 0, .int .i64 0]) 44 from cc53.blk Fg21.out nin_nil)
  clear C0 EX SQ Fg3 Fg12 Fg21
  have C0 := C0'; clear C0'
  have EX := EX'; clear EX'
  have SQ := SQ'; clear SQ'
  have Fg3 := Fg3'; clear Fg3'
  have Fg12 := Fg12'; clear Fg12'
  have Fg21 := Fg21'; clear Fg21'
  clear cc53
  have SN := Lib.hid (show SrcIs w54 (.slice A48 (readS E o.id o.n).L.length z49) ((readS E o.id o.n).L.length) ((readS E o.id o.n).L.flatMap sesC) 6 from h150)
  refine hK47 _ _ ?_; clear hK47 K47
  (try simp only [zP, zN, zA, zB, zC])
  refine pu_ (v := .tuple #[.agg #[.slice A48 (readS E o.id o.n).L.length z49, .int .i64 (readS E o.id o.n).last], .string (readR E o.id o.n).1, .int .i64 (readR E o.id o.n).2]) (y_move rfl (by rfl) (by rfl)) ?_
  (try simp only [zP, zN, zA, zB, zC])
  refine pu_ (v := .agg #[.slice A48 (readS E o.id o.n).L.length z49, .int .i64 (readS E o.id o.n).last]) (y_run (by rfl) (fun W => by go_simp)) ?_
  (try simp only [zP, zN, zA, zB, zC])
  refine pu_ (v := .string (readR E o.id o.n).1) (y_run (by rfl) (fun W => by go_simp)) ?_
  (try simp only [zP, zN, zA, zB, zC])
  refine pu_ (v := .int .i64 (readR E o.id o.n).2) (y_run (by rfl) (fun W => by go_simp)) ?_
  (try simp only [zP, zN, zA, zB, zC])
  refine ef_ (fun K59 hK59 => ?_)
  refine e_storeN (cells := #[.slice A48 (readS E o.id o.n).L.length z49, .int .i64 (readS E o.id o.n).last]) (by rfl) rfl rfl (by rfl) (by rfl) Fg3.out (by kernel_rfl) (by rfl) (ones_cons rfl (ones_cons rfl ones_nil)) ?_
  rintro w60 B61 C62
  have C0' := Lib.hid (show Ch (Bs0) w w60 from C0.out.trans' C62 (inw_cons (.inr nw8.out) inw_nil))
  have EX' := Lib.hid (show ExIs w60 lo Bs40 x (c) (readS E o.id o.n) from EX.out.ch C62 (fun k hk hm => (List.mem_cons.1 hm).elim (fun e => hs42.out (e ▸ hk)) (fun h => (fun _ _ h => absurd h (by simp)) k hk h)))
  have SQ' := Lib.hid (show SrcIs w60 (.slice Aq E.L.length z) (E.L.length) (E.L.flatMap sesC) 6 from SQ.out.chx C62 (xnin_cons nx10.out xnin_nil))
  have Fg12' := Lib.hid (show Blk w60 g12 (#[.int .i64 o.kind, .int .i64 o.id, .int .i64 o.box, .int .i64 o.ctr, .int .i64 o.n, .string o.s]) 28 from C62.blk Fg12.out (nin_cons (Blk.ne_type Fg12.out Fg3.out (by decide)) nin_nil))
  have Fg21' := Lib.hid (show Blk w60 g21 (#[.slice none 0 0, .int .i64 0]) 44 from C62.blk Fg21.out (nin_cons (Ne.symm ne29.out) nin_nil))
  have SN' := Lib.hid (show SrcIs w60 (.slice A48 (readS E o.id o.n).L.length z49) ((readS E o.id o.n).L.length) ((readS E o.id o.n).L.flatMap sesC) 6 from SN.out.chx C62 (xnin_cons nx56.out xnin_nil))
  clear C0 EX SQ Fg12 Fg21 SN
  have C0 := C0'; clear C0'
  have EX := EX'; clear EX'
  have SQ := SQ'; clear SQ'
  have Fg12 := Fg12'; clear Fg12'
  have Fg21 := Fg21'; clear Fg21'
  have SN := SN'; clear SN'
  clear Fg3; have Fg3 := Lib.hid (show Blk w60 g3 (#[.slice A48 (readS E o.id o.n).L.length z49, .int .i64 (readS E o.id o.n).last]) 44 from B61); clear B61 C62
  refine hK59 _ _ ?_; clear hK59 K59
  (try simp only [zP, zN, zA, zB, zC])
  refine pu_ (v := .string (readR E o.id o.n).1) (y_assign rfl (by rfl) (by rfl)) ?_
  (try simp only [zP, zN, zA, zB, zC])
  refine pu_ (v := .int .i64 (readR E o.id o.n).2) (y_assign rfl (by rfl) (by rfl)) ?_
  (try simp only [zP, zN, zA, zB, zC])
  refine nl_ ?_
  refine ib_norm ?_
  refine th_norm (hK33 _ _ ?_); try clear hK33 K33
  refine s_ (fun K63 hK63 => ?_)
  refine ld_ (v := .agg (#[.slice A48 (readS E o.id o.n).L.length z49, .int .i64 (readS E o.id o.n).last])) rfl (by rfl) (by rfl) (run_loadVar_row _ _ 44 44 (#[.slice A48 (readS E o.id o.n).L.length z49, .int .i64 (readS E o.id o.n).last]) (0, 0) _ Fg3.out Tryd.underlying44 rfl (by kernel_rfl)) ?_
  (try simp only [zP, zN, zA, zB, zC])
  refine pu_ (v := .int .i64 0) (y_move rfl (by rfl) (by rfl)) ?_
  (try simp only [zP, zN, zA, zB, zC])
  refine pu_ (v := .int .i64 0) (y_move rfl (by rfl) (by rfl)) ?_
  (try simp only [zP, zN, zA, zB, zC])
  refine pu_ (v := .bool true) (y_run (by rfl) (fun W => by first | (go_simp; done) | (go_simp; rfl) | (go_simp; decide))) ?_
  (try simp only [zP, zN, zA, zB, zC])
  refine pu_ (v := .bool true) (y_move rfl (by rfl) (by rfl)) ?_
  (try simp only [zP, zN, zA, zB, zC])
  refine pu_ (v := .string (readR E o.id o.n).1) (y_move rfl (by rfl) (by rfl)) ?_
  (try simp only [zP, zN, zA, zB, zC])
  refine pu_ (v := .string (readR E o.id o.n).1) (y_move rfl (by rfl) (by rfl)) ?_
  (try simp only [zP, zN, zA, zB, zC])
  refine pu_ (v := .bool true) (y_run (by rfl) (fun W => by first | (go_simp; done) | (go_simp; rfl) | (go_simp; decide))) ?_
  (try simp only [zP, zN, zA, zB, zC])
  refine pu_ (v := .bool true) (y_pick (t := true) (by rfl) rfl (by rfl) (by rfl)) ?_
  (try simp only [zP, zN, zA, zB, zC])
  refine pu_ (v := .bool true) (y_move rfl (by rfl) (by rfl)) ?_
  (try simp only [zP, zN, zA, zB, zC])
  refine pu_ (v := .int .i64 (readR E o.id o.n).2) (y_move rfl (by rfl) (by rfl)) ?_
  (try simp only [zP, zN, zA, zB, zC])
  refine pu_ (v := .int .i64 (readR E o.id o.n).2) (y_move rfl (by rfl) (by rfl)) ?_
  (try simp only [zP, zN, zA, zB, zC])
  refine pu_ (v := .bool true) (y_run (by rfl) (fun W => by first | (go_simp; done) | (go_simp; rfl) | (go_simp; decide))) ?_
  (try simp only [zP, zN, zA, zB, zC])
  refine pu_ (v := .bool true) (y_pick (t := true) (by rfl) rfl (by rfl) (by rfl)) ?_
  (try simp only [zP, zN, zA, zB, zC])
  refine ef_ (fun K64 hK64 => ?_)
  refine e_storeN (cells := (#[.slice A48 (readS E o.id o.n).L.length z49, .int .i64 (readS E o.id o.n).last])) (by rfl) rfl rfl (by rfl) (by rfl) Fg21.out (by kernel_rfl) (by rfl) (ones_cons rfl (ones_cons rfl ones_nil)) ?_
  rintro w65 B66 C67
  have C0' := Lib.hid (show Ch (Bs0) w w65 from C0.out.trans' C67 (inw_cons (.inr nw26.out) inw_nil))
  have EX' := Lib.hid (show ExIs w65 lo Bs40 x (c) (readS E o.id o.n) from EX.out.ch C67 (fun k hk hm => (List.mem_cons.1 hm).elim (fun e => hs44.out (e ▸ hk)) (fun h => (fun _ _ h => absurd h (by simp)) k hk h)))
  have SQ' := Lib.hid (show SrcIs w65 (.slice Aq E.L.length z) (E.L.length) (E.L.flatMap sesC) 6 from SQ.out.chx C67 (xnin_cons nx28.out xnin_nil))
  have Fg3' := Lib.hid (show Blk w65 g3 (#[.slice A48 (readS E o.id o.n).L.length z49, .int .i64 (readS E o.id o.n).last]) 44 from C67.blk Fg3.out (nin_cons ne29.out nin_nil))
  have Fg12' := Lib.hid (show Blk w65 g12 (#[.int .i64 o.kind, .int .i64 o.id, .int .i64 o.box, .int .i64 o.ctr, .int .i64 o.n, .string o.s]) 28 from C67.blk Fg12.out (nin_cons (Blk.ne_type Fg12.out Fg21.out (by decide)) nin_nil))
  have SN' := Lib.hid (show SrcIs w65 (.slice A48 (readS E o.id o.n).L.length z49) ((readS E o.id o.n).L.length) ((readS E o.id o.n).L.flatMap sesC) 6 from SN.out.chx C67 (xnin_cons nx58.out xnin_nil))
  clear C0 EX SQ Fg3 Fg12 SN
  have C0 := C0'; clear C0'
  have EX := EX'; clear EX'
  have SQ := SQ'; clear SQ'
  have Fg3 := Fg3'; clear Fg3'
  have Fg12 := Fg12'; clear Fg12'
  have SN := SN'; clear SN'
  clear Fg21; have Fg21 := Lib.hid (show Blk w65 g21 ((#[.slice A48 (readS E o.id o.n).L.length z49, .int .i64 (readS E o.id o.n).last])) 44 from B66); clear B66 C67
  refine hK64 _ _ ?_; clear hK64 K64
  (try simp only [zP, zN, zA, zB, zC])
  refine pu_ (v := .bool true) (y_assign rfl (by rfl) (by rfl)) ?_
  (try simp only [zP, zN, zA, zB, zC])
  refine nl_ (hK63 _ _ ?_); clear hK63 K63
  refine wp_ret ?_
  refine hQ _ _ _ ?_
  refine bodyPost_ret (res2 rfl (rdv_cell (by rfl) (run_loadVar_row _ _ 44 44 ((#[.slice A48 (readS E o.id o.n).L.length z49, .int .i64 (readS E o.id o.n).last])) (0, 0) _ Fg21.out Tryd.underlying44 rfl (by kernel_rfl))) (rdv_tmp (v := .bool true) (by rfl))) rfl ?_
  exact ⟨_, _, _, rfl, ⟨⟨SN.out, HZ2.out⟩, HNW.out⟩, EX.out.up (by omega), C0.out, hb46.out, xs55.out⟩
theorem does_turn {Aq : Option Addr} {z lo x c : Nat} {Bs0 : List Nat} {E : HX} {o : HA} {w0 : World} (HZ : Hid (E.L.length ≤ z ∧ z ≤ maxLen)) (HN : Hid (E.L.length ≤ 8)) (HC : Hid (c ≤ 90000)) (HLA : Hid (E.last ≤ 100000)) (HOK : Hid (IntOk o.n)) (HSZ : Hid (o.s.size ≤ 300)) (HTB : Hid (Tabs w0)) (HLO : Hid (lo = w0.heap.size)) (HB0 : Hid (Below w0.heap.size w0 w)) (HXS : Hid (∀ k, k ∈ xb (.slice Aq E.L.length z) → k ∉ Bs0)) (HK : Hid (o.kind = 3)) (EX : Hid (ExIs w lo Bs0 x (c) (E))) (SQ : Hid (SrcIs w (.slice Aq E.L.length z) (E.L.length) (E.L.flatMap sesC) 6)) :
    Calls Tryd.prog 17 #[.pointer (some ⟨x, 0, none⟩), .agg #[.slice Aq E.L.length z, .int .i64 E.last], .agg #[.int .i64 o.kind, .int .i64 o.id, .int .i64 o.box, .int .i64 o.ctr, .int .i64 o.n, .string o.s]] w fun en w' => ∃ Q' z' Bs', en = .returned (.tuple #[.agg #[.slice Q' (turnS E o.id o.n).L.length z', .int .i64 (turnS E o.id o.n).last], .bool true]) ∧ RStep w w' Aq z E Q' z' (turnS E o.id o.n) ∧ ExIs w' lo Bs' x (c + 64) (turnS E o.id o.n) ∧ Ch Bs0 w w' ∧ (∀ k, k ∈ Bs' → k ∈ Bs0 ∨ w.heap.size ≤ k) ∧ ∀ k, k ∈ xb (.slice Q' (turnS E o.id o.n).L.length z') → k ∉ Bs' := by
  have C0 := Lib.hid (Ch.refl (Bs0) w)
  have D32 := Lib.hid (show ¬ o.kind = 0 by have := HK.out; omega)
  have D53 := Lib.hid (show ¬ o.kind = 1 by have := HK.out; omega)
  have D74 := Lib.hid (show ¬ o.kind = 2 by have := HK.out; omega)
  have D95 := Lib.hid (show  o.kind = 3 by have := HK.out; omega)
  have HSH := Lib.hid (show Shorts E from EX.out.qs)
  have HSB := Lib.hid (show ∀ k_, k_ ∈ Bs0 → k_ ∈ Bs0 ∨ w.heap.size ≤ k_ from fun k_ hk_ => .inl hk_)
  have HL0 := Lib.hid (show ∀ y, y ∈ Bs0 → w0.heap.size ≤ y from fun y hy => by rw [← HLO.out]; exact (EX.out.lt y hy).1)
  go_enter Tryd.func17, Tryd.ntmps17
  refine q_ (fun Q hQ hP => ?_)
  refine s_ (fun K1 hK1 => ?_)
  refine ef_ (fun K2 hK2 => ?_)
  refine e_boxN (by rfl) rfl rfl (cs := #[.slice Aq E.L.length z, .int .i64 E.last]) (v := .agg #[.slice Aq E.L.length z, .int .i64 E.last]) (by rfl) rfl ?_
  rintro g3 w4 HG5 B6 C7
  have nw8 := Lib.hid (show w.heap.size ≤ g3 by have := C0.out.size; have := HG5.out; omega)
  have hs9 := Lib.hid (show g3 ∉ Bs0 from fun hk => by have h8 := (EX.out.lt _ hk).2; have := HG5.out; omega)
  have nx10 := Lib.hid (SQ.out.ne_new (by decide) HG5)
  have C0' := Lib.hid (show Ch (Bs0) w w4 from C0.out.trans' C7 (fun x hx => absurd hx (by simp)))
  have EX' := Lib.hid (show ExIs w4 lo Bs0 x (c) (E) from EX.out.ch C7 (fun _ _ h => absurd h (by simp)))
  have SQ' := Lib.hid (show SrcIs w4 (.slice Aq E.L.length z) (E.L.length) (E.L.flatMap sesC) 6 from SQ.out.chx C7 xnin_nil)
  clear C0 EX SQ
  have C0 := C0'; clear C0'
  have EX := EX'; clear EX'
  have SQ := SQ'; clear SQ'
  have Fg3 := Lib.hid (show Blk w4 g3 (#[.slice Aq E.L.length z, .int .i64 E.last]) 44 from B6); clear B6 C7
  refine hK2 _ _ ?_; clear hK2 K2
  (try simp only [zP, zN, zA, zB, zC])
  refine ef_ (fun K11 hK11 => ?_)
  refine e_boxN (by rfl) rfl rfl (cs := #[.int .i64 o.kind, .int .i64 o.id, .int .i64 o.box, .int .i64 o.ctr, .int .i64 o.n, .string o.s]) (v := .agg #[.int .i64 o.kind, .int .i64 o.id, .int .i64 o.box, .int .i64 o.ctr, .int .i64 o.n, .string o.s]) (by rfl) rfl ?_
  rintro g12 w13 HG14 B15 C16
  have nw17 := Lib.hid (show w.heap.size ≤ g12 by have := C0.out.size; have := HG14.out; omega)
  have hs18 := Lib.hid (show g12 ∉ Bs0 from fun hk => by have h8 := (EX.out.lt _ hk).2; have := HG14.out; omega)
  have nx19 := Lib.hid (SQ.out.ne_new (by decide) HG14)
  have C0' := Lib.hid (show Ch (Bs0) w w13 from C0.out.trans' C16 (fun x hx => absurd hx (by simp)))
  have EX' := Lib.hid (show ExIs w13 lo Bs0 x (c) (E) from EX.out.ch C16 (fun _ _ h => absurd h (by simp)))
  have SQ' := Lib.hid (show SrcIs w13 (.slice Aq E.L.length z) (E.L.length) (E.L.flatMap sesC) 6 from SQ.out.chx C16 xnin_nil)
  have Fg3' := Lib.hid (show Blk w13 g3 (#[.slice Aq E.L.length z, .int .i64 E.last]) 44 from C16.blk Fg3.out nin_nil)
  clear C0 EX SQ Fg3
  have C0 := C0'; clear C0'
  have EX := EX'; clear EX'
  have SQ := SQ'; clear SQ'
  have Fg3 := Fg3'; clear Fg3'
  have Fg12 := Lib.hid (show Blk w13 g12 (#[.int .i64 o.kind, .int .i64 o.id, .int .i64 o.box, .int .i64 o.ctr, .int .i64 o.n, .string o.s]) 28 from B15); clear B15 C16
  refine hK11 _ _ ?_; clear hK11 K11
  (try simp only [zP, zN, zA, zB, zC])
  refine ef_ (fun K20 hK20 => ?_)
  refine e_alloc (by rfl) rfl rfl (cs := #[.slice none 0 0, .int .i64 0]) (by kernel_rfl) ?_
  rintro g21 w22 HG23 B24 C25
  have nw26 := Lib.hid (show w.heap.size ≤ g21 by have := C0.out.size; have := HG23.out; omega)
  have hs27 := Lib.hid (show g21 ∉ Bs0 from fun hk => by have h8 := (EX.out.lt _ hk).2; have := HG23.out; omega)
  have nx28 := Lib.hid (SQ.out.ne_new (by decide) HG23)
  have ne29 := Lib.hid (Fg3.out.ne_new HG23)
  have C0' := Lib.hid (show Ch (Bs0) w w22 from C0.out.trans' C25 (fun x hx => absurd hx (by simp)))
  have EX' := Lib.hid (show ExIs w22 lo Bs0 x (c) (E) from EX.out.ch C25 (fun _ _ h => absurd h (by simp)))
  have SQ' := Lib.hid (show SrcIs w22 (.slice Aq E.L.length z) (E.L.length) (E.L.flatMap sesC) 6 from SQ.out.chx C25 xnin_nil)
  have Fg3' := Lib.hid (show Blk w22 g3 (#[.slice Aq E.L.length z, .int .i64 E.last]) 44 from C25.blk Fg3.out nin_nil)
  have Fg12' := Lib.hid (show Blk w22 g12 (#[.int .i64 o.kind, .int .i64 o.id, .int .i64 o.box, .int .i64 o.ctr, .int .i64 o.n, .string o.s]) 28 from C25.blk Fg12.out nin_nil)
  clear C0 EX SQ Fg3 Fg12
  have C0 := C0'; clear C0'
  have EX := EX'; clear EX'
  have SQ := SQ'; clear SQ'
  have Fg3 := Fg3'; clear Fg3'
  have Fg12 := Fg12'; clear Fg12'
  have Fg21 := Lib.hid (show Blk w22 g21 (#[.slice none 0 0, .int .i64 0]) 44 from B24); clear B24 C25
  refine hK20 _ _ ?_; clear hK20 K20
  (try simp only [zP, zN, zA, zB, zC])
  refine pu_ (v := .bool false) (y_assign rfl (by rfl) (by rfl)) ?_
  (try simp only [zP, zN, zA, zB, zC])
  refine nl_ (hK1 _ _ ?_); clear hK1 K1
  refine s_ (fun K30 hK30 => ?_)
  refine pu_ (v := .int .i64 0) (y_assign rfl (by rfl) (by rfl)) ?_
  (try simp only [zP, zN, zA, zB, zC])
  refine pu_ (v := .int .i64 0) (y_assign rfl (by rfl) (by rfl)) ?_
  (try simp only [zP, zN, zA, zB, zC])
  refine nl_ (hK30 _ _ ?_); clear hK30 K30
  refine s_ (fun K31 hK31 => ?_)
  refine pu_ (v := .string {data := #[]}) (y_assign rfl (by rfl) (by rfl)) ?_
  (try simp only [zP, zN, zA, zB, zC])
  refine pu_ (v := .string {data := #[]}) (y_assign rfl (by rfl) (by rfl)) ?_
  (try simp only [zP, zN, zA, zB, zC])
  refine nl_ (hK31 _ _ ?_); clear hK31 K31
  refine s_ (fun K32 hK32 => ?_)
  refine pu_ (v := .int .i64 0) (y_assign rfl (by rfl) (by rfl)) ?_
  (try simp only [zP, zN, zA, zB, zC])
  refine pu_ (v := .int .i64 0) (y_assign rfl (by rfl) (by rfl)) ?_
  (try simp only [zP, zN, zA, zB, zC])
  refine nl_ (hK32 _ _ ?_); clear hK32 K32
  refine sq_ (fun K33 hK33 => ?_)
  refine s_ (fun K34 hK34 => ?_)
  refine pu_ (v := .pointer (some ⟨g12, 0, none⟩)) (y_run (by rfl) (fun W => by go_simp)) ?_
  (try simp only [zP, zN, zA, zB, zC])
  refine ld_ (v := .int .i64 o.kind) rfl (by rfl) (by rfl) (run_load_one ((Fg12.out.cell 0).trans rfl) Tryd.underlying3 rfl) ?_
  (try simp only [zP, zN, zA, zB, zC])
  refine nl_ (hK34 _ _ ?_); clear hK34 K34
  refine wp_block ?_
  refine s_ (fun K35 hK35 => ?_)
  refine pu_ (v := .bool false) (y_run (by rfl) (fun W => by have d := D32.out; go_simp)) ?_
  (try simp only [zP, zN, zA, zB, zC])
  refine pu_ (v := .bool false) (y_assign rfl (by rfl) (by rfl)) ?_
  (try simp only [zP, zN, zA, zB, zC])
  refine nl_ (hK35 _ _ ?_); clear hK35 K35
  refine wp_cond_false rfl ?_
  refine s_ (fun K36 hK36 => ?_)
  refine pu_ (v := .bool false) (y_run (by rfl) (fun W => by have d := D53.out; go_simp)) ?_
  (try simp only [zP, zN, zA, zB, zC])
  refine pu_ (v := .bool false) (y_assign rfl (by rfl) (by rfl)) ?_
  (try simp only [zP, zN, zA, zB, zC])
  refine nl_ (hK36 _ _ ?_); clear hK36 K36
  refine wp_cond_false rfl ?_
  refine s_ (fun K37 hK37 => ?_)
  refine pu_ (v := .bool false) (y_run (by rfl) (fun W => by have d := D74.out; go_simp)) ?_
  (try simp only [zP, zN, zA, zB, zC])
  refine pu_ (v := .bool false) (y_assign rfl (by rfl) (by rfl)) ?_
  (try simp only [zP, zN, zA, zB, zC])
  refine nl_ (hK37 _ _ ?_); clear hK37 K37
  refine wp_cond_false rfl ?_
  refine s_ (fun K38 hK38 => ?_)
  refine pu_ (v := .bool true) (y_run (by rfl) (fun W => by have d := D95.out; go_simp)) ?_
  (try simp only [zP, zN, zA, zB, zC])
  refine pu_ (v := .bool true) (y_assign rfl (by rfl) (by rfl)) ?_
  (try simp only [zP, zN, zA, zB, zC])
  refine nl_ (hK38 _ _ ?_); clear hK38 K38
  refine wp_cond_true rfl ?_
  refine s_ (fun K39 hK39 => ?_)
  refine pu_ (v := .pointer (some ⟨x, 0, none⟩)) (y_move rfl (by rfl) (by rfl)) ?_
  (try simp only [zP, zN, zA, zB, zC])
  refine pu_ (v := .pointer (some ⟨g12, 1, none⟩)) (y_run (by rfl) (fun W => by go_simp)) ?_
  (try simp only [zP, zN, zA, zB, zC])
  refine ld_ (v := .int .i64 o.id) rfl (by rfl) (by rfl) (run_load_one ((Fg12.out.cell 1).trans rfl) Tryd.underlying3 rfl) ?_
  (try simp only [zP, zN, zA, zB, zC])
  refine pu_ (v := .pointer (some ⟨g12, 4, none⟩)) (y_run (by rfl) (fun W => by go_simp)) ?_
  (try simp only [zP, zN, zA, zB, zC])
  refine ld_ (v := .int .i64 o.n) rfl (by rfl) (by rfl) (run_load_one ((Fg12.out.cell 4).trans rfl) Tryd.underlying3 rfl) ?_
  (try simp only [zP, zN, zA, zB, zC])
  refine ef_ (fun K40 hK40 => ?_)
  refine e_call Tryd.func11 (by kernel_rfl) rfl #[.pointer (some ⟨x, 0, none⟩), .int .i64 o.id, .int .i64 o.n] (by rfl) rfl rfl (by first | rfl | (simp only [List.map_toArray, List.map_cons, List.map_nil]; first | done | rfl)) ((turn_l (w0 := w0) (id := o.id) (m := o.n) EX.out (by have := HN.out; omega) (by have := HC.out; omega) HOK.out HTB.out HLO.out (HB0.out.trans (C0.out.below HB0.out.size HL0.out)))) ?_
  rintro en w42 ⟨rfl, Bs41, bk, cc, bel⟩
  refine ⟨_, rfl, ?_⟩
  have hs43 := Lib.hid (show g3 ∉ Bs41 from fun h9 => (bel _ h9).elim hs9.out (fun h8 => by have := Fg3.out.lt; omega))
  have hs44 := Lib.hid (show g12 ∉ Bs41 from fun h9 => (bel _ h9).elim hs18.out (fun h8 => by have := Fg12.out.lt; omega))
  have hs45 := Lib.hid (show g21 ∉ Bs41 from fun h9 => (bel _ h9).elim hs27.out (fun h8 => by have := Fg21.out.lt; omega))
  have hr46 := Lib.hid (show ∀ k_, k_ ∈ xb (.slice Aq E.L.length z) → k_ ∉ Bs41 from fun k_ hk_ hB_ => (bel k_ hB_).elim (HXS.out k_ hk_) (fun h8 => by have := SQ.out.lt (by decide) k_ hk_; omega))
  have hb47 := Lib.hid (show ∀ k_, k_ ∈ Bs41 → k_ ∈ Bs0 ∨ w.heap.size ≤ k_ from fun k_ hk_ => (bel k_ hk_).elim (HSB.out k_) (fun h_ => .inr (Nat.le_trans C0.out.size h_)))
  have C0' := Lib.hid (show Ch (Bs0) w w42 from C0.out.trans' cc (fun x hx => .inl hx))
  have SQ' := Lib.hid (show SrcIs w42 (.slice Aq E.L.length z) (E.L.length) (E.L.flatMap sesC) 6 from SQ.out.chx cc HXS.out)
  have Fg3' := Lib.hid (show Blk w42 g3 (#[.slice Aq E.L.length z, .int .i64 E.last]) 44 from cc.blk Fg3.out hs9.out)
  have Fg12' := Lib.hid (show Blk w42 g12 (#[.int .i64 o.kind, .int .i64 o.id, .int .i64 o.box, .int .i64 o.ctr, .int .i64 o.n, .string o.s]) 28 from cc.blk Fg12.out hs18.out)
  have Fg21' := Lib.hid (show Blk w42 g21 (#[.slice none 0 0, .int .i64 0]) 44 from cc.blk Fg21.out hs27.out)
  clear C0 SQ Fg3 Fg12 Fg21
  have C0 := C0'; clear C0'
  have SQ := SQ'; clear SQ'
  have Fg3 := Fg3'; clear Fg3'
  have Fg12 := Fg12'; clear Fg12'
  have Fg21 := Fg21'; clear Fg21'
  clear EX cc bel
  have EX := Lib.hid (show ExIs w42 lo Bs41 x (c + 64) (turnS E o.id o.n) from bk)
  clear bk
  refine hK40 _ _ ?_; clear hK40 K40
  (try simp only [zP, zN, zA, zB, zC])
  refine pu_ (v := .int .i64 (turnR E o.id o.n)) (y_assign rfl (by rfl) (by rfl)) ?_
  (try simp only [zP, zN, zA, zB, zC])
  refine nl_ (hK39 _ _ ?_); clear hK39 K39
  refine r_ ?_
  refine ld_ (v := .agg (#[.slice Aq E.L.length z, .int .i64 E.last])) rfl (by rfl) (by rfl) (run_loadVar_row _ _ 44 44 (#[.slice Aq E.L.length z, .int .i64 E.last]) (0, 0) _ Fg3.out Tryd.underlying44 rfl (by kernel_rfl)) ?_
  (try simp only [zP, zN, zA, zB, zC])
  refine pu_ (v := .pointer (some ⟨g12, 1, none⟩)) (y_run (by rfl) (fun W => by go_simp)) ?_
  (try simp only [zP, zN, zA, zB, zC])
  refine ld_ (v := .int .i64 o.id) rfl (by rfl) (by rfl) (run_load_one ((Fg12.out.cell 1).trans rfl) Tryd.underlying3 rfl) ?_
  (try simp only [zP, zN, zA, zB, zC])
  refine pu_ (v := .pointer (some ⟨g12, 4, none⟩)) (y_run (by rfl) (fun W => by go_simp)) ?_
  (try simp only [zP, zN, zA, zB, zC])
  refine ld_ (v := .int .i64 o.n) rfl (by rfl) (by rfl) (run_load_one ((Fg12.out.cell 4).trans rfl) Tryd.underlying3 rfl) ?_
  (try simp only [zP, zN, zA, zB, zC])
  refine ef_ (fun K48 hK48 => ?_)
  refine e_call Tryd.func36 (by kernel_rfl) rfl #[.agg (#[.slice Aq E.L.length z, .int .i64 E.last]), .int .i64 o.id, .int .i64 o.n] (by rfl) rfl rfl (by first | rfl | (simp only [List.map_toArray, List.map_cons, List.map_nil]; first | done | rfl)) ((rturn_l (id := o.id) (m := o.n) ⟨SQ.out, HZ.out⟩ (by have := HN.out; omega) HSH.out)) ?_
  rintro en w55 ⟨A49, z50, rfl, ⟨⟨h151, h252⟩, h453⟩, cc54⟩
  refine ⟨_, rfl, ?_⟩
  have xs56 := Lib.hid (show ∀ k_, k_ ∈ xb (.slice A49 (turnS E o.id o.n).L.length z50) → k_ ∉ Bs41 from fun k_ hk_ hB_ => (h453 k_ hk_).elim (fun h7 => hr46.out k_ h7 hB_) (fun h8 => by have := (EX.out.lt k_ hB_).2; omega))
  have nx57 := Lib.hid (show g3 ∉ xb (.slice A49 (turnS E o.id o.n).L.length z50) from fun hk => (h453 _ hk).elim nx10.out (fun h8 => by have := Fg3.out.lt; omega))
  have nx58 := Lib.hid (show g12 ∉ xb (.slice A49 (turnS E o.id o.n).L.length z50) from fun hk => (h453 _ hk).elim nx19.out (fun h8 => by have := Fg12.out.lt; omega))
  have nx59 := Lib.hid (show g21 ∉ xb (.slice A49 (turnS E o.id o.n).L.length z50) from fun hk => (h453 _ hk).elim nx28.out (fun h8 => by have := Fg21.out.lt; omega))
  have HNW := Lib.hid (show ∀ k, k ∈ xb (.slice A49 (turnS E o.id o.n).L.length z50) → k ∈ xb (.slice Aq E.L.length z) ∨ w.heap.size ≤ k from fun k hk => (h453 k hk).imp (fun h => h) (fun h => Nat.le_trans C0.out.size h)); clear h453
  have HZ2 := Lib.hid h252; clear h252
  have C0' := Lib.hid (show Ch (Bs0) w w55 from C0.out.trans' cc54 (fun x hx => absurd hx (by simp)))
  have EX' := Lib.hid (show ExIs w55 lo Bs41 x (c + 64) (turnS E o.id o.n) from EX.out.ch cc54 (fun _ _ h => absurd h (by simp)))
  have SQ' := Lib.hid (show SrcIs w55 (.slice Aq E.L.length z) (E.L.length) (E.L.flatMap sesC) 6 from SQ.out.chx cc54 xnin_nil)
  have Fg3' := Lib.hid (show Blk w55 g3 (#[.slice Aq E.L.length z, .int .i64 E.last]) 44 from cc54.blk Fg3.out nin_nil)
  have Fg12' := Lib.hid (show Blk w55 g12 (#[.int .i64 o.kind, .int .i64 o.id, .int .i64 o.box, .int .i64 o.ctr, .int .i64 o.n, .string o.s]) 28 from cc54.blk Fg12.out nin_nil)
  have Fg21' := Lib.hid (show Blk w55 g21 (#[.slice none 0 0, .int .i64 0]) 44 from cc54.blk Fg21.out nin_nil)
  clear C0 EX SQ Fg3 Fg12 Fg21
  have C0 := C0'; clear C0'
  have EX := EX'; clear EX'
  have SQ := SQ'; clear SQ'
  have Fg3 := Fg3'; clear Fg3'
  have Fg12 := Fg12'; clear Fg12'
  have Fg21 := Fg21'; clear Fg21'
  clear cc54
  have SN := Lib.hid (show SrcIs w55 (.slice A49 (turnS E o.id o.n).L.length z50) ((turnS E o.id o.n).L.length) ((turnS E o.id o.n).L.flatMap sesC) 6 from h151)
  refine hK48 _ _ ?_; clear hK48 K48
  (try simp only [zP, zN, zA, zB, zC])
  refine pu_ (v := .tuple #[.agg #[.slice A49 (turnS E o.id o.n).L.length z50, .int .i64 (turnS E o.id o.n).last], .int .i64 (turnR E o.id o.n)]) (y_move rfl (by rfl) (by rfl)) ?_
  (try simp only [zP, zN, zA, zB, zC])
  refine pu_ (v := .agg #[.slice A49 (turnS E o.id o.n).L.length z50, .int .i64 (turnS E o.id o.n).last]) (y_run (by rfl) (fun W => by go_simp)) ?_
  (try simp only [zP, zN, zA, zB, zC])
  refine pu_ (v := .int .i64 (turnR E o.id o.n)) (y_run (by rfl) (fun W => by go_simp)) ?_
  (try simp only [zP, zN, zA, zB, zC])
  refine ef_ (fun K60 hK60 => ?_)
  refine e_storeN (cells := #[.slice A49 (turnS E o.id o.n).L.length z50, .int .i64 (turnS E o.id o.n).last]) (by rfl) rfl rfl (by rfl) (by rfl) Fg3.out (by kernel_rfl) (by rfl) (ones_cons rfl (ones_cons rfl ones_nil)) ?_
  rintro w61 B62 C63
  have C0' := Lib.hid (show Ch (Bs0) w w61 from C0.out.trans' C63 (inw_cons (.inr nw8.out) inw_nil))
  have EX' := Lib.hid (show ExIs w61 lo Bs41 x (c + 64) (turnS E o.id o.n) from EX.out.ch C63 (fun k hk hm => (List.mem_cons.1 hm).elim (fun e => hs43.out (e ▸ hk)) (fun h => (fun _ _ h => absurd h (by simp)) k hk h)))
  have SQ' := Lib.hid (show SrcIs w61 (.slice Aq E.L.length z) (E.L.length) (E.L.flatMap sesC) 6 from SQ.out.chx C63 (xnin_cons nx10.out xnin_nil))
  have Fg12' := Lib.hid (show Blk w61 g12 (#[.int .i64 o.kind, .int .i64 o.id, .int .i64 o.box, .int .i64 o.ctr, .int .i64 o.n, .string o.s]) 28 from C63.blk Fg12.out (nin_cons (Blk.ne_type Fg12.out Fg3.out (by decide)) nin_nil))
  have Fg21' := Lib.hid (show Blk w61 g21 (#[.slice none 0 0, .int .i64 0]) 44 from C63.blk Fg21.out (nin_cons (Ne.symm ne29.out) nin_nil))
  have SN' := Lib.hid (show SrcIs w61 (.slice A49 (turnS E o.id o.n).L.length z50) ((turnS E o.id o.n).L.length) ((turnS E o.id o.n).L.flatMap sesC) 6 from SN.out.chx C63 (xnin_cons nx57.out xnin_nil))
  clear C0 EX SQ Fg12 Fg21 SN
  have C0 := C0'; clear C0'
  have EX := EX'; clear EX'
  have SQ := SQ'; clear SQ'
  have Fg12 := Fg12'; clear Fg12'
  have Fg21 := Fg21'; clear Fg21'
  have SN := SN'; clear SN'
  clear Fg3; have Fg3 := Lib.hid (show Blk w61 g3 (#[.slice A49 (turnS E o.id o.n).L.length z50, .int .i64 (turnS E o.id o.n).last]) 44 from B62); clear B62 C63
  refine hK60 _ _ ?_; clear hK60 K60
  (try simp only [zP, zN, zA, zB, zC])
  refine pu_ (v := .int .i64 (turnR E o.id o.n)) (y_assign rfl (by rfl) (by rfl)) ?_
  (try simp only [zP, zN, zA, zB, zC])
  refine nl_ ?_
  refine ib_norm ?_
  refine th_norm (hK33 _ _ ?_); try clear hK33 K33
  refine s_ (fun K64 hK64 => ?_)
  refine ld_ (v := .agg (#[.slice A49 (turnS E o.id o.n).L.length z50, .int .i64 (turnS E o.id o.n).last])) rfl (by rfl) (by rfl) (run_loadVar_row _ _ 44 44 (#[.slice A49 (turnS E o.id o.n).L.length z50, .int .i64 (turnS E o.id o.n).last]) (0, 0) _ Fg3.out Tryd.underlying44 rfl (by kernel_rfl)) ?_
  (try simp only [zP, zN, zA, zB, zC])
  refine pu_ (v := .int .i64 (turnR E o.id o.n)) (y_move rfl (by rfl) (by rfl)) ?_
  (try simp only [zP, zN, zA, zB, zC])
  refine pu_ (v := .int .i64 (turnR E o.id o.n)) (y_move rfl (by rfl) (by rfl)) ?_
  (try simp only [zP, zN, zA, zB, zC])
  refine pu_ (v := .bool true) (y_run (by rfl) (fun W => by first | (go_simp; done) | (go_simp; rfl) | (go_simp; decide))) ?_
  (try simp only [zP, zN, zA, zB, zC])
  refine pu_ (v := .bool true) (y_move rfl (by rfl) (by rfl)) ?_
  (try simp only [zP, zN, zA, zB, zC])
  refine pu_ (v := .string {data := #[]}) (y_move rfl (by rfl) (by rfl)) ?_
  (try simp only [zP, zN, zA, zB, zC])
  refine pu_ (v := .string {data := #[]}) (y_move rfl (by rfl) (by rfl)) ?_
  (try simp only [zP, zN, zA, zB, zC])
  refine pu_ (v := .bool true) (y_run (by rfl) (fun W => by first | (go_simp; done) | (go_simp; rfl) | (go_simp; decide))) ?_
  (try simp only [zP, zN, zA, zB, zC])
  refine pu_ (v := .bool true) (y_pick (t := true) (by rfl) rfl (by rfl) (by rfl)) ?_
  (try simp only [zP, zN, zA, zB, zC])
  refine pu_ (v := .bool true) (y_move rfl (by rfl) (by rfl)) ?_
  (try simp only [zP, zN, zA, zB, zC])
  refine pu_ (v := .int .i64 0) (y_move rfl (by rfl) (by rfl)) ?_
  (try simp only [zP, zN, zA, zB, zC])
  refine pu_ (v := .int .i64 0) (y_move rfl (by rfl) (by rfl)) ?_
  (try simp only [zP, zN, zA, zB, zC])
  refine pu_ (v := .bool true) (y_run (by rfl) (fun W => by first | (go_simp; done) | (go_simp; rfl) | (go_simp; decide))) ?_
  (try simp only [zP, zN, zA, zB, zC])
  refine pu_ (v := .bool true) (y_pick (t := true) (by rfl) rfl (by rfl) (by rfl)) ?_
  (try simp only [zP, zN, zA, zB, zC])
  refine ef_ (fun K65 hK65 => ?_)
  refine e_storeN (cells := (#[.slice A49 (turnS E o.id o.n).L.length z50, .int .i64 (turnS E o.id o.n).last])) (by rfl) rfl rfl (by rfl) (by rfl) Fg21.out (by kernel_rfl) (by rfl) (ones_cons rfl (ones_cons rfl ones_nil)) ?_
  rintro w66 B67 C68
  have C0' := Lib.hid (show Ch (Bs0) w w66 from C0.out.trans' C68 (inw_cons (.inr nw26.out) inw_nil))
  have EX' := Lib.hid (show ExIs w66 lo Bs41 x (c + 64) (turnS E o.id o.n) from EX.out.ch C68 (fun k hk hm => (List.mem_cons.1 hm).elim (fun e => hs45.out (e ▸ hk)) (fun h => (fun _ _ h => absurd h (by simp)) k hk h)))
  have SQ' := Lib.hid (show SrcIs w66 (.slice Aq E.L.length z) (E.L.length) (E.L.flatMap sesC) 6 from SQ.out.chx C68 (xnin_cons nx28.out xnin_nil))
  have Fg3' := Lib.hid (show Blk w66 g3 (#[.slice A49 (turnS E o.id o.n).L.length z50, .int .i64 (turnS E o.id o.n).last]) 44 from C68.blk Fg3.out (nin_cons ne29.out nin_nil))
  have Fg12' := Lib.hid (show Blk w66 g12 (#[.int .i64 o.kind, .int .i64 o.id, .int .i64 o.box, .int .i64 o.ctr, .int .i64 o.n, .string o.s]) 28 from C68.blk Fg12.out (nin_cons (Blk.ne_type Fg12.out Fg21.out (by decide)) nin_nil))
  have SN' := Lib.hid (show SrcIs w66 (.slice A49 (turnS E o.id o.n).L.length z50) ((turnS E o.id o.n).L.length) ((turnS E o.id o.n).L.flatMap sesC) 6 from SN.out.chx C68 (xnin_cons nx59.out xnin_nil))
  clear C0 EX SQ Fg3 Fg12 SN
  have C0 := C0'; clear C0'
  have EX := EX'; clear EX'
  have SQ := SQ'; clear SQ'
  have Fg3 := Fg3'; clear Fg3'
  have Fg12 := Fg12'; clear Fg12'
  have SN := SN'; clear SN'
  clear Fg21; have Fg21 := Lib.hid (show Blk w66 g21 ((#[.slice A49 (turnS E o.id o.n).L.length z50, .int .i64 (turnS E o.id o.n).last])) 44 from B67); clear B67 C68
  refine hK65 _ _ ?_; clear hK65 K65
  (try simp only [zP, zN, zA, zB, zC])
  refine pu_ (v := .bool true) (y_assign rfl (by rfl) (by rfl)) ?_
  (try simp only [zP, zN, zA, zB, zC])
  refine nl_ (hK64 _ _ ?_); clear hK64 K64
  refine wp_ret ?_
  refine hQ _ _ _ ?_
  refine bodyPost_ret (res2 rfl (rdv_cell (by rfl) (run_loadVar_row _ _ 44 44 ((#[.slice A49 (turnS E o.id o.n).L.length z50, .int .i64 (turnS E o.id o.n).last])) (0, 0) _ Fg21.out Tryd.underlying44 rfl (by kernel_rfl))) (rdv_tmp (v := .bool true) (by rfl))) rfl ?_
  exact ⟨_, _, _, rfl, ⟨⟨SN.out, HZ2.out⟩, HNW.out⟩, EX.out.up (by omega), C0.out, hb47.out, xs56.out⟩
theorem does_close {Aq : Option Addr} {z lo x c : Nat} {Bs0 : List Nat} {E : HX} {o : HA} {w0 : World} (HZ : Hid (E.L.length ≤ z ∧ z ≤ maxLen)) (HN : Hid (E.L.length ≤ 8)) (HC : Hid (c ≤ 90000)) (HLA : Hid (E.last ≤ 100000)) (HOK : Hid (IntOk o.n)) (HSZ : Hid (o.s.size ≤ 300)) (HTB : Hid (Tabs w0)) (HLO : Hid (lo = w0.heap.size)) (HB0 : Hid (Below w0.heap.size w0 w)) (HXS : Hid (∀ k, k ∈ xb (.slice Aq E.L.length z) → k ∉ Bs0)) (HK : Hid (o.kind = 4)) (EX : Hid (ExIs w lo Bs0 x (c) (E))) (SQ : Hid (SrcIs w (.slice Aq E.L.length z) (E.L.length) (E.L.flatMap sesC) 6)) :
    Calls Tryd.prog 17 #[.pointer (some ⟨x, 0, none⟩), .agg #[.slice Aq E.L.length z, .int .i64 E.last], .agg #[.int .i64 o.kind, .int .i64 o.id, .int .i64 o.box, .int .i64 o.ctr, .int .i64 o.n, .string o.s]] w fun en w' => ∃ Q' z' Bs', en = .returned (.tuple #[.agg #[.slice Q' (closeS E o.id).L.length z', .int .i64 (closeS E o.id).last], .bool true]) ∧ RStep w w' Aq z E Q' z' (closeS E o.id) ∧ ExIs w' lo Bs' x (c + 64) (closeS E o.id) ∧ Ch Bs0 w w' ∧ (∀ k, k ∈ Bs' → k ∈ Bs0 ∨ w.heap.size ≤ k) ∧ ∀ k, k ∈ xb (.slice Q' (closeS E o.id).L.length z') → k ∉ Bs' := by
  have C0 := Lib.hid (Ch.refl (Bs0) w)
  have D32 := Lib.hid (show ¬ o.kind = 0 by have := HK.out; omega)
  have D53 := Lib.hid (show ¬ o.kind = 1 by have := HK.out; omega)
  have D74 := Lib.hid (show ¬ o.kind = 2 by have := HK.out; omega)
  have D95 := Lib.hid (show ¬ o.kind = 3 by have := HK.out; omega)
  have D112 := Lib.hid (show  o.kind = 4 by have := HK.out; omega)
  have HSH := Lib.hid (show Shorts E from EX.out.qs)
  have HSB := Lib.hid (show ∀ k_, k_ ∈ Bs0 → k_ ∈ Bs0 ∨ w.heap.size ≤ k_ from fun k_ hk_ => .inl hk_)
  have HL0 := Lib.hid (show ∀ y, y ∈ Bs0 → w0.heap.size ≤ y from fun y hy => by rw [← HLO.out]; exact (EX.out.lt y hy).1)
  go_enter Tryd.func17, Tryd.ntmps17
  refine q_ (fun Q hQ hP => ?_)
  refine s_ (fun K1 hK1 => ?_)
  refine ef_ (fun K2 hK2 => ?_)
  refine e_boxN (by rfl) rfl rfl (cs := #[.slice Aq E.L.length z, .int .i64 E.last]) (v := .agg #[.slice Aq E.L.length z, .int .i64 E.last]) (by rfl) rfl ?_
  rintro g3 w4 HG5 B6 C7
  have nw8 := Lib.hid (show w.heap.size ≤ g3 by have := C0.out.size; have := HG5.out; omega)
  have hs9 := Lib.hid (show g3 ∉ Bs0 from fun hk => by have h8 := (EX.out.lt _ hk).2; have := HG5.out; omega)
  have nx10 := Lib.hid (SQ.out.ne_new (by decide) HG5)
  have C0' := Lib.hid (show Ch (Bs0) w w4 from C0.out.trans' C7 (fun x hx => absurd hx (by simp)))
  have EX' := Lib.hid (show ExIs w4 lo Bs0 x (c) (E) from EX.out.ch C7 (fun _ _ h => absurd h (by simp)))
  have SQ' := Lib.hid (show SrcIs w4 (.slice Aq E.L.length z) (E.L.length) (E.L.flatMap sesC) 6 from SQ.out.chx C7 xnin_nil)
  clear C0 EX SQ
  have C0 := C0'; clear C0'
  have EX := EX'; clear EX'
  have SQ := SQ'; clear SQ'
  have Fg3 := Lib.hid (show Blk w4 g3 (#[.slice Aq E.L.length z, .int .i64 E.last]) 44 from B6); clear B6 C7
  refine hK2 _ _ ?_; clear hK2 K2
  (try simp only [zP, zN, zA, zB, zC])
  refine ef_ (fun K11 hK11 => ?_)
  refine e_boxN (by rfl) rfl rfl (cs := #[.int .i64 o.kind, .int .i64 o.id, .int .i64 o.box, .int .i64 o.ctr, .int .i64 o.n, .string o.s]) (v := .agg #[.int .i64 o.kind, .int .i64 o.id, .int .i64 o.box, .int .i64 o.ctr, .int .i64 o.n, .string o.s]) (by rfl) rfl ?_
  rintro g12 w13 HG14 B15 C16
  have nw17 := Lib.hid (show w.heap.size ≤ g12 by have := C0.out.size; have := HG14.out; omega)
  have hs18 := Lib.hid (show g12 ∉ Bs0 from fun hk => by have h8 := (EX.out.lt _ hk).2; have := HG14.out; omega)
  have nx19 := Lib.hid (SQ.out.ne_new (by decide) HG14)
  have C0' := Lib.hid (show Ch (Bs0) w w13 from C0.out.trans' C16 (fun x hx => absurd hx (by simp)))
  have EX' := Lib.hid (show ExIs w13 lo Bs0 x (c) (E) from EX.out.ch C16 (fun _ _ h => absurd h (by simp)))
  have SQ' := Lib.hid (show SrcIs w13 (.slice Aq E.L.length z) (E.L.length) (E.L.flatMap sesC) 6 from SQ.out.chx C16 xnin_nil)
  have Fg3' := Lib.hid (show Blk w13 g3 (#[.slice Aq E.L.length z, .int .i64 E.last]) 44 from C16.blk Fg3.out nin_nil)
  clear C0 EX SQ Fg3
  have C0 := C0'; clear C0'
  have EX := EX'; clear EX'
  have SQ := SQ'; clear SQ'
  have Fg3 := Fg3'; clear Fg3'
  have Fg12 := Lib.hid (show Blk w13 g12 (#[.int .i64 o.kind, .int .i64 o.id, .int .i64 o.box, .int .i64 o.ctr, .int .i64 o.n, .string o.s]) 28 from B15); clear B15 C16
  refine hK11 _ _ ?_; clear hK11 K11
  (try simp only [zP, zN, zA, zB, zC])
  refine ef_ (fun K20 hK20 => ?_)
  refine e_alloc (by rfl) rfl rfl (cs := #[.slice none 0 0, .int .i64 0]) (by kernel_rfl) ?_
  rintro g21 w22 HG23 B24 C25
  have nw26 := Lib.hid (show w.heap.size ≤ g21 by have := C0.out.size; have := HG23.out; omega)
  have hs27 := Lib.hid (show g21 ∉ Bs0 from fun hk => by have h8 := (EX.out.lt _ hk).2; have := HG23.out; omega)
  have nx28 := Lib.hid (SQ.out.ne_new (by decide) HG23)
  have ne29 := Lib.hid (Fg3.out.ne_new HG23)
  have C0' := Lib.hid (show Ch (Bs0) w w22 from C0.out.trans' C25 (fun x hx => absurd hx (by simp)))
  have EX' := Lib.hid (show ExIs w22 lo Bs0 x (c) (E) from EX.out.ch C25 (fun _ _ h => absurd h (by simp)))
  have SQ' := Lib.hid (show SrcIs w22 (.slice Aq E.L.length z) (E.L.length) (E.L.flatMap sesC) 6 from SQ.out.chx C25 xnin_nil)
  have Fg3' := Lib.hid (show Blk w22 g3 (#[.slice Aq E.L.length z, .int .i64 E.last]) 44 from C25.blk Fg3.out nin_nil)
  have Fg12' := Lib.hid (show Blk w22 g12 (#[.int .i64 o.kind, .int .i64 o.id, .int .i64 o.box, .int .i64 o.ctr, .int .i64 o.n, .string o.s]) 28 from C25.blk Fg12.out nin_nil)
  clear C0 EX SQ Fg3 Fg12
  have C0 := C0'; clear C0'
  have EX := EX'; clear EX'
  have SQ := SQ'; clear SQ'
  have Fg3 := Fg3'; clear Fg3'
  have Fg12 := Fg12'; clear Fg12'
  have Fg21 := Lib.hid (show Blk w22 g21 (#[.slice none 0 0, .int .i64 0]) 44 from B24); clear B24 C25
  refine hK20 _ _ ?_; clear hK20 K20
  (try simp only [zP, zN, zA, zB, zC])
  refine pu_ (v := .bool false) (y_assign rfl (by rfl) (by rfl)) ?_
  (try simp only [zP, zN, zA, zB, zC])
  refine nl_ (hK1 _ _ ?_); clear hK1 K1
  refine s_ (fun K30 hK30 => ?_)
  refine pu_ (v := .int .i64 0) (y_assign rfl (by rfl) (by rfl)) ?_
  (try simp only [zP, zN, zA, zB, zC])
  refine pu_ (v := .int .i64 0) (y_assign rfl (by rfl) (by rfl)) ?_
  (try simp only [zP, zN, zA, zB, zC])
  refine nl_ (hK30 _ _ ?_); clear hK30 K30
  refine s_ (fun K31 hK31 => ?_)
  refine pu_ (v := .string {data := #[]}) (y_assign rfl (by rfl) (by rfl)) ?_
  (try simp only [zP, zN, zA, zB, zC])
  refine pu_ (v := .string {data := #[]}) (y_assign rfl (by rfl) (by rfl)) ?_
  (try simp only [zP, zN, zA, zB, zC])
  refine nl_ (hK31 _ _ ?_); clear hK31 K31
  refine s_ (fun K32 hK32 => ?_)
  refine pu_ (v := .int .i64 0) (y_assign rfl (by rfl) (by rfl)) ?_
  (try simp only [zP, zN, zA, zB, zC])
  refine pu_ (v := .int .i64 0) (y_assign rfl (by rfl) (by rfl)) ?_
  (try simp only [zP, zN, zA, zB, zC])
  refine nl_ (hK32 _ _ ?_); clear hK32 K32
  refine sq_ (fun K33 hK33 => ?_)
  refine s_ (fun K34 hK34 => ?_)
  refine pu_ (v := .pointer (some ⟨g12, 0, none⟩)) (y_run (by rfl) (fun W => by go_simp)) ?_
  (try simp only [zP, zN, zA, zB, zC])
  refine ld_ (v := .int .i64 o.kind) rfl (by rfl) (by rfl) (run_load_one ((Fg12.out.cell 0).trans rfl) Tryd.underlying3 rfl) ?_
  (try simp only [zP, zN, zA, zB, zC])
  refine nl_ (hK34 _ _ ?_); clear hK34 K34
  refine wp_block ?_
  refine s_ (fun K35 hK35 => ?_)
  refine pu_ (v := .bool false) (y_run (by rfl) (fun W => by have d := D32.out; go_simp)) ?_
  (try simp only [zP, zN, zA, zB, zC])
  refine pu_ (v := .bool false) (y_assign rfl (by rfl) (by rfl)) ?_
  (try simp only [zP, zN, zA, zB, zC])
  refine nl_ (hK35 _ _ ?_); clear hK35 K35
  refine wp_cond_false rfl ?_
  refine s_ (fun K36 hK36 => ?_)
  refine pu_ (v := .bool false) (y_run (by rfl) (fun W => by have d := D53.out; go_simp)) ?_
  (try simp only [zP, zN, zA, zB, zC])
  refine pu_ (v := .bool false) (y_assign rfl (by rfl) (by rfl)) ?_
  (try simp only [zP, zN, zA, zB, zC])
  refine nl_ (hK36 _ _ ?_); clear hK36 K36
  refine wp_cond_false rfl ?_
  refine s_ (fun K37 hK37 => ?_)
  refine pu_ (v := .bool false) (y_run (by rfl) (fun W => by have d := D74.out; go_simp)) ?_
  (try simp only [zP, zN, zA, zB, zC])
  refine pu_ (v := .bool false) (y_assign rfl (by rfl) (by rfl)) ?_
  (try simp only [zP, zN, zA, zB, zC])
  refine nl_ (hK37 _ _ ?_); clear hK37 K37
  refine wp_cond_false rfl ?_
  refine s_ (fun K38 hK38 => ?_)
  refine pu_ (v := .bool false) (y_run (by rfl) (fun W => by have d := D95.out; go_simp)) ?_
  (try simp only [zP, zN, zA, zB, zC])
  refine pu_ (v := .bool false) (y_assign rfl (by rfl) (by rfl)) ?_
  (try simp only [zP, zN, zA, zB, zC])
  refine nl_ (hK38 _ _ ?_); clear hK38 K38
  refine wp_cond_false rfl ?_
  refine s_ (fun K39 hK39 => ?_)
  refine pu_ (v := .bool true) (y_run (by rfl) (fun W => by have d := D112.out; go_simp)) ?_
  (try simp only [zP, zN, zA, zB, zC])
  refine pu_ (v := .bool true) (y_assign rfl (by rfl) (by rfl)) ?_
  (try simp only [zP, zN, zA, zB, zC])
  refine nl_ (hK39 _ _ ?_); clear hK39 K39
  refine wp_cond_true rfl ?_
  refine s_ (fun K40 hK40 => ?_)
  refine pu_ (v := .pointer (some ⟨x, 0, none⟩)) (y_move rfl (by rfl) (by rfl)) ?_
  (try simp only [zP, zN, zA, zB, zC])
  refine pu_ (v := .pointer (some ⟨g12, 1, none⟩)) (y_run (by rfl) (fun W => by go_simp)) ?_
  (try simp only [zP, zN, zA, zB, zC])
  refine ld_ (v := .int .i64 o.id) rfl (by rfl) (by rfl) (run_load_one ((Fg12.out.cell 1).trans rfl) Tryd.underlying3 rfl) ?_
  (try simp only [zP, zN, zA, zB, zC])
  refine ef_ (fun K41 hK41 => ?_)
  refine e_call Tryd.func12 (by kernel_rfl) rfl #[.pointer (some ⟨x, 0, none⟩), .int .i64 o.id] (by rfl) rfl rfl (by first | rfl | (simp only [List.map_toArray, List.map_cons, List.map_nil]; first | done | rfl)) ((close_l (id := o.id) EX.out (by have := HN.out; omega) (by rw [HLO.out]; exact Nat.le_trans HB0.out.size C0.out.size))) ?_
  rintro en w43 ⟨rfl, Bs42, bk, cc, bel⟩
  refine ⟨_, rfl, ?_⟩
  have hs44 := Lib.hid (show g3 ∉ Bs42 from fun h9 => (bel _ h9).elim hs9.out (fun h8 => by have := Fg3.out.lt; omega))
  have hs45 := Lib.hid (show g12 ∉ Bs42 from fun h9 => (bel _ h9).elim hs18.out (fun h8 => by have := Fg12.out.lt; omega))
  have hs46 := Lib.hid (show g21 ∉ Bs42 from fun h9 => (bel _ h9).elim hs27.out (fun h8 => by have := Fg21.out.lt; omega))
  have hr47 := Lib.hid (show ∀ k_, k_ ∈ xb (.slice Aq E.L.length z) → k_ ∉ Bs42 from fun k_ hk_ hB_ => (bel k_ hB_).elim (HXS.out k_ hk_) (fun h8 => by have := SQ.out.lt (by decide) k_ hk_; omega))
  have hb48 := Lib.hid (show ∀ k_, k_ ∈ Bs42 → k_ ∈ Bs0 ∨ w.heap.size ≤ k_ from fun k_ hk_ => (bel k_ hk_).elim (HSB.out k_) (fun h_ => .inr (Nat.le_trans C0.out.size h_)))
  have C0' := Lib.hid (show Ch (Bs0) w w43 from C0.out.trans' cc (fun x hx => .inl hx))
  have SQ' := Lib.hid (show SrcIs w43 (.slice Aq E.L.length z) (E.L.length) (E.L.flatMap sesC) 6 from SQ.out.chx cc HXS.out)
  have Fg3' := Lib.hid (show Blk w43 g3 (#[.slice Aq E.L.length z, .int .i64 E.last]) 44 from cc.blk Fg3.out hs9.out)
  have Fg12' := Lib.hid (show Blk w43 g12 (#[.int .i64 o.kind, .int .i64 o.id, .int .i64 o.box, .int .i64 o.ctr, .int .i64 o.n, .string o.s]) 28 from cc.blk Fg12.out hs18.out)
  have Fg21' := Lib.hid (show Blk w43 g21 (#[.slice none 0 0, .int .i64 0]) 44 from cc.blk Fg21.out hs27.out)
  clear C0 SQ Fg3 Fg12 Fg21
  have C0 := C0'; clear C0'
  have SQ := SQ'; clear SQ'
  have Fg3 := Fg3'; clear Fg3'
  have Fg12 := Fg12'; clear Fg12'
  have Fg21 := Fg21'; clear Fg21'
  clear EX cc bel
  have EX := Lib.hid (show ExIs w43 lo Bs42 x (c) (closeS E o.id) from bk)
  clear bk
  refine hK41 _ _ ?_; clear hK41 K41
  (try simp only [zP, zN, zA, zB, zC])
  refine pu_ (v := .int .i64 (closeR E o.id)) (y_assign rfl (by rfl) (by rfl)) ?_
  (try simp only [zP, zN, zA, zB, zC])
  refine nl_ (hK40 _ _ ?_); clear hK40 K40
  refine r_ ?_
  refine ld_ (v := .agg (#[.slice Aq E.L.length z, .int .i64 E.last])) rfl (by rfl) (by rfl) (run_loadVar_row _ _ 44 44 (#[.slice Aq E.L.length z, .int .i64 E.last]) (0, 0) _ Fg3.out Tryd.underlying44 rfl (by kernel_rfl)) ?_
  (try simp only [zP, zN, zA, zB, zC])
  refine pu_ (v := .pointer (some ⟨g12, 1, none⟩)) (y_run (by rfl) (fun W => by go_simp)) ?_
  (try simp only [zP, zN, zA, zB, zC])
  refine ld_ (v := .int .i64 o.id) rfl (by rfl) (by rfl) (run_load_one ((Fg12.out.cell 1).trans rfl) Tryd.underlying3 rfl) ?_
  (try simp only [zP, zN, zA, zB, zC])
  refine ef_ (fun K49 hK49 => ?_)
  refine e_call Tryd.func37 (by kernel_rfl) rfl #[.agg (#[.slice Aq E.L.length z, .int .i64 E.last]), .int .i64 o.id] (by rfl) rfl rfl (by first | rfl | (simp only [List.map_toArray, List.map_cons, List.map_nil]; first | done | rfl)) ((rclose_l (id := o.id) ⟨SQ.out, HZ.out⟩ (by have := HN.out; omega))) ?_
  rintro en w56 ⟨A50, z51, rfl, ⟨⟨h152, h253⟩, h454⟩, cc55⟩
  refine ⟨_, rfl, ?_⟩
  have xs57 := Lib.hid (show ∀ k_, k_ ∈ xb (.slice A50 (closeS E o.id).L.length z51) → k_ ∉ Bs42 from fun k_ hk_ hB_ => (h454 k_ hk_).elim (fun h7 => hr47.out k_ h7 hB_) (fun h8 => by have := (EX.out.lt k_ hB_).2; omega))
  have nx58 := Lib.hid (show g3 ∉ xb (.slice A50 (closeS E o.id).L.length z51) from fun hk => (h454 _ hk).elim nx10.out (fun h8 => by have := Fg3.out.lt; omega))
  have nx59 := Lib.hid (show g12 ∉ xb (.slice A50 (closeS E o.id).L.length z51) from fun hk => (h454 _ hk).elim nx19.out (fun h8 => by have := Fg12.out.lt; omega))
  have nx60 := Lib.hid (show g21 ∉ xb (.slice A50 (closeS E o.id).L.length z51) from fun hk => (h454 _ hk).elim nx28.out (fun h8 => by have := Fg21.out.lt; omega))
  have HNW := Lib.hid (show ∀ k, k ∈ xb (.slice A50 (closeS E o.id).L.length z51) → k ∈ xb (.slice Aq E.L.length z) ∨ w.heap.size ≤ k from fun k hk => (h454 k hk).imp (fun h => h) (fun h => Nat.le_trans C0.out.size h)); clear h454
  have HZ2 := Lib.hid h253; clear h253
  have C0' := Lib.hid (show Ch (Bs0) w w56 from C0.out.trans' cc55 (fun x hx => absurd hx (by simp)))
  have EX' := Lib.hid (show ExIs w56 lo Bs42 x (c) (closeS E o.id) from EX.out.ch cc55 (fun _ _ h => absurd h (by simp)))
  have SQ' := Lib.hid (show SrcIs w56 (.slice Aq E.L.length z) (E.L.length) (E.L.flatMap sesC) 6 from SQ.out.chx cc55 xnin_nil)
  have Fg3' := Lib.hid (show Blk w56 g3 (#[.slice Aq E.L.length z, .int .i64 E.last]) 44 from cc55.blk Fg3.out nin_nil)
  have Fg12' := Lib.hid (show Blk w56 g12 (#[.int .i64 o.kind, .int .i64 o.id, .int .i64 o.box, .int .i64 o.ctr, .int .i64 o.n, .string o.s]) 28 from cc55.blk Fg12.out nin_nil)
  have Fg21' := Lib.hid (show Blk w56 g21 (#[.slice none 0 0, .int .i64 0]) 44 from cc55.blk Fg21.out nin_nil)
  clear C0 EX SQ Fg3 Fg12 Fg21
  have C0 := C0'; clear C0'
  have EX := EX'; clear EX'
  have SQ := SQ'; clear SQ'
  have Fg3 := Fg3'; clear Fg3'
  have Fg12 := Fg12'; clear Fg12'
  have Fg21 := Fg21'; clear Fg21'
  clear cc55
  have SN := Lib.hid (show SrcIs w56 (.slice A50 (closeS E o.id).L.length z51) ((closeS E o.id).L.length) ((closeS E o.id).L.flatMap sesC) 6 from h152)
  refine hK49 _ _ ?_; clear hK49 K49
  (try simp only [zP, zN, zA, zB, zC])
  refine pu_ (v := .tuple #[.agg #[.slice A50 (closeS E o.id).L.length z51, .int .i64 (closeS E o.id).last], .int .i64 (closeR E o.id)]) (y_move rfl (by rfl) (by rfl)) ?_
  (try simp only [zP, zN, zA, zB, zC])
  refine pu_ (v := .agg #[.slice A50 (closeS E o.id).L.length z51, .int .i64 (closeS E o.id).last]) (y_run (by rfl) (fun W => by go_simp)) ?_
  (try simp only [zP, zN, zA, zB, zC])
  refine pu_ (v := .int .i64 (closeR E o.id)) (y_run (by rfl) (fun W => by go_simp)) ?_
  (try simp only [zP, zN, zA, zB, zC])
  refine ef_ (fun K61 hK61 => ?_)
  refine e_storeN (cells := #[.slice A50 (closeS E o.id).L.length z51, .int .i64 (closeS E o.id).last]) (by rfl) rfl rfl (by rfl) (by rfl) Fg3.out (by kernel_rfl) (by rfl) (ones_cons rfl (ones_cons rfl ones_nil)) ?_
  rintro w62 B63 C64
  have C0' := Lib.hid (show Ch (Bs0) w w62 from C0.out.trans' C64 (inw_cons (.inr nw8.out) inw_nil))
  have EX' := Lib.hid (show ExIs w62 lo Bs42 x (c) (closeS E o.id) from EX.out.ch C64 (fun k hk hm => (List.mem_cons.1 hm).elim (fun e => hs44.out (e ▸ hk)) (fun h => (fun _ _ h => absurd h (by simp)) k hk h)))
  have SQ' := Lib.hid (show SrcIs w62 (.slice Aq E.L.length z) (E.L.length) (E.L.flatMap sesC) 6 from SQ.out.chx C64 (xnin_cons nx10.out xnin_nil))
  have Fg12' := Lib.hid (show Blk w62 g12 (#[.int .i64 o.kind, .int .i64 o.id, .int .i64 o.box, .int .i64 o.ctr, .int .i64 o.n, .string o.s]) 28 from C64.blk Fg12.out (nin_cons (Blk.ne_type Fg12.out Fg3.out (by decide)) nin_nil))
  have Fg21' := Lib.hid (show Blk w62 g21 (#[.slice none 0 0, .int .i64 0]) 44 from C64.blk Fg21.out (nin_cons (Ne.symm ne29.out) nin_nil))
  have SN' := Lib.hid (show SrcIs w62 (.slice A50 (closeS E o.id).L.length z51) ((closeS E o.id).L.length) ((closeS E o.id).L.flatMap sesC) 6 from SN.out.chx C64 (xnin_cons nx58.out xnin_nil))
  clear C0 EX SQ Fg12 Fg21 SN
  have C0 := C0'; clear C0'
  have EX := EX'; clear EX'
  have SQ := SQ'; clear SQ'
  have Fg12 := Fg12'; clear Fg12'
  have Fg21 := Fg21'; clear Fg21'
  have SN := SN'; clear SN'
  clear Fg3; have Fg3 := Lib.hid (show Blk w62 g3 (#[.slice A50 (closeS E o.id).L.length z51, .int .i64 (closeS E o.id).last]) 44 from B63); clear B63 C64
  refine hK61 _ _ ?_; clear hK61 K61
  (try simp only [zP, zN, zA, zB, zC])
  refine pu_ (v := .int .i64 (closeR E o.id)) (y_assign rfl (by rfl) (by rfl)) ?_
  (try simp only [zP, zN, zA, zB, zC])
  refine nl_ ?_
  refine ib_norm ?_
  refine th_norm (hK33 _ _ ?_); try clear hK33 K33
  refine s_ (fun K65 hK65 => ?_)
  refine ld_ (v := .agg (#[.slice A50 (closeS E o.id).L.length z51, .int .i64 (closeS E o.id).last])) rfl (by rfl) (by rfl) (run_loadVar_row _ _ 44 44 (#[.slice A50 (closeS E o.id).L.length z51, .int .i64 (closeS E o.id).last]) (0, 0) _ Fg3.out Tryd.underlying44 rfl (by kernel_rfl)) ?_
  (try simp only [zP, zN, zA, zB, zC])
  refine pu_ (v := .int .i64 0) (y_move rfl (by rfl) (by rfl)) ?_
  (try simp only [zP, zN, zA, zB, zC])
  refine pu_ (v := .int .i64 0) (y_move rfl (by rfl) (by rfl)) ?_
  (try simp only [zP, zN, zA, zB, zC])
  refine pu_ (v := .bool true) (y_run (by rfl) (fun W => by first | (go_simp; done) | (go_simp; rfl) | (go_simp; decide))) ?_
  (try simp only [zP, zN, zA, zB, zC])
  refine pu_ (v := .bool true) (y_move rfl (by rfl) (by rfl)) ?_
  (try simp only [zP, zN, zA, zB, zC])
  refine pu_ (v := .string {data := #[]}) (y_move rfl (by rfl) (by rfl)) ?_
  (try simp only [zP, zN, zA, zB, zC])
  refine pu_ (v := .string {data := #[]}) (y_move rfl (by rfl) (by rfl)) ?_
  (try simp only [zP, zN, zA, zB, zC])
  refine pu_ (v := .bool true) (y_run (by rfl) (fun W => by first | (go_simp; done) | (go_simp; rfl) | (go_simp; decide))) ?_
  (try simp only [zP, zN, zA, zB, zC])
  refine pu_ (v := .bool true) (y_pick (t := true) (by rfl) rfl (by rfl) (by rfl)) ?_
  (try simp only [zP, zN, zA, zB, zC])
  refine pu_ (v := .bool true) (y_move rfl (by rfl) (by rfl)) ?_
  (try simp only [zP, zN, zA, zB, zC])
  refine pu_ (v := .int .i64 (closeR E o.id)) (y_move rfl (by rfl) (by rfl)) ?_
  (try simp only [zP, zN, zA, zB, zC])
  refine pu_ (v := .int .i64 (closeR E o.id)) (y_move rfl (by rfl) (by rfl)) ?_
  (try simp only [zP, zN, zA, zB, zC])
  refine pu_ (v := .bool true) (y_run (by rfl) (fun W => by first | (go_simp; done) | (go_simp; rfl) | (go_simp; decide))) ?_
  (try simp only [zP, zN, zA, zB, zC])
  refine pu_ (v := .bool true) (y_pick (t := true) (by rfl) rfl (by rfl) (by rfl)) ?_
  (try simp only [zP, zN, zA, zB, zC])
  refine ef_ (fun K66 hK66 => ?_)
  refine e_storeN (cells := (#[.slice A50 (closeS E o.id).L.length z51, .int .i64 (closeS E o.id).last])) (by rfl) rfl rfl (by rfl) (by rfl) Fg21.out (by kernel_rfl) (by rfl) (ones_cons rfl (ones_cons rfl ones_nil)) ?_
  rintro w67 B68 C69
  have C0' := Lib.hid (show Ch (Bs0) w w67 from C0.out.trans' C69 (inw_cons (.inr nw26.out) inw_nil))
  have EX' := Lib.hid (show ExIs w67 lo Bs42 x (c) (closeS E o.id) from EX.out.ch C69 (fun k hk hm => (List.mem_cons.1 hm).elim (fun e => hs46.out (e ▸ hk)) (fun h => (fun _ _ h => absurd h (by simp)) k hk h)))
  have SQ' := Lib.hid (show SrcIs w67 (.slice Aq E.L.length z) (E.L.length) (E.L.flatMap sesC) 6 from SQ.out.chx C69 (xnin_cons nx28.out xnin_nil))
  have Fg3' := Lib.hid (show Blk w67 g3 (#[.slice A50 (closeS E o.id).L.length z51, .int .i64 (closeS E o.id).last]) 44 from C69.blk Fg3.out (nin_cons ne29.out nin_nil))
  have Fg12' := Lib.hid (show Blk w67 g12 (#[.int .i64 o.kind, .int .i64 o.id, .int .i64 o.box, .int .i64 o.ctr, .int .i64 o.n, .string o.s]) 28 from C69.blk Fg12.out (nin_cons (Blk.ne_type Fg12.out Fg21.out (by decide)) nin_nil))
  have SN' := Lib.hid (show SrcIs w67 (.slice A50 (closeS E o.id).L.length z51) ((closeS E o.id).L.length) ((closeS E o.id).L.flatMap sesC) 6 from SN.out.chx C69 (xnin_cons nx60.out xnin_nil))
  clear C0 EX SQ Fg3 Fg12 SN
  have C0 := C0'; clear C0'
  have EX := EX'; clear EX'
  have SQ := SQ'; clear SQ'
  have Fg3 := Fg3'; clear Fg3'
  have Fg12 := Fg12'; clear Fg12'
  have SN := SN'; clear SN'
  clear Fg21; have Fg21 := Lib.hid (show Blk w67 g21 ((#[.slice A50 (closeS E o.id).L.length z51, .int .i64 (closeS E o.id).last])) 44 from B68); clear B68 C69
  refine hK66 _ _ ?_; clear hK66 K66
  (try simp only [zP, zN, zA, zB, zC])
  refine pu_ (v := .bool true) (y_assign rfl (by rfl) (by rfl)) ?_
  (try simp only [zP, zN, zA, zB, zC])
  refine nl_ (hK65 _ _ ?_); clear hK65 K65
  refine wp_ret ?_
  refine hQ _ _ _ ?_
  refine bodyPost_ret (res2 rfl (rdv_cell (by rfl) (run_loadVar_row _ _ 44 44 ((#[.slice A50 (closeS E o.id).L.length z51, .int .i64 (closeS E o.id).last])) (0, 0) _ Fg21.out Tryd.underlying44 rfl (by kernel_rfl))) (rdv_tmp (v := .bool true) (by rfl))) rfl ?_
  exact ⟨_, _, _, rfl, ⟨⟨SN.out, HZ2.out⟩, HNW.out⟩, EX.out.up (by omega), C0.out, hb48.out, xs57.out⟩
theorem does_end {Aq : Option Addr} {z lo x c : Nat} {Bs0 : List Nat} {E : HX} {o : HA} {w0 : World} (HZ : Hid (E.L.length ≤ z ∧ z ≤ maxLen)) (HN : Hid (E.L.length ≤ 8)) (HC : Hid (c ≤ 90000)) (HLA : Hid (E.last ≤ 100000)) (HOK : Hid (IntOk o.n)) (HSZ : Hid (o.s.size ≤ 300)) (HTB : Hid (Tabs w0)) (HLO : Hid (lo = w0.heap.size)) (HB0 : Hid (Below w0.heap.size w0 w)) (HXS : Hid (∀ k, k ∈ xb (.slice Aq E.L.length z) → k ∉ Bs0)) (HK : Hid (¬ o.kind = 0 ∧ ¬ o.kind = 1 ∧ ¬ o.kind = 2 ∧ ¬ o.kind = 3 ∧ ¬ o.kind = 4)) (EX : Hid (ExIs w lo Bs0 x (c) (E))) (SQ : Hid (SrcIs w (.slice Aq E.L.length z) (E.L.length) (E.L.flatMap sesC) 6)) :
    Calls Tryd.prog 17 #[.pointer (some ⟨x, 0, none⟩), .agg #[.slice Aq E.L.length z, .int .i64 E.last], .agg #[.int .i64 o.kind, .int .i64 o.id, .int .i64 o.box, .int .i64 o.ctr, .int .i64 o.n, .string o.s]] w fun en w' => ∃ Q' z' Bs', en = .returned (.tuple #[.agg #[.slice Q' (endSS E o.box o.ctr).L.length z', .int .i64 (endSS E o.box o.ctr).last], .bool true]) ∧ RStep w w' Aq z E Q' z' (endSS E o.box o.ctr) ∧ ExIs w' lo Bs' x (c + 64) (endSS E o.box o.ctr) ∧ Ch Bs0 w w' ∧ (∀ k, k ∈ Bs' → k ∈ Bs0 ∨ w.heap.size ≤ k) ∧ ∀ k, k ∈ xb (.slice Q' (endSS E o.box o.ctr).L.length z') → k ∉ Bs' := by
  have C0 := Lib.hid (Ch.refl (Bs0) w)
  have D32 := Lib.hid (show ¬ o.kind = 0 by have := HK.out; omega)
  have D53 := Lib.hid (show ¬ o.kind = 1 by have := HK.out; omega)
  have D74 := Lib.hid (show ¬ o.kind = 2 by have := HK.out; omega)
  have D95 := Lib.hid (show ¬ o.kind = 3 by have := HK.out; omega)
  have D112 := Lib.hid (show ¬ o.kind = 4 by have := HK.out; omega)
  have HSH := Lib.hid (show Shorts E from EX.out.qs)
  have HSB := Lib.hid (show ∀ k_, k_ ∈ Bs0 → k_ ∈ Bs0 ∨ w.heap.size ≤ k_ from fun k_ hk_ => .inl hk_)
  have HL0 := Lib.hid (show ∀ y, y ∈ Bs0 → w0.heap.size ≤ y from fun y hy => by rw [← HLO.out]; exact (EX.out.lt y hy).1)
  go_enter Tryd.func17, Tryd.ntmps17
  refine q_ (fun Q hQ hP => ?_)
  refine s_ (fun K1 hK1 => ?_)
  refine ef_ (fun K2 hK2 => ?_)
  refine e_boxN (by rfl) rfl rfl (cs := #[.slice Aq E.L.length z, .int .i64 E.last]) (v := .agg #[.slice Aq E.L.length z, .int .i64 E.last]) (by rfl) rfl ?_
  rintro g3 w4 HG5 B6 C7
  have nw8 := Lib.hid (show w.heap.size ≤ g3 by have := C0.out.size; have := HG5.out; omega)
  have hs9 := Lib.hid (show g3 ∉ Bs0 from fun hk => by have h8 := (EX.out.lt _ hk).2; have := HG5.out; omega)
  have nx10 := Lib.hid (SQ.out.ne_new (by decide) HG5)
  have C0' := Lib.hid (show Ch (Bs0) w w4 from C0.out.trans' C7 (fun x hx => absurd hx (by simp)))
  have EX' := Lib.hid (show ExIs w4 lo Bs0 x (c) (E) from EX.out.ch C7 (fun _ _ h => absurd h (by simp)))
  have SQ' := Lib.hid (show SrcIs w4 (.slice Aq E.L.length z) (E.L.length) (E.L.flatMap sesC) 6 from SQ.out.chx C7 xnin_nil)
  clear C0 EX SQ
  have C0 := C0'; clear C0'
  have EX := EX'; clear EX'
  have SQ := SQ'; clear SQ'
  have Fg3 := Lib.hid (show Blk w4 g3 (#[.slice Aq E.L.length z, .int .i64 E.last]) 44 from B6); clear B6 C7
  refine hK2 _ _ ?_; clear hK2 K2
  (try simp only [zP, zN, zA, zB, zC])
  refine ef_ (fun K11 hK11 => ?_)
  refine e_boxN (by rfl) rfl rfl (cs := #[.int .i64 o.kind, .int .i64 o.id, .int .i64 o.box, .int .i64 o.ctr, .int .i64 o.n, .string o.s]) (v := .agg #[.int .i64 o.kind, .int .i64 o.id, .int .i64 o.box, .int .i64 o.ctr, .int .i64 o.n, .string o.s]) (by rfl) rfl ?_
  rintro g12 w13 HG14 B15 C16
  have nw17 := Lib.hid (show w.heap.size ≤ g12 by have := C0.out.size; have := HG14.out; omega)
  have hs18 := Lib.hid (show g12 ∉ Bs0 from fun hk => by have h8 := (EX.out.lt _ hk).2; have := HG14.out; omega)
  have nx19 := Lib.hid (SQ.out.ne_new (by decide) HG14)
  have C0' := Lib.hid (show Ch (Bs0) w w13 from C0.out.trans' C16 (fun x hx => absurd hx (by simp)))
  have EX' := Lib.hid (show ExIs w13 lo Bs0 x (c) (E) from EX.out.ch C16 (fun _ _ h => absurd h (by simp)))
  have SQ' := Lib.hid (show SrcIs w13 (.slice Aq E.L.length z) (E.L.length) (E.L.flatMap sesC) 6 from SQ.out.chx C16 xnin_nil)
  have Fg3' := Lib.hid (show Blk w13 g3 (#[.slice Aq E.L.length z, .int .i64 E.last]) 44 from C16.blk Fg3.out nin_nil)
  clear C0 EX SQ Fg3
  have C0 := C0'; clear C0'
  have EX := EX'; clear EX'
  have SQ := SQ'; clear SQ'
  have Fg3 := Fg3'; clear Fg3'
  have Fg12 := Lib.hid (show Blk w13 g12 (#[.int .i64 o.kind, .int .i64 o.id, .int .i64 o.box, .int .i64 o.ctr, .int .i64 o.n, .string o.s]) 28 from B15); clear B15 C16
  refine hK11 _ _ ?_; clear hK11 K11
  (try simp only [zP, zN, zA, zB, zC])
  refine ef_ (fun K20 hK20 => ?_)
  refine e_alloc (by rfl) rfl rfl (cs := #[.slice none 0 0, .int .i64 0]) (by kernel_rfl) ?_
  rintro g21 w22 HG23 B24 C25
  have nw26 := Lib.hid (show w.heap.size ≤ g21 by have := C0.out.size; have := HG23.out; omega)
  have hs27 := Lib.hid (show g21 ∉ Bs0 from fun hk => by have h8 := (EX.out.lt _ hk).2; have := HG23.out; omega)
  have nx28 := Lib.hid (SQ.out.ne_new (by decide) HG23)
  have ne29 := Lib.hid (Fg3.out.ne_new HG23)
  have C0' := Lib.hid (show Ch (Bs0) w w22 from C0.out.trans' C25 (fun x hx => absurd hx (by simp)))
  have EX' := Lib.hid (show ExIs w22 lo Bs0 x (c) (E) from EX.out.ch C25 (fun _ _ h => absurd h (by simp)))
  have SQ' := Lib.hid (show SrcIs w22 (.slice Aq E.L.length z) (E.L.length) (E.L.flatMap sesC) 6 from SQ.out.chx C25 xnin_nil)
  have Fg3' := Lib.hid (show Blk w22 g3 (#[.slice Aq E.L.length z, .int .i64 E.last]) 44 from C25.blk Fg3.out nin_nil)
  have Fg12' := Lib.hid (show Blk w22 g12 (#[.int .i64 o.kind, .int .i64 o.id, .int .i64 o.box, .int .i64 o.ctr, .int .i64 o.n, .string o.s]) 28 from C25.blk Fg12.out nin_nil)
  clear C0 EX SQ Fg3 Fg12
  have C0 := C0'; clear C0'
  have EX := EX'; clear EX'
  have SQ := SQ'; clear SQ'
  have Fg3 := Fg3'; clear Fg3'
  have Fg12 := Fg12'; clear Fg12'
  have Fg21 := Lib.hid (show Blk w22 g21 (#[.slice none 0 0, .int .i64 0]) 44 from B24); clear B24 C25
  refine hK20 _ _ ?_; clear hK20 K20
  (try simp only [zP, zN, zA, zB, zC])
  refine pu_ (v := .bool false) (y_assign rfl (by rfl) (by rfl)) ?_
  (try simp only [zP, zN, zA, zB, zC])
  refine nl_ (hK1 _ _ ?_); clear hK1 K1
  refine s_ (fun K30 hK30 => ?_)
  refine pu_ (v := .int .i64 0) (y_assign rfl (by rfl) (by rfl)) ?_
  (try simp only [zP, zN, zA, zB, zC])
  refine pu_ (v := .int .i64 0) (y_assign rfl (by rfl) (by rfl)) ?_
  (try simp only [zP, zN, zA, zB, zC])
  refine nl_ (hK30 _ _ ?_); clear hK30 K30
  refine s_ (fun K31 hK31 => ?_)
  refine pu_ (v := .string {data := #[]}) (y_assign rfl (by rfl) (by rfl)) ?_
  (try simp only [zP, zN, zA, zB, zC])
  refine pu_ (v := .string {data := #[]}) (y_assign rfl (by rfl) (by rfl)) ?_
  (try simp only [zP, zN, zA, zB, zC])
  refine nl_ (hK31 _ _ ?_); clear hK31 K31
  refine s_ (fun K32 hK32 => ?_)
  refine pu_ (v := .int .i64 0) (y_assign rfl (by rfl) (by rfl)) ?_
  (try simp only [zP, zN, zA, zB, zC])
  refine pu_ (v := .int .i64 0) (y_assign rfl (by rfl) (by rfl)) ?_
  (try simp only [zP, zN, zA, zB, zC])
  refine nl_ (hK32 _ _ ?_); clear hK32 K32
  refine sq_ (fun K33 hK33 => ?_)
  refine s_ (fun K34 hK34 => ?_)
  refine pu_ (v := .pointer (some ⟨g12, 0, none⟩)) (y_run (by rfl) (fun W => by go_simp)) ?_
  (try simp only [zP, zN, zA, zB, zC])
  refine ld_ (v := .int .i64 o.kind) rfl (by rfl) (by rfl) (run_load_one ((Fg12.out.cell 0).trans rfl) Tryd.underlying3 rfl) ?_
  (try simp only [zP, zN, zA, zB, zC])
  refine nl_ (hK34 _ _ ?_); clear hK34 K34
  refine wp_block ?_
  refine s_ (fun K35 hK35 => ?_)
  refine pu_ (v := .bool false) (y_run (by rfl) (fun W => by have d := D32.out; go_simp)) ?_
  (try simp only [zP, zN, zA, zB, zC])
  refine pu_ (v := .bool false) (y_assign rfl (by rfl) (by rfl)) ?_
  (try simp only [zP, zN, zA, zB, zC])
  refine nl_ (hK35 _ _ ?_); clear hK35 K35
  refine wp_cond_false rfl ?_
  refine s_ (fun K36 hK36 => ?_)
  refine pu_ (v := .bool false) (y_run (by rfl) (fun W => by have d := D53.out; go_simp)) ?_
  (try simp only [zP, zN, zA, zB, zC])
  refine pu_ (v := .bool false) (y_assign rfl (by rfl) (by rfl)) ?_
  (try simp only [zP, zN, zA, zB, zC])
  refine nl_ (hK36 _ _ ?_); clear hK36 K36
  refine wp_cond_false rfl ?_
  refine s_ (fun K37 hK37 => ?_)
  refine pu_ (v := .bool false) (y_run (by rfl) (fun W => by have d := D74.out; go_simp)) ?_
  (try simp only [zP, zN, zA, zB, zC])
  refine pu_ (v := .bool false) (y_assign rfl (by rfl) (by rfl)) ?_
  (try simp only [zP, zN, zA, zB, zC])
  refine nl_ (hK37 _ _ ?_); clear hK37 K37
  refine wp_cond_false rfl ?_
  refine s_ (fun K38 hK38 => ?_)
  refine pu_ (v := .bool false) (y_run (by rfl) (fun W => by have d := D95.out; go_simp)) ?_
  (try simp only [zP, zN, zA, zB, zC])
  refine pu_ (v := .bool false) (y_assign rfl (by rfl) (by rfl)) ?_
  (try simp only [zP, zN, zA, zB, zC])
  refine nl_ (hK38 _ _ ?_); clear hK38 K38
  refine wp_cond_false rfl ?_
  refine s_ (fun K39 hK39 => ?_)
  refine pu_ (v := .bool false) (y_run (by rfl) (fun W => by have d := D112.out; go_simp)) ?_
  (try simp only [zP, zN, zA, zB, zC])
  refine pu_ (v := .bool false) (y_assign rfl (by rfl) (by rfl)) ?_
  (try simp only [zP, zN, zA, zB, zC])
  refine nl_ (hK39 _ _ ?_); clear hK39 K39
  refine wp_cond_false rfl ?_
  refine s_ (fun K40 hK40 => ?_)
  refine pu_ (v := .pointer (some ⟨x, 0, none⟩)) (y_move rfl (by rfl) (by rfl)) ?_
  (try simp only [zP, zN, zA, zB, zC])
  refine pu_ (v := .pointer (some ⟨g12, 2, none⟩)) (y_run (by rfl) (fun W => by go_simp)) ?_
  (try simp only [zP, zN, zA, zB, zC])
  refine ld_ (v := .int .i64 o.box) rfl (by rfl) (by rfl) (run_load_one ((Fg12.out.cell 2).trans rfl) Tryd.underlying3 rfl) ?_
  (try simp only [zP, zN, zA, zB, zC])
  refine pu_ (v := .pointer (some ⟨g12, 3, none⟩)) (y_run (by rfl) (fun W => by go_simp)) ?_
  (try simp only [zP, zN, zA, zB, zC])
  refine ld_ (v := .int .i64 o.ctr) rfl (by rfl) (by rfl) (run_load_one ((Fg12.out.cell 3).trans rfl) Tryd.underlying3 rfl) ?_
  (try simp only [zP, zN, zA, zB, zC])
  refine ef_ (fun K41 hK41 => ?_)
  refine e_call Tryd.func13 (by kernel_rfl) rfl #[.pointer (some ⟨x, 0, none⟩), .int .i64 o.box, .int .i64 o.ctr] (by rfl) rfl rfl (by first | rfl | (simp only [List.map_toArray, List.map_cons, List.map_nil]; first | done | rfl)) ((end_l (bx := o.box) (ct := o.ctr) EX.out (by have := HN.out; omega))) ?_
  rintro en w43 ⟨rfl, Bs42, bk, cc, bel⟩
  refine ⟨_, rfl, ?_⟩
  have hs44 := Lib.hid (show g3 ∉ Bs42 from fun h9 => (bel _ h9).elim hs9.out (fun h8 => by have := Fg3.out.lt; omega))
  have hs45 := Lib.hid (show g12 ∉ Bs42 from fun h9 => (bel _ h9).elim hs18.out (fun h8 => by have := Fg12.out.lt; omega))
  have hs46 := Lib.hid (show g21 ∉ Bs42 from fun h9 => (bel _ h9).elim hs27.out (fun h8 => by have := Fg21.out.lt; omega))
  have hr47 := Lib.hid (show ∀ k_, k_ ∈ xb (.slice Aq E.L.length z) → k_ ∉ Bs42 from fun k_ hk_ hB_ => (bel k_ hB_).elim (HXS.out k_ hk_) (fun h8 => by have := SQ.out.lt (by decide) k_ hk_; omega))
  have hb48 := Lib.hid (show ∀ k_, k_ ∈ Bs42 → k_ ∈ Bs0 ∨ w.heap.size ≤ k_ from fun k_ hk_ => (bel k_ hk_).elim (HSB.out k_) (fun h_ => .inr (Nat.le_trans C0.out.size h_)))
  have C0' := Lib.hid (show Ch (Bs0) w w43 from C0.out.trans' cc (fun x hx => .inl hx))
  have SQ' := Lib.hid (show SrcIs w43 (.slice Aq E.L.length z) (E.L.length) (E.L.flatMap sesC) 6 from SQ.out.chx cc HXS.out)
  have Fg3' := Lib.hid (show Blk w43 g3 (#[.slice Aq E.L.length z, .int .i64 E.last]) 44 from cc.blk Fg3.out hs9.out)
  have Fg12' := Lib.hid (show Blk w43 g12 (#[.int .i64 o.kind, .int .i64 o.id, .int .i64 o.box, .int .i64 o.ctr, .int .i64 o.n, .string o.s]) 28 from cc.blk Fg12.out hs18.out)
  have Fg21' := Lib.hid (show Blk w43 g21 (#[.slice none 0 0, .int .i64 0]) 44 from cc.blk Fg21.out hs27.out)
  clear C0 SQ Fg3 Fg12 Fg21
  have C0 := C0'; clear C0'
  have SQ := SQ'; clear SQ'
  have Fg3 := Fg3'; clear Fg3'
  have Fg12 := Fg12'; clear Fg12'
  have Fg21 := Fg21'; clear Fg21'
  clear EX cc bel
  have EX := Lib.hid (show ExIs w43 lo Bs42 x (c) (endSS E o.box o.ctr) from bk)
  clear bk
  refine hK41 _ _ ?_; clear hK41 K41
  (try simp only [zP, zN, zA, zB, zC])
  refine pu_ (v := .int .i64 (endR E o.box o.ctr)) (y_assign rfl (by rfl) (by rfl)) ?_
  (try simp only [zP, zN, zA, zB, zC])
  refine nl_ (hK40 _ _ ?_); clear hK40 K40
  refine r_ ?_
  refine ld_ (v := .agg (#[.slice Aq E.L.length z, .int .i64 E.last])) rfl (by rfl) (by rfl) (run_loadVar_row _ _ 44 44 (#[.slice Aq E.L.length z, .int .i64 E.last]) (0, 0) _ Fg3.out Tryd.underlying44 rfl (by kernel_rfl)) ?_
  (try simp only [zP, zN, zA, zB, zC])
  refine pu_ (v := .pointer (some ⟨g12, 2, none⟩)) (y_run (by rfl) (fun W => by go_simp)) ?_
  (try simp only [zP, zN, zA, zB, zC])
  refine ld_ (v := .int .i64 o.box) rfl (by rfl) (by rfl) (run_load_one ((Fg12.out.cell 2).trans rfl) Tryd.underlying3 rfl) ?_
  (try simp only [zP, zN, zA, zB, zC])
  refine pu_ (v := .pointer (some ⟨g12, 3, none⟩)) (y_run (by rfl) (fun W => by go_simp)) ?_
  (try simp only [zP, zN, zA, zB, zC])
  refine ld_ (v := .int .i64 o.ctr) rfl (by rfl) (by rfl) (run_load_one ((Fg12.out.cell 3).trans rfl) Tryd.underlying3 rfl) ?_
  (try simp only [zP, zN, zA, zB, zC])
  refine ef_ (fun K49 hK49 => ?_)
  refine e_call Tryd.func38 (by kernel_rfl) rfl #[.agg (#[.slice Aq E.L.length z, .int .i64 E.last]), .int .i64 o.box, .int .i64 o.ctr] (by rfl) rfl rfl (by first | rfl | (simp only [List.map_toArray, List.map_cons, List.map_nil]; first | done | rfl)) ((rend_l (bx := o.box) (ct := o.ctr) ⟨SQ.out, HZ.out⟩ (by have := HN.out; omega))) ?_
  rintro en w56 ⟨A50, z51, rfl, ⟨⟨h152, h253⟩, h454⟩, cc55⟩
  refine ⟨_, rfl, ?_⟩
  have xs57 := Lib.hid (show ∀ k_, k_ ∈ xb (.slice A50 (endSS E o.box o.ctr).L.length z51) → k_ ∉ Bs42 from fun k_ hk_ hB_ => (h454 k_ hk_).elim (fun h7 => hr47.out k_ h7 hB_) (fun h8 => by have := (EX.out.lt k_ hB_).2; omega))
  have nx58 := Lib.hid (show g3 ∉ xb (.slice A50 (endSS E o.box o.ctr).L.length z51) from fun hk => (h454 _ hk).elim nx10.out (fun h8 => by have := Fg3.out.lt; omega))
  have nx59 := Lib.hid (show g12 ∉ xb (.slice A50 (endSS E o.box o.ctr).L.length z51) from fun hk => (h454 _ hk).elim nx19.out (fun h8 => by have := Fg12.out.lt; omega))
  have nx60 := Lib.hid (show g21 ∉ xb (.slice A50 (endSS E o.box o.ctr).L.length z51) from fun hk => (h454 _ hk).elim nx28.out (fun h8 => by have := Fg21.out.lt; omega))
  have HNW := Lib.hid (show ∀ k, k ∈ xb (.slice A50 (endSS E o.box o.ctr).L.length z51) → k ∈ xb (.slice Aq E.L.length z) ∨ w.heap.size ≤ k from fun k hk => (h454 k hk).imp (fun h => h) (fun h => Nat.le_trans C0.out.size h)); clear h454
  have HZ2 := Lib.hid h253; clear h253
  have C0' := Lib.hid (show Ch (Bs0) w w56 from C0.out.trans' cc55 (fun x hx => absurd hx (by simp)))
  have EX' := Lib.hid (show ExIs w56 lo Bs42 x (c) (endSS E o.box o.ctr) from EX.out.ch cc55 (fun _ _ h => absurd h (by simp)))
  have SQ' := Lib.hid (show SrcIs w56 (.slice Aq E.L.length z) (E.L.length) (E.L.flatMap sesC) 6 from SQ.out.chx cc55 xnin_nil)
  have Fg3' := Lib.hid (show Blk w56 g3 (#[.slice Aq E.L.length z, .int .i64 E.last]) 44 from cc55.blk Fg3.out nin_nil)
  have Fg12' := Lib.hid (show Blk w56 g12 (#[.int .i64 o.kind, .int .i64 o.id, .int .i64 o.box, .int .i64 o.ctr, .int .i64 o.n, .string o.s]) 28 from cc55.blk Fg12.out nin_nil)
  have Fg21' := Lib.hid (show Blk w56 g21 (#[.slice none 0 0, .int .i64 0]) 44 from cc55.blk Fg21.out nin_nil)
  clear C0 EX SQ Fg3 Fg12 Fg21
  have C0 := C0'; clear C0'
  have EX := EX'; clear EX'
  have SQ := SQ'; clear SQ'
  have Fg3 := Fg3'; clear Fg3'
  have Fg12 := Fg12'; clear Fg12'
  have Fg21 := Fg21'; clear Fg21'
  clear cc55
  have SN := Lib.hid (show SrcIs w56 (.slice A50 (endSS E o.box o.ctr).L.length z51) ((endSS E o.box o.ctr).L.length) ((endSS E o.box o.ctr).L.flatMap sesC) 6 from h152)
  refine hK49 _ _ ?_; clear hK49 K49
  (try simp only [zP, zN, zA, zB, zC])
  refine pu_ (v := .tuple #[.agg #[.slice A50 (endSS E o.box o.ctr).L.length z51, .int .i64 (endSS E o.box o.ctr).last], .int .i64 (endR E o.box o.ctr)]) (y_move rfl (by rfl) (by rfl)) ?_
  (try simp only [zP, zN, zA, zB, zC])
  refine pu_ (v := .agg #[.slice A50 (endSS E o.box o.ctr).L.length z51, .int .i64 (endSS E o.box o.ctr).last]) (y_run (by rfl) (fun W => by go_simp)) ?_
  (try simp only [zP, zN, zA, zB, zC])
  refine pu_ (v := .int .i64 (endR E o.box o.ctr)) (y_run (by rfl) (fun W => by go_simp)) ?_
  (try simp only [zP, zN, zA, zB, zC])
  refine ef_ (fun K61 hK61 => ?_)
  refine e_storeN (cells := #[.slice A50 (endSS E o.box o.ctr).L.length z51, .int .i64 (endSS E o.box o.ctr).last]) (by rfl) rfl rfl (by rfl) (by rfl) Fg3.out (by kernel_rfl) (by rfl) (ones_cons rfl (ones_cons rfl ones_nil)) ?_
  rintro w62 B63 C64
  have C0' := Lib.hid (show Ch (Bs0) w w62 from C0.out.trans' C64 (inw_cons (.inr nw8.out) inw_nil))
  have EX' := Lib.hid (show ExIs w62 lo Bs42 x (c) (endSS E o.box o.ctr) from EX.out.ch C64 (fun k hk hm => (List.mem_cons.1 hm).elim (fun e => hs44.out (e ▸ hk)) (fun h => (fun _ _ h => absurd h (by simp)) k hk h)))
  have SQ' := Lib.hid (show SrcIs w62 (.slice Aq E.L.length z) (E.L.length) (E.L.flatMap sesC) 6 from SQ.out.chx C64 (xnin_cons nx10.out xnin_nil))
  have Fg12' := Lib.hid (show Blk w62 g12 (#[.int .i64 o.kind, .int .i64 o.id, .int .i64 o.box, .int .i64 o.ctr, .int .i64 o.n, .string o.s]) 28 from C64.blk Fg12.out (nin_cons (Blk.ne_type Fg12.out Fg3.out (by decide)) nin_nil))
  have Fg21' := Lib.hid (show Blk w62 g21 (#[.slice none 0 0, .int .i64 0]) 44 from C64.blk Fg21.out (nin_cons (Ne.symm ne29.out) nin_nil))
  have SN' := Lib.hid (show SrcIs w62 (.slice A50 (endSS E o.box o.ctr).L.length z51) ((endSS E o.box o.ctr).L.length) ((endSS E o.box o.ctr).L.flatMap sesC) 6 from SN.out.chx C64 (xnin_cons nx58.out xnin_nil))
  clear C0 EX SQ Fg12 Fg21 SN
  have C0 := C0'; clear C0'
  have EX := EX'; clear EX'
  have SQ := SQ'; clear SQ'
  have Fg12 := Fg12'; clear Fg12'
  have Fg21 := Fg21'; clear Fg21'
  have SN := SN'; clear SN'
  clear Fg3; have Fg3 := Lib.hid (show Blk w62 g3 (#[.slice A50 (endSS E o.box o.ctr).L.length z51, .int .i64 (endSS E o.box o.ctr).last]) 44 from B63); clear B63 C64
  refine hK61 _ _ ?_; clear hK61 K61
  (try simp only [zP, zN, zA, zB, zC])
  refine pu_ (v := .int .i64 (endR E o.box o.ctr)) (y_assign rfl (by rfl) (by rfl)) ?_
  (try simp only [zP, zN, zA, zB, zC])
  refine nl_ ?_
  refine ib_norm ?_
  refine th_norm (hK33 _ _ ?_); try clear hK33 K33
  refine s_ (fun K65 hK65 => ?_)
  refine ld_ (v := .agg (#[.slice A50 (endSS E o.box o.ctr).L.length z51, .int .i64 (endSS E o.box o.ctr).last])) rfl (by rfl) (by rfl) (run_loadVar_row _ _ 44 44 (#[.slice A50 (endSS E o.box o.ctr).L.length z51, .int .i64 (endSS E o.box o.ctr).last]) (0, 0) _ Fg3.out Tryd.underlying44 rfl (by kernel_rfl)) ?_
  (try simp only [zP, zN, zA, zB, zC])
  refine pu_ (v := .int .i64 (endR E o.box o.ctr)) (y_move rfl (by rfl) (by rfl)) ?_
  (try simp only [zP, zN, zA, zB, zC])
  refine pu_ (v := .int .i64 (endR E o.box o.ctr)) (y_move rfl (by rfl) (by rfl)) ?_
  (try simp only [zP, zN, zA, zB, zC])
  refine pu_ (v := .bool true) (y_run (by rfl) (fun W => by first | (go_simp; done) | (go_simp; rfl) | (go_simp; decide))) ?_
  (try simp only [zP, zN, zA, zB, zC])
  refine pu_ (v := .bool true) (y_move rfl (by rfl) (by rfl)) ?_
  (try simp only [zP, zN, zA, zB, zC])
  refine pu_ (v := .string {data := #[]}) (y_move rfl (by rfl) (by rfl)) ?_
  (try simp only [zP, zN, zA, zB, zC])
  refine pu_ (v := .string {data := #[]}) (y_move rfl (by rfl) (by rfl)) ?_
  (try simp only [zP, zN, zA, zB, zC])
  refine pu_ (v := .bool true) (y_run (by rfl) (fun W => by first | (go_simp; done) | (go_simp; rfl) | (go_simp; decide))) ?_
  (try simp only [zP, zN, zA, zB, zC])
  refine pu_ (v := .bool true) (y_pick (t := true) (by rfl) rfl (by rfl) (by rfl)) ?_
  (try simp only [zP, zN, zA, zB, zC])
  refine pu_ (v := .bool true) (y_move rfl (by rfl) (by rfl)) ?_
  (try simp only [zP, zN, zA, zB, zC])
  refine pu_ (v := .int .i64 0) (y_move rfl (by rfl) (by rfl)) ?_
  (try simp only [zP, zN, zA, zB, zC])
  refine pu_ (v := .int .i64 0) (y_move rfl (by rfl) (by rfl)) ?_
  (try simp only [zP, zN, zA, zB, zC])
  refine pu_ (v := .bool true) (y_run (by rfl) (fun W => by first | (go_simp; done) | (go_simp; rfl) | (go_simp; decide))) ?_
  (try simp only [zP, zN, zA, zB, zC])
  refine pu_ (v := .bool true) (y_pick (t := true) (by rfl) rfl (by rfl) (by rfl)) ?_
  (try simp only [zP, zN, zA, zB, zC])
  refine ef_ (fun K66 hK66 => ?_)
  refine e_storeN (cells := (#[.slice A50 (endSS E o.box o.ctr).L.length z51, .int .i64 (endSS E o.box o.ctr).last])) (by rfl) rfl rfl (by rfl) (by rfl) Fg21.out (by kernel_rfl) (by rfl) (ones_cons rfl (ones_cons rfl ones_nil)) ?_
  rintro w67 B68 C69
  have C0' := Lib.hid (show Ch (Bs0) w w67 from C0.out.trans' C69 (inw_cons (.inr nw26.out) inw_nil))
  have EX' := Lib.hid (show ExIs w67 lo Bs42 x (c) (endSS E o.box o.ctr) from EX.out.ch C69 (fun k hk hm => (List.mem_cons.1 hm).elim (fun e => hs46.out (e ▸ hk)) (fun h => (fun _ _ h => absurd h (by simp)) k hk h)))
  have SQ' := Lib.hid (show SrcIs w67 (.slice Aq E.L.length z) (E.L.length) (E.L.flatMap sesC) 6 from SQ.out.chx C69 (xnin_cons nx28.out xnin_nil))
  have Fg3' := Lib.hid (show Blk w67 g3 (#[.slice A50 (endSS E o.box o.ctr).L.length z51, .int .i64 (endSS E o.box o.ctr).last]) 44 from C69.blk Fg3.out (nin_cons ne29.out nin_nil))
  have Fg12' := Lib.hid (show Blk w67 g12 (#[.int .i64 o.kind, .int .i64 o.id, .int .i64 o.box, .int .i64 o.ctr, .int .i64 o.n, .string o.s]) 28 from C69.blk Fg12.out (nin_cons (Blk.ne_type Fg12.out Fg21.out (by decide)) nin_nil))
  have SN' := Lib.hid (show SrcIs w67 (.slice A50 (endSS E o.box o.ctr).L.length z51) ((endSS E o.box o.ctr).L.length) ((endSS E o.box o.ctr).L.flatMap sesC) 6 from SN.out.chx C69 (xnin_cons nx60.out xnin_nil))
  clear C0 EX SQ Fg3 Fg12 SN
  have C0 := C0'; clear C0'
  have EX := EX'; clear EX'
  have SQ := SQ'; clear SQ'
  have Fg3 := Fg3'; clear Fg3'
  have Fg12 := Fg12'; clear Fg12'
  have SN := SN'; clear SN'
  clear Fg21; have Fg21 := Lib.hid (show Blk w67 g21 ((#[.slice A50 (endSS E o.box o.ctr).L.length z51, .int .i64 (endSS E o.box o.ctr).last])) 44 from B68); clear B68 C69
  refine hK66 _ _ ?_; clear hK66 K66
  (try simp only [zP, zN, zA, zB, zC])
  refine pu_ (v := .bool true) (y_assign rfl (by rfl) (by rfl)) ?_
  (try simp only [zP, zN, zA, zB, zC])
  refine nl_ (hK65 _ _ ?_); clear hK65 K65
  refine wp_ret ?_
  refine hQ _ _ _ ?_
  refine bodyPost_ret (res2 rfl (rdv_cell (by rfl) (run_loadVar_row _ _ 44 44 ((#[.slice A50 (endSS E o.box o.ctr).L.length z51, .int .i64 (endSS E o.box o.ctr).last])) (0, 0) _ Fg21.out Tryd.underlying44 rfl (by kernel_rfl))) (rdv_tmp (v := .bool true) (by rfl))) rfl ?_
  exact ⟨_, _, _, rfl, ⟨⟨SN.out, HZ2.out⟩, HNW.out⟩, EX.out.up (by omega), C0.out, hb48.out, xs57.out⟩
theorem does_l {Aq : Option Addr} {z lo x c : Nat} {Bs0 : List Nat} {E : HX} {o : HA} {w0 : World} (HN : Hid (E.L.length ≤ 8)) (HC : Hid (c ≤ 90000)) (HLA : Hid (E.last ≤ 100000)) (HOK : Hid (IntOk o.n)) (HSZ : Hid (o.s.size ≤ 300)) (HTB : Hid (Tabs w0)) (HLO : Hid (lo = w0.heap.size)) (HB0 : Hid (Below w0.heap.size w0 w)) (HXS : Hid (∀ k, k ∈ xb (.slice Aq E.L.length z) → k ∉ Bs0)) (h : RefIs w Aq z E) (EX : ExIs w lo Bs0 x c E) :
    Calls Tryd.prog 17 #[.pointer (some ⟨x, 0, none⟩), .agg #[.slice Aq E.L.length z, .int .i64 E.last], .agg #[.int .i64 o.kind, .int .i64 o.id, .int .i64 o.box, .int .i64 o.ctr, .int .i64 o.n, .string o.s]] w fun en w' => ∃ Q' z' Bs', en = .returned (.tuple #[.agg #[.slice Q' (actS E o).L.length z', .int .i64 (actS E o).last], .bool true]) ∧ RStep w w' Aq z E Q' z' (actS E o) ∧ ExIs w' lo Bs' x (c + 64) (actS E o) ∧ Ch Bs0 w w' ∧ (∀ k, k ∈ Bs' → k ∈ Bs0 ∨ w.heap.size ≤ k) ∧ ∀ k, k ∈ xb (.slice Q' (actS E o).L.length z') → k ∉ Bs' := by
  have HZ := Lib.hid h.2
  have SQ := Lib.hid h.1
  have EX := Lib.hid EX
  unfold actS
  split
  · exact does_open HZ HN HC HLA HOK HSZ HTB HLO HB0 HXS (Lib.hid (by assumption)) EX SQ
  · split
    · exact does_write HZ HN HC HLA HOK HSZ HTB HLO HB0 HXS (Lib.hid (by assumption)) EX SQ
    · split
      · exact does_read HZ HN HC HLA HOK HSZ HTB HLO HB0 HXS (Lib.hid (by assumption)) EX SQ
      · split
        · exact does_turn HZ HN HC HLA HOK HSZ HTB HLO HB0 HXS (Lib.hid (by assumption)) EX SQ
        · split
          · exact does_close HZ HN HC HLA HOK HSZ HTB HLO HB0 HXS (Lib.hid (by assumption)) EX SQ
          · exact does_end HZ HN HC HLA HOK HSZ HTB HLO HB0 HXS (Lib.hid ⟨by assumption, by assumption, by assumption, by assumption, by assumption⟩) EX SQ
end
end Go.Proofs.YtcfkdglaedpnjaaDoor.V
