/- The walk of the law PhaseRuns: a pod with RAlways whose init ones are done is never terminal; with RNever it is not running once all main ones exited; what never was started keeps it pending. -/
import Derived.Test.YtgpoolcaooiemaaWeave
import Derived.Test.YtgpoolcaooiemaaPurePhaseRuns
namespace Go.Proofs.Ytgpoolcaooiemaa.H
open Go Go.RowKit Go.Proofs.Ytgpoolcaooiemaa.K Go.Proofs.YtgpoolcaooiemaaW.PrintWords Go.Proofs.YtgpoolcaooiemaaW.PrintLast Go.Proofs.Ytgpoolcaooiemaa.PPhaseRuns Go.Proofs.Ytgpoolcaooiemaa.SemPhaseRuns
set_option linter.unusedVariables false
set_option linter.unusedSimpArgs false
set_option maxRecDepth 100000
set_option maxHeartbeats 1600000
/-- The main containers: of each its name and its image lie at their place. -/
def MainIs (w : World) (b o : Nat) (main : List S67) : Prop := 0 < main.length ∧ ∀ n (h : n < main.length), w.cell? ⟨b, o + n * 11, none⟩ = some (.string main[n].f0) ∧ w.cell? ⟨b, o + n * 11 + 1, none⟩ = some (.string main[n].f1)
section
variable {w w' : World} {b o : Nat} {main : List S67} {bs : List Nat}
theorem MainIs.lt (h : MainIs w b o main) : b < w.heap.size := World.block_lt_of_cell? w _ (h.2 0 h.1).1
theorem MainIs.ch (h : MainIs w b o main) (c : Ch bs w w') (hn : b ∉ bs) : MainIs w' b o main := ⟨h.1, fun n hl => ⟨(c.cell h.lt hn).trans (h.2 n hl).1, (c.cell h.lt hn).trans (h.2 n hl).2⟩⟩
theorem MainIs.ne_new (h : MainIs w b o main) {g : Nat} (hg : Hid (g = w.heap.size)) : b ≠ g := by have := h.lt; have := hg.out; omega
theorem spotS {x : Addr} {z : ByteArray} (e0 : w.cell? x = some (.string z)) : ∃ b o, x = ⟨b, o, none⟩ := by
  rcases hx : x.spot with _ | s
  · exact ⟨x.block, x.off, by cases x; simp_all⟩
  · simp [World.cell?, hx] at e0
    split at e0 <;> simp at e0
theorem add_none (b o n : Nat) : (⟨b, o, none⟩ : Addr).add n = ⟨b, o + n, none⟩ := by
  unfold Addr.add
  split
  · subst_vars; rfl
  · rfl
theorem MainIs.of {A : Option Addr} (h : Kd.C k67 w A main.length main) (h0 : 0 < main.length) : ∃ b o, A = some ⟨b, o, none⟩ ∧ MainIs w b o main := by
  obtain ⟨ad, rfl, hc2⟩ := h.2.2 h0
  have key : ∀ n (hl : n < main.length), w.cell? (ad.add (n * 11)) = some (.string main[n].f0) ∧ w.cell? (ad.add (n * 11 + 1)) = some (.string main[n].f1) := fun n hl => by
    obtain ⟨c, e1, e2, e3⟩ := hc2 n _ (List.getElem?_eq_getElem hl)
    obtain ⟨A8, c8, rfl, _, _⟩ := k67_open e2
    exact ⟨e3 0 _ rfl, e3 1 _ rfl⟩
  obtain ⟨b, o, hb⟩ := spotS (key 0 h0).1
  have : ad = ⟨b, o, none⟩ := by simpa [Addr.add] using hb
  subst this
  exact ⟨b, o, rfl, h0, fun n hl => ⟨by have h := (key n hl).1; rwa [add_none] at h, by have h := (key n hl).2; rwa [add_none, ← Nat.add_assoc] at h⟩⟩
end
theorem four_b (b b2 : Bool) (n : Nat) : b = false ∨ (b = true ∧ b2 = false) ∨ (b = true ∧ b2 = true ∧ n = 0) ∨ (b = true ∧ b2 = true ∧ 0 < n) := by
  rcases Nat.eq_zero_or_pos n with h | h <;> cases b <;> cases b2 <;> simp [h]
theorem four (ea : Bool) (st : Int) (im : Bool) : ea = false ∨ (ea = true ∧ st ≠ 4) ∨ (ea = true ∧ st = 4 ∧ im = false) ∨ (ea = true ∧ st = 4 ∧ im = true) := by
  cases ea
  · exact .inl rfl
  · by_cases h : st = 4
    · cases im
      · exact .inr (.inr (.inl ⟨rfl, h, rfl⟩))
      · exact .inr (.inr (.inr ⟨rfl, h, rfl⟩))
    · exact .inr (.inl ⟨rfl, h⟩)
theorem three (eb : Bool) (st : Int) : eb = false ∨ (eb = true ∧ ¬ st > 1) ∨ (eb = true ∧ st > 1) := by
  cases eb
  · exact .inl rfl
  · by_cases h : st > 1
    · exact .inr (.inr ⟨rfl, h⟩)
    · exact .inr (.inl ⟨rfl, h⟩)
theorem ends4 {ea eb bt A B : Bool} {p rs : Int} (ha : ea = A) (hb : eb = B) (h : Rend A B p rs) (ht : bt = decide (p = 3 ∨ p = 4)) : (eb = false ∧ (p != 1) = false) ∨ (eb = true ∧ (p != 1) = true ∧ (rs != 3) = true ∧ (rs != 1) = true) ∨ (eb = true ∧ (p != 1) = true ∧ (rs != 3) = true ∧ (rs != 1) = false ∧ (ea == bt) = true) ∨ (eb = true ∧ (p != 1) = true ∧ (rs != 3) = false ∧ (p == 2) = true ∧ (rs != 1) = true) := by
  subst ha hb ht
  unfold Rend at h
  rcases h with ⟨rfl, rfl⟩ | ⟨rfl, rfl, rfl⟩ | ⟨rfl, rfl, rfl, h⟩ | ⟨rfl, rfl, rfl, rfl⟩ | ⟨rfl, h3, h1, h⟩
  · simp
  · simp
  · rcases h with rfl | rfl <;> simp
  · simp
  · rcases h with rfl | rfl | rfl <;> simp [h3, h1]
theorem goes (w : World) (nm : ByteArray) (A1 : Option Addr) (c1 : Nat) (lb : List S73) (A2 : Option Addr) (c2 : Nat) (ini : List S67) (A3 : Option Addr) (c3 : Nat) (main : List S67) (rs x y : Int) (a : Option Addr) (cap : Nat) (l : List S59) (L : ByteArray → (Int × ByteArray × ByteArray × Int × Int × Int × Bool)) (b b2 bt : Bool) (p : Int)
    (H28 : Hid (∀ W, Calls Try.prog 28 #[] W fun e w' => e = .returned (.bool true) ∧ Ch [] W w'))
    (H29 : Hid (∀ W, Ch [] w W → Calls Try.prog 29 #[.agg #[.string nm, .slice A1 lb.length c1, .slice A2 ini.length c2, .slice A3 main.length c3, .int .i64 rs, .int .i64 x, .int .i64 y]] W fun e w' => e = .returned (.bool b) ∧ Ch [] W w'))
    (H30 : Hid (∀ W, Ch [] w W → Calls Try.prog 30 #[.slice a l.length cap] W fun e w' => e = .returned (.bool b2) ∧ Ch [] W w'))
    (H32 : Hid (∀ W, Ch [] w W → ∀ q, Calls Try.prog 32 #[.slice a l.length cap, .string q] W fun e w' => e = .returned (.agg #[.int .i64 (L q).1, .string (L q).2.1, .string (L q).2.2.1, .int .i64 (L q).2.2.2.1, .int .i64 (L q).2.2.2.2.1, .int .i64 (L q).2.2.2.2.2.1, .bool (L q).2.2.2.2.2.2]) ∧ Ch [] W w'))
    (H31 : Hid (0 < main.length → ∀ W, Ch [] w W → Calls Try.prog 31 #[.agg #[.string nm, .slice A1 lb.length c1, .slice none 0 0, .slice A3 main.length c3, .int .i64 rs, .int .i64 x, .int .i64 y], .slice a l.length cap] W fun e w' => e = .returned (.int .i64 p) ∧ Ch [] W w'))
    (H26 : Hid (∀ W, Calls Try.prog 26 #[.int .i64 p] W fun e w' => e = .returned (.bool bt) ∧ Ch [] W w'))
    (HC : Hid (Kd.C k67 w A3 main.length main)) (HM : Hid (main.length ≤ maxLen)) (HR : Hid (0 < main.length → Rend (main.all (exB L)) (main.all (upB L)) p rs ∧ bt = decide (p = 3 ∨ p = 4))) :
    Calls Try.prog 8 #[.agg #[.string nm, .slice A1 lb.length c1, .slice A2 ini.length c2, .slice A3 main.length c3, .int .i64 rs, .int .i64 x, .int .i64 y], .slice a l.length cap] w fun en w' => en = .returned (.bool true) ∧ Ch [] w w' := by
  have C0 := Lib.hid (Ch.refl [] w)
  go_enter Try.func8, Try.ntmps8
  refine q_ (fun Q hQ hP => ?_)
  refine s_ (fun K1 hK1 => ?_)
  refine ef_ (fun K2 hK2 => ?_)
  refine e_boxN (by rfl) rfl rfl (cs := #[.string nm, .slice A1 lb.length c1, .slice A2 ini.length c2, .slice A3 main.length c3, .int .i64 rs, .int .i64 x, .int .i64 y]) (v := .agg #[.string nm, .slice A1 lb.length c1, .slice A2 ini.length c2, .slice A3 main.length c3, .int .i64 rs, .int .i64 x, .int .i64 y]) (by rfl) rfl ?_
  rintro g3 w4 HG5 B6 C7
  have nw8 := Lib.hid (show w.heap.size ≤ g3 by have := C0.out.size; have := HG5.out; omega)
  have C0' := Lib.hid (show Ch [] w w4 from C0.out.trans' C7 (fun x hx => absurd hx (by simp)))
  clear C0
  have C0 := C0'; clear C0'
  have Fg3 := Lib.hid (show Blk w4 g3 (#[.string nm, .slice A1 lb.length c1, .slice A2 ini.length c2, .slice A3 main.length c3, .int .i64 rs, .int .i64 x, .int .i64 y]) 51 from B6); clear B6 C7
  refine hK2 _ _ ?_; clear hK2 K2
  (try simp only [zP, zN, zA, zB, zC])
  refine pu_ (v := .bool false) (y_assign rfl (by rfl) (by rfl)) ?_
  (try simp only [zP, zN, zA, zB, zC])
  refine nl_ (hK1 _ _ ?_); clear hK1 K1
  refine sq_ (fun K9 hK9 => ?_)
  refine s_ (fun K10 hK10 => ?_)
  refine ef_ (fun K11 hK11 => ?_)
  refine e_call Try.func28 (by kernel_rfl) rfl #[] (by rfl) rfl rfl (by first | rfl | (simp only [List.map_toArray, List.map_cons, List.map_nil]; first | done | rfl)) (H28.out _) ?_
  rintro en w13 ⟨rfl, cc12⟩
  refine ⟨_, rfl, ?_⟩
  have C0' := Lib.hid (show Ch [] w w13 from C0.out.trans' cc12 (fun x hx => absurd hx (by simp)))
  have Fg3' := Lib.hid (show Blk w13 g3 (#[.string nm, .slice A1 lb.length c1, .slice A2 ini.length c2, .slice A3 main.length c3, .int .i64 rs, .int .i64 x, .int .i64 y]) 51 from cc12.blk Fg3.out nin_nil)
  clear C0 Fg3
  have C0 := C0'; clear C0'
  have Fg3 := Fg3'; clear Fg3'
  clear cc12
  refine hK11 _ _ ?_; clear hK11 K11
  (try simp only [zP, zN, zA, zB, zC])
  refine pu_ (v := .bool false) (y_run (by rfl) (fun W => by go_simp)) ?_
  (try simp only [zP, zN, zA, zB, zC])
  refine nl_ (hK10 _ _ ?_); clear hK10 K10
  refine wp_cond_false rfl ?_
  refine wp_skip ?_
  refine th_norm (hK9 _ _ ?_); try clear hK9 K9
  refine sq_ (fun K14 hK14 => ?_)
  rcases (show b = false ∨ (b = true ∧ b2 = false) ∨ (b = true ∧ b2 = true ∧ main.length = 0) ∨ (b = true ∧ b2 = true ∧ 0 < main.length) from four_b _ _ _) with h | h | h | h
  · have hb := Lib.hid h
    clear h
    refine s_ (fun K15 hK15 => ?_)
    refine ld_ (v := .agg (#[.string nm, .slice A1 lb.length c1, .slice A2 ini.length c2, .slice A3 main.length c3, .int .i64 rs, .int .i64 x, .int .i64 y])) rfl (by rfl) (by rfl) (run_loadVar_row _ _ 51 51 (#[.string nm, .slice A1 lb.length c1, .slice A2 ini.length c2, .slice A3 main.length c3, .int .i64 rs, .int .i64 x, .int .i64 y]) (0, 0) _ Fg3.out Try.underlying51 rfl (by kernel_rfl)) ?_
    (try simp only [zP, zN, zA, zB, zC])
    refine ef_ (fun K16 hK16 => ?_)
    refine e_call Try.func29 (by kernel_rfl) rfl #[.agg (#[.string nm, .slice A1 lb.length c1, .slice A2 ini.length c2, .slice A3 main.length c3, .int .i64 rs, .int .i64 x, .int .i64 y])] (by rfl) rfl rfl (by first | rfl | (simp only [List.map_toArray, List.map_cons, List.map_nil]; first | done | rfl)) ((by have h := H29.out _ C0.out; rw [hb.out] at h; exact h)) ?_
    rintro en w18 ⟨rfl, cc17⟩
    refine ⟨_, rfl, ?_⟩
    have C0' := Lib.hid (show Ch [] w w18 from C0.out.trans' cc17 (fun x hx => absurd hx (by simp)))
    have Fg3' := Lib.hid (show Blk w18 g3 (#[.string nm, .slice A1 lb.length c1, .slice A2 ini.length c2, .slice A3 main.length c3, .int .i64 rs, .int .i64 x, .int .i64 y]) 51 from cc17.blk Fg3.out nin_nil)
    clear C0 Fg3
    have C0 := C0'; clear C0'
    have Fg3 := Fg3'; clear Fg3'
    clear cc17
    refine hK16 _ _ ?_; clear hK16 K16
    (try simp only [zP, zN, zA, zB, zC])
    refine pu_ (v := .bool true) (y_run (by rfl) (fun W => by go_simp)) ?_
    (try simp only [zP, zN, zA, zB, zC])
    refine pu_ (v := .bool true) (y_move rfl (by rfl) (by rfl)) ?_
    (try simp only [zP, zN, zA, zB, zC])
    refine pu_ (y_off (by rfl)) ?_
    (try simp only [zP, zN, zA, zB, zC])
    refine pu_ (y_off (by rfl)) ?_
    (try simp only [zP, zN, zA, zB, zC])
    refine pu_ (y_off (by rfl)) ?_
    (try simp only [zP, zN, zA, zB, zC])
    refine pu_ (v := .bool true) (y_pick (t := true) (by rfl) rfl (by rfl) (by rfl)) ?_
    (try simp only [zP, zN, zA, zB, zC])
    refine pu_ (v := .bool true) (y_move rfl (by rfl) (by rfl)) ?_
    (try simp only [zP, zN, zA, zB, zC])
    refine pu_ (y_off (by rfl)) ?_
    (try simp only [zP, zN, zA, zB, zC])
    refine pu_ (y_off (by rfl)) ?_
    (try simp only [zP, zN, zA, zB, zC])
    refine pu_ (y_off (by rfl)) ?_
    (try simp only [zP, zN, zA, zB, zC])
    refine pu_ (y_off (by rfl)) ?_
    (try simp only [zP, zN, zA, zB, zC])
    refine pu_ (v := .bool true) (y_pick (t := true) (by rfl) rfl (by rfl) (by rfl)) ?_
    (try simp only [zP, zN, zA, zB, zC])
    refine nl_ (hK15 _ _ ?_); clear hK15 K15
    refine wp_cond_true rfl ?_
    refine s_ (fun K19 hK19 => ?_)
    refine pu_ (v := .bool true) (y_assign rfl (by rfl) (by rfl)) ?_
    (try simp only [zP, zN, zA, zB, zC])
    refine nl_ (hK19 _ _ ?_); clear hK19 K19
    refine wp_ret ?_
    refine th_ret ?_
    refine hQ _ _ _ ?_
    refine bodyPost_ret (res1 rfl (rdv_tmp (v := .bool true) (by rfl))) rfl ?_
    exact ⟨rfl, C0.out⟩
  · have hb := Lib.hid h.1
    have hb2 := Lib.hid h.2
    clear h
    refine s_ (fun K20 hK20 => ?_)
    refine ld_ (v := .agg (#[.string nm, .slice A1 lb.length c1, .slice A2 ini.length c2, .slice A3 main.length c3, .int .i64 rs, .int .i64 x, .int .i64 y])) rfl (by rfl) (by rfl) (run_loadVar_row _ _ 51 51 (#[.string nm, .slice A1 lb.length c1, .slice A2 ini.length c2, .slice A3 main.length c3, .int .i64 rs, .int .i64 x, .int .i64 y]) (0, 0) _ Fg3.out Try.underlying51 rfl (by kernel_rfl)) ?_
    (try simp only [zP, zN, zA, zB, zC])
    refine ef_ (fun K21 hK21 => ?_)
    refine e_call Try.func29 (by kernel_rfl) rfl #[.agg (#[.string nm, .slice A1 lb.length c1, .slice A2 ini.length c2, .slice A3 main.length c3, .int .i64 rs, .int .i64 x, .int .i64 y])] (by rfl) rfl rfl (by first | rfl | (simp only [List.map_toArray, List.map_cons, List.map_nil]; first | done | rfl)) ((by have h := H29.out _ C0.out; rw [hb.out] at h; exact h)) ?_
    rintro en w23 ⟨rfl, cc22⟩
    refine ⟨_, rfl, ?_⟩
    have C0' := Lib.hid (show Ch [] w w23 from C0.out.trans' cc22 (fun x hx => absurd hx (by simp)))
    have Fg3' := Lib.hid (show Blk w23 g3 (#[.string nm, .slice A1 lb.length c1, .slice A2 ini.length c2, .slice A3 main.length c3, .int .i64 rs, .int .i64 x, .int .i64 y]) 51 from cc22.blk Fg3.out nin_nil)
    clear C0 Fg3
    have C0 := C0'; clear C0'
    have Fg3 := Fg3'; clear Fg3'
    clear cc22
    refine hK21 _ _ ?_; clear hK21 K21
    (try simp only [zP, zN, zA, zB, zC])
    refine pu_ (v := .bool false) (y_run (by rfl) (fun W => by go_simp)) ?_
    (try simp only [zP, zN, zA, zB, zC])
    refine pu_ (v := .bool false) (y_move rfl (by rfl) (by rfl)) ?_
    (try simp only [zP, zN, zA, zB, zC])
    refine pu_ (v := .slice a l.length cap) (y_move rfl (by rfl) (by rfl)) ?_
    (try simp only [zP, zN, zA, zB, zC])
    refine ef_ (fun K24 hK24 => ?_)
    refine e_call Try.func30 (by kernel_rfl) rfl #[.slice a l.length cap] (by rfl) rfl rfl (by first | rfl | (simp only [List.map_toArray, List.map_cons, List.map_nil]; first | done | rfl)) ((by have h := H30.out _ C0.out; rw [hb2.out] at h; exact h)) ?_
    rintro en w26 ⟨rfl, cc25⟩
    refine ⟨_, rfl, ?_⟩
    have C0' := Lib.hid (show Ch [] w w26 from C0.out.trans' cc25 (fun x hx => absurd hx (by simp)))
    have Fg3' := Lib.hid (show Blk w26 g3 (#[.string nm, .slice A1 lb.length c1, .slice A2 ini.length c2, .slice A3 main.length c3, .int .i64 rs, .int .i64 x, .int .i64 y]) 51 from cc25.blk Fg3.out nin_nil)
    clear C0 Fg3
    have C0 := C0'; clear C0'
    have Fg3 := Fg3'; clear Fg3'
    clear cc25
    refine hK24 _ _ ?_; clear hK24 K24
    (try simp only [zP, zN, zA, zB, zC])
    refine pu_ (v := .bool true) (y_run (by rfl) (fun W => by go_simp)) ?_
    (try simp only [zP, zN, zA, zB, zC])
    refine pu_ (v := .bool true) (y_pick (t := false) (by rfl) rfl (by rfl) (by rfl)) ?_
    (try simp only [zP, zN, zA, zB, zC])
    refine pu_ (v := .bool true) (y_move rfl (by rfl) (by rfl)) ?_
    (try simp only [zP, zN, zA, zB, zC])
    refine pu_ (y_off (by rfl)) ?_
    (try simp only [zP, zN, zA, zB, zC])
    refine pu_ (y_off (by rfl)) ?_
    (try simp only [zP, zN, zA, zB, zC])
    refine pu_ (y_off (by rfl)) ?_
    (try simp only [zP, zN, zA, zB, zC])
    refine pu_ (y_off (by rfl)) ?_
    (try simp only [zP, zN, zA, zB, zC])
    refine pu_ (v := .bool true) (y_pick (t := true) (by rfl) rfl (by rfl) (by rfl)) ?_
    (try simp only [zP, zN, zA, zB, zC])
    refine nl_ (hK20 _ _ ?_); clear hK20 K20
    refine wp_cond_true rfl ?_
    refine s_ (fun K27 hK27 => ?_)
    refine pu_ (v := .bool true) (y_assign rfl (by rfl) (by rfl)) ?_
    (try simp only [zP, zN, zA, zB, zC])
    refine nl_ (hK27 _ _ ?_); clear hK27 K27
    refine wp_ret ?_
    refine th_ret ?_
    refine hQ _ _ _ ?_
    refine bodyPost_ret (res1 rfl (rdv_tmp (v := .bool true) (by rfl))) rfl ?_
    exact ⟨rfl, C0.out⟩
  · have hb := Lib.hid h.1
    have hb2 := Lib.hid h.2.1
    have D24 := Lib.hid (show ((main.length : Int) == 0) = true from beq_iff_eq.2 (by have := h.2.2; omega))
    clear h
    refine s_ (fun K28 hK28 => ?_)
    refine ld_ (v := .agg (#[.string nm, .slice A1 lb.length c1, .slice A2 ini.length c2, .slice A3 main.length c3, .int .i64 rs, .int .i64 x, .int .i64 y])) rfl (by rfl) (by rfl) (run_loadVar_row _ _ 51 51 (#[.string nm, .slice A1 lb.length c1, .slice A2 ini.length c2, .slice A3 main.length c3, .int .i64 rs, .int .i64 x, .int .i64 y]) (0, 0) _ Fg3.out Try.underlying51 rfl (by kernel_rfl)) ?_
    (try simp only [zP, zN, zA, zB, zC])
    refine ef_ (fun K29 hK29 => ?_)
    refine e_call Try.func29 (by kernel_rfl) rfl #[.agg (#[.string nm, .slice A1 lb.length c1, .slice A2 ini.length c2, .slice A3 main.length c3, .int .i64 rs, .int .i64 x, .int .i64 y])] (by rfl) rfl rfl (by first | rfl | (simp only [List.map_toArray, List.map_cons, List.map_nil]; first | done | rfl)) ((by have h := H29.out _ C0.out; rw [hb.out] at h; exact h)) ?_
    rintro en w31 ⟨rfl, cc30⟩
    refine ⟨_, rfl, ?_⟩
    have C0' := Lib.hid (show Ch [] w w31 from C0.out.trans' cc30 (fun x hx => absurd hx (by simp)))
    have Fg3' := Lib.hid (show Blk w31 g3 (#[.string nm, .slice A1 lb.length c1, .slice A2 ini.length c2, .slice A3 main.length c3, .int .i64 rs, .int .i64 x, .int .i64 y]) 51 from cc30.blk Fg3.out nin_nil)
    clear C0 Fg3
    have C0 := C0'; clear C0'
    have Fg3 := Fg3'; clear Fg3'
    clear cc30
    refine hK29 _ _ ?_; clear hK29 K29
    (try simp only [zP, zN, zA, zB, zC])
    refine pu_ (v := .bool false) (y_run (by rfl) (fun W => by go_simp)) ?_
    (try simp only [zP, zN, zA, zB, zC])
    refine pu_ (v := .bool false) (y_move rfl (by rfl) (by rfl)) ?_
    (try simp only [zP, zN, zA, zB, zC])
    refine pu_ (v := .slice a l.length cap) (y_move rfl (by rfl) (by rfl)) ?_
    (try simp only [zP, zN, zA, zB, zC])
    refine ef_ (fun K32 hK32 => ?_)
    refine e_call Try.func30 (by kernel_rfl) rfl #[.slice a l.length cap] (by rfl) rfl rfl (by first | rfl | (simp only [List.map_toArray, List.map_cons, List.map_nil]; first | done | rfl)) ((by have h := H30.out _ C0.out; rw [hb2.out] at h; exact h)) ?_
    rintro en w34 ⟨rfl, cc33⟩
    refine ⟨_, rfl, ?_⟩
    have C0' := Lib.hid (show Ch [] w w34 from C0.out.trans' cc33 (fun x hx => absurd hx (by simp)))
    have Fg3' := Lib.hid (show Blk w34 g3 (#[.string nm, .slice A1 lb.length c1, .slice A2 ini.length c2, .slice A3 main.length c3, .int .i64 rs, .int .i64 x, .int .i64 y]) 51 from cc33.blk Fg3.out nin_nil)
    clear C0 Fg3
    have C0 := C0'; clear C0'
    have Fg3 := Fg3'; clear Fg3'
    clear cc33
    refine hK32 _ _ ?_; clear hK32 K32
    (try simp only [zP, zN, zA, zB, zC])
    refine pu_ (v := .bool false) (y_run (by rfl) (fun W => by go_simp)) ?_
    (try simp only [zP, zN, zA, zB, zC])
    refine pu_ (v := .bool false) (y_pick (t := false) (by rfl) rfl (by rfl) (by rfl)) ?_
    (try simp only [zP, zN, zA, zB, zC])
    refine pu_ (v := .bool false) (y_move rfl (by rfl) (by rfl)) ?_
    (try simp only [zP, zN, zA, zB, zC])
    refine pu_ (v := .pointer (some ⟨g3, 3, none⟩)) (y_run (by rfl) (fun W => by go_simp)) ?_
    (try simp only [zP, zN, zA, zB, zC])
    refine ld_ (v := .slice A3 main.length c3) rfl (by rfl) (by rfl) (run_load_one ((Fg3.out.cell 3).trans rfl) Try.underlying49 rfl) ?_
    (try simp only [zP, zN, zA, zB, zC])
    refine pu_ (v := .int .i64 main.length) (y_run (by rfl) (fun W => by go_simp)) ?_
    (try simp only [zP, zN, zA, zB, zC])
    refine pu_ (v := .bool true) (y_run (by rfl) (fun W => by have d := D24.out; go_simp)) ?_
    (try simp only [zP, zN, zA, zB, zC])
    refine pu_ (v := .bool true) (y_pick (t := false) (by rfl) rfl (by rfl) (by rfl)) ?_
    (try simp only [zP, zN, zA, zB, zC])
    refine nl_ (hK28 _ _ ?_); clear hK28 K28
    refine wp_cond_true rfl ?_
    refine s_ (fun K35 hK35 => ?_)
    refine pu_ (v := .bool true) (y_assign rfl (by rfl) (by rfl)) ?_
    (try simp only [zP, zN, zA, zB, zC])
    refine nl_ (hK35 _ _ ?_); clear hK35 K35
    refine wp_ret ?_
    refine th_ret ?_
    refine hQ _ _ _ ?_
    refine bodyPost_ret (res1 rfl (rdv_tmp (v := .bool true) (by rfl))) rfl ?_
    exact ⟨rfl, C0.out⟩
  · have hb := Lib.hid h.1
    have hb2 := Lib.hid h.2.1
    have D24 := Lib.hid (show ((main.length : Int) == 0) = false from beq_eq_false_iff_ne.2 (by have := h.2.2; omega))
    have h0 := Lib.hid h.2.2
    clear h
    obtain ⟨b3, o3, rfl, hm3⟩ := MainIs.of HC.out h0.out
    have MF := Lib.hid (hm3.ch C0.out nin_nil)
    have nmg := Lib.hid (show b3 ≠ g3 from by have := hm3.lt; have := nw8.out; omega)
    clear hm3
    refine s_ (fun K36 hK36 => ?_)
    refine ld_ (v := .agg (#[.string nm, .slice A1 lb.length c1, .slice A2 ini.length c2, .slice (some ⟨b3, o3, none⟩) main.length c3, .int .i64 rs, .int .i64 x, .int .i64 y])) rfl (by rfl) (by rfl) (run_loadVar_row _ _ 51 51 (#[.string nm, .slice A1 lb.length c1, .slice A2 ini.length c2, .slice (some ⟨b3, o3, none⟩) main.length c3, .int .i64 rs, .int .i64 x, .int .i64 y]) (0, 0) _ Fg3.out Try.underlying51 rfl (by kernel_rfl)) ?_
    (try simp only [zP, zN, zA, zB, zC])
    refine ef_ (fun K37 hK37 => ?_)
    refine e_call Try.func29 (by kernel_rfl) rfl #[.agg (#[.string nm, .slice A1 lb.length c1, .slice A2 ini.length c2, .slice (some ⟨b3, o3, none⟩) main.length c3, .int .i64 rs, .int .i64 x, .int .i64 y])] (by rfl) rfl rfl (by first | rfl | (simp only [List.map_toArray, List.map_cons, List.map_nil]; first | done | rfl)) ((by have h := H29.out _ C0.out; rw [hb.out] at h; exact h)) ?_
    rintro en w39 ⟨rfl, cc38⟩
    refine ⟨_, rfl, ?_⟩
    have C0' := Lib.hid (show Ch [] w w39 from C0.out.trans' cc38 (fun x hx => absurd hx (by simp)))
    have Fg3' := Lib.hid (show Blk w39 g3 (#[.string nm, .slice A1 lb.length c1, .slice A2 ini.length c2, .slice (some ⟨b3, o3, none⟩) main.length c3, .int .i64 rs, .int .i64 x, .int .i64 y]) 51 from cc38.blk Fg3.out nin_nil)
    have MF' := Lib.hid (show MainIs w39 b3 o3 main from MF.out.ch cc38 nin_nil)
    clear C0 Fg3 MF
    have C0 := C0'; clear C0'
    have Fg3 := Fg3'; clear Fg3'
    have MF := MF'; clear MF'
    clear cc38
    refine hK37 _ _ ?_; clear hK37 K37
    (try simp only [zP, zN, zA, zB, zC])
    refine pu_ (v := .bool false) (y_run (by rfl) (fun W => by go_simp)) ?_
    (try simp only [zP, zN, zA, zB, zC])
    refine pu_ (v := .bool false) (y_move rfl (by rfl) (by rfl)) ?_
    (try simp only [zP, zN, zA, zB, zC])
    refine pu_ (v := .slice a l.length cap) (y_move rfl (by rfl) (by rfl)) ?_
    (try simp only [zP, zN, zA, zB, zC])
    refine ef_ (fun K40 hK40 => ?_)
    refine e_call Try.func30 (by kernel_rfl) rfl #[.slice a l.length cap] (by rfl) rfl rfl (by first | rfl | (simp only [List.map_toArray, List.map_cons, List.map_nil]; first | done | rfl)) ((by have h := H30.out _ C0.out; rw [hb2.out] at h; exact h)) ?_
    rintro en w42 ⟨rfl, cc41⟩
    refine ⟨_, rfl, ?_⟩
    have C0' := Lib.hid (show Ch [] w w42 from C0.out.trans' cc41 (fun x hx => absurd hx (by simp)))
    have Fg3' := Lib.hid (show Blk w42 g3 (#[.string nm, .slice A1 lb.length c1, .slice A2 ini.length c2, .slice (some ⟨b3, o3, none⟩) main.length c3, .int .i64 rs, .int .i64 x, .int .i64 y]) 51 from cc41.blk Fg3.out nin_nil)
    have MF' := Lib.hid (show MainIs w42 b3 o3 main from MF.out.ch cc41 nin_nil)
    clear C0 Fg3 MF
    have C0 := C0'; clear C0'
    have Fg3 := Fg3'; clear Fg3'
    have MF := MF'; clear MF'
    clear cc41
    refine hK40 _ _ ?_; clear hK40 K40
    (try simp only [zP, zN, zA, zB, zC])
    refine pu_ (v := .bool false) (y_run (by rfl) (fun W => by go_simp)) ?_
    (try simp only [zP, zN, zA, zB, zC])
    refine pu_ (v := .bool false) (y_pick (t := false) (by rfl) rfl (by rfl) (by rfl)) ?_
    (try simp only [zP, zN, zA, zB, zC])
    refine pu_ (v := .bool false) (y_move rfl (by rfl) (by rfl)) ?_
    (try simp only [zP, zN, zA, zB, zC])
    refine pu_ (v := .pointer (some ⟨g3, 3, none⟩)) (y_run (by rfl) (fun W => by go_simp)) ?_
    (try simp only [zP, zN, zA, zB, zC])
    refine ld_ (v := .slice (some ⟨b3, o3, none⟩) main.length c3) rfl (by rfl) (by rfl) (run_load_one ((Fg3.out.cell 3).trans rfl) Try.underlying49 rfl) ?_
    (try simp only [zP, zN, zA, zB, zC])
    refine pu_ (v := .int .i64 main.length) (y_run (by rfl) (fun W => by go_simp)) ?_
    (try simp only [zP, zN, zA, zB, zC])
    refine pu_ (v := .bool false) (y_run (by rfl) (fun W => by have d := D24.out; go_simp)) ?_
    (try simp only [zP, zN, zA, zB, zC])
    refine pu_ (v := .bool false) (y_pick (t := false) (by rfl) rfl (by rfl) (by rfl)) ?_
    (try simp only [zP, zN, zA, zB, zC])
    refine nl_ (hK36 _ _ ?_); clear hK36 K36
    refine wp_cond_false rfl ?_
    refine wp_skip ?_
    refine th_norm (hK14 _ _ ?_); try clear hK14 K14
    refine s_ (fun K43 hK43 => ?_)
    refine pu_ (v := .pointer (some ⟨g3, 2, none⟩)) (y_run (by rfl) (fun W => by go_simp)) ?_
    (try simp only [zP, zN, zA, zB, zC])
    refine ef_ (fun K44 hK44 => ?_)
    refine e_store1 (b := g3) (j := 2) (v := .slice none 0 0) (by rfl) rfl rfl (by rfl) (by rfl) Fg3.out (show 2 < 7 by omega) (by kernel_rfl) rfl ?_
    rintro w45 B46 C47
    have C0' := Lib.hid (show Ch [] w w45 from C0.out.trans' C47 (inw_cons (.inr nw8.out) inw_nil))
    have MF' := Lib.hid (show MainIs w45 b3 o3 main from MF.out.ch C47 (nin_cons nmg.out nin_nil))
    clear C0 MF
    have C0 := C0'; clear C0'
    have MF := MF'; clear MF'
    clear Fg3; have Fg3 := Lib.hid (show Blk w45 g3 (#[.string nm, .slice A1 lb.length c1, .slice none 0 0, .slice (some ⟨b3, o3, none⟩) main.length c3, .int .i64 rs, .int .i64 x, .int .i64 y]) 51 from B46); clear B46 C47
    refine hK44 _ _ ?_; clear hK44 K44
    (try simp only [zP, zN, zA, zB, zC])
    refine nl_ (hK43 _ _ ?_); clear hK43 K43
    refine s_ (fun K48 hK48 => ?_)
    refine pu_ (v := .bool true) (y_assign rfl (by rfl) (by rfl)) ?_
    (try simp only [zP, zN, zA, zB, zC])
    refine pu_ (v := .bool true) (y_assign rfl (by rfl) (by rfl)) ?_
    (try simp only [zP, zN, zA, zB, zC])
    refine nl_ (hK48 _ _ ?_); clear hK48 K48
    refine sq_ (fun K49 hK49 => ?_)
    refine s_ (fun K50 hK50 => ?_)
    refine pu_ (v := .int .i64 0) (y_assign rfl (by rfl) (by rfl)) ?_
    (try simp only [zP, zN, zA, zB, zC])
    refine nl_ (hK50 _ _ ?_); clear hK50 K50
    refine wp_block ?_
    refine loopk_ (fun (kq : Nat) (a' : Act) (w' : World) => ∃ (n : Nat), ∃ (ea : Bool), ∃ (eb : Bool), ∃ (us : Nat → Value), a' = ⟨#[us 0, .slice a l.length cap, .pointer (some ⟨g3, 0, none⟩), us 3, .bool false, .bool ea, .bool eb, .int .i64 n, us 8, us 9, us 10, us 11, us 12, us 13, us 14, us 15, us 16, us 17, us 18, us 19, us 20, us 21, us 22, us 23, us 24, us 25, us 26, us 27, us 28, us 29, us 30, us 31, us 32, us 33, us 34, us 35, us 36, us 37, us 38, us 39, us 40, us 41, us 42, us 43, us 44, us 45, us 46, us 47, us 48, us 49, us 50, us 51, us 52, us 53, us 54, us 55, us 56, us 57, us 58, us 59, us 60, us 61, us 62, us 63, us 64, us 65, us 66, us 67, us 68, us 69, us 70, us 71, us 72, us 73, us 74, us 75, us 76, us 77, us 78, us 79, us 80, us 81, us 82, us 83, us 84, us 85, us 86, us 87, us 88, us 89, us 90, us 91, us 92, us 93, us 94, us 95], []⟩ ∧ Hid (Ch [] w w') ∧ Hid (Blk w' g3 (#[.string nm, .slice A1 lb.length c1, .slice none 0 0, .slice (some ⟨b3, o3, none⟩) main.length c3, .int .i64 rs, .int .i64 x, .int .i64 y]) 51) ∧ Hid (MainIs w' b3 o3 main) ∧ Hid (n ≤ main.length ∧ kq + n = main.length) ∧ Hid (ea = (main.take n).all (exB L)) ∧ Hid (eb = (main.take n).all (upB L))) (main.length) (⟨0, true, true, fun us_ => (#[.agg #[.string nm, .slice A1 lb.length c1, .slice A2 ini.length c2, .slice (some ⟨b3, o3, none⟩) main.length c3, .int .i64 rs, .int .i64 x, .int .i64 y], .slice a l.length cap, .pointer (some ⟨g3, 0, none⟩), undef, .bool false, .bool true, .bool true, .int .i64 0, undef, undef, .bool true, .bool false, .agg (#[.string nm, .slice A1 lb.length c1, .slice A2 ini.length c2, .slice (some ⟨b3, o3, none⟩) main.length c3, .int .i64 rs, .int .i64 x, .int .i64 y]), .bool true, .bool false, .bool false, .slice a l.length cap, .bool true, .bool false, .bool false, .bool false, .pointer (some ⟨g3, 3, none⟩), .slice (some ⟨b3, o3, none⟩) main.length c3, .int .i64 main.length, .bool false, .bool false, .pointer (some ⟨g3, 2, none⟩), undef, undef, undef, undef, undef, undef, undef, undef, undef, undef, undef, undef, undef, undef, undef, undef, undef, undef, undef, undef, undef, undef, undef, undef, undef, undef, undef, undef, undef, undef, undef, undef, undef, undef, undef, undef, undef, undef, undef, undef, undef, undef, undef, undef, undef, undef, undef, undef, undef, undef, undef, undef, undef, undef, undef, undef, undef, undef, undef, undef, undef, undef, undef, undef, undef, undef, undef, undef, undef] : Array Value).getD us_ undef, rfl, C0, Fg3, MF, Lib.hid ⟨by omega, by omega⟩, Lib.hid rfl, Lib.hid rfl⟩) ?_
    rintro kq _ w51 ⟨n, ea, eb, us, rfl, C0, Fg3, MF, hn, hea, heb⟩ K52 hK52
    refine sq_ (fun K53 hK53 => ?_)
    rcases (show n < main.length ∨ n = main.length by have := hn.out; omega) with h | h
    · have hlt := Lib.hid h
      have D31 := Lib.hid (show (n : Int) < (main.length : Int) by omega)
      have WA := Lib.hid (show IntKind.i64.wrap ((n : Int) + 1) = ((n + 1 : Nat) : Int) by rw [wr64 (by have := HM.out; unfold maxLen at this; omega)]; omega)
      clear h
      refine s_ (fun K54 hK54 => ?_)
      refine pu_ (v := .int .i64 n) (y_move rfl (by rfl) (by rfl)) ?_
      (try simp only [zP, zN, zA, zB, zC])
      refine pu_ (v := .pointer (some ⟨g3, 3, none⟩)) (y_run (by rfl) (fun W => by go_simp)) ?_
      (try simp only [zP, zN, zA, zB, zC])
      refine ld_ (v := .slice (some ⟨b3, o3, none⟩) main.length c3) rfl (by rfl) (by rfl) (run_load_one ((Fg3.out.cell 3).trans rfl) Try.underlying49 rfl) ?_
      (try simp only [zP, zN, zA, zB, zC])
      refine pu_ (v := .int .i64 main.length) (y_run (by rfl) (fun W => by go_simp)) ?_
      (try simp only [zP, zN, zA, zB, zC])
      refine pu_ (v := .bool true) (y_run (by rfl) (fun W => by have d := D31.out; go_simp)) ?_
      (try simp only [zP, zN, zA, zB, zC])
      refine nl_ (hK54 _ _ ?_); clear hK54 K54
      refine wp_cond_true rfl ?_
      refine wp_skip ?_
      refine th_norm (hK53 _ _ ?_); try clear hK53 K53
      refine sq_ (fun K55 hK55 => ?_)
      refine wp_block ?_
      refine s_ (fun K56 hK56 => ?_)
      refine pu_ (v := .slice a l.length cap) (y_move rfl (by rfl) (by rfl)) ?_
      (try simp only [zP, zN, zA, zB, zC])
      refine pu_ (v := .pointer (some ⟨g3, 3, none⟩)) (y_run (by rfl) (fun W => by go_simp)) ?_
      (try simp only [zP, zN, zA, zB, zC])
      refine ld_ (v := .slice (some ⟨b3, o3, none⟩) main.length c3) rfl (by rfl) (by rfl) (run_load_one ((Fg3.out.cell 3).trans rfl) Try.underlying49 rfl) ?_
      (try simp only [zP, zN, zA, zB, zC])
      refine pu_ (v := .int .i64 n) (y_move rfl (by rfl) (by rfl)) ?_
      (try simp only [zP, zN, zA, zB, zC])
      refine pu_ (v := .pointer (some ⟨b3, o3 + n * 11, none⟩)) (y_run (by rfl) (fun W => by have d := D31.out; go_simp)) ?_
      (try simp only [zP, zN, zA, zB, zC])
      refine pu_ (v := .pointer (some ⟨b3, o3 + n * 11, none⟩)) (y_run (by rfl) (fun W => by go_simp)) ?_
      (try simp only [zP, zN, zA, zB, zC])
      refine ld_ (v := .string (main[n]'hlt.out).f0) rfl (by rfl) (by rfl) (run_load_one (MF.out.2 n hlt.out).1 Try.underlying9 rfl) ?_
      (try simp only [zP, zN, zA, zB, zC])
      refine ef_ (fun K57 hK57 => ?_)
      refine e_call Try.func32 (by kernel_rfl) rfl #[.slice a l.length cap, .string (main[n]'hlt.out).f0] (by rfl) rfl rfl (by first | rfl | (simp only [List.map_toArray, List.map_cons, List.map_nil]; first | done | rfl)) (H32.out _ C0.out _) ?_
      rintro en w59 ⟨rfl, cc58⟩
      refine ⟨_, rfl, ?_⟩
      have C0' := Lib.hid (show Ch [] w w59 from C0.out.trans' cc58 (fun x hx => absurd hx (by simp)))
      have Fg3' := Lib.hid (show Blk w59 g3 (#[.string nm, .slice A1 lb.length c1, .slice none 0 0, .slice (some ⟨b3, o3, none⟩) main.length c3, .int .i64 rs, .int .i64 x, .int .i64 y]) 51 from cc58.blk Fg3.out nin_nil)
      have MF' := Lib.hid (show MainIs w59 b3 o3 main from MF.out.ch cc58 nin_nil)
      clear C0 Fg3 MF
      have C0 := C0'; clear C0'
      have Fg3 := Fg3'; clear Fg3'
      have MF := MF'; clear MF'
      clear cc58
      refine hK57 _ _ ?_; clear hK57 K57
      (try simp only [zP, zN, zA, zB, zC])
      refine ef_ (fun K60 hK60 => ?_)
      refine e_alloc (by rfl) rfl rfl (cs := #[.int .i64 0, .string ⟨#[]⟩, .string ⟨#[]⟩, .int .i64 0, .int .i64 0, .int .i64 0, .bool false]) (by kernel_rfl) ?_
      rintro g61 w62 HG63 B64 C65
      have nw66 := Lib.hid (show w.heap.size ≤ g61 by have := C0.out.size; have := HG63.out; omega)
      have nm67 := Lib.hid (MF.out.ne_new HG63)
      have C0' := Lib.hid (show Ch [] w w62 from C0.out.trans' C65 (fun x hx => absurd hx (by simp)))
      have Fg3' := Lib.hid (show Blk w62 g3 (#[.string nm, .slice A1 lb.length c1, .slice none 0 0, .slice (some ⟨b3, o3, none⟩) main.length c3, .int .i64 rs, .int .i64 x, .int .i64 y]) 51 from C65.blk Fg3.out nin_nil)
      have MF' := Lib.hid (show MainIs w62 b3 o3 main from MF.out.ch C65 nin_nil)
      clear C0 Fg3 MF
      have C0 := C0'; clear C0'
      have Fg3 := Fg3'; clear Fg3'
      have MF := MF'; clear MF'
      have Fg61 := Lib.hid (show Blk w62 g61 (#[.int .i64 0, .string ⟨#[]⟩, .string ⟨#[]⟩, .int .i64 0, .int .i64 0, .int .i64 0, .bool false]) 59 from B64); clear B64 C65
      refine hK60 _ _ ?_; clear hK60 K60
      (try simp only [zP, zN, zA, zB, zC])
      refine ef_ (fun K68 hK68 => ?_)
      refine e_storeN (cells := #[.int .i64 (L (main[n]'hlt.out).f0).1, .string (L (main[n]'hlt.out).f0).2.1, .string (L (main[n]'hlt.out).f0).2.2.1, .int .i64 (L (main[n]'hlt.out).f0).2.2.2.1, .int .i64 (L (main[n]'hlt.out).f0).2.2.2.2.1, .int .i64 (L (main[n]'hlt.out).f0).2.2.2.2.2.1, .bool (L (main[n]'hlt.out).f0).2.2.2.2.2.2]) (by rfl) rfl rfl (by rfl) (by rfl) Fg61.out (by kernel_rfl) (by rfl) (ones_cons rfl (ones_cons rfl (ones_cons rfl (ones_cons rfl (ones_cons rfl (ones_cons rfl (ones_cons rfl ones_nil))))))) ?_
      rintro w69 B70 C71
      have C0' := Lib.hid (show Ch [] w w69 from C0.out.trans' C71 (inw_cons (.inr nw66.out) inw_nil))
      have Fg3' := Lib.hid (show Blk w69 g3 (#[.string nm, .slice A1 lb.length c1, .slice none 0 0, .slice (some ⟨b3, o3, none⟩) main.length c3, .int .i64 rs, .int .i64 x, .int .i64 y]) 51 from C71.blk Fg3.out (nin_cons (Blk.ne_type Fg3.out Fg61.out (by decide)) nin_nil))
      have MF' := Lib.hid (show MainIs w69 b3 o3 main from MF.out.ch C71 (nin_cons nm67.out nin_nil))
      clear C0 Fg3 MF
      have C0 := C0'; clear C0'
      have Fg3 := Fg3'; clear Fg3'
      have MF := MF'; clear MF'
      clear Fg61; have Fg61 := Lib.hid (show Blk w69 g61 (#[.int .i64 (L (main[n]'hlt.out).f0).1, .string (L (main[n]'hlt.out).f0).2.1, .string (L (main[n]'hlt.out).f0).2.2.1, .int .i64 (L (main[n]'hlt.out).f0).2.2.2.1, .int .i64 (L (main[n]'hlt.out).f0).2.2.2.2.1, .int .i64 (L (main[n]'hlt.out).f0).2.2.2.2.2.1, .bool (L (main[n]'hlt.out).f0).2.2.2.2.2.2]) 59 from B70); clear B70 C71
      refine hK68 _ _ ?_; clear hK68 K68
      (try simp only [zP, zN, zA, zB, zC])
      refine nl_ (hK56 _ _ ?_); clear hK56 K56
      rcases (show ea = false ∨ (ea = true ∧ (L (main[n]'hlt.out).f0).2.2.2.1 ≠ 4) ∨ (ea = true ∧ (L (main[n]'hlt.out).f0).2.2.2.1 = 4 ∧ ((L (main[n]'hlt.out).f0).2.2.1.toList == (main[n]'hlt.out).f1.toList) = false) ∨ (ea = true ∧ (L (main[n]'hlt.out).f0).2.2.2.1 = 4 ∧ ((L (main[n]'hlt.out).f0).2.2.1.toList == (main[n]'hlt.out).f1.toList) = true) from four _ _ _) with h | h | h | h
      · have hk := Lib.hid h
        clear h
        obtain rfl := hk.out
        refine sq_ (fun K72 hK72 => ?_)
        refine startk_ (S := fun W => True) (ds := []) #[false, false, false, false, false, false, false, false, false, false, false, false, false, false, false, false, false, false, false] (by kernel_rfl) rfl rfl (fun W c => trivial) (fun w73 C74 hS75 => ?_)
        have C0' := Lib.hid (show Ch [] w w73 from C0.out.trans' C74 (fun x hx => absurd hx (by simp)))
        have Fg3' := Lib.hid (show Blk w73 g3 (#[.string nm, .slice A1 lb.length c1, .slice none 0 0, .slice (some ⟨b3, o3, none⟩) main.length c3, .int .i64 rs, .int .i64 x, .int .i64 y]) 51 from C74.blk Fg3.out nin_nil)
        have MF' := Lib.hid (show MainIs w73 b3 o3 main from MF.out.ch C74 nin_nil)
        have Fg61' := Lib.hid (show Blk w73 g61 (#[.int .i64 (L (main[n]'hlt.out).f0).1, .string (L (main[n]'hlt.out).f0).2.1, .string (L (main[n]'hlt.out).f0).2.2.1, .int .i64 (L (main[n]'hlt.out).f0).2.2.2.1, .int .i64 (L (main[n]'hlt.out).f0).2.2.2.2.1, .int .i64 (L (main[n]'hlt.out).f0).2.2.2.2.2.1, .bool (L (main[n]'hlt.out).f0).2.2.2.2.2.2]) 59 from C74.blk Fg61.out nin_nil)
        clear C0 Fg3 MF Fg61
        have C0 := C0'; clear C0'
        have Fg3 := Fg3'; clear Fg3'
        have MF := MF'; clear MF'
        have Fg61 := Fg61'; clear Fg61'
        clear C74
        refine pure_ (i := 0) (N := some 42) (v := .bool false) #[true, false, false, false, false, false, false, false, false, false, false, false, false, false, false, false, false, false, false] rfl rfl (by kernel_rfl) (fun c a w h => hP c a _ _ w h) (y_move rfl (by rfl) (by rfl)) rfl ?_
        (try simp only [zP, zN, zA, zB, zC])
        refine pure_ (i := 1) (N := some 43) (v := .bool false) #[true, true, false, false, false, false, false, false, false, false, false, false, false, false, false, false, false, false, false] rfl rfl (by kernel_rfl) (fun c a w h => hP c a _ _ w h) (y_move rfl (by rfl) (by rfl)) rfl ?_
        (try simp only [zP, zN, zA, zB, zC])
        refine pure_ (i := 2) (N := some 44) (v := undef) #[true, true, true, false, false, false, false, false, false, false, false, false, false, false, false, false, false, false, false] rfl rfl (by kernel_rfl) (fun c a w h => hP c a _ _ w h) (y_off (by rfl)) rfl ?_
        (try simp only [zP, zN, zA, zB, zC])
        refine pure_ (i := 3) (N := some 45) (v := undef) #[true, true, true, true, false, false, false, false, false, false, false, false, false, false, false, false, false, false, false] rfl rfl (by kernel_rfl) (fun c a w h => hP c a _ _ w h) (y_off (by rfl)) rfl ?_
        (try simp only [zP, zN, zA, zB, zC])
        refine pure_ (i := 4) (N := some 46) (v := undef) #[true, true, true, true, true, false, false, false, false, false, false, false, false, false, false, false, false, false, false] rfl rfl (by kernel_rfl) (fun c a w h => hP c a _ _ w h) (y_off (by rfl)) rfl ?_
        (try simp only [zP, zN, zA, zB, zC])
        refine pure_ (i := 5) (N := some 47) (v := undef) #[true, true, true, true, true, true, false, false, false, false, false, false, false, false, false, false, false, false, false] rfl rfl (by kernel_rfl) (fun c a w h => hP c a _ _ w h) (y_off (by rfl)) rfl ?_
        (try simp only [zP, zN, zA, zB, zC])
        refine pure_ (i := 6) (N := some 48) (v := .bool false) #[true, true, true, true, true, true, true, false, false, false, false, false, false, false, false, false, false, false, false] rfl rfl (by kernel_rfl) (fun c a w h => hP c a _ _ w h) (y_pick (t := false) (by rfl) rfl (by rfl) (by rfl)) rfl ?_
        (try simp only [zP, zN, zA, zB, zC])
        refine pure_ (i := 7) (N := some 49) (v := .bool false) #[true, true, true, true, true, true, true, true, false, false, false, false, false, false, false, false, false, false, false] rfl rfl (by kernel_rfl) (fun c a w h => hP c a _ _ w h) (y_move rfl (by rfl) (by rfl)) rfl ?_
        (try simp only [zP, zN, zA, zB, zC])
        refine pure_ (i := 8) (N := some 50) (v := undef) #[true, true, true, true, true, true, true, true, true, false, false, false, false, false, false, false, false, false, false] rfl rfl (by kernel_rfl) (fun c a w h => hP c a _ _ w h) (y_off (by rfl)) rfl ?_
        (try simp only [zP, zN, zA, zB, zC])
        refine pure_ (i := 9) (N := some 51) (v := undef) #[true, true, true, true, true, true, true, true, true, true, false, false, false, false, false, false, false, false, false] rfl rfl (by kernel_rfl) (fun c a w h => hP c a _ _ w h) (y_off (by rfl)) rfl ?_
        (try simp only [zP, zN, zA, zB, zC])
        refine pure_ (i := 10) (N := some 52) (v := undef) #[true, true, true, true, true, true, true, true, true, true, true, false, false, false, false, false, false, false, false] rfl rfl (by kernel_rfl) (fun c a w h => hP c a _ _ w h) (y_off (by rfl)) rfl ?_
        (try simp only [zP, zN, zA, zB, zC])
        refine pure_ (i := 11) (N := some 53) (v := undef) #[true, true, true, true, true, true, true, true, true, true, true, true, false, false, false, false, false, false, false] rfl rfl (by kernel_rfl) (fun c a w h => hP c a _ _ w h) (y_off (by rfl)) rfl ?_
        (try simp only [zP, zN, zA, zB, zC])
        refine pure_ (i := 12) (N := some 54) (v := undef) #[true, true, true, true, true, true, true, true, true, true, true, true, true, false, false, false, false, false, false] rfl rfl (by kernel_rfl) (fun c a w h => hP c a _ _ w h) (y_off (by rfl)) rfl ?_
        (try simp only [zP, zN, zA, zB, zC])
        refine pure_ (i := 13) (N := some 55) (v := undef) #[true, true, true, true, true, true, true, true, true, true, true, true, true, true, false, false, false, false, false] rfl rfl (by kernel_rfl) (fun c a w h => hP c a _ _ w h) (y_off (by rfl)) rfl ?_
        (try simp only [zP, zN, zA, zB, zC])
        refine pure_ (i := 14) (N := some 56) (v := undef) #[true, true, true, true, true, true, true, true, true, true, true, true, true, true, true, false, false, false, false] rfl rfl (by kernel_rfl) (fun c a w h => hP c a _ _ w h) (y_off (by rfl)) rfl ?_
        (try simp only [zP, zN, zA, zB, zC])
        refine pure_ (i := 15) (N := some 57) (v := undef) #[true, true, true, true, true, true, true, true, true, true, true, true, true, true, true, true, false, false, false] rfl rfl (by kernel_rfl) (fun c a w h => hP c a _ _ w h) (y_off (by rfl)) rfl ?_
        (try simp only [zP, zN, zA, zB, zC])
        refine pure_ (i := 16) (N := some 58) (v := undef) #[true, true, true, true, true, true, true, true, true, true, true, true, true, true, true, true, true, false, false] rfl rfl (by kernel_rfl) (fun c a w h => hP c a _ _ w h) (y_off (by rfl)) rfl ?_
        (try simp only [zP, zN, zA, zB, zC])
        refine pure_ (i := 17) (N := some 59) (v := .bool false) #[true, true, true, true, true, true, true, true, true, true, true, true, true, true, true, true, true, true, false] rfl rfl (by kernel_rfl) (fun c a w h => hP c a _ _ w h) (y_pick (t := false) (by rfl) rfl (by rfl) (by rfl)) rfl ?_
        (try simp only [zP, zN, zA, zB, zC])
        refine pure_ (i := 18) (N := some 5) (v := .bool false) #[true, true, true, true, true, true, true, true, true, true, true, true, true, true, true, true, true, true, true] rfl rfl (by kernel_rfl) (fun c a w h => hP c a _ _ w h) (y_assign rfl (by rfl) (by rfl)) rfl ?_
        (try simp only [zP, zN, zA, zB, zC])
        refine done_ (by kernel_rfl) (th_norm (hK72 _ _ ?_)); clear hK72 K72
        rcases (show eb = false ∨ (eb = true ∧ ¬ (L (main[n]'hlt.out).f0).2.2.2.1 > 1) ∨ (eb = true ∧ (L (main[n]'hlt.out).f0).2.2.2.1 > 1) from three _ _) with h | h | h
        · obtain rfl := h
          refine r_ ?_
          refine pu_ (v := .bool false) (y_move rfl (by rfl) (by rfl)) ?_
          (try simp only [zP, zN, zA, zB, zC])
          refine pu_ (v := .bool false) (y_move rfl (by rfl) (by rfl)) ?_
          (try simp only [zP, zN, zA, zB, zC])
          refine pu_ (y_off (by rfl)) ?_
          (try simp only [zP, zN, zA, zB, zC])
          refine pu_ (y_off (by rfl)) ?_
          (try simp only [zP, zN, zA, zB, zC])
          refine pu_ (y_off (by rfl)) ?_
          (try simp only [zP, zN, zA, zB, zC])
          refine pu_ (y_off (by rfl)) ?_
          (try simp only [zP, zN, zA, zB, zC])
          refine pu_ (v := .bool false) (y_pick (t := false) (by rfl) rfl (by rfl) (by rfl)) ?_
          (try simp only [zP, zN, zA, zB, zC])
          refine pu_ (v := .bool false) (y_assign rfl (by rfl) (by rfl)) ?_
          (try simp only [zP, zN, zA, zB, zC])
          refine nl_ ?_
          refine ib_norm ?_
          refine th_norm (hK55 _ _ ?_); try clear hK55 K55
          refine r_ ?_
          refine pu_ (v := .int .i64 n) (y_move rfl (by rfl) (by rfl)) ?_
          (try simp only [zP, zN, zA, zB, zC])
          refine pu_ (v := .int .i64 (n + 1 : Nat)) (y_run (by rfl) (fun W => by have d := WA.out; go_simp)) ?_
          (try simp only [zP, zN, zA, zB, zC])
          refine pu_ (v := .int .i64 (n + 1 : Nat)) (y_assign rfl (by rfl) (by rfl)) ?_
          (try simp only [zP, zN, zA, zB, zC])
          refine nl_ ?_
          exact th_norm (hK52 (kq - 1) _ _ (by have := hlt.out; have := hn.out; omega) ⟨n + 1, false, false, fun us_ => (#[us 0, .slice a l.length cap, .pointer (some ⟨g3, 0, none⟩), us 3, .bool false, .bool false, .bool false, .int .i64 (n + 1 : Nat), .pointer (some ⟨g61, 0, none⟩), us 9, us 10, us 11, us 12, us 13, us 14, us 15, us 16, us 17, us 18, us 19, us 20, us 21, us 22, us 23, us 24, us 25, us 26, .int .i64 n, .pointer (some ⟨g3, 3, none⟩), .slice (some ⟨b3, o3, none⟩) main.length c3, .int .i64 main.length, .bool true, .int .i64 n, .int .i64 (n + 1 : Nat), .slice a l.length cap, .pointer (some ⟨g3, 3, none⟩), .slice (some ⟨b3, o3, none⟩) main.length c3, .int .i64 n, .pointer (some ⟨b3, o3 + n * 11, none⟩), .pointer (some ⟨b3, o3 + n * 11, none⟩), .string (main[n]'hlt.out).f0, .agg #[.int .i64 (L (main[n]'hlt.out).f0).1, .string (L (main[n]'hlt.out).f0).2.1, .string (L (main[n]'hlt.out).f0).2.2.1, .int .i64 (L (main[n]'hlt.out).f0).2.2.2.1, .int .i64 (L (main[n]'hlt.out).f0).2.2.2.2.1, .int .i64 (L (main[n]'hlt.out).f0).2.2.2.2.2.1, .bool (L (main[n]'hlt.out).f0).2.2.2.2.2.2], .bool false, .bool false, undef, undef, undef, undef, .bool false, .bool false, undef, undef, undef, undef, undef, undef, undef, undef, undef, .bool false, .bool false, .bool false, undef, undef, undef, undef, .bool false, us 67, us 68, us 69, us 70, us 71, us 72, us 73, us 74, us 75, us 76, us 77, us 78, us 79, us 80, us 81, us 82, us 83, us 84, us 85, us 86, us 87, us 88, us 89, us 90, us 91, us 92, us 93, us 94, us 95] : Array Value).getD us_ undef, rfl, C0, Fg3, MF, Lib.hid ⟨by have := hlt.out; omega, by have := hlt.out; have := hn.out; omega⟩, Lib.hid (by rw [take_all _ _ _ hlt.out, rd_at _ _ hlt.out, ← hea.out]; rw [Bool.false_and]), Lib.hid (by rw [take_all _ _ _ hlt.out, rd_at _ _ hlt.out, ← heb.out]; rw [Bool.false_and])⟩)
        · obtain rfl := h.1
          have D65 := Lib.hid (show decide ((L (main[n]'hlt.out).f0).2.2.2.1 > 1) = false from decide_eq_false h.2)
          clear h
          refine r_ ?_
          refine pu_ (v := .bool true) (y_move rfl (by rfl) (by rfl)) ?_
          (try simp only [zP, zN, zA, zB, zC])
          refine pu_ (v := .bool true) (y_move rfl (by rfl) (by rfl)) ?_
          (try simp only [zP, zN, zA, zB, zC])
          refine pu_ (v := .pointer (some ⟨g61, 3, none⟩)) (y_run (by rfl) (fun W => by go_simp)) ?_
          (try simp only [zP, zN, zA, zB, zC])
          refine pu_ (v := .pointer (some ⟨g61, 3, none⟩)) (y_run (by rfl) (fun W => by go_simp)) ?_
          (try simp only [zP, zN, zA, zB, zC])
          refine ld_ (v := .int .i64 (L (main[n]'hlt.out).f0).2.2.2.1) rfl (by rfl) (by rfl) (run_load_one ((Fg61.out.cell 3).trans rfl) Try.underlying3 rfl) ?_
          (try simp only [zP, zN, zA, zB, zC])
          refine pu_ (v := .bool false) (y_run (by rfl) (fun W => by have d := D65.out; go_simp)) ?_
          (try simp only [zP, zN, zA, zB, zC])
          refine pu_ (v := .bool false) (y_pick (t := true) (by rfl) rfl (by rfl) (by rfl)) ?_
          (try simp only [zP, zN, zA, zB, zC])
          refine pu_ (v := .bool false) (y_assign rfl (by rfl) (by rfl)) ?_
          (try simp only [zP, zN, zA, zB, zC])
          refine nl_ ?_
          refine ib_norm ?_
          refine th_norm (hK55 _ _ ?_); try clear hK55 K55
          refine r_ ?_
          refine pu_ (v := .int .i64 n) (y_move rfl (by rfl) (by rfl)) ?_
          (try simp only [zP, zN, zA, zB, zC])
          refine pu_ (v := .int .i64 (n + 1 : Nat)) (y_run (by rfl) (fun W => by have d := WA.out; go_simp)) ?_
          (try simp only [zP, zN, zA, zB, zC])
          refine pu_ (v := .int .i64 (n + 1 : Nat)) (y_assign rfl (by rfl) (by rfl)) ?_
          (try simp only [zP, zN, zA, zB, zC])
          refine nl_ ?_
          exact th_norm (hK52 (kq - 1) _ _ (by have := hlt.out; have := hn.out; omega) ⟨n + 1, false, false, fun us_ => (#[us 0, .slice a l.length cap, .pointer (some ⟨g3, 0, none⟩), us 3, .bool false, .bool false, .bool false, .int .i64 (n + 1 : Nat), .pointer (some ⟨g61, 0, none⟩), us 9, us 10, us 11, us 12, us 13, us 14, us 15, us 16, us 17, us 18, us 19, us 20, us 21, us 22, us 23, us 24, us 25, us 26, .int .i64 n, .pointer (some ⟨g3, 3, none⟩), .slice (some ⟨b3, o3, none⟩) main.length c3, .int .i64 main.length, .bool true, .int .i64 n, .int .i64 (n + 1 : Nat), .slice a l.length cap, .pointer (some ⟨g3, 3, none⟩), .slice (some ⟨b3, o3, none⟩) main.length c3, .int .i64 n, .pointer (some ⟨b3, o3 + n * 11, none⟩), .pointer (some ⟨b3, o3 + n * 11, none⟩), .string (main[n]'hlt.out).f0, .agg #[.int .i64 (L (main[n]'hlt.out).f0).1, .string (L (main[n]'hlt.out).f0).2.1, .string (L (main[n]'hlt.out).f0).2.2.1, .int .i64 (L (main[n]'hlt.out).f0).2.2.2.1, .int .i64 (L (main[n]'hlt.out).f0).2.2.2.2.1, .int .i64 (L (main[n]'hlt.out).f0).2.2.2.2.2.1, .bool (L (main[n]'hlt.out).f0).2.2.2.2.2.2], .bool false, .bool false, undef, undef, undef, undef, .bool false, .bool false, undef, undef, undef, undef, undef, undef, undef, undef, undef, .bool false, .bool true, .bool true, .pointer (some ⟨g61, 3, none⟩), .pointer (some ⟨g61, 3, none⟩), .int .i64 (L (main[n]'hlt.out).f0).2.2.2.1, .bool false, .bool false, us 67, us 68, us 69, us 70, us 71, us 72, us 73, us 74, us 75, us 76, us 77, us 78, us 79, us 80, us 81, us 82, us 83, us 84, us 85, us 86, us 87, us 88, us 89, us 90, us 91, us 92, us 93, us 94, us 95] : Array Value).getD us_ undef, rfl, C0, Fg3, MF, Lib.hid ⟨by have := hlt.out; omega, by have := hlt.out; have := hn.out; omega⟩, Lib.hid (by rw [take_all _ _ _ hlt.out, rd_at _ _ hlt.out, ← hea.out]; rw [Bool.false_and]), Lib.hid (by rw [take_all _ _ _ hlt.out, rd_at _ _ hlt.out, ← heb.out]; rw [Bool.true_and]; unfold upB; rw [D65.out])⟩)
        · obtain rfl := h.1
          have D65 := Lib.hid (show decide ((L (main[n]'hlt.out).f0).2.2.2.1 > 1) = true from decide_eq_true h.2)
          clear h
          refine r_ ?_
          refine pu_ (v := .bool true) (y_move rfl (by rfl) (by rfl)) ?_
          (try simp only [zP, zN, zA, zB, zC])
          refine pu_ (v := .bool true) (y_move rfl (by rfl) (by rfl)) ?_
          (try simp only [zP, zN, zA, zB, zC])
          refine pu_ (v := .pointer (some ⟨g61, 3, none⟩)) (y_run (by rfl) (fun W => by go_simp)) ?_
          (try simp only [zP, zN, zA, zB, zC])
          refine pu_ (v := .pointer (some ⟨g61, 3, none⟩)) (y_run (by rfl) (fun W => by go_simp)) ?_
          (try simp only [zP, zN, zA, zB, zC])
          refine ld_ (v := .int .i64 (L (main[n]'hlt.out).f0).2.2.2.1) rfl (by rfl) (by rfl) (run_load_one ((Fg61.out.cell 3).trans rfl) Try.underlying3 rfl) ?_
          (try simp only [zP, zN, zA, zB, zC])
          refine pu_ (v := .bool true) (y_run (by rfl) (fun W => by have d := D65.out; go_simp)) ?_
          (try simp only [zP, zN, zA, zB, zC])
          refine pu_ (v := .bool true) (y_pick (t := true) (by rfl) rfl (by rfl) (by rfl)) ?_
          (try simp only [zP, zN, zA, zB, zC])
          refine pu_ (v := .bool true) (y_assign rfl (by rfl) (by rfl)) ?_
          (try simp only [zP, zN, zA, zB, zC])
          refine nl_ ?_
          refine ib_norm ?_
          refine th_norm (hK55 _ _ ?_); try clear hK55 K55
          refine r_ ?_
          refine pu_ (v := .int .i64 n) (y_move rfl (by rfl) (by rfl)) ?_
          (try simp only [zP, zN, zA, zB, zC])
          refine pu_ (v := .int .i64 (n + 1 : Nat)) (y_run (by rfl) (fun W => by have d := WA.out; go_simp)) ?_
          (try simp only [zP, zN, zA, zB, zC])
          refine pu_ (v := .int .i64 (n + 1 : Nat)) (y_assign rfl (by rfl) (by rfl)) ?_
          (try simp only [zP, zN, zA, zB, zC])
          refine nl_ ?_
          exact th_norm (hK52 (kq - 1) _ _ (by have := hlt.out; have := hn.out; omega) ⟨n + 1, false, true, fun us_ => (#[us 0, .slice a l.length cap, .pointer (some ⟨g3, 0, none⟩), us 3, .bool false, .bool false, .bool true, .int .i64 (n + 1 : Nat), .pointer (some ⟨g61, 0, none⟩), us 9, us 10, us 11, us 12, us 13, us 14, us 15, us 16, us 17, us 18, us 19, us 20, us 21, us 22, us 23, us 24, us 25, us 26, .int .i64 n, .pointer (some ⟨g3, 3, none⟩), .slice (some ⟨b3, o3, none⟩) main.length c3, .int .i64 main.length, .bool true, .int .i64 n, .int .i64 (n + 1 : Nat), .slice a l.length cap, .pointer (some ⟨g3, 3, none⟩), .slice (some ⟨b3, o3, none⟩) main.length c3, .int .i64 n, .pointer (some ⟨b3, o3 + n * 11, none⟩), .pointer (some ⟨b3, o3 + n * 11, none⟩), .string (main[n]'hlt.out).f0, .agg #[.int .i64 (L (main[n]'hlt.out).f0).1, .string (L (main[n]'hlt.out).f0).2.1, .string (L (main[n]'hlt.out).f0).2.2.1, .int .i64 (L (main[n]'hlt.out).f0).2.2.2.1, .int .i64 (L (main[n]'hlt.out).f0).2.2.2.2.1, .int .i64 (L (main[n]'hlt.out).f0).2.2.2.2.2.1, .bool (L (main[n]'hlt.out).f0).2.2.2.2.2.2], .bool false, .bool false, undef, undef, undef, undef, .bool false, .bool false, undef, undef, undef, undef, undef, undef, undef, undef, undef, .bool false, .bool true, .bool true, .pointer (some ⟨g61, 3, none⟩), .pointer (some ⟨g61, 3, none⟩), .int .i64 (L (main[n]'hlt.out).f0).2.2.2.1, .bool true, .bool true, us 67, us 68, us 69, us 70, us 71, us 72, us 73, us 74, us 75, us 76, us 77, us 78, us 79, us 80, us 81, us 82, us 83, us 84, us 85, us 86, us 87, us 88, us 89, us 90, us 91, us 92, us 93, us 94, us 95] : Array Value).getD us_ undef, rfl, C0, Fg3, MF, Lib.hid ⟨by have := hlt.out; omega, by have := hlt.out; have := hn.out; omega⟩, Lib.hid (by rw [take_all _ _ _ hlt.out, rd_at _ _ hlt.out, ← hea.out]; rw [Bool.false_and]), Lib.hid (by rw [take_all _ _ _ hlt.out, rd_at _ _ hlt.out, ← heb.out]; rw [Bool.true_and]; unfold upB; rw [D65.out])⟩)
      · obtain rfl := h.1
        have D47 := Lib.hid (show ((L (main[n]'hlt.out).f0).2.2.2.1 == 4) = false from beq_eq_false_iff_ne.2 h.2)
        have hx := Lib.hid h.2
        clear h
        refine sq_ (fun K76 hK76 => ?_)
        refine startk_ (S := fun W => Blk W g61 (#[.int .i64 (L (main[n]'hlt.out).f0).1, .string (L (main[n]'hlt.out).f0).2.1, .string (L (main[n]'hlt.out).f0).2.2.1, .int .i64 (L (main[n]'hlt.out).f0).2.2.2.1, .int .i64 (L (main[n]'hlt.out).f0).2.2.2.2.1, .int .i64 (L (main[n]'hlt.out).f0).2.2.2.2.2.1, .bool (L (main[n]'hlt.out).f0).2.2.2.2.2.2]) 59 ∧ True) (ds := []) #[false, false, false, false, false, false, false, false, false, false, false, false, false, false, false, false, false, false, false] (by kernel_rfl) rfl rfl (fun W c => ⟨c.blk Fg61.out nin_nil, trivial⟩) (fun w77 C78 hS79 => ?_)
        have C0' := Lib.hid (show Ch [] w w77 from C0.out.trans' C78 (fun x hx => absurd hx (by simp)))
        have Fg3' := Lib.hid (show Blk w77 g3 (#[.string nm, .slice A1 lb.length c1, .slice none 0 0, .slice (some ⟨b3, o3, none⟩) main.length c3, .int .i64 rs, .int .i64 x, .int .i64 y]) 51 from C78.blk Fg3.out nin_nil)
        have MF' := Lib.hid (show MainIs w77 b3 o3 main from MF.out.ch C78 nin_nil)
        have Fg61' := Lib.hid (show Blk w77 g61 (#[.int .i64 (L (main[n]'hlt.out).f0).1, .string (L (main[n]'hlt.out).f0).2.1, .string (L (main[n]'hlt.out).f0).2.2.1, .int .i64 (L (main[n]'hlt.out).f0).2.2.2.1, .int .i64 (L (main[n]'hlt.out).f0).2.2.2.2.1, .int .i64 (L (main[n]'hlt.out).f0).2.2.2.2.2.1, .bool (L (main[n]'hlt.out).f0).2.2.2.2.2.2]) 59 from C78.blk Fg61.out nin_nil)
        clear C0 Fg3 MF Fg61
        have C0 := C0'; clear C0'
        have Fg3 := Fg3'; clear Fg3'
        have MF := MF'; clear MF'
        have Fg61 := Fg61'; clear Fg61'
        clear C78
        refine pure_ (i := 0) (N := some 42) (v := .bool true) #[true, false, false, false, false, false, false, false, false, false, false, false, false, false, false, false, false, false, false] rfl rfl (by kernel_rfl) (fun c a w h => hP c a _ _ w h) (y_move rfl (by rfl) (by rfl)) rfl ?_
        (try simp only [zP, zN, zA, zB, zC])
        refine pure_ (i := 1) (N := some 43) (v := .bool true) #[true, true, false, false, false, false, false, false, false, false, false, false, false, false, false, false, false, false, false] rfl rfl (by kernel_rfl) (fun c a w h => hP c a _ _ w h) (y_move rfl (by rfl) (by rfl)) rfl ?_
        (try simp only [zP, zN, zA, zB, zC])
        refine pure_ (i := 2) (N := some 44) (v := .pointer (some ⟨g61, 3, none⟩)) #[true, true, true, false, false, false, false, false, false, false, false, false, false, false, false, false, false, false, false] rfl rfl (by kernel_rfl) (fun c a w h => hP c a _ _ w h) (y_run (by rfl) (fun W => by go_simp)) rfl ?_
        (try simp only [zP, zN, zA, zB, zC])
        refine pure_ (i := 3) (N := some 45) (v := .pointer (some ⟨g61, 3, none⟩)) #[true, true, true, true, false, false, false, false, false, false, false, false, false, false, false, false, false, false, false] rfl rfl (by kernel_rfl) (fun c a w h => hP c a _ _ w h) (y_run (by rfl) (fun W => by go_simp)) rfl ?_
        (try simp only [zP, zN, zA, zB, zC])
        refine take_ (i := 4) (N := some 46) (v := .int .i64 (L (main[n]'hlt.out).f0).2.2.2.1) #[true, true, true, true, true, false, false, false, false, false, false, false, false, false, false, false, false, false, false] rfl rfl (by kernel_rfl) (fun c a w h => hP c a _ _ w h) (y_load (p := ⟨g61, 3, none⟩) rfl (by rfl) (by rfl) (fun W hS => run_load_one ((hS.1.cell 3).trans rfl) Try.underlying3 rfl)) hS79 rfl ?_
        (try simp only [zP, zN, zA, zB, zC])
        refine pure_ (i := 5) (N := some 47) (v := .bool false) #[true, true, true, true, true, true, false, false, false, false, false, false, false, false, false, false, false, false, false] rfl rfl (by kernel_rfl) (fun c a w h => hP c a _ _ w h) (y_run (by rfl) (fun W => by have d := D47.out; go_simp)) rfl ?_
        (try simp only [zP, zN, zA, zB, zC])
        refine pure_ (i := 6) (N := some 48) (v := .bool false) #[true, true, true, true, true, true, true, false, false, false, false, false, false, false, false, false, false, false, false] rfl rfl (by kernel_rfl) (fun c a w h => hP c a _ _ w h) (y_pick (t := true) (by rfl) rfl (by rfl) (by rfl)) rfl ?_
        (try simp only [zP, zN, zA, zB, zC])
        refine pure_ (i := 7) (N := some 49) (v := .bool false) #[true, true, true, true, true, true, true, true, false, false, false, false, false, false, false, false, false, false, false] rfl rfl (by kernel_rfl) (fun c a w h => hP c a _ _ w h) (y_move rfl (by rfl) (by rfl)) rfl ?_
        (try simp only [zP, zN, zA, zB, zC])
        refine pure_ (i := 8) (N := some 50) (v := undef) #[true, true, true, true, true, true, true, true, true, false, false, false, false, false, false, false, false, false, false] rfl rfl (by kernel_rfl) (fun c a w h => hP c a _ _ w h) (y_off (by rfl)) rfl ?_
        (try simp only [zP, zN, zA, zB, zC])
        refine pure_ (i := 9) (N := some 51) (v := undef) #[true, true, true, true, true, true, true, true, true, true, false, false, false, false, false, false, false, false, false] rfl rfl (by kernel_rfl) (fun c a w h => hP c a _ _ w h) (y_off (by rfl)) rfl ?_
        (try simp only [zP, zN, zA, zB, zC])
        refine pure_ (i := 10) (N := some 52) (v := undef) #[true, true, true, true, true, true, true, true, true, true, true, false, false, false, false, false, false, false, false] rfl rfl (by kernel_rfl) (fun c a w h => hP c a _ _ w h) (y_off (by rfl)) rfl ?_
        (try simp only [zP, zN, zA, zB, zC])
        refine pure_ (i := 11) (N := some 53) (v := undef) #[true, true, true, true, true, true, true, true, true, true, true, true, false, false, false, false, false, false, false] rfl rfl (by kernel_rfl) (fun c a w h => hP c a _ _ w h) (y_off (by rfl)) rfl ?_
        (try simp only [zP, zN, zA, zB, zC])
        refine pure_ (i := 12) (N := some 54) (v := undef) #[true, true, true, true, true, true, true, true, true, true, true, true, true, false, false, false, false, false, false] rfl rfl (by kernel_rfl) (fun c a w h => hP c a _ _ w h) (y_off (by rfl)) rfl ?_
        (try simp only [zP, zN, zA, zB, zC])
        refine pure_ (i := 13) (N := some 55) (v := undef) #[true, true, true, true, true, true, true, true, true, true, true, true, true, true, false, false, false, false, false] rfl rfl (by kernel_rfl) (fun c a w h => hP c a _ _ w h) (y_off (by rfl)) rfl ?_
        (try simp only [zP, zN, zA, zB, zC])
        refine pure_ (i := 14) (N := some 56) (v := undef) #[true, true, true, true, true, true, true, true, true, true, true, true, true, true, true, false, false, false, false] rfl rfl (by kernel_rfl) (fun c a w h => hP c a _ _ w h) (y_off (by rfl)) rfl ?_
        (try simp only [zP, zN, zA, zB, zC])
        refine pure_ (i := 15) (N := some 57) (v := undef) #[true, true, true, true, true, true, true, true, true, true, true, true, true, true, true, true, false, false, false] rfl rfl (by kernel_rfl) (fun c a w h => hP c a _ _ w h) (y_off (by rfl)) rfl ?_
        (try simp only [zP, zN, zA, zB, zC])
        refine pure_ (i := 16) (N := some 58) (v := undef) #[true, true, true, true, true, true, true, true, true, true, true, true, true, true, true, true, true, false, false] rfl rfl (by kernel_rfl) (fun c a w h => hP c a _ _ w h) (y_off (by rfl)) rfl ?_
        (try simp only [zP, zN, zA, zB, zC])
        refine pure_ (i := 17) (N := some 59) (v := .bool false) #[true, true, true, true, true, true, true, true, true, true, true, true, true, true, true, true, true, true, false] rfl rfl (by kernel_rfl) (fun c a w h => hP c a _ _ w h) (y_pick (t := false) (by rfl) rfl (by rfl) (by rfl)) rfl ?_
        (try simp only [zP, zN, zA, zB, zC])
        refine pure_ (i := 18) (N := some 5) (v := .bool false) #[true, true, true, true, true, true, true, true, true, true, true, true, true, true, true, true, true, true, true] rfl rfl (by kernel_rfl) (fun c a w h => hP c a _ _ w h) (y_assign rfl (by rfl) (by rfl)) rfl ?_
        (try simp only [zP, zN, zA, zB, zC])
        refine done_ (by kernel_rfl) (th_norm (hK76 _ _ ?_)); clear hK76 K76
        rcases (show eb = false ∨ (eb = true ∧ ¬ (L (main[n]'hlt.out).f0).2.2.2.1 > 1) ∨ (eb = true ∧ (L (main[n]'hlt.out).f0).2.2.2.1 > 1) from three _ _) with h | h | h
        · obtain rfl := h
          refine r_ ?_
          refine pu_ (v := .bool false) (y_move rfl (by rfl) (by rfl)) ?_
          (try simp only [zP, zN, zA, zB, zC])
          refine pu_ (v := .bool false) (y_move rfl (by rfl) (by rfl)) ?_
          (try simp only [zP, zN, zA, zB, zC])
          refine pu_ (y_off (by rfl)) ?_
          (try simp only [zP, zN, zA, zB, zC])
          refine pu_ (y_off (by rfl)) ?_
          (try simp only [zP, zN, zA, zB, zC])
          refine pu_ (y_off (by rfl)) ?_
          (try simp only [zP, zN, zA, zB, zC])
          refine pu_ (y_off (by rfl)) ?_
          (try simp only [zP, zN, zA, zB, zC])
          refine pu_ (v := .bool false) (y_pick (t := false) (by rfl) rfl (by rfl) (by rfl)) ?_
          (try simp only [zP, zN, zA, zB, zC])
          refine pu_ (v := .bool false) (y_assign rfl (by rfl) (by rfl)) ?_
          (try simp only [zP, zN, zA, zB, zC])
          refine nl_ ?_
          refine ib_norm ?_
          refine th_norm (hK55 _ _ ?_); try clear hK55 K55
          refine r_ ?_
          refine pu_ (v := .int .i64 n) (y_move rfl (by rfl) (by rfl)) ?_
          (try simp only [zP, zN, zA, zB, zC])
          refine pu_ (v := .int .i64 (n + 1 : Nat)) (y_run (by rfl) (fun W => by have d := WA.out; go_simp)) ?_
          (try simp only [zP, zN, zA, zB, zC])
          refine pu_ (v := .int .i64 (n + 1 : Nat)) (y_assign rfl (by rfl) (by rfl)) ?_
          (try simp only [zP, zN, zA, zB, zC])
          refine nl_ ?_
          exact th_norm (hK52 (kq - 1) _ _ (by have := hlt.out; have := hn.out; omega) ⟨n + 1, false, false, fun us_ => (#[us 0, .slice a l.length cap, .pointer (some ⟨g3, 0, none⟩), us 3, .bool false, .bool false, .bool false, .int .i64 (n + 1 : Nat), .pointer (some ⟨g61, 0, none⟩), us 9, us 10, us 11, us 12, us 13, us 14, us 15, us 16, us 17, us 18, us 19, us 20, us 21, us 22, us 23, us 24, us 25, us 26, .int .i64 n, .pointer (some ⟨g3, 3, none⟩), .slice (some ⟨b3, o3, none⟩) main.length c3, .int .i64 main.length, .bool true, .int .i64 n, .int .i64 (n + 1 : Nat), .slice a l.length cap, .pointer (some ⟨g3, 3, none⟩), .slice (some ⟨b3, o3, none⟩) main.length c3, .int .i64 n, .pointer (some ⟨b3, o3 + n * 11, none⟩), .pointer (some ⟨b3, o3 + n * 11, none⟩), .string (main[n]'hlt.out).f0, .agg #[.int .i64 (L (main[n]'hlt.out).f0).1, .string (L (main[n]'hlt.out).f0).2.1, .string (L (main[n]'hlt.out).f0).2.2.1, .int .i64 (L (main[n]'hlt.out).f0).2.2.2.1, .int .i64 (L (main[n]'hlt.out).f0).2.2.2.2.1, .int .i64 (L (main[n]'hlt.out).f0).2.2.2.2.2.1, .bool (L (main[n]'hlt.out).f0).2.2.2.2.2.2], .bool true, .bool true, .pointer (some ⟨g61, 3, none⟩), .pointer (some ⟨g61, 3, none⟩), .int .i64 (L (main[n]'hlt.out).f0).2.2.2.1, .bool false, .bool false, .bool false, undef, undef, undef, undef, undef, undef, undef, undef, undef, .bool false, .bool false, .bool false, undef, undef, undef, undef, .bool false, us 67, us 68, us 69, us 70, us 71, us 72, us 73, us 74, us 75, us 76, us 77, us 78, us 79, us 80, us 81, us 82, us 83, us 84, us 85, us 86, us 87, us 88, us 89, us 90, us 91, us 92, us 93, us 94, us 95] : Array Value).getD us_ undef, rfl, C0, Fg3, MF, Lib.hid ⟨by have := hlt.out; omega, by have := hlt.out; have := hn.out; omega⟩, Lib.hid (by rw [take_all _ _ _ hlt.out, rd_at _ _ hlt.out, ← hea.out]; rw [Bool.true_and]; unfold exB; rw [if_neg hx.out]), Lib.hid (by rw [take_all _ _ _ hlt.out, rd_at _ _ hlt.out, ← heb.out]; rw [Bool.false_and])⟩)
        · obtain rfl := h.1
          have D65 := Lib.hid (show decide ((L (main[n]'hlt.out).f0).2.2.2.1 > 1) = false from decide_eq_false h.2)
          clear h
          refine r_ ?_
          refine pu_ (v := .bool true) (y_move rfl (by rfl) (by rfl)) ?_
          (try simp only [zP, zN, zA, zB, zC])
          refine pu_ (v := .bool true) (y_move rfl (by rfl) (by rfl)) ?_
          (try simp only [zP, zN, zA, zB, zC])
          refine pu_ (v := .pointer (some ⟨g61, 3, none⟩)) (y_run (by rfl) (fun W => by go_simp)) ?_
          (try simp only [zP, zN, zA, zB, zC])
          refine pu_ (v := .pointer (some ⟨g61, 3, none⟩)) (y_run (by rfl) (fun W => by go_simp)) ?_
          (try simp only [zP, zN, zA, zB, zC])
          refine ld_ (v := .int .i64 (L (main[n]'hlt.out).f0).2.2.2.1) rfl (by rfl) (by rfl) (run_load_one ((Fg61.out.cell 3).trans rfl) Try.underlying3 rfl) ?_
          (try simp only [zP, zN, zA, zB, zC])
          refine pu_ (v := .bool false) (y_run (by rfl) (fun W => by have d := D65.out; go_simp)) ?_
          (try simp only [zP, zN, zA, zB, zC])
          refine pu_ (v := .bool false) (y_pick (t := true) (by rfl) rfl (by rfl) (by rfl)) ?_
          (try simp only [zP, zN, zA, zB, zC])
          refine pu_ (v := .bool false) (y_assign rfl (by rfl) (by rfl)) ?_
          (try simp only [zP, zN, zA, zB, zC])
          refine nl_ ?_
          refine ib_norm ?_
          refine th_norm (hK55 _ _ ?_); try clear hK55 K55
          refine r_ ?_
          refine pu_ (v := .int .i64 n) (y_move rfl (by rfl) (by rfl)) ?_
          (try simp only [zP, zN, zA, zB, zC])
          refine pu_ (v := .int .i64 (n + 1 : Nat)) (y_run (by rfl) (fun W => by have d := WA.out; go_simp)) ?_
          (try simp only [zP, zN, zA, zB, zC])
          refine pu_ (v := .int .i64 (n + 1 : Nat)) (y_assign rfl (by rfl) (by rfl)) ?_
          (try simp only [zP, zN, zA, zB, zC])
          refine nl_ ?_
          exact th_norm (hK52 (kq - 1) _ _ (by have := hlt.out; have := hn.out; omega) ⟨n + 1, false, false, fun us_ => (#[us 0, .slice a l.length cap, .pointer (some ⟨g3, 0, none⟩), us 3, .bool false, .bool false, .bool false, .int .i64 (n + 1 : Nat), .pointer (some ⟨g61, 0, none⟩), us 9, us 10, us 11, us 12, us 13, us 14, us 15, us 16, us 17, us 18, us 19, us 20, us 21, us 22, us 23, us 24, us 25, us 26, .int .i64 n, .pointer (some ⟨g3, 3, none⟩), .slice (some ⟨b3, o3, none⟩) main.length c3, .int .i64 main.length, .bool true, .int .i64 n, .int .i64 (n + 1 : Nat), .slice a l.length cap, .pointer (some ⟨g3, 3, none⟩), .slice (some ⟨b3, o3, none⟩) main.length c3, .int .i64 n, .pointer (some ⟨b3, o3 + n * 11, none⟩), .pointer (some ⟨b3, o3 + n * 11, none⟩), .string (main[n]'hlt.out).f0, .agg #[.int .i64 (L (main[n]'hlt.out).f0).1, .string (L (main[n]'hlt.out).f0).2.1, .string (L (main[n]'hlt.out).f0).2.2.1, .int .i64 (L (main[n]'hlt.out).f0).2.2.2.1, .int .i64 (L (main[n]'hlt.out).f0).2.2.2.2.1, .int .i64 (L (main[n]'hlt.out).f0).2.2.2.2.2.1, .bool (L (main[n]'hlt.out).f0).2.2.2.2.2.2], .bool true, .bool true, .pointer (some ⟨g61, 3, none⟩), .pointer (some ⟨g61, 3, none⟩), .int .i64 (L (main[n]'hlt.out).f0).2.2.2.1, .bool false, .bool false, .bool false, undef, undef, undef, undef, undef, undef, undef, undef, undef, .bool false, .bool true, .bool true, .pointer (some ⟨g61, 3, none⟩), .pointer (some ⟨g61, 3, none⟩), .int .i64 (L (main[n]'hlt.out).f0).2.2.2.1, .bool false, .bool false, us 67, us 68, us 69, us 70, us 71, us 72, us 73, us 74, us 75, us 76, us 77, us 78, us 79, us 80, us 81, us 82, us 83, us 84, us 85, us 86, us 87, us 88, us 89, us 90, us 91, us 92, us 93, us 94, us 95] : Array Value).getD us_ undef, rfl, C0, Fg3, MF, Lib.hid ⟨by have := hlt.out; omega, by have := hlt.out; have := hn.out; omega⟩, Lib.hid (by rw [take_all _ _ _ hlt.out, rd_at _ _ hlt.out, ← hea.out]; rw [Bool.true_and]; unfold exB; rw [if_neg hx.out]), Lib.hid (by rw [take_all _ _ _ hlt.out, rd_at _ _ hlt.out, ← heb.out]; rw [Bool.true_and]; unfold upB; rw [D65.out])⟩)
        · obtain rfl := h.1
          have D65 := Lib.hid (show decide ((L (main[n]'hlt.out).f0).2.2.2.1 > 1) = true from decide_eq_true h.2)
          clear h
          refine r_ ?_
          refine pu_ (v := .bool true) (y_move rfl (by rfl) (by rfl)) ?_
          (try simp only [zP, zN, zA, zB, zC])
          refine pu_ (v := .bool true) (y_move rfl (by rfl) (by rfl)) ?_
          (try simp only [zP, zN, zA, zB, zC])
          refine pu_ (v := .pointer (some ⟨g61, 3, none⟩)) (y_run (by rfl) (fun W => by go_simp)) ?_
          (try simp only [zP, zN, zA, zB, zC])
          refine pu_ (v := .pointer (some ⟨g61, 3, none⟩)) (y_run (by rfl) (fun W => by go_simp)) ?_
          (try simp only [zP, zN, zA, zB, zC])
          refine ld_ (v := .int .i64 (L (main[n]'hlt.out).f0).2.2.2.1) rfl (by rfl) (by rfl) (run_load_one ((Fg61.out.cell 3).trans rfl) Try.underlying3 rfl) ?_
          (try simp only [zP, zN, zA, zB, zC])
          refine pu_ (v := .bool true) (y_run (by rfl) (fun W => by have d := D65.out; go_simp)) ?_
          (try simp only [zP, zN, zA, zB, zC])
          refine pu_ (v := .bool true) (y_pick (t := true) (by rfl) rfl (by rfl) (by rfl)) ?_
          (try simp only [zP, zN, zA, zB, zC])
          refine pu_ (v := .bool true) (y_assign rfl (by rfl) (by rfl)) ?_
          (try simp only [zP, zN, zA, zB, zC])
          refine nl_ ?_
          refine ib_norm ?_
          refine th_norm (hK55 _ _ ?_); try clear hK55 K55
          refine r_ ?_
          refine pu_ (v := .int .i64 n) (y_move rfl (by rfl) (by rfl)) ?_
          (try simp only [zP, zN, zA, zB, zC])
          refine pu_ (v := .int .i64 (n + 1 : Nat)) (y_run (by rfl) (fun W => by have d := WA.out; go_simp)) ?_
          (try simp only [zP, zN, zA, zB, zC])
          refine pu_ (v := .int .i64 (n + 1 : Nat)) (y_assign rfl (by rfl) (by rfl)) ?_
          (try simp only [zP, zN, zA, zB, zC])
          refine nl_ ?_
          exact th_norm (hK52 (kq - 1) _ _ (by have := hlt.out; have := hn.out; omega) ⟨n + 1, false, true, fun us_ => (#[us 0, .slice a l.length cap, .pointer (some ⟨g3, 0, none⟩), us 3, .bool false, .bool false, .bool true, .int .i64 (n + 1 : Nat), .pointer (some ⟨g61, 0, none⟩), us 9, us 10, us 11, us 12, us 13, us 14, us 15, us 16, us 17, us 18, us 19, us 20, us 21, us 22, us 23, us 24, us 25, us 26, .int .i64 n, .pointer (some ⟨g3, 3, none⟩), .slice (some ⟨b3, o3, none⟩) main.length c3, .int .i64 main.length, .bool true, .int .i64 n, .int .i64 (n + 1 : Nat), .slice a l.length cap, .pointer (some ⟨g3, 3, none⟩), .slice (some ⟨b3, o3, none⟩) main.length c3, .int .i64 n, .pointer (some ⟨b3, o3 + n * 11, none⟩), .pointer (some ⟨b3, o3 + n * 11, none⟩), .string (main[n]'hlt.out).f0, .agg #[.int .i64 (L (main[n]'hlt.out).f0).1, .string (L (main[n]'hlt.out).f0).2.1, .string (L (main[n]'hlt.out).f0).2.2.1, .int .i64 (L (main[n]'hlt.out).f0).2.2.2.1, .int .i64 (L (main[n]'hlt.out).f0).2.2.2.2.1, .int .i64 (L (main[n]'hlt.out).f0).2.2.2.2.2.1, .bool (L (main[n]'hlt.out).f0).2.2.2.2.2.2], .bool true, .bool true, .pointer (some ⟨g61, 3, none⟩), .pointer (some ⟨g61, 3, none⟩), .int .i64 (L (main[n]'hlt.out).f0).2.2.2.1, .bool false, .bool false, .bool false, undef, undef, undef, undef, undef, undef, undef, undef, undef, .bool false, .bool true, .bool true, .pointer (some ⟨g61, 3, none⟩), .pointer (some ⟨g61, 3, none⟩), .int .i64 (L (main[n]'hlt.out).f0).2.2.2.1, .bool true, .bool true, us 67, us 68, us 69, us 70, us 71, us 72, us 73, us 74, us 75, us 76, us 77, us 78, us 79, us 80, us 81, us 82, us 83, us 84, us 85, us 86, us 87, us 88, us 89, us 90, us 91, us 92, us 93, us 94, us 95] : Array Value).getD us_ undef, rfl, C0, Fg3, MF, Lib.hid ⟨by have := hlt.out; omega, by have := hlt.out; have := hn.out; omega⟩, Lib.hid (by rw [take_all _ _ _ hlt.out, rd_at _ _ hlt.out, ← hea.out]; rw [Bool.true_and]; unfold exB; rw [if_neg hx.out]), Lib.hid (by rw [take_all _ _ _ hlt.out, rd_at _ _ hlt.out, ← heb.out]; rw [Bool.true_and]; unfold upB; rw [D65.out])⟩)
      · obtain rfl := h.1
        have D47 := Lib.hid (show ((L (main[n]'hlt.out).f0).2.2.2.1 == 4) = true from beq_iff_eq.2 h.2.1)
        have D58 := Lib.hid (show ((L (main[n]'hlt.out).f0).2.2.1.toList == (main[n]'hlt.out).f1.toList) = false from h.2.2)
        have hx := Lib.hid h.2.1
        clear h
        refine sq_ (fun K80 hK80 => ?_)
        refine startk_ (S := fun W => Blk W g3 (#[.string nm, .slice A1 lb.length c1, .slice none 0 0, .slice (some ⟨b3, o3, none⟩) main.length c3, .int .i64 rs, .int .i64 x, .int .i64 y]) 51 ∧ MainIs W b3 o3 main ∧ Blk W g61 (#[.int .i64 (L (main[n]'hlt.out).f0).1, .string (L (main[n]'hlt.out).f0).2.1, .string (L (main[n]'hlt.out).f0).2.2.1, .int .i64 (L (main[n]'hlt.out).f0).2.2.2.1, .int .i64 (L (main[n]'hlt.out).f0).2.2.2.2.1, .int .i64 (L (main[n]'hlt.out).f0).2.2.2.2.2.1, .bool (L (main[n]'hlt.out).f0).2.2.2.2.2.2]) 59 ∧ True) (ds := []) #[false, false, false, false, false, false, false, false, false, false, false, false, false, false, false, false, false, false, false] (by kernel_rfl) rfl rfl (fun W c => ⟨c.blk Fg3.out nin_nil, MF.out.ch c nin_nil, c.blk Fg61.out nin_nil, trivial⟩) (fun w81 C82 hS83 => ?_)
        have C0' := Lib.hid (show Ch [] w w81 from C0.out.trans' C82 (fun x hx => absurd hx (by simp)))
        have Fg3' := Lib.hid (show Blk w81 g3 (#[.string nm, .slice A1 lb.length c1, .slice none 0 0, .slice (some ⟨b3, o3, none⟩) main.length c3, .int .i64 rs, .int .i64 x, .int .i64 y]) 51 from C82.blk Fg3.out nin_nil)
        have MF' := Lib.hid (show MainIs w81 b3 o3 main from MF.out.ch C82 nin_nil)
        have Fg61' := Lib.hid (show Blk w81 g61 (#[.int .i64 (L (main[n]'hlt.out).f0).1, .string (L (main[n]'hlt.out).f0).2.1, .string (L (main[n]'hlt.out).f0).2.2.1, .int .i64 (L (main[n]'hlt.out).f0).2.2.2.1, .int .i64 (L (main[n]'hlt.out).f0).2.2.2.2.1, .int .i64 (L (main[n]'hlt.out).f0).2.2.2.2.2.1, .bool (L (main[n]'hlt.out).f0).2.2.2.2.2.2]) 59 from C82.blk Fg61.out nin_nil)
        clear C0 Fg3 MF Fg61
        have C0 := C0'; clear C0'
        have Fg3 := Fg3'; clear Fg3'
        have MF := MF'; clear MF'
        have Fg61 := Fg61'; clear Fg61'
        clear C82
        refine pure_ (i := 0) (N := some 42) (v := .bool true) #[true, false, false, false, false, false, false, false, false, false, false, false, false, false, false, false, false, false, false] rfl rfl (by kernel_rfl) (fun c a w h => hP c a _ _ w h) (y_move rfl (by rfl) (by rfl)) rfl ?_
        (try simp only [zP, zN, zA, zB, zC])
        refine pure_ (i := 1) (N := some 43) (v := .bool true) #[true, true, false, false, false, false, false, false, false, false, false, false, false, false, false, false, false, false, false] rfl rfl (by kernel_rfl) (fun c a w h => hP c a _ _ w h) (y_move rfl (by rfl) (by rfl)) rfl ?_
        (try simp only [zP, zN, zA, zB, zC])
        refine pure_ (i := 2) (N := some 44) (v := .pointer (some ⟨g61, 3, none⟩)) #[true, true, true, false, false, false, false, false, false, false, false, false, false, false, false, false, false, false, false] rfl rfl (by kernel_rfl) (fun c a w h => hP c a _ _ w h) (y_run (by rfl) (fun W => by go_simp)) rfl ?_
        (try simp only [zP, zN, zA, zB, zC])
        refine pure_ (i := 3) (N := some 45) (v := .pointer (some ⟨g61, 3, none⟩)) #[true, true, true, true, false, false, false, false, false, false, false, false, false, false, false, false, false, false, false] rfl rfl (by kernel_rfl) (fun c a w h => hP c a _ _ w h) (y_run (by rfl) (fun W => by go_simp)) rfl ?_
        (try simp only [zP, zN, zA, zB, zC])
        refine take_ (i := 4) (N := some 46) (v := .int .i64 (L (main[n]'hlt.out).f0).2.2.2.1) #[true, true, true, true, true, false, false, false, false, false, false, false, false, false, false, false, false, false, false] rfl rfl (by kernel_rfl) (fun c a w h => hP c a _ _ w h) (y_load (p := ⟨g61, 3, none⟩) rfl (by rfl) (by rfl) (fun W hS => run_load_one ((hS.2.2.1.cell 3).trans rfl) Try.underlying3 rfl)) hS83 rfl ?_
        (try simp only [zP, zN, zA, zB, zC])
        refine pure_ (i := 5) (N := some 47) (v := .bool true) #[true, true, true, true, true, true, false, false, false, false, false, false, false, false, false, false, false, false, false] rfl rfl (by kernel_rfl) (fun c a w h => hP c a _ _ w h) (y_run (by rfl) (fun W => by have d := D47.out; go_simp)) rfl ?_
        (try simp only [zP, zN, zA, zB, zC])
        refine pure_ (i := 6) (N := some 48) (v := .bool true) #[true, true, true, true, true, true, true, false, false, false, false, false, false, false, false, false, false, false, false] rfl rfl (by kernel_rfl) (fun c a w h => hP c a _ _ w h) (y_pick (t := true) (by rfl) rfl (by rfl) (by rfl)) rfl ?_
        (try simp only [zP, zN, zA, zB, zC])
        refine pure_ (i := 7) (N := some 49) (v := .bool true) #[true, true, true, true, true, true, true, true, false, false, false, false, false, false, false, false, false, false, false] rfl rfl (by kernel_rfl) (fun c a w h => hP c a _ _ w h) (y_move rfl (by rfl) (by rfl)) rfl ?_
        (try simp only [zP, zN, zA, zB, zC])
        refine pure_ (i := 8) (N := some 50) (v := .pointer (some ⟨g61, 2, none⟩)) #[true, true, true, true, true, true, true, true, true, false, false, false, false, false, false, false, false, false, false] rfl rfl (by kernel_rfl) (fun c a w h => hP c a _ _ w h) (y_run (by rfl) (fun W => by go_simp)) rfl ?_
        (try simp only [zP, zN, zA, zB, zC])
        refine take_ (i := 9) (N := some 51) (v := .string (L (main[n]'hlt.out).f0).2.2.1) #[true, true, true, true, true, true, true, true, true, true, false, false, false, false, false, false, false, false, false] rfl rfl (by kernel_rfl) (fun c a w h => hP c a _ _ w h) (y_load (p := ⟨g61, 2, none⟩) rfl (by rfl) (by rfl) (fun W hS => run_load_one ((hS.2.2.1.cell 2).trans rfl) Try.underlying9 rfl)) hS83 rfl ?_
        (try simp only [zP, zN, zA, zB, zC])
        refine pure_ (i := 10) (N := some 52) (v := .pointer (some ⟨g3, 3, none⟩)) #[true, true, true, true, true, true, true, true, true, true, true, false, false, false, false, false, false, false, false] rfl rfl (by kernel_rfl) (fun c a w h => hP c a _ _ w h) (y_run (by rfl) (fun W => by go_simp)) rfl ?_
        (try simp only [zP, zN, zA, zB, zC])
        refine take_ (i := 11) (N := some 53) (v := .slice (some ⟨b3, o3, none⟩) main.length c3) #[true, true, true, true, true, true, true, true, true, true, true, true, false, false, false, false, false, false, false] rfl rfl (by kernel_rfl) (fun c a w h => hP c a _ _ w h) (y_load (p := ⟨g3, 3, none⟩) rfl (by rfl) (by rfl) (fun W hS => run_load_one ((hS.1.cell 3).trans rfl) Try.underlying49 rfl)) hS83 rfl ?_
        (try simp only [zP, zN, zA, zB, zC])
        refine pure_ (i := 12) (N := some 54) (v := .int .i64 n) #[true, true, true, true, true, true, true, true, true, true, true, true, true, false, false, false, false, false, false] rfl rfl (by kernel_rfl) (fun c a w h => hP c a _ _ w h) (y_move rfl (by rfl) (by rfl)) rfl ?_
        (try simp only [zP, zN, zA, zB, zC])
        refine pure_ (i := 13) (N := some 55) (v := .pointer (some ⟨b3, o3 + n * 11, none⟩)) #[true, true, true, true, true, true, true, true, true, true, true, true, true, true, false, false, false, false, false] rfl rfl (by kernel_rfl) (fun c a w h => hP c a _ _ w h) (y_run (by rfl) (fun W => by have d := D31.out; go_simp)) rfl ?_
        (try simp only [zP, zN, zA, zB, zC])
        refine pure_ (i := 14) (N := some 56) (v := .pointer (some ⟨b3, o3 + n * 11 + 1, none⟩)) #[true, true, true, true, true, true, true, true, true, true, true, true, true, true, true, false, false, false, false] rfl rfl (by kernel_rfl) (fun c a w h => hP c a _ _ w h) (y_run (by rfl) (fun W => by go_simp)) rfl ?_
        (try simp only [zP, zN, zA, zB, zC])
        refine take_ (i := 15) (N := some 57) (v := .string (main[n]'hlt.out).f1) #[true, true, true, true, true, true, true, true, true, true, true, true, true, true, true, true, false, false, false] rfl rfl (by kernel_rfl) (fun c a w h => hP c a _ _ w h) (y_load (p := ⟨b3, o3 + n * 11 + 1, none⟩) rfl (by rfl) (by rfl) (fun W hS => run_load_one (hS.2.1.2 n hlt.out).2 Try.underlying9 rfl)) hS83 rfl ?_
        (try simp only [zP, zN, zA, zB, zC])
        refine pure_ (i := 16) (N := some 58) (v := .bool false) #[true, true, true, true, true, true, true, true, true, true, true, true, true, true, true, true, true, false, false] rfl rfl (by kernel_rfl) (fun c a w h => hP c a _ _ w h) (y_run (by rfl) (fun W => by have d := D58.out; go_simp)) rfl ?_
        (try simp only [zP, zN, zA, zB, zC])
        refine pure_ (i := 17) (N := some 59) (v := .bool false) #[true, true, true, true, true, true, true, true, true, true, true, true, true, true, true, true, true, true, false] rfl rfl (by kernel_rfl) (fun c a w h => hP c a _ _ w h) (y_pick (t := true) (by rfl) rfl (by rfl) (by rfl)) rfl ?_
        (try simp only [zP, zN, zA, zB, zC])
        refine pure_ (i := 18) (N := some 5) (v := .bool false) #[true, true, true, true, true, true, true, true, true, true, true, true, true, true, true, true, true, true, true] rfl rfl (by kernel_rfl) (fun c a w h => hP c a _ _ w h) (y_assign rfl (by rfl) (by rfl)) rfl ?_
        (try simp only [zP, zN, zA, zB, zC])
        refine done_ (by kernel_rfl) (th_norm (hK80 _ _ ?_)); clear hK80 K80
        rcases (show eb = false ∨ (eb = true ∧ ¬ (L (main[n]'hlt.out).f0).2.2.2.1 > 1) ∨ (eb = true ∧ (L (main[n]'hlt.out).f0).2.2.2.1 > 1) from three _ _) with h | h | h
        · obtain rfl := h
          refine r_ ?_
          refine pu_ (v := .bool false) (y_move rfl (by rfl) (by rfl)) ?_
          (try simp only [zP, zN, zA, zB, zC])
          refine pu_ (v := .bool false) (y_move rfl (by rfl) (by rfl)) ?_
          (try simp only [zP, zN, zA, zB, zC])
          refine pu_ (y_off (by rfl)) ?_
          (try simp only [zP, zN, zA, zB, zC])
          refine pu_ (y_off (by rfl)) ?_
          (try simp only [zP, zN, zA, zB, zC])
          refine pu_ (y_off (by rfl)) ?_
          (try simp only [zP, zN, zA, zB, zC])
          refine pu_ (y_off (by rfl)) ?_
          (try simp only [zP, zN, zA, zB, zC])
          refine pu_ (v := .bool false) (y_pick (t := false) (by rfl) rfl (by rfl) (by rfl)) ?_
          (try simp only [zP, zN, zA, zB, zC])
          refine pu_ (v := .bool false) (y_assign rfl (by rfl) (by rfl)) ?_
          (try simp only [zP, zN, zA, zB, zC])
          refine nl_ ?_
          refine ib_norm ?_
          refine th_norm (hK55 _ _ ?_); try clear hK55 K55
          refine r_ ?_
          refine pu_ (v := .int .i64 n) (y_move rfl (by rfl) (by rfl)) ?_
          (try simp only [zP, zN, zA, zB, zC])
          refine pu_ (v := .int .i64 (n + 1 : Nat)) (y_run (by rfl) (fun W => by have d := WA.out; go_simp)) ?_
          (try simp only [zP, zN, zA, zB, zC])
          refine pu_ (v := .int .i64 (n + 1 : Nat)) (y_assign rfl (by rfl) (by rfl)) ?_
          (try simp only [zP, zN, zA, zB, zC])
          refine nl_ ?_
          exact th_norm (hK52 (kq - 1) _ _ (by have := hlt.out; have := hn.out; omega) ⟨n + 1, false, false, fun us_ => (#[us 0, .slice a l.length cap, .pointer (some ⟨g3, 0, none⟩), us 3, .bool false, .bool false, .bool false, .int .i64 (n + 1 : Nat), .pointer (some ⟨g61, 0, none⟩), us 9, us 10, us 11, us 12, us 13, us 14, us 15, us 16, us 17, us 18, us 19, us 20, us 21, us 22, us 23, us 24, us 25, us 26, .int .i64 n, .pointer (some ⟨g3, 3, none⟩), .slice (some ⟨b3, o3, none⟩) main.length c3, .int .i64 main.length, .bool true, .int .i64 n, .int .i64 (n + 1 : Nat), .slice a l.length cap, .pointer (some ⟨g3, 3, none⟩), .slice (some ⟨b3, o3, none⟩) main.length c3, .int .i64 n, .pointer (some ⟨b3, o3 + n * 11, none⟩), .pointer (some ⟨b3, o3 + n * 11, none⟩), .string (main[n]'hlt.out).f0, .agg #[.int .i64 (L (main[n]'hlt.out).f0).1, .string (L (main[n]'hlt.out).f0).2.1, .string (L (main[n]'hlt.out).f0).2.2.1, .int .i64 (L (main[n]'hlt.out).f0).2.2.2.1, .int .i64 (L (main[n]'hlt.out).f0).2.2.2.2.1, .int .i64 (L (main[n]'hlt.out).f0).2.2.2.2.2.1, .bool (L (main[n]'hlt.out).f0).2.2.2.2.2.2], .bool true, .bool true, .pointer (some ⟨g61, 3, none⟩), .pointer (some ⟨g61, 3, none⟩), .int .i64 (L (main[n]'hlt.out).f0).2.2.2.1, .bool true, .bool true, .bool true, .pointer (some ⟨g61, 2, none⟩), .string (L (main[n]'hlt.out).f0).2.2.1, .pointer (some ⟨g3, 3, none⟩), .slice (some ⟨b3, o3, none⟩) main.length c3, .int .i64 n, .pointer (some ⟨b3, o3 + n * 11, none⟩), .pointer (some ⟨b3, o3 + n * 11 + 1, none⟩), .string (main[n]'hlt.out).f1, .bool false, .bool false, .bool false, .bool false, undef, undef, undef, undef, .bool false, us 67, us 68, us 69, us 70, us 71, us 72, us 73, us 74, us 75, us 76, us 77, us 78, us 79, us 80, us 81, us 82, us 83, us 84, us 85, us 86, us 87, us 88, us 89, us 90, us 91, us 92, us 93, us 94, us 95] : Array Value).getD us_ undef, rfl, C0, Fg3, MF, Lib.hid ⟨by have := hlt.out; omega, by have := hlt.out; have := hn.out; omega⟩, Lib.hid (by rw [take_all _ _ _ hlt.out, rd_at _ _ hlt.out, ← hea.out]; rw [Bool.true_and]; unfold exB; rw [if_pos hx.out, D58.out]), Lib.hid (by rw [take_all _ _ _ hlt.out, rd_at _ _ hlt.out, ← heb.out]; rw [Bool.false_and])⟩)
        · obtain rfl := h.1
          have D65 := Lib.hid (show decide ((L (main[n]'hlt.out).f0).2.2.2.1 > 1) = false from decide_eq_false h.2)
          clear h
          refine r_ ?_
          refine pu_ (v := .bool true) (y_move rfl (by rfl) (by rfl)) ?_
          (try simp only [zP, zN, zA, zB, zC])
          refine pu_ (v := .bool true) (y_move rfl (by rfl) (by rfl)) ?_
          (try simp only [zP, zN, zA, zB, zC])
          refine pu_ (v := .pointer (some ⟨g61, 3, none⟩)) (y_run (by rfl) (fun W => by go_simp)) ?_
          (try simp only [zP, zN, zA, zB, zC])
          refine pu_ (v := .pointer (some ⟨g61, 3, none⟩)) (y_run (by rfl) (fun W => by go_simp)) ?_
          (try simp only [zP, zN, zA, zB, zC])
          refine ld_ (v := .int .i64 (L (main[n]'hlt.out).f0).2.2.2.1) rfl (by rfl) (by rfl) (run_load_one ((Fg61.out.cell 3).trans rfl) Try.underlying3 rfl) ?_
          (try simp only [zP, zN, zA, zB, zC])
          refine pu_ (v := .bool false) (y_run (by rfl) (fun W => by have d := D65.out; go_simp)) ?_
          (try simp only [zP, zN, zA, zB, zC])
          refine pu_ (v := .bool false) (y_pick (t := true) (by rfl) rfl (by rfl) (by rfl)) ?_
          (try simp only [zP, zN, zA, zB, zC])
          refine pu_ (v := .bool false) (y_assign rfl (by rfl) (by rfl)) ?_
          (try simp only [zP, zN, zA, zB, zC])
          refine nl_ ?_
          refine ib_norm ?_
          refine th_norm (hK55 _ _ ?_); try clear hK55 K55
          refine r_ ?_
          refine pu_ (v := .int .i64 n) (y_move rfl (by rfl) (by rfl)) ?_
          (try simp only [zP, zN, zA, zB, zC])
          refine pu_ (v := .int .i64 (n + 1 : Nat)) (y_run (by rfl) (fun W => by have d := WA.out; go_simp)) ?_
          (try simp only [zP, zN, zA, zB, zC])
          refine pu_ (v := .int .i64 (n + 1 : Nat)) (y_assign rfl (by rfl) (by rfl)) ?_
          (try simp only [zP, zN, zA, zB, zC])
          refine nl_ ?_
          exact th_norm (hK52 (kq - 1) _ _ (by have := hlt.out; have := hn.out; omega) ⟨n + 1, false, false, fun us_ => (#[us 0, .slice a l.length cap, .pointer (some ⟨g3, 0, none⟩), us 3, .bool false, .bool false, .bool false, .int .i64 (n + 1 : Nat), .pointer (some ⟨g61, 0, none⟩), us 9, us 10, us 11, us 12, us 13, us 14, us 15, us 16, us 17, us 18, us 19, us 20, us 21, us 22, us 23, us 24, us 25, us 26, .int .i64 n, .pointer (some ⟨g3, 3, none⟩), .slice (some ⟨b3, o3, none⟩) main.length c3, .int .i64 main.length, .bool true, .int .i64 n, .int .i64 (n + 1 : Nat), .slice a l.length cap, .pointer (some ⟨g3, 3, none⟩), .slice (some ⟨b3, o3, none⟩) main.length c3, .int .i64 n, .pointer (some ⟨b3, o3 + n * 11, none⟩), .pointer (some ⟨b3, o3 + n * 11, none⟩), .string (main[n]'hlt.out).f0, .agg #[.int .i64 (L (main[n]'hlt.out).f0).1, .string (L (main[n]'hlt.out).f0).2.1, .string (L (main[n]'hlt.out).f0).2.2.1, .int .i64 (L (main[n]'hlt.out).f0).2.2.2.1, .int .i64 (L (main[n]'hlt.out).f0).2.2.2.2.1, .int .i64 (L (main[n]'hlt.out).f0).2.2.2.2.2.1, .bool (L (main[n]'hlt.out).f0).2.2.2.2.2.2], .bool true, .bool true, .pointer (some ⟨g61, 3, none⟩), .pointer (some ⟨g61, 3, none⟩), .int .i64 (L (main[n]'hlt.out).f0).2.2.2.1, .bool true, .bool true, .bool true, .pointer (some ⟨g61, 2, none⟩), .string (L (main[n]'hlt.out).f0).2.2.1, .pointer (some ⟨g3, 3, none⟩), .slice (some ⟨b3, o3, none⟩) main.length c3, .int .i64 n, .pointer (some ⟨b3, o3 + n * 11, none⟩), .pointer (some ⟨b3, o3 + n * 11 + 1, none⟩), .string (main[n]'hlt.out).f1, .bool false, .bool false, .bool true, .bool true, .pointer (some ⟨g61, 3, none⟩), .pointer (some ⟨g61, 3, none⟩), .int .i64 (L (main[n]'hlt.out).f0).2.2.2.1, .bool false, .bool false, us 67, us 68, us 69, us 70, us 71, us 72, us 73, us 74, us 75, us 76, us 77, us 78, us 79, us 80, us 81, us 82, us 83, us 84, us 85, us 86, us 87, us 88, us 89, us 90, us 91, us 92, us 93, us 94, us 95] : Array Value).getD us_ undef, rfl, C0, Fg3, MF, Lib.hid ⟨by have := hlt.out; omega, by have := hlt.out; have := hn.out; omega⟩, Lib.hid (by rw [take_all _ _ _ hlt.out, rd_at _ _ hlt.out, ← hea.out]; rw [Bool.true_and]; unfold exB; rw [if_pos hx.out, D58.out]), Lib.hid (by rw [take_all _ _ _ hlt.out, rd_at _ _ hlt.out, ← heb.out]; rw [Bool.true_and]; unfold upB; rw [D65.out])⟩)
        · obtain rfl := h.1
          have D65 := Lib.hid (show decide ((L (main[n]'hlt.out).f0).2.2.2.1 > 1) = true from decide_eq_true h.2)
          clear h
          refine r_ ?_
          refine pu_ (v := .bool true) (y_move rfl (by rfl) (by rfl)) ?_
          (try simp only [zP, zN, zA, zB, zC])
          refine pu_ (v := .bool true) (y_move rfl (by rfl) (by rfl)) ?_
          (try simp only [zP, zN, zA, zB, zC])
          refine pu_ (v := .pointer (some ⟨g61, 3, none⟩)) (y_run (by rfl) (fun W => by go_simp)) ?_
          (try simp only [zP, zN, zA, zB, zC])
          refine pu_ (v := .pointer (some ⟨g61, 3, none⟩)) (y_run (by rfl) (fun W => by go_simp)) ?_
          (try simp only [zP, zN, zA, zB, zC])
          refine ld_ (v := .int .i64 (L (main[n]'hlt.out).f0).2.2.2.1) rfl (by rfl) (by rfl) (run_load_one ((Fg61.out.cell 3).trans rfl) Try.underlying3 rfl) ?_
          (try simp only [zP, zN, zA, zB, zC])
          refine pu_ (v := .bool true) (y_run (by rfl) (fun W => by have d := D65.out; go_simp)) ?_
          (try simp only [zP, zN, zA, zB, zC])
          refine pu_ (v := .bool true) (y_pick (t := true) (by rfl) rfl (by rfl) (by rfl)) ?_
          (try simp only [zP, zN, zA, zB, zC])
          refine pu_ (v := .bool true) (y_assign rfl (by rfl) (by rfl)) ?_
          (try simp only [zP, zN, zA, zB, zC])
          refine nl_ ?_
          refine ib_norm ?_
          refine th_norm (hK55 _ _ ?_); try clear hK55 K55
          refine r_ ?_
          refine pu_ (v := .int .i64 n) (y_move rfl (by rfl) (by rfl)) ?_
          (try simp only [zP, zN, zA, zB, zC])
          refine pu_ (v := .int .i64 (n + 1 : Nat)) (y_run (by rfl) (fun W => by have d := WA.out; go_simp)) ?_
          (try simp only [zP, zN, zA, zB, zC])
          refine pu_ (v := .int .i64 (n + 1 : Nat)) (y_assign rfl (by rfl) (by rfl)) ?_
          (try simp only [zP, zN, zA, zB, zC])
          refine nl_ ?_
          exact th_norm (hK52 (kq - 1) _ _ (by have := hlt.out; have := hn.out; omega) ⟨n + 1, false, true, fun us_ => (#[us 0, .slice a l.length cap, .pointer (some ⟨g3, 0, none⟩), us 3, .bool false, .bool false, .bool true, .int .i64 (n + 1 : Nat), .pointer (some ⟨g61, 0, none⟩), us 9, us 10, us 11, us 12, us 13, us 14, us 15, us 16, us 17, us 18, us 19, us 20, us 21, us 22, us 23, us 24, us 25, us 26, .int .i64 n, .pointer (some ⟨g3, 3, none⟩), .slice (some ⟨b3, o3, none⟩) main.length c3, .int .i64 main.length, .bool true, .int .i64 n, .int .i64 (n + 1 : Nat), .slice a l.length cap, .pointer (some ⟨g3, 3, none⟩), .slice (some ⟨b3, o3, none⟩) main.length c3, .int .i64 n, .pointer (some ⟨b3, o3 + n * 11, none⟩), .pointer (some ⟨b3, o3 + n * 11, none⟩), .string (main[n]'hlt.out).f0, .agg #[.int .i64 (L (main[n]'hlt.out).f0).1, .string (L (main[n]'hlt.out).f0).2.1, .string (L (main[n]'hlt.out).f0).2.2.1, .int .i64 (L (main[n]'hlt.out).f0).2.2.2.1, .int .i64 (L (main[n]'hlt.out).f0).2.2.2.2.1, .int .i64 (L (main[n]'hlt.out).f0).2.2.2.2.2.1, .bool (L (main[n]'hlt.out).f0).2.2.2.2.2.2], .bool true, .bool true, .pointer (some ⟨g61, 3, none⟩), .pointer (some ⟨g61, 3, none⟩), .int .i64 (L (main[n]'hlt.out).f0).2.2.2.1, .bool true, .bool true, .bool true, .pointer (some ⟨g61, 2, none⟩), .string (L (main[n]'hlt.out).f0).2.2.1, .pointer (some ⟨g3, 3, none⟩), .slice (some ⟨b3, o3, none⟩) main.length c3, .int .i64 n, .pointer (some ⟨b3, o3 + n * 11, none⟩), .pointer (some ⟨b3, o3 + n * 11 + 1, none⟩), .string (main[n]'hlt.out).f1, .bool false, .bool false, .bool true, .bool true, .pointer (some ⟨g61, 3, none⟩), .pointer (some ⟨g61, 3, none⟩), .int .i64 (L (main[n]'hlt.out).f0).2.2.2.1, .bool true, .bool true, us 67, us 68, us 69, us 70, us 71, us 72, us 73, us 74, us 75, us 76, us 77, us 78, us 79, us 80, us 81, us 82, us 83, us 84, us 85, us 86, us 87, us 88, us 89, us 90, us 91, us 92, us 93, us 94, us 95] : Array Value).getD us_ undef, rfl, C0, Fg3, MF, Lib.hid ⟨by have := hlt.out; omega, by have := hlt.out; have := hn.out; omega⟩, Lib.hid (by rw [take_all _ _ _ hlt.out, rd_at _ _ hlt.out, ← hea.out]; rw [Bool.true_and]; unfold exB; rw [if_pos hx.out, D58.out]), Lib.hid (by rw [take_all _ _ _ hlt.out, rd_at _ _ hlt.out, ← heb.out]; rw [Bool.true_and]; unfold upB; rw [D65.out])⟩)
      · obtain rfl := h.1
        have D47 := Lib.hid (show ((L (main[n]'hlt.out).f0).2.2.2.1 == 4) = true from beq_iff_eq.2 h.2.1)
        have D58 := Lib.hid (show ((L (main[n]'hlt.out).f0).2.2.1.toList == (main[n]'hlt.out).f1.toList) = true from h.2.2)
        have hx := Lib.hid h.2.1
        clear h
        refine sq_ (fun K84 hK84 => ?_)
        refine startk_ (S := fun W => Blk W g3 (#[.string nm, .slice A1 lb.length c1, .slice none 0 0, .slice (some ⟨b3, o3, none⟩) main.length c3, .int .i64 rs, .int .i64 x, .int .i64 y]) 51 ∧ MainIs W b3 o3 main ∧ Blk W g61 (#[.int .i64 (L (main[n]'hlt.out).f0).1, .string (L (main[n]'hlt.out).f0).2.1, .string (L (main[n]'hlt.out).f0).2.2.1, .int .i64 (L (main[n]'hlt.out).f0).2.2.2.1, .int .i64 (L (main[n]'hlt.out).f0).2.2.2.2.1, .int .i64 (L (main[n]'hlt.out).f0).2.2.2.2.2.1, .bool (L (main[n]'hlt.out).f0).2.2.2.2.2.2]) 59 ∧ True) (ds := []) #[false, false, false, false, false, false, false, false, false, false, false, false, false, false, false, false, false, false, false] (by kernel_rfl) rfl rfl (fun W c => ⟨c.blk Fg3.out nin_nil, MF.out.ch c nin_nil, c.blk Fg61.out nin_nil, trivial⟩) (fun w85 C86 hS87 => ?_)
        have C0' := Lib.hid (show Ch [] w w85 from C0.out.trans' C86 (fun x hx => absurd hx (by simp)))
        have Fg3' := Lib.hid (show Blk w85 g3 (#[.string nm, .slice A1 lb.length c1, .slice none 0 0, .slice (some ⟨b3, o3, none⟩) main.length c3, .int .i64 rs, .int .i64 x, .int .i64 y]) 51 from C86.blk Fg3.out nin_nil)
        have MF' := Lib.hid (show MainIs w85 b3 o3 main from MF.out.ch C86 nin_nil)
        have Fg61' := Lib.hid (show Blk w85 g61 (#[.int .i64 (L (main[n]'hlt.out).f0).1, .string (L (main[n]'hlt.out).f0).2.1, .string (L (main[n]'hlt.out).f0).2.2.1, .int .i64 (L (main[n]'hlt.out).f0).2.2.2.1, .int .i64 (L (main[n]'hlt.out).f0).2.2.2.2.1, .int .i64 (L (main[n]'hlt.out).f0).2.2.2.2.2.1, .bool (L (main[n]'hlt.out).f0).2.2.2.2.2.2]) 59 from C86.blk Fg61.out nin_nil)
        clear C0 Fg3 MF Fg61
        have C0 := C0'; clear C0'
        have Fg3 := Fg3'; clear Fg3'
        have MF := MF'; clear MF'
        have Fg61 := Fg61'; clear Fg61'
        clear C86
        refine pure_ (i := 0) (N := some 42) (v := .bool true) #[true, false, false, false, false, false, false, false, false, false, false, false, false, false, false, false, false, false, false] rfl rfl (by kernel_rfl) (fun c a w h => hP c a _ _ w h) (y_move rfl (by rfl) (by rfl)) rfl ?_
        (try simp only [zP, zN, zA, zB, zC])
        refine pure_ (i := 1) (N := some 43) (v := .bool true) #[true, true, false, false, false, false, false, false, false, false, false, false, false, false, false, false, false, false, false] rfl rfl (by kernel_rfl) (fun c a w h => hP c a _ _ w h) (y_move rfl (by rfl) (by rfl)) rfl ?_
        (try simp only [zP, zN, zA, zB, zC])
        refine pure_ (i := 2) (N := some 44) (v := .pointer (some ⟨g61, 3, none⟩)) #[true, true, true, false, false, false, false, false, false, false, false, false, false, false, false, false, false, false, false] rfl rfl (by kernel_rfl) (fun c a w h => hP c a _ _ w h) (y_run (by rfl) (fun W => by go_simp)) rfl ?_
        (try simp only [zP, zN, zA, zB, zC])
        refine pure_ (i := 3) (N := some 45) (v := .pointer (some ⟨g61, 3, none⟩)) #[true, true, true, true, false, false, false, false, false, false, false, false, false, false, false, false, false, false, false] rfl rfl (by kernel_rfl) (fun c a w h => hP c a _ _ w h) (y_run (by rfl) (fun W => by go_simp)) rfl ?_
        (try simp only [zP, zN, zA, zB, zC])
        refine take_ (i := 4) (N := some 46) (v := .int .i64 (L (main[n]'hlt.out).f0).2.2.2.1) #[true, true, true, true, true, false, false, false, false, false, false, false, false, false, false, false, false, false, false] rfl rfl (by kernel_rfl) (fun c a w h => hP c a _ _ w h) (y_load (p := ⟨g61, 3, none⟩) rfl (by rfl) (by rfl) (fun W hS => run_load_one ((hS.2.2.1.cell 3).trans rfl) Try.underlying3 rfl)) hS87 rfl ?_
        (try simp only [zP, zN, zA, zB, zC])
        refine pure_ (i := 5) (N := some 47) (v := .bool true) #[true, true, true, true, true, true, false, false, false, false, false, false, false, false, false, false, false, false, false] rfl rfl (by kernel_rfl) (fun c a w h => hP c a _ _ w h) (y_run (by rfl) (fun W => by have d := D47.out; go_simp)) rfl ?_
        (try simp only [zP, zN, zA, zB, zC])
        refine pure_ (i := 6) (N := some 48) (v := .bool true) #[true, true, true, true, true, true, true, false, false, false, false, false, false, false, false, false, false, false, false] rfl rfl (by kernel_rfl) (fun c a w h => hP c a _ _ w h) (y_pick (t := true) (by rfl) rfl (by rfl) (by rfl)) rfl ?_
        (try simp only [zP, zN, zA, zB, zC])
        refine pure_ (i := 7) (N := some 49) (v := .bool true) #[true, true, true, true, true, true, true, true, false, false, false, false, false, false, false, false, false, false, false] rfl rfl (by kernel_rfl) (fun c a w h => hP c a _ _ w h) (y_move rfl (by rfl) (by rfl)) rfl ?_
        (try simp only [zP, zN, zA, zB, zC])
        refine pure_ (i := 8) (N := some 50) (v := .pointer (some ⟨g61, 2, none⟩)) #[true, true, true, true, true, true, true, true, true, false, false, false, false, false, false, false, false, false, false] rfl rfl (by kernel_rfl) (fun c a w h => hP c a _ _ w h) (y_run (by rfl) (fun W => by go_simp)) rfl ?_
        (try simp only [zP, zN, zA, zB, zC])
        refine take_ (i := 9) (N := some 51) (v := .string (L (main[n]'hlt.out).f0).2.2.1) #[true, true, true, true, true, true, true, true, true, true, false, false, false, false, false, false, false, false, false] rfl rfl (by kernel_rfl) (fun c a w h => hP c a _ _ w h) (y_load (p := ⟨g61, 2, none⟩) rfl (by rfl) (by rfl) (fun W hS => run_load_one ((hS.2.2.1.cell 2).trans rfl) Try.underlying9 rfl)) hS87 rfl ?_
        (try simp only [zP, zN, zA, zB, zC])
        refine pure_ (i := 10) (N := some 52) (v := .pointer (some ⟨g3, 3, none⟩)) #[true, true, true, true, true, true, true, true, true, true, true, false, false, false, false, false, false, false, false] rfl rfl (by kernel_rfl) (fun c a w h => hP c a _ _ w h) (y_run (by rfl) (fun W => by go_simp)) rfl ?_
        (try simp only [zP, zN, zA, zB, zC])
        refine take_ (i := 11) (N := some 53) (v := .slice (some ⟨b3, o3, none⟩) main.length c3) #[true, true, true, true, true, true, true, true, true, true, true, true, false, false, false, false, false, false, false] rfl rfl (by kernel_rfl) (fun c a w h => hP c a _ _ w h) (y_load (p := ⟨g3, 3, none⟩) rfl (by rfl) (by rfl) (fun W hS => run_load_one ((hS.1.cell 3).trans rfl) Try.underlying49 rfl)) hS87 rfl ?_
        (try simp only [zP, zN, zA, zB, zC])
        refine pure_ (i := 12) (N := some 54) (v := .int .i64 n) #[true, true, true, true, true, true, true, true, true, true, true, true, true, false, false, false, false, false, false] rfl rfl (by kernel_rfl) (fun c a w h => hP c a _ _ w h) (y_move rfl (by rfl) (by rfl)) rfl ?_
        (try simp only [zP, zN, zA, zB, zC])
        refine pure_ (i := 13) (N := some 55) (v := .pointer (some ⟨b3, o3 + n * 11, none⟩)) #[true, true, true, true, true, true, true, true, true, true, true, true, true, true, false, false, false, false, false] rfl rfl (by kernel_rfl) (fun c a w h => hP c a _ _ w h) (y_run (by rfl) (fun W => by have d := D31.out; go_simp)) rfl ?_
        (try simp only [zP, zN, zA, zB, zC])
        refine pure_ (i := 14) (N := some 56) (v := .pointer (some ⟨b3, o3 + n * 11 + 1, none⟩)) #[true, true, true, true, true, true, true, true, true, true, true, true, true, true, true, false, false, false, false] rfl rfl (by kernel_rfl) (fun c a w h => hP c a _ _ w h) (y_run (by rfl) (fun W => by go_simp)) rfl ?_
        (try simp only [zP, zN, zA, zB, zC])
        refine take_ (i := 15) (N := some 57) (v := .string (main[n]'hlt.out).f1) #[true, true, true, true, true, true, true, true, true, true, true, true, true, true, true, true, false, false, false] rfl rfl (by kernel_rfl) (fun c a w h => hP c a _ _ w h) (y_load (p := ⟨b3, o3 + n * 11 + 1, none⟩) rfl (by rfl) (by rfl) (fun W hS => run_load_one (hS.2.1.2 n hlt.out).2 Try.underlying9 rfl)) hS87 rfl ?_
        (try simp only [zP, zN, zA, zB, zC])
        refine pure_ (i := 16) (N := some 58) (v := .bool true) #[true, true, true, true, true, true, true, true, true, true, true, true, true, true, true, true, true, false, false] rfl rfl (by kernel_rfl) (fun c a w h => hP c a _ _ w h) (y_run (by rfl) (fun W => by have d := D58.out; go_simp)) rfl ?_
        (try simp only [zP, zN, zA, zB, zC])
        refine pure_ (i := 17) (N := some 59) (v := .bool true) #[true, true, true, true, true, true, true, true, true, true, true, true, true, true, true, true, true, true, false] rfl rfl (by kernel_rfl) (fun c a w h => hP c a _ _ w h) (y_pick (t := true) (by rfl) rfl (by rfl) (by rfl)) rfl ?_
        (try simp only [zP, zN, zA, zB, zC])
        refine pure_ (i := 18) (N := some 5) (v := .bool true) #[true, true, true, true, true, true, true, true, true, true, true, true, true, true, true, true, true, true, true] rfl rfl (by kernel_rfl) (fun c a w h => hP c a _ _ w h) (y_assign rfl (by rfl) (by rfl)) rfl ?_
        (try simp only [zP, zN, zA, zB, zC])
        refine done_ (by kernel_rfl) (th_norm (hK84 _ _ ?_)); clear hK84 K84
        rcases (show eb = false ∨ (eb = true ∧ ¬ (L (main[n]'hlt.out).f0).2.2.2.1 > 1) ∨ (eb = true ∧ (L (main[n]'hlt.out).f0).2.2.2.1 > 1) from three _ _) with h | h | h
        · obtain rfl := h
          refine r_ ?_
          refine pu_ (v := .bool false) (y_move rfl (by rfl) (by rfl)) ?_
          (try simp only [zP, zN, zA, zB, zC])
          refine pu_ (v := .bool false) (y_move rfl (by rfl) (by rfl)) ?_
          (try simp only [zP, zN, zA, zB, zC])
          refine pu_ (y_off (by rfl)) ?_
          (try simp only [zP, zN, zA, zB, zC])
          refine pu_ (y_off (by rfl)) ?_
          (try simp only [zP, zN, zA, zB, zC])
          refine pu_ (y_off (by rfl)) ?_
          (try simp only [zP, zN, zA, zB, zC])
          refine pu_ (y_off (by rfl)) ?_
          (try simp only [zP, zN, zA, zB, zC])
          refine pu_ (v := .bool false) (y_pick (t := false) (by rfl) rfl (by rfl) (by rfl)) ?_
          (try simp only [zP, zN, zA, zB, zC])
          refine pu_ (v := .bool false) (y_assign rfl (by rfl) (by rfl)) ?_
          (try simp only [zP, zN, zA, zB, zC])
          refine nl_ ?_
          refine ib_norm ?_
          refine th_norm (hK55 _ _ ?_); try clear hK55 K55
          refine r_ ?_
          refine pu_ (v := .int .i64 n) (y_move rfl (by rfl) (by rfl)) ?_
          (try simp only [zP, zN, zA, zB, zC])
          refine pu_ (v := .int .i64 (n + 1 : Nat)) (y_run (by rfl) (fun W => by have d := WA.out; go_simp)) ?_
          (try simp only [zP, zN, zA, zB, zC])
          refine pu_ (v := .int .i64 (n + 1 : Nat)) (y_assign rfl (by rfl) (by rfl)) ?_
          (try simp only [zP, zN, zA, zB, zC])
          refine nl_ ?_
          exact th_norm (hK52 (kq - 1) _ _ (by have := hlt.out; have := hn.out; omega) ⟨n + 1, true, false, fun us_ => (#[us 0, .slice a l.length cap, .pointer (some ⟨g3, 0, none⟩), us 3, .bool false, .bool true, .bool false, .int .i64 (n + 1 : Nat), .pointer (some ⟨g61, 0, none⟩), us 9, us 10, us 11, us 12, us 13, us 14, us 15, us 16, us 17, us 18, us 19, us 20, us 21, us 22, us 23, us 24, us 25, us 26, .int .i64 n, .pointer (some ⟨g3, 3, none⟩), .slice (some ⟨b3, o3, none⟩) main.length c3, .int .i64 main.length, .bool true, .int .i64 n, .int .i64 (n + 1 : Nat), .slice a l.length cap, .pointer (some ⟨g3, 3, none⟩), .slice (some ⟨b3, o3, none⟩) main.length c3, .int .i64 n, .pointer (some ⟨b3, o3 + n * 11, none⟩), .pointer (some ⟨b3, o3 + n * 11, none⟩), .string (main[n]'hlt.out).f0, .agg #[.int .i64 (L (main[n]'hlt.out).f0).1, .string (L (main[n]'hlt.out).f0).2.1, .string (L (main[n]'hlt.out).f0).2.2.1, .int .i64 (L (main[n]'hlt.out).f0).2.2.2.1, .int .i64 (L (main[n]'hlt.out).f0).2.2.2.2.1, .int .i64 (L (main[n]'hlt.out).f0).2.2.2.2.2.1, .bool (L (main[n]'hlt.out).f0).2.2.2.2.2.2], .bool true, .bool true, .pointer (some ⟨g61, 3, none⟩), .pointer (some ⟨g61, 3, none⟩), .int .i64 (L (main[n]'hlt.out).f0).2.2.2.1, .bool true, .bool true, .bool true, .pointer (some ⟨g61, 2, none⟩), .string (L (main[n]'hlt.out).f0).2.2.1, .pointer (some ⟨g3, 3, none⟩), .slice (some ⟨b3, o3, none⟩) main.length c3, .int .i64 n, .pointer (some ⟨b3, o3 + n * 11, none⟩), .pointer (some ⟨b3, o3 + n * 11 + 1, none⟩), .string (main[n]'hlt.out).f1, .bool true, .bool true, .bool false, .bool false, undef, undef, undef, undef, .bool false, us 67, us 68, us 69, us 70, us 71, us 72, us 73, us 74, us 75, us 76, us 77, us 78, us 79, us 80, us 81, us 82, us 83, us 84, us 85, us 86, us 87, us 88, us 89, us 90, us 91, us 92, us 93, us 94, us 95] : Array Value).getD us_ undef, rfl, C0, Fg3, MF, Lib.hid ⟨by have := hlt.out; omega, by have := hlt.out; have := hn.out; omega⟩, Lib.hid (by rw [take_all _ _ _ hlt.out, rd_at _ _ hlt.out, ← hea.out]; rw [Bool.true_and]; unfold exB; rw [if_pos hx.out, D58.out]), Lib.hid (by rw [take_all _ _ _ hlt.out, rd_at _ _ hlt.out, ← heb.out]; rw [Bool.false_and])⟩)
        · obtain rfl := h.1
          have D65 := Lib.hid (show decide ((L (main[n]'hlt.out).f0).2.2.2.1 > 1) = false from decide_eq_false h.2)
          clear h
          refine r_ ?_
          refine pu_ (v := .bool true) (y_move rfl (by rfl) (by rfl)) ?_
          (try simp only [zP, zN, zA, zB, zC])
          refine pu_ (v := .bool true) (y_move rfl (by rfl) (by rfl)) ?_
          (try simp only [zP, zN, zA, zB, zC])
          refine pu_ (v := .pointer (some ⟨g61, 3, none⟩)) (y_run (by rfl) (fun W => by go_simp)) ?_
          (try simp only [zP, zN, zA, zB, zC])
          refine pu_ (v := .pointer (some ⟨g61, 3, none⟩)) (y_run (by rfl) (fun W => by go_simp)) ?_
          (try simp only [zP, zN, zA, zB, zC])
          refine ld_ (v := .int .i64 (L (main[n]'hlt.out).f0).2.2.2.1) rfl (by rfl) (by rfl) (run_load_one ((Fg61.out.cell 3).trans rfl) Try.underlying3 rfl) ?_
          (try simp only [zP, zN, zA, zB, zC])
          refine pu_ (v := .bool false) (y_run (by rfl) (fun W => by have d := D65.out; go_simp)) ?_
          (try simp only [zP, zN, zA, zB, zC])
          refine pu_ (v := .bool false) (y_pick (t := true) (by rfl) rfl (by rfl) (by rfl)) ?_
          (try simp only [zP, zN, zA, zB, zC])
          refine pu_ (v := .bool false) (y_assign rfl (by rfl) (by rfl)) ?_
          (try simp only [zP, zN, zA, zB, zC])
          refine nl_ ?_
          refine ib_norm ?_
          refine th_norm (hK55 _ _ ?_); try clear hK55 K55
          refine r_ ?_
          refine pu_ (v := .int .i64 n) (y_move rfl (by rfl) (by rfl)) ?_
          (try simp only [zP, zN, zA, zB, zC])
          refine pu_ (v := .int .i64 (n + 1 : Nat)) (y_run (by rfl) (fun W => by have d := WA.out; go_simp)) ?_
          (try simp only [zP, zN, zA, zB, zC])
          refine pu_ (v := .int .i64 (n + 1 : Nat)) (y_assign rfl (by rfl) (by rfl)) ?_
          (try simp only [zP, zN, zA, zB, zC])
          refine nl_ ?_
          exact th_norm (hK52 (kq - 1) _ _ (by have := hlt.out; have := hn.out; omega) ⟨n + 1, true, false, fun us_ => (#[us 0, .slice a l.length cap, .pointer (some ⟨g3, 0, none⟩), us 3, .bool false, .bool true, .bool false, .int .i64 (n + 1 : Nat), .pointer (some ⟨g61, 0, none⟩), us 9, us 10, us 11, us 12, us 13, us 14, us 15, us 16, us 17, us 18, us 19, us 20, us 21, us 22, us 23, us 24, us 25, us 26, .int .i64 n, .pointer (some ⟨g3, 3, none⟩), .slice (some ⟨b3, o3, none⟩) main.length c3, .int .i64 main.length, .bool true, .int .i64 n, .int .i64 (n + 1 : Nat), .slice a l.length cap, .pointer (some ⟨g3, 3, none⟩), .slice (some ⟨b3, o3, none⟩) main.length c3, .int .i64 n, .pointer (some ⟨b3, o3 + n * 11, none⟩), .pointer (some ⟨b3, o3 + n * 11, none⟩), .string (main[n]'hlt.out).f0, .agg #[.int .i64 (L (main[n]'hlt.out).f0).1, .string (L (main[n]'hlt.out).f0).2.1, .string (L (main[n]'hlt.out).f0).2.2.1, .int .i64 (L (main[n]'hlt.out).f0).2.2.2.1, .int .i64 (L (main[n]'hlt.out).f0).2.2.2.2.1, .int .i64 (L (main[n]'hlt.out).f0).2.2.2.2.2.1, .bool (L (main[n]'hlt.out).f0).2.2.2.2.2.2], .bool true, .bool true, .pointer (some ⟨g61, 3, none⟩), .pointer (some ⟨g61, 3, none⟩), .int .i64 (L (main[n]'hlt.out).f0).2.2.2.1, .bool true, .bool true, .bool true, .pointer (some ⟨g61, 2, none⟩), .string (L (main[n]'hlt.out).f0).2.2.1, .pointer (some ⟨g3, 3, none⟩), .slice (some ⟨b3, o3, none⟩) main.length c3, .int .i64 n, .pointer (some ⟨b3, o3 + n * 11, none⟩), .pointer (some ⟨b3, o3 + n * 11 + 1, none⟩), .string (main[n]'hlt.out).f1, .bool true, .bool true, .bool true, .bool true, .pointer (some ⟨g61, 3, none⟩), .pointer (some ⟨g61, 3, none⟩), .int .i64 (L (main[n]'hlt.out).f0).2.2.2.1, .bool false, .bool false, us 67, us 68, us 69, us 70, us 71, us 72, us 73, us 74, us 75, us 76, us 77, us 78, us 79, us 80, us 81, us 82, us 83, us 84, us 85, us 86, us 87, us 88, us 89, us 90, us 91, us 92, us 93, us 94, us 95] : Array Value).getD us_ undef, rfl, C0, Fg3, MF, Lib.hid ⟨by have := hlt.out; omega, by have := hlt.out; have := hn.out; omega⟩, Lib.hid (by rw [take_all _ _ _ hlt.out, rd_at _ _ hlt.out, ← hea.out]; rw [Bool.true_and]; unfold exB; rw [if_pos hx.out, D58.out]), Lib.hid (by rw [take_all _ _ _ hlt.out, rd_at _ _ hlt.out, ← heb.out]; rw [Bool.true_and]; unfold upB; rw [D65.out])⟩)
        · obtain rfl := h.1
          have D65 := Lib.hid (show decide ((L (main[n]'hlt.out).f0).2.2.2.1 > 1) = true from decide_eq_true h.2)
          clear h
          refine r_ ?_
          refine pu_ (v := .bool true) (y_move rfl (by rfl) (by rfl)) ?_
          (try simp only [zP, zN, zA, zB, zC])
          refine pu_ (v := .bool true) (y_move rfl (by rfl) (by rfl)) ?_
          (try simp only [zP, zN, zA, zB, zC])
          refine pu_ (v := .pointer (some ⟨g61, 3, none⟩)) (y_run (by rfl) (fun W => by go_simp)) ?_
          (try simp only [zP, zN, zA, zB, zC])
          refine pu_ (v := .pointer (some ⟨g61, 3, none⟩)) (y_run (by rfl) (fun W => by go_simp)) ?_
          (try simp only [zP, zN, zA, zB, zC])
          refine ld_ (v := .int .i64 (L (main[n]'hlt.out).f0).2.2.2.1) rfl (by rfl) (by rfl) (run_load_one ((Fg61.out.cell 3).trans rfl) Try.underlying3 rfl) ?_
          (try simp only [zP, zN, zA, zB, zC])
          refine pu_ (v := .bool true) (y_run (by rfl) (fun W => by have d := D65.out; go_simp)) ?_
          (try simp only [zP, zN, zA, zB, zC])
          refine pu_ (v := .bool true) (y_pick (t := true) (by rfl) rfl (by rfl) (by rfl)) ?_
          (try simp only [zP, zN, zA, zB, zC])
          refine pu_ (v := .bool true) (y_assign rfl (by rfl) (by rfl)) ?_
          (try simp only [zP, zN, zA, zB, zC])
          refine nl_ ?_
          refine ib_norm ?_
          refine th_norm (hK55 _ _ ?_); try clear hK55 K55
          refine r_ ?_
          refine pu_ (v := .int .i64 n) (y_move rfl (by rfl) (by rfl)) ?_
          (try simp only [zP, zN, zA, zB, zC])
          refine pu_ (v := .int .i64 (n + 1 : Nat)) (y_run (by rfl) (fun W => by have d := WA.out; go_simp)) ?_
          (try simp only [zP, zN, zA, zB, zC])
          refine pu_ (v := .int .i64 (n + 1 : Nat)) (y_assign rfl (by rfl) (by rfl)) ?_
          (try simp only [zP, zN, zA, zB, zC])
          refine nl_ ?_
          exact th_norm (hK52 (kq - 1) _ _ (by have := hlt.out; have := hn.out; omega) ⟨n + 1, true, true, fun us_ => (#[us 0, .slice a l.length cap, .pointer (some ⟨g3, 0, none⟩), us 3, .bool false, .bool true, .bool true, .int .i64 (n + 1 : Nat), .pointer (some ⟨g61, 0, none⟩), us 9, us 10, us 11, us 12, us 13, us 14, us 15, us 16, us 17, us 18, us 19, us 20, us 21, us 22, us 23, us 24, us 25, us 26, .int .i64 n, .pointer (some ⟨g3, 3, none⟩), .slice (some ⟨b3, o3, none⟩) main.length c3, .int .i64 main.length, .bool true, .int .i64 n, .int .i64 (n + 1 : Nat), .slice a l.length cap, .pointer (some ⟨g3, 3, none⟩), .slice (some ⟨b3, o3, none⟩) main.length c3, .int .i64 n, .pointer (some ⟨b3, o3 + n * 11, none⟩), .pointer (some ⟨b3, o3 + n * 11, none⟩), .string (main[n]'hlt.out).f0, .agg #[.int .i64 (L (main[n]'hlt.out).f0).1, .string (L (main[n]'hlt.out).f0).2.1, .string (L (main[n]'hlt.out).f0).2.2.1, .int .i64 (L (main[n]'hlt.out).f0).2.2.2.1, .int .i64 (L (main[n]'hlt.out).f0).2.2.2.2.1, .int .i64 (L (main[n]'hlt.out).f0).2.2.2.2.2.1, .bool (L (main[n]'hlt.out).f0).2.2.2.2.2.2], .bool true, .bool true, .pointer (some ⟨g61, 3, none⟩), .pointer (some ⟨g61, 3, none⟩), .int .i64 (L (main[n]'hlt.out).f0).2.2.2.1, .bool true, .bool true, .bool true, .pointer (some ⟨g61, 2, none⟩), .string (L (main[n]'hlt.out).f0).2.2.1, .pointer (some ⟨g3, 3, none⟩), .slice (some ⟨b3, o3, none⟩) main.length c3, .int .i64 n, .pointer (some ⟨b3, o3 + n * 11, none⟩), .pointer (some ⟨b3, o3 + n * 11 + 1, none⟩), .string (main[n]'hlt.out).f1, .bool true, .bool true, .bool true, .bool true, .pointer (some ⟨g61, 3, none⟩), .pointer (some ⟨g61, 3, none⟩), .int .i64 (L (main[n]'hlt.out).f0).2.2.2.1, .bool true, .bool true, us 67, us 68, us 69, us 70, us 71, us 72, us 73, us 74, us 75, us 76, us 77, us 78, us 79, us 80, us 81, us 82, us 83, us 84, us 85, us 86, us 87, us 88, us 89, us 90, us 91, us 92, us 93, us 94, us 95] : Array Value).getD us_ undef, rfl, C0, Fg3, MF, Lib.hid ⟨by have := hlt.out; omega, by have := hlt.out; have := hn.out; omega⟩, Lib.hid (by rw [take_all _ _ _ hlt.out, rd_at _ _ hlt.out, ← hea.out]; rw [Bool.true_and]; unfold exB; rw [if_pos hx.out, D58.out]), Lib.hid (by rw [take_all _ _ _ hlt.out, rd_at _ _ hlt.out, ← heb.out]; rw [Bool.true_and]; unfold upB; rw [D65.out])⟩)
    · have D31 := Lib.hid (show ¬ (n : Int) < (main.length : Int) by omega)
      have hnn := Lib.hid h
      have hfa := Lib.hid (show ea = main.all (exB L) by rw [hea.out, h, List.take_length])
      have hfb := Lib.hid (show eb = main.all (upB L) by rw [heb.out, h, List.take_length])
      have RE := Lib.hid (HR.out h0.out).1
      have RT := Lib.hid (HR.out h0.out).2
      clear h
      refine s_ (fun K88 hK88 => ?_)
      refine pu_ (v := .int .i64 n) (y_move rfl (by rfl) (by rfl)) ?_
      (try simp only [zP, zN, zA, zB, zC])
      refine pu_ (v := .pointer (some ⟨g3, 3, none⟩)) (y_run (by rfl) (fun W => by go_simp)) ?_
      (try simp only [zP, zN, zA, zB, zC])
      refine ld_ (v := .slice (some ⟨b3, o3, none⟩) main.length c3) rfl (by rfl) (by rfl) (run_load_one ((Fg3.out.cell 3).trans rfl) Try.underlying49 rfl) ?_
      (try simp only [zP, zN, zA, zB, zC])
      refine pu_ (v := .int .i64 main.length) (y_run (by rfl) (fun W => by go_simp)) ?_
      (try simp only [zP, zN, zA, zB, zC])
      refine pu_ (v := .bool false) (y_run (by rfl) (fun W => by have d := D31.out; go_simp)) ?_
      (try simp only [zP, zN, zA, zB, zC])
      refine nl_ (hK88 _ _ ?_); clear hK88 K88
      refine wp_cond_false rfl ?_
      refine wp_exit ?_
      refine th_exit ?_
      refine th_exit ?_
      refine ib_exit ?_
      refine th_norm (hK49 _ _ ?_); try clear hK49 K49
      refine s_ (fun K89 hK89 => ?_)
      refine ld_ (v := .agg (#[.string nm, .slice A1 lb.length c1, .slice none 0 0, .slice (some ⟨b3, o3, none⟩) main.length c3, .int .i64 rs, .int .i64 x, .int .i64 y])) rfl (by rfl) (by rfl) (run_loadVar_row _ _ 51 51 (#[.string nm, .slice A1 lb.length c1, .slice none 0 0, .slice (some ⟨b3, o3, none⟩) main.length c3, .int .i64 rs, .int .i64 x, .int .i64 y]) (0, 0) _ Fg3.out Try.underlying51 rfl (by kernel_rfl)) ?_
      (try simp only [zP, zN, zA, zB, zC])
      refine pu_ (v := .slice a l.length cap) (y_move rfl (by rfl) (by rfl)) ?_
      (try simp only [zP, zN, zA, zB, zC])
      refine ef_ (fun K90 hK90 => ?_)
      refine e_call Try.func31 (by kernel_rfl) rfl #[.agg (#[.string nm, .slice A1 lb.length c1, .slice none 0 0, .slice (some ⟨b3, o3, none⟩) main.length c3, .int .i64 rs, .int .i64 x, .int .i64 y]), .slice a l.length cap] (by rfl) rfl rfl (by first | rfl | (simp only [List.map_toArray, List.map_cons, List.map_nil]; first | done | rfl)) (H31.out h0.out _ C0.out) ?_
      rintro en w92 ⟨rfl, cc91⟩
      refine ⟨_, rfl, ?_⟩
      have C0' := Lib.hid (show Ch [] w w92 from C0.out.trans' cc91 (fun x hx => absurd hx (by simp)))
      have Fg3' := Lib.hid (show Blk w92 g3 (#[.string nm, .slice A1 lb.length c1, .slice none 0 0, .slice (some ⟨b3, o3, none⟩) main.length c3, .int .i64 rs, .int .i64 x, .int .i64 y]) 51 from cc91.blk Fg3.out nin_nil)
      have MF' := Lib.hid (show MainIs w92 b3 o3 main from MF.out.ch cc91 nin_nil)
      clear C0 Fg3 MF
      have C0 := C0'; clear C0'
      have Fg3 := Fg3'; clear Fg3'
      have MF := MF'; clear MF'
      clear cc91
      refine hK90 _ _ ?_; clear hK90 K90
      (try simp only [zP, zN, zA, zB, zC])
      refine pu_ (v := .int .i64 p) (y_assign rfl (by rfl) (by rfl)) ?_
      (try simp only [zP, zN, zA, zB, zC])
      refine nl_ (hK89 _ _ ?_); clear hK89 K89
      refine sq_ (fun K93 hK93 => ?_)
      rcases (show (eb = false ∧ (p != 1) = false) ∨ (eb = true ∧ (p != 1) = true ∧ (rs != 3) = true ∧ (rs != 1) = true) ∨ (eb = true ∧ (p != 1) = true ∧ (rs != 3) = true ∧ (rs != 1) = false ∧ (ea == bt) = true) ∨ (eb = true ∧ (p != 1) = true ∧ (rs != 3) = false ∧ (p == 2) = true ∧ (rs != 1) = true) from ends4 hfa.out hfb.out RE.out RT.out) with h | h | h | h
      · obtain ⟨e1, e2⟩ := h
        have Eb := e1
        subst Eb
        clear e1
        have D72 := Lib.hid e2
        clear e2
        refine s_ (fun K94 hK94 => ?_)
        refine pu_ (v := .bool false) (y_move rfl (by rfl) (by rfl)) ?_
        (try simp only [zP, zN, zA, zB, zC])
        refine pu_ (v := .int .i64 p) (y_move rfl (by rfl) (by rfl)) ?_
        (try simp only [zP, zN, zA, zB, zC])
        refine pu_ (v := .bool false) (y_run (by rfl) (fun W => by have d := D72.out; go_simp)) ?_
        (try simp only [zP, zN, zA, zB, zC])
        refine pu_ (v := .bool false) (y_run (by rfl) (fun W => by go_simp)) ?_
        (try simp only [zP, zN, zA, zB, zC])
        refine nl_ (hK94 _ _ ?_); clear hK94 K94
        refine wp_cond_false rfl ?_
        refine wp_skip ?_
        refine th_norm (hK93 _ _ ?_); try clear hK93 K93
        refine s_ (fun K95 hK95 => ?_)
        refine pu_ (v := .bool false) (y_move rfl (by rfl) (by rfl)) ?_
        (try simp only [zP, zN, zA, zB, zC])
        refine pu_ (v := .bool true) (y_run (by rfl) (fun W => by go_simp)) ?_
        (try simp only [zP, zN, zA, zB, zC])
        refine pu_ (v := .bool true) (y_move rfl (by rfl) (by rfl)) ?_
        (try simp only [zP, zN, zA, zB, zC])
        refine pu_ (y_off (by rfl)) ?_
        (try simp only [zP, zN, zA, zB, zC])
        refine pu_ (y_off (by rfl)) ?_
        (try simp only [zP, zN, zA, zB, zC])
        refine pu_ (y_off (by rfl)) ?_
        (try simp only [zP, zN, zA, zB, zC])
        refine pu_ (y_off (by rfl)) ?_
        (try simp only [zP, zN, zA, zB, zC])
        refine pu_ (y_off (by rfl)) ?_
        (try simp only [zP, zN, zA, zB, zC])
        refine pu_ (y_off (by rfl)) ?_
        (try simp only [zP, zN, zA, zB, zC])
        refine pu_ (y_off (by rfl)) ?_
        (try simp only [zP, zN, zA, zB, zC])
        refine pu_ (y_off (by rfl)) ?_
        (try simp only [zP, zN, zA, zB, zC])
        refine pu_ (y_off (by rfl)) ?_
        (try simp only [zP, zN, zA, zB, zC])
        refine pu_ (y_off (by rfl)) ?_
        (try simp only [zP, zN, zA, zB, zC])
        refine pu_ (y_off (by rfl)) ?_
        (try simp only [zP, zN, zA, zB, zC])
        refine pu_ (y_off (by rfl)) ?_
        (try simp only [zP, zN, zA, zB, zC])
        refine pu_ (y_off (by rfl)) ?_
        (try simp only [zP, zN, zA, zB, zC])
        refine pu_ (y_off (by rfl)) ?_
        (try simp only [zP, zN, zA, zB, zC])
        refine pu_ (y_off (by rfl)) ?_
        (try simp only [zP, zN, zA, zB, zC])
        refine pu_ (y_off (by rfl)) ?_
        (try simp only [zP, zN, zA, zB, zC])
        refine pu_ (y_off (by rfl)) ?_
        (try simp only [zP, zN, zA, zB, zC])
        refine pu_ (y_off (by rfl)) ?_
        (try simp only [zP, zN, zA, zB, zC])
        refine pu_ (v := .bool true) (y_pick (t := true) (by rfl) rfl (by rfl) (by rfl)) ?_
        (try simp only [zP, zN, zA, zB, zC])
        refine pu_ (v := .bool true) (y_assign rfl (by rfl) (by rfl)) ?_
        (try simp only [zP, zN, zA, zB, zC])
        refine nl_ (hK95 _ _ ?_); clear hK95 K95
        refine wp_ret ?_
        refine hQ _ _ _ ?_
        refine bodyPost_ret (res1 rfl (rdv_tmp (v := .bool true) (by rfl))) rfl ?_
        exact ⟨rfl, C0.out⟩
      · obtain ⟨e1, e2, e3, e4⟩ := h
        have Eb := e1
        subst Eb
        clear e1
        have D72 := Lib.hid e2
        clear e2
        have D79 := Lib.hid e3
        clear e3
        have D87 := Lib.hid e4
        clear e4
        refine s_ (fun K96 hK96 => ?_)
        refine pu_ (v := .bool true) (y_move rfl (by rfl) (by rfl)) ?_
        (try simp only [zP, zN, zA, zB, zC])
        refine pu_ (v := .int .i64 p) (y_move rfl (by rfl) (by rfl)) ?_
        (try simp only [zP, zN, zA, zB, zC])
        refine pu_ (v := .bool true) (y_run (by rfl) (fun W => by have d := D72.out; go_simp)) ?_
        (try simp only [zP, zN, zA, zB, zC])
        refine pu_ (v := .bool false) (y_run (by rfl) (fun W => by go_simp)) ?_
        (try simp only [zP, zN, zA, zB, zC])
        refine nl_ (hK96 _ _ ?_); clear hK96 K96
        refine wp_cond_false rfl ?_
        refine wp_skip ?_
        refine th_norm (hK93 _ _ ?_); try clear hK93 K93
        refine s_ (fun K97 hK97 => ?_)
        refine pu_ (v := .bool true) (y_move rfl (by rfl) (by rfl)) ?_
        (try simp only [zP, zN, zA, zB, zC])
        refine pu_ (v := .bool false) (y_run (by rfl) (fun W => by go_simp)) ?_
        (try simp only [zP, zN, zA, zB, zC])
        refine pu_ (v := .bool false) (y_move rfl (by rfl) (by rfl)) ?_
        (try simp only [zP, zN, zA, zB, zC])
        refine pu_ (v := .pointer (some ⟨g3, 4, none⟩)) (y_run (by rfl) (fun W => by go_simp)) ?_
        (try simp only [zP, zN, zA, zB, zC])
        refine ld_ (v := .int .i64 rs) rfl (by rfl) (by rfl) (run_load_one ((Fg3.out.cell 4).trans rfl) Try.underlying3 rfl) ?_
        (try simp only [zP, zN, zA, zB, zC])
        refine pu_ (v := .bool true) (y_run (by rfl) (fun W => by have d := D79.out; go_simp)) ?_
        (try simp only [zP, zN, zA, zB, zC])
        refine pu_ (v := .bool true) (y_move rfl (by rfl) (by rfl)) ?_
        (try simp only [zP, zN, zA, zB, zC])
        refine pu_ (y_off (by rfl)) ?_
        (try simp only [zP, zN, zA, zB, zC])
        refine pu_ (y_off (by rfl)) ?_
        (try simp only [zP, zN, zA, zB, zC])
        refine pu_ (v := .bool true) (y_pick (t := true) (by rfl) rfl (by rfl) (by rfl)) ?_
        (try simp only [zP, zN, zA, zB, zC])
        refine pu_ (v := .bool true) (y_move rfl (by rfl) (by rfl)) ?_
        (try simp only [zP, zN, zA, zB, zC])
        refine pu_ (v := .pointer (some ⟨g3, 4, none⟩)) (y_run (by rfl) (fun W => by go_simp)) ?_
        (try simp only [zP, zN, zA, zB, zC])
        refine ld_ (v := .int .i64 rs) rfl (by rfl) (by rfl) (run_load_one ((Fg3.out.cell 4).trans rfl) Try.underlying3 rfl) ?_
        (try simp only [zP, zN, zA, zB, zC])
        refine pu_ (v := .bool true) (y_run (by rfl) (fun W => by have d := D87.out; go_simp)) ?_
        (try simp only [zP, zN, zA, zB, zC])
        refine pu_ (v := .bool true) (y_move rfl (by rfl) (by rfl)) ?_
        (try simp only [zP, zN, zA, zB, zC])
        refine pu_ (y_off (by rfl)) ?_
        (try simp only [zP, zN, zA, zB, zC])
        refine pu_ (y_off (by rfl)) ?_
        (try simp only [zP, zN, zA, zB, zC])
        refine pu_ (y_off (by rfl)) ?_
        (try simp only [zP, zN, zA, zB, zC])
        refine pu_ (y_off (by rfl)) ?_
        (try simp only [zP, zN, zA, zB, zC])
        refine pu_ (v := .bool true) (y_pick (t := true) (by rfl) rfl (by rfl) (by rfl)) ?_
        (try simp only [zP, zN, zA, zB, zC])
        refine pu_ (v := .bool true) (y_pick (t := true) (by rfl) rfl (by rfl) (by rfl)) ?_
        (try simp only [zP, zN, zA, zB, zC])
        refine pu_ (v := .bool true) (y_pick (t := false) (by rfl) rfl (by rfl) (by rfl)) ?_
        (try simp only [zP, zN, zA, zB, zC])
        refine pu_ (v := .bool true) (y_assign rfl (by rfl) (by rfl)) ?_
        (try simp only [zP, zN, zA, zB, zC])
        refine nl_ (hK97 _ _ ?_); clear hK97 K97
        refine wp_ret ?_
        refine hQ _ _ _ ?_
        refine bodyPost_ret (res1 rfl (rdv_tmp (v := .bool true) (by rfl))) rfl ?_
        exact ⟨rfl, C0.out⟩
      · obtain ⟨e1, e2, e3, e4, e5⟩ := h
        have Eb := e1
        subst Eb
        clear e1
        have D72 := Lib.hid e2
        clear e2
        have D79 := Lib.hid e3
        clear e3
        have D87 := Lib.hid e4
        clear e4
        have D92 := Lib.hid e5
        clear e5
        refine s_ (fun K98 hK98 => ?_)
        refine pu_ (v := .bool true) (y_move rfl (by rfl) (by rfl)) ?_
        (try simp only [zP, zN, zA, zB, zC])
        refine pu_ (v := .int .i64 p) (y_move rfl (by rfl) (by rfl)) ?_
        (try simp only [zP, zN, zA, zB, zC])
        refine pu_ (v := .bool true) (y_run (by rfl) (fun W => by have d := D72.out; go_simp)) ?_
        (try simp only [zP, zN, zA, zB, zC])
        refine pu_ (v := .bool false) (y_run (by rfl) (fun W => by go_simp)) ?_
        (try simp only [zP, zN, zA, zB, zC])
        refine nl_ (hK98 _ _ ?_); clear hK98 K98
        refine wp_cond_false rfl ?_
        refine wp_skip ?_
        refine th_norm (hK93 _ _ ?_); try clear hK93 K93
        refine s_ (fun K99 hK99 => ?_)
        refine pu_ (v := .bool true) (y_move rfl (by rfl) (by rfl)) ?_
        (try simp only [zP, zN, zA, zB, zC])
        refine pu_ (v := .bool false) (y_run (by rfl) (fun W => by go_simp)) ?_
        (try simp only [zP, zN, zA, zB, zC])
        refine pu_ (v := .bool false) (y_move rfl (by rfl) (by rfl)) ?_
        (try simp only [zP, zN, zA, zB, zC])
        refine pu_ (v := .pointer (some ⟨g3, 4, none⟩)) (y_run (by rfl) (fun W => by go_simp)) ?_
        (try simp only [zP, zN, zA, zB, zC])
        refine ld_ (v := .int .i64 rs) rfl (by rfl) (by rfl) (run_load_one ((Fg3.out.cell 4).trans rfl) Try.underlying3 rfl) ?_
        (try simp only [zP, zN, zA, zB, zC])
        refine pu_ (v := .bool true) (y_run (by rfl) (fun W => by have d := D79.out; go_simp)) ?_
        (try simp only [zP, zN, zA, zB, zC])
        refine pu_ (v := .bool true) (y_move rfl (by rfl) (by rfl)) ?_
        (try simp only [zP, zN, zA, zB, zC])
        refine pu_ (y_off (by rfl)) ?_
        (try simp only [zP, zN, zA, zB, zC])
        refine pu_ (y_off (by rfl)) ?_
        (try simp only [zP, zN, zA, zB, zC])
        refine pu_ (v := .bool true) (y_pick (t := true) (by rfl) rfl (by rfl) (by rfl)) ?_
        (try simp only [zP, zN, zA, zB, zC])
        refine pu_ (v := .bool true) (y_move rfl (by rfl) (by rfl)) ?_
        (try simp only [zP, zN, zA, zB, zC])
        refine pu_ (v := .pointer (some ⟨g3, 4, none⟩)) (y_run (by rfl) (fun W => by go_simp)) ?_
        (try simp only [zP, zN, zA, zB, zC])
        refine ld_ (v := .int .i64 rs) rfl (by rfl) (by rfl) (run_load_one ((Fg3.out.cell 4).trans rfl) Try.underlying3 rfl) ?_
        (try simp only [zP, zN, zA, zB, zC])
        refine pu_ (v := .bool false) (y_run (by rfl) (fun W => by have d := D87.out; go_simp)) ?_
        (try simp only [zP, zN, zA, zB, zC])
        refine pu_ (v := .bool false) (y_move rfl (by rfl) (by rfl)) ?_
        (try simp only [zP, zN, zA, zB, zC])
        refine pu_ (v := .bool ea) (y_move rfl (by rfl) (by rfl)) ?_
        (try simp only [zP, zN, zA, zB, zC])
        refine pu_ (v := .int .i64 p) (y_move rfl (by rfl) (by rfl)) ?_
        (try simp only [zP, zN, zA, zB, zC])
        refine ef_ (fun K100 hK100 => ?_)
        refine e_call Try.func26 (by kernel_rfl) rfl #[.int .i64 p] (by rfl) rfl rfl (by first | rfl | (simp only [List.map_toArray, List.map_cons, List.map_nil]; first | done | rfl)) (H26.out _) ?_
        rintro en w102 ⟨rfl, cc101⟩
        refine ⟨_, rfl, ?_⟩
        have C0' := Lib.hid (show Ch [] w w102 from C0.out.trans' cc101 (fun x hx => absurd hx (by simp)))
        have Fg3' := Lib.hid (show Blk w102 g3 (#[.string nm, .slice A1 lb.length c1, .slice none 0 0, .slice (some ⟨b3, o3, none⟩) main.length c3, .int .i64 rs, .int .i64 x, .int .i64 y]) 51 from cc101.blk Fg3.out nin_nil)
        have MF' := Lib.hid (show MainIs w102 b3 o3 main from MF.out.ch cc101 nin_nil)
        clear C0 Fg3 MF
        have C0 := C0'; clear C0'
        have Fg3 := Fg3'; clear Fg3'
        have MF := MF'; clear MF'
        clear cc101
        refine hK100 _ _ ?_; clear hK100 K100
        (try simp only [zP, zN, zA, zB, zC])
        refine pu_ (v := .bool true) (y_run (by rfl) (fun W => by have d := D92.out; go_simp)) ?_
        (try simp only [zP, zN, zA, zB, zC])
        refine pu_ (v := .bool true) (y_pick (t := false) (by rfl) rfl (by rfl) (by rfl)) ?_
        (try simp only [zP, zN, zA, zB, zC])
        refine pu_ (v := .bool true) (y_pick (t := true) (by rfl) rfl (by rfl) (by rfl)) ?_
        (try simp only [zP, zN, zA, zB, zC])
        refine pu_ (v := .bool true) (y_pick (t := false) (by rfl) rfl (by rfl) (by rfl)) ?_
        (try simp only [zP, zN, zA, zB, zC])
        refine pu_ (v := .bool true) (y_assign rfl (by rfl) (by rfl)) ?_
        (try simp only [zP, zN, zA, zB, zC])
        refine nl_ (hK99 _ _ ?_); clear hK99 K99
        refine wp_ret ?_
        refine hQ _ _ _ ?_
        refine bodyPost_ret (res1 rfl (rdv_tmp (v := .bool true) (by rfl))) rfl ?_
        exact ⟨rfl, C0.out⟩
      · obtain ⟨e1, e2, e3, e4, e5⟩ := h
        have Eb := e1
        subst Eb
        clear e1
        have D72 := Lib.hid e2
        clear e2
        have D79 := Lib.hid e3
        clear e3
        have D82 := Lib.hid e4
        clear e4
        have D87 := Lib.hid e5
        clear e5
        refine s_ (fun K103 hK103 => ?_)
        refine pu_ (v := .bool true) (y_move rfl (by rfl) (by rfl)) ?_
        (try simp only [zP, zN, zA, zB, zC])
        refine pu_ (v := .int .i64 p) (y_move rfl (by rfl) (by rfl)) ?_
        (try simp only [zP, zN, zA, zB, zC])
        refine pu_ (v := .bool true) (y_run (by rfl) (fun W => by have d := D72.out; go_simp)) ?_
        (try simp only [zP, zN, zA, zB, zC])
        refine pu_ (v := .bool false) (y_run (by rfl) (fun W => by go_simp)) ?_
        (try simp only [zP, zN, zA, zB, zC])
        refine nl_ (hK103 _ _ ?_); clear hK103 K103
        refine wp_cond_false rfl ?_
        refine wp_skip ?_
        refine th_norm (hK93 _ _ ?_); try clear hK93 K93
        refine s_ (fun K104 hK104 => ?_)
        refine pu_ (v := .bool true) (y_move rfl (by rfl) (by rfl)) ?_
        (try simp only [zP, zN, zA, zB, zC])
        refine pu_ (v := .bool false) (y_run (by rfl) (fun W => by go_simp)) ?_
        (try simp only [zP, zN, zA, zB, zC])
        refine pu_ (v := .bool false) (y_move rfl (by rfl) (by rfl)) ?_
        (try simp only [zP, zN, zA, zB, zC])
        refine pu_ (v := .pointer (some ⟨g3, 4, none⟩)) (y_run (by rfl) (fun W => by go_simp)) ?_
        (try simp only [zP, zN, zA, zB, zC])
        refine ld_ (v := .int .i64 rs) rfl (by rfl) (by rfl) (run_load_one ((Fg3.out.cell 4).trans rfl) Try.underlying3 rfl) ?_
        (try simp only [zP, zN, zA, zB, zC])
        refine pu_ (v := .bool false) (y_run (by rfl) (fun W => by have d := D79.out; go_simp)) ?_
        (try simp only [zP, zN, zA, zB, zC])
        refine pu_ (v := .bool false) (y_move rfl (by rfl) (by rfl)) ?_
        (try simp only [zP, zN, zA, zB, zC])
        refine pu_ (v := .int .i64 p) (y_move rfl (by rfl) (by rfl)) ?_
        (try simp only [zP, zN, zA, zB, zC])
        refine pu_ (v := .bool true) (y_run (by rfl) (fun W => by have d := D82.out; go_simp)) ?_
        (try simp only [zP, zN, zA, zB, zC])
        refine pu_ (v := .bool true) (y_pick (t := false) (by rfl) rfl (by rfl) (by rfl)) ?_
        (try simp only [zP, zN, zA, zB, zC])
        refine pu_ (v := .bool true) (y_move rfl (by rfl) (by rfl)) ?_
        (try simp only [zP, zN, zA, zB, zC])
        refine pu_ (v := .pointer (some ⟨g3, 4, none⟩)) (y_run (by rfl) (fun W => by go_simp)) ?_
        (try simp only [zP, zN, zA, zB, zC])
        refine ld_ (v := .int .i64 rs) rfl (by rfl) (by rfl) (run_load_one ((Fg3.out.cell 4).trans rfl) Try.underlying3 rfl) ?_
        (try simp only [zP, zN, zA, zB, zC])
        refine pu_ (v := .bool true) (y_run (by rfl) (fun W => by have d := D87.out; go_simp)) ?_
        (try simp only [zP, zN, zA, zB, zC])
        refine pu_ (v := .bool true) (y_move rfl (by rfl) (by rfl)) ?_
        (try simp only [zP, zN, zA, zB, zC])
        refine pu_ (y_off (by rfl)) ?_
        (try simp only [zP, zN, zA, zB, zC])
        refine pu_ (y_off (by rfl)) ?_
        (try simp only [zP, zN, zA, zB, zC])
        refine pu_ (y_off (by rfl)) ?_
        (try simp only [zP, zN, zA, zB, zC])
        refine pu_ (y_off (by rfl)) ?_
        (try simp only [zP, zN, zA, zB, zC])
        refine pu_ (v := .bool true) (y_pick (t := true) (by rfl) rfl (by rfl) (by rfl)) ?_
        (try simp only [zP, zN, zA, zB, zC])
        refine pu_ (v := .bool true) (y_pick (t := true) (by rfl) rfl (by rfl) (by rfl)) ?_
        (try simp only [zP, zN, zA, zB, zC])
        refine pu_ (v := .bool true) (y_pick (t := false) (by rfl) rfl (by rfl) (by rfl)) ?_
        (try simp only [zP, zN, zA, zB, zC])
        refine pu_ (v := .bool true) (y_assign rfl (by rfl) (by rfl)) ?_
        (try simp only [zP, zN, zA, zB, zC])
        refine nl_ (hK104 _ _ ?_); clear hK104 K104
        refine wp_ret ?_
        refine hQ _ _ _ ?_
        refine bodyPost_ret (res1 rfl (rdv_tmp (v := .bool true) (by rfl))) rfl ?_
        exact ⟨rfl, C0.out⟩
end Go.Proofs.Ytgpoolcaooiemaa.H
