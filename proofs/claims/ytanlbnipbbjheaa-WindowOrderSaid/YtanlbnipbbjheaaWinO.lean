/- The walk of the law WindowOrder: what is told is what was put, in order, then one end. -/
import Derived.Test.YtanlbnipbbjheaaWinL
import Derived.Test.YtanlbnipbbjheaaQue
namespace Go.Proofs.Ytanlbnipbbjheaa.V
open Go Go.RowKit Go.Proofs.Ytanlbnipbbjheaa.K Go.Proofs.YtanlbnipbbjheaaW.PrintLast
set_option linter.unusedVariables false
set_option linter.unusedSimpArgs false
set_option maxRecDepth 100000
set_option maxHeartbeats 1600000

theorem WinIs.lower {w : World} {base base' b : Nat} {s : Win} {v : Value} (h : WinIs w base b s v) (hb : base' ≤ base) : WinIs w base' b s v := ⟨h.1, h.2.lower hb⟩
/-- What the statement keeps beside the window: the revisions of the events that are not marks; once it is done, nothing is left. -/
def OrdI (s : Win) (T : List Int) : Prop := T = ((s.L.filter (fun e => decide (e.k = 1))).map (·.r)) ∧ (∀ e ∈ s.L, e.k = 1 ∨ e.k = 4) ∧ (s.done = true → s.over = true ∧ s.L = []) ∧ s.L.length ≤ 16
theorem ord_new : OrdI ⟨[], 0, false, false⟩ [] := ⟨rfl, by simp, by simp, by simp⟩
theorem ord_len {s : Win} {T : List Int} (h : OrdI s T) : T.length ≤ 16 := by
  rw [h.1, List.length_map]
  exact Nat.le_trans (List.length_filter_le _ _) h.2.2.2
theorem ord_put {s : Win} {T : List Int} (h : OrdI s T) (ho : s.over = false) (hl : s.L.length < 16) (r : Int) : OrdI ⟨s.L ++ [⟨1, r, 0, 0⟩], r, false, s.done⟩ (T ++ [r]) := by
  refine ⟨by rw [h.1]; simp [List.filter_append], fun e he => ?_, fun hd => ?_, by simp; omega⟩
  · rcases List.mem_append.1 he with he | he
    · exact h.2.1 e he
    · simp at he; subst he; exact .inl rfl
  · have := (h.2.2.1 hd).1
    rw [ho] at this
    cases this
theorem ord_no {s : Win} {T : List Int} (h : OrdI s T) : OrdI ⟨s.L, s.last, true, s.done⟩ T := ⟨h.1, h.2.1, fun hd => ⟨rfl, (h.2.2.1 hd).2⟩, h.2.2.2⟩
theorem ord_mark {s : Win} {T : List Int} (h : OrdI s T) (rev : Int) : ∃ L' l' mb, markW s rev = (⟨L', l', s.over, s.done⟩, mb) ∧ OrdI ⟨L', l', s.over, s.done⟩ T := by
  unfold markW
  split
  · exact ⟨_, _, _, rfl, h⟩
  · rename_i ho
    have hd : s.done = false := by
      rcases hd : s.done with _ | _
      · rfl
      · exact absurd (h.2.2.1 hd).1 ho
    split
    · rename_i hm
      refine ⟨_, _, _, rfl, ?_, ?_, (fun hd' => by rw [hd] at hd'; cases hd'), by show (turn s.L rev).length ≤ 16; rw [turn_len]; exact h.2.2.2⟩
      · rw [h.1]
        rcases last_cases s.L with e | ⟨I, e, he⟩
        · rw [e]; rfl
        · rw [he] at hm ⊢
          rw [isMark_last] at hm
          have hk : e.k = 4 := by simpa using hm
          show _ = ((turn (I ++ [e]) rev).filter _).map _
          rw [turn_last]
          simp [List.filter_append, hk]
      · intro e he
        rcases last_cases s.L with e' | ⟨I, e1, he1⟩
        · change e ∈ turn s.L rev at he
          rw [e'] at he
          simp [turn] at he
        · change e ∈ turn s.L rev at he
          rw [he1, turn_last] at he
          rcases List.mem_append.1 he with he | he
          · exact h.2.1 e (by rw [he1]; exact List.mem_append_left _ he)
          · simp at he
            subst he
            exact h.2.1 e1 (by rw [he1]; simp)
    · split
      · exact ⟨_, _, _, rfl, h⟩
      · rename_i h16
        refine ⟨_, _, _, rfl, by rw [h.1]; simp [List.filter_append], fun e he => ?_, (fun hd' => by rw [hd] at hd'; cases hd'), by simp; omega⟩
        rcases List.mem_append.1 he with he | he
        · exact h.2.1 e he
        · simp at he; subst he; exact .inr rfl
theorem kcases (kz : Int) {s : Win} {T : List Int} (h : OrdI s T) :
    (kz = 0 ∧ s.over = false ∧ s.L.length < 16) ∨ (kz = 0 ∧ s.over = true) ∨ (kz = 0 ∧ s.over = false ∧ 16 ≤ s.L.length) ∨ kz = 1 ∨
    ((kz ≠ 0 ∧ kz ≠ 1) ∧ s.done = false ∧ ∃ e L, s.L = e :: L ∧ e.k = 1) ∨ ((kz ≠ 0 ∧ kz ≠ 1) ∧ s.done = false ∧ ∃ e L, s.L = e :: L ∧ e.k = 4) ∨
    ((kz ≠ 0 ∧ kz ≠ 1) ∧ s.L = [] ∧ s.over = true ∧ s.done = false) ∨ ((kz ≠ 0 ∧ kz ≠ 1) ∧ s.L = [] ∧ s.over = false ∧ s.done = false) ∨ ((kz ≠ 0 ∧ kz ≠ 1) ∧ s.L = [] ∧ s.over = true ∧ s.done = true) := by
  by_cases h0 : kz = 0
  · rcases ho : s.over with _ | _
    · rcases Nat.lt_or_ge s.L.length 16 with hl | hl
      · exact .inl ⟨h0, rfl, hl⟩
      · exact .inr (.inr (.inl ⟨h0, rfl, hl⟩))
    · exact .inr (.inl ⟨h0, rfl⟩)
  · by_cases h1 : kz = 1
    · exact .inr (.inr (.inr (.inl h1)))
    · have hk := And.intro h0 h1
      right; right; right; right
      rcases hL : s.L with _ | ⟨e, L⟩
      · right; right
        rcases ho : s.over with _ | _ <;> rcases hd : s.done with _ | _
        · exact .inr (.inl ⟨hk, rfl, rfl, rfl⟩)
        · have := (h.2.2.1 hd).1; rw [ho] at this; cases this
        · exact .inl ⟨hk, rfl, rfl, rfl⟩
        · exact .inr (.inr ⟨hk, rfl, rfl, rfl⟩)
      · have hd : s.done = false := by
          rcases hd : s.done with _ | _
          · rfl
          · have := (h.2.2.1 hd).2; rw [hL] at this; cases this
        rcases h.2.1 e (by rw [hL]; simp) with he | he
        · exact .inl ⟨hk, hd, e, L, rfl, he⟩
        · exact .inr (.inl ⟨hk, hd, e, L, rfl, he⟩)
theorem ord_one {s : Win} {T : List Int} (h : OrdI s T) {e : Ev} {L : List Ev} (hL : s.L = e :: L) (he : e.k = 1) (hd : s.done = false) : ∃ T1, T = e.r :: T1 ∧ OrdI ⟨L, s.last, s.over, false⟩ T1 := by
  obtain ⟨h1, h2, h3, h4⟩ := h
  rw [hL] at h1 h2 h4
  rw [List.filter_cons_of_pos (by simpa using he), List.map_cons] at h1
  exact ⟨_, h1, rfl, fun e' he' => h2 e' (List.mem_cons_of_mem _ he'), by simp, by simp at h4 ⊢; omega⟩
theorem ord_four {s : Win} {T : List Int} (h : OrdI s T) {e : Ev} {L : List Ev} (hL : s.L = e :: L) (he : e.k = 4) (hd : s.done = false) : OrdI ⟨L, s.last, s.over, false⟩ T := by
  obtain ⟨h1, h2, h3, h4⟩ := h
  rw [hL] at h1 h2 h4
  rw [List.filter_cons_of_neg (by rw [he]; simp)] at h1
  exact ⟨h1, fun e' he' => h2 e' (List.mem_cons_of_mem _ he'), by simp, by simp at h4 ⊢; omega⟩
theorem ord_nil {s : Win} {T : List Int} (h : OrdI s T) (hL : s.L = []) : T = [] := by
  rw [h.1, hL]; rfl
theorem ord_empty (l : Int) (d : Bool) : OrdI ⟨[], l, true, d⟩ [] := ⟨rfl, by simp, fun _ => ⟨rfl, rfl⟩, by simp⟩
theorem ord_empty0 (l : Int) : OrdI ⟨[], l, false, false⟩ [] := ⟨rfl, by simp, by simp, by simp⟩
theorem cell0 {w : World} {p : Addr} {u : Value} {l : List Value} (h : CellsAt w p (u :: l)) : w.cell? p = some u := by
  have := h 0 u rfl
  rwa [show p.add 0 = p by simp [Addr.add]] at this
theorem info42 : (Try.prog.info? 42).map (fun i => (i.zero, i.size, i.bytes)) = some (some (.int .u64 0), 1, 8) := by kernel_rfl
theorem q_head {w : World} {base g o n c : Nat} {x : Value} {xs : List Value} (h : OwnQ w base 42 1 (.slice (some ⟨g, o, none⟩) n c) n (x :: xs)) : w.cell? ⟨g, o, none⟩ = some x := by
  obtain ⟨g', o', c', he, _, _, _, hc⟩ := h.some_ (by have := h.1; simp at this; omega)
  injection he with e1 _ _
  injection e1 with e1
  injection e1 with e1 e2 _
  subst e1
  subst e2
  exact cell0 hc
theorem q_tail {w : World} {base g o n c : Nat} {x : Value} {xs : List Value} (h : OwnQ w base 42 1 (.slice (some ⟨g, o, none⟩) n c) n (x :: xs)) : ∃ A1 c1, (∀ W, (Instr.sliceAt 68 (.slice (some ⟨g, o, none⟩) n c) (some (.int .i64 1)) none none).run Try.prog W = .ok (.slice (some A1) (n - 1) c1) W) ∧ (∀ W, OwnQ W base 42 1 (.slice (some ⟨g, o, none⟩) n c) n (x :: xs) → OwnQ W base 42 1 (.slice (some A1) (n - 1) c1) (n - 1) xs) := by
  have hn : 0 < n := by have := h.1; simp at this; omega
  obtain ⟨A, c', he, hc, hm⟩ := h.slice
  injection he with _ _ e3
  subst e3
  exact ⟨_, _, fun W => run_slice_from Try.underlying68 (by kernel_rfl) ⟨g, o, none⟩ 1 n c 1 rfl hn hc hm, fun W hW => by simpa using (hW.tail (k := 1) hn (by omega)).1⟩
theorem orders (w : World) (a0 : Option Addr) (len0 cap0 : Nat) (hA : Acts w a0 len0) : Calls Try.prog 6 #[.slice a0 len0 cap0] w fun en w' => en = .returned (.bool true) ∧ Ch [] w w' := by
  have C0 := Lib.hid (Ch.refl [] w)
  have HA := Lib.hid hA
  obtain ⟨i42, I42⟩ := Info.of info42
  clear hA
  go_enter Try.func6, Try.ntmps6
  refine q_ (fun Q hQ hP => ?_)
  refine s_ (fun K1 hK1 => ?_)
  refine pu_ (v := .bool false) (y_assign rfl (by rfl) (by rfl)) ?_
  (try simp only [zP, zN, zA, zB, zC])
  refine nl_ (hK1 _ _ ?_); clear hK1 K1
  refine sq_ (fun K2 hK2 => ?_)
  refine s_ (fun K3 hK3 => ?_)
  refine ef_ (fun K4 hK4 => ?_)
  refine e_call Try.func29 (by kernel_rfl) rfl #[] (by rfl) rfl rfl (by first | rfl | (simp only [List.map_toArray, List.map_cons, List.map_nil]; first | done | rfl)) (works_all _) ?_
  rintro en w6 ⟨rfl, cc5⟩
  refine ⟨_, rfl, ?_⟩
  have C0' := Lib.hid (show Ch [] w w6 from C0.out.trans' cc5 (fun x hx => absurd hx (by simp)))
  clear C0
  have C0 := C0'; clear C0'
  clear cc5
  refine hK4 _ _ ?_; clear hK4 K4
  (try simp only [zP, zN, zA, zB, zC])
  refine pu_ (v := .bool false) (y_run (by rfl) (fun W => by go_simp)) ?_
  (try simp only [zP, zN, zA, zB, zC])
  refine nl_ (hK3 _ _ ?_); clear hK3 K3
  refine wp_cond_false rfl ?_
  refine wp_skip ?_
  refine th_norm (hK2 _ _ ?_); try clear hK2 K2
  refine s_ (fun K7 hK7 => ?_)
  refine ef_ (fun K8 hK8 => ?_)
  refine e_call Try.func15 (by kernel_rfl) rfl #[] (by rfl) rfl rfl (by first | rfl | (simp only [List.map_toArray, List.map_cons, List.map_nil]; first | done | rfl)) (new_all _) ?_
  rintro en w9 ⟨b, rfl, hw, hb, cc⟩
  refine ⟨_, rfl, ?_⟩
  have HBN := Lib.hid (show w.heap.size ≤ b by have := C0.out.size; omega); clear hb; replace hw := hw.lower C0.out.size
  have C0' := Lib.hid (show Ch [] w w9 from C0.out.trans' cc (fun x hx => absurd hx (by simp)))
  clear C0
  have C0 := C0'; clear C0'
  clear cc
  have PW := Lib.hid (show WinIs w9 (w.heap.size) b (⟨[], 0, false, false⟩) (.slice none 0 0) from hw)
  refine hK8 _ _ ?_; clear hK8 K8
  (try simp only [zP, zN, zA, zB, zC])
  refine pu_ (v := .pointer (some ⟨b, 0, none⟩)) (y_assign rfl (by rfl) (by rfl)) ?_
  (try simp only [zP, zN, zA, zB, zC])
  refine nl_ (hK7 _ _ ?_); clear hK7 K7
  refine sq_ (fun K10 hK10 => ?_)
  refine s_ (fun K11 hK11 => ?_)
  refine pu_ (v := .pointer (some ⟨b, 0, none⟩)) (y_move rfl (by rfl) (by rfl)) ?_
  (try simp only [zP, zN, zA, zB, zC])
  refine pu_ (v := .bool false) (y_run (by rfl) (fun W => by go_simp)) ?_
  (try simp only [zP, zN, zA, zB, zC])
  refine nl_ (hK11 _ _ ?_); clear hK11 K11
  refine wp_cond_false rfl ?_
  refine wp_skip ?_
  refine th_norm (hK10 _ _ ?_); try clear hK10 K10
  refine s_ (fun K12 hK12 => ?_)
  refine pu_ (v := .slice none 0 0) (y_assign rfl (by rfl) (by rfl)) ?_
  (try simp only [zP, zN, zA, zB, zC])
  refine nl_ (hK12 _ _ ?_); clear hK12 K12
  refine s_ (fun K13 hK13 => ?_)
  refine pu_ (v := .bool false) (y_assign rfl (by rfl) (by rfl)) ?_
  (try simp only [zP, zN, zA, zB, zC])
  refine pu_ (v := .bool false) (y_assign rfl (by rfl) (by rfl)) ?_
  (try simp only [zP, zN, zA, zB, zC])
  refine nl_ (hK13 _ _ ?_); clear hK13 K13
  refine s_ (fun K14 hK14 => ?_)
  refine pu_ (v := .int .u64 0) (y_assign rfl (by rfl) (by rfl)) ?_
  (try simp only [zP, zN, zA, zB, zC])
  refine nl_ (hK14 _ _ ?_); clear hK14 K14
  refine sq_ (fun K15 hK15 => ?_)
  refine s_ (fun K16 hK16 => ?_)
  refine pu_ (v := .int .i64 0) (y_assign rfl (by rfl) (by rfl)) ?_
  (try simp only [zP, zN, zA, zB, zC])
  refine nl_ (hK16 _ _ ?_); clear hK16 K16
  refine wp_block ?_
  have TQ0 := Lib.hid (show OwnQ w9 w.heap.size 42 1 (.slice none 0 0) 0 (([] : List Int).map (fun r => .int .u64 r)) from OwnQ.nil _ _ _ _ _)
  refine loopk_ (fun (kq : Nat) (a' : Act) (w' : World) => ∃ (k : Nat), ∃ (s : Win), ∃ (v : Value), ∃ (tv : Value), ∃ (tn : Nat), ∃ (T : List Int), ∃ (nn : Nat), ∃ (us : Nat → Value), a' = ⟨#[.slice a0 len0 cap0, us 1, .bool false, .pointer (some ⟨b, 0, none⟩), tv, .bool (s).over, .bool (s).done, .int .u64 nn, .int .i64 k, us 9, us 10, us 11, us 12, us 13, us 14, us 15, us 16, us 17, us 18, us 19, us 20, us 21, us 22, us 23, us 24, us 25, us 26, us 27, us 28, us 29, us 30, us 31, us 32, us 33, us 34, us 35, us 36, us 37, us 38, us 39, us 40, us 41, us 42, us 43, us 44, us 45, us 46, us 47, us 48, us 49, us 50, us 51, us 52, us 53, us 54, us 55, us 56, us 57, us 58, us 59, us 60, us 61, us 62, us 63, us 64, us 65, us 66, us 67, us 68, us 69, us 70, us 71, us 72, us 73, us 74, us 75, us 76, us 77, us 78, us 79, us 80, us 81, us 82, us 83, us 84, us 85, us 86, us 87, us 88, us 89, us 90, us 91, us 92, us 93, us 94, us 95, us 96, us 97, us 98, us 99, us 100, us 101, us 102, us 103, us 104, us 105, us 106, us 107, us 108, us 109, us 110, us 111, us 112, us 113, us 114, us 115, us 116], []⟩ ∧ Hid (Ch [] w w') ∧ Hid (WinIs w' (w.heap.size) b (s) (v)) ∧ Hid (OwnQ w' (w.heap.size) 42 1 (tv) (tn) ((T).map (fun r => .int .u64 r))) ∧ Hid (k ≤ 100 ∧ k ≤ len0 ∧ kq + k = 100) ∧ Hid (nn ≤ k) ∧ Hid (OrdI s T) ∧ Hid (tn = T.length)) (100) (⟨0, ⟨[], 0, false, false⟩, _, _, 0, [], 0, fun us_ => (#[.slice a0 len0 cap0, undef, .bool false, .pointer (some ⟨b, 0, none⟩), .slice none 0 0, .bool false, .bool false, .int .u64 0, .int .i64 0, undef, undef, undef, undef, .bool true, .bool false, .pointer (some ⟨b, 0, none⟩), .pointer (some ⟨b, 0, none⟩), .bool false, undef, undef, undef, undef, undef, undef, undef, undef, undef, undef, undef, undef, undef, undef, undef, undef, undef, undef, undef, undef, undef, undef, undef, undef, undef, undef, undef, undef, undef, undef, undef, undef, undef, undef, undef, undef, undef, undef, undef, undef, undef, undef, undef, undef, undef, undef, undef, undef, undef, undef, undef, undef, undef, undef, undef, undef, undef, undef, undef, undef, undef, undef, undef, undef, undef, undef, undef, undef, undef, undef, undef, undef, undef, undef, undef, undef, undef, undef, undef, undef, undef, undef, undef, undef, undef, undef, undef, undef, undef, undef, undef, undef, undef, undef, undef, undef, undef, undef, undef] : Array Value).getD us_ undef, rfl, C0, PW, TQ0, Lib.hid ⟨by omega, by omega, rfl⟩, Lib.hid (by omega), Lib.hid ord_new, Lib.hid rfl⟩) ?_
  rintro kq _ w17 ⟨k, s, v, tv, tn, T, nn, us, rfl, C0, PW, TQ, hk, hn, hJ, htn⟩ K18 hK18
  refine sq_ (fun K19 hK19 => ?_)
  rcases (show (k < len0 ∧ k < 100) ∨ (k < len0 ∧ k = 100) ∨ k = len0 by have := hk.out; omega) with h | h | h
  · have hlt := Lib.hid h
    have D21 := Lib.hid (show k < len0 by omega)
    have D24 := Lib.hid (show decide ((k : Int) < 100) = true from decide_eq_true (by omega))
    have WA := Lib.hid (show IntKind.i64.wrap ((k : Int) + 1) = ((k + 1 : Nat) : Int) by rw [wr64 (by omega)]; omega)
    have WU := Lib.hid (show IntKind.u64.wrap ((nn : Int) + 1) = ((nn + 1 : Nat) : Int) by rw [wu64 (by have := hn.out; omega)]; omega)
    have HT16 := Lib.hid (show tn ≤ 16 by rw [htn.out]; exact ord_len hJ.out)
    obtain ⟨ab, off, kz, nz, rz, hab, hact, habl⟩ := acts_at HA.out h.1
    subst hab
    have HACT := Lib.hid (hact.ch C0.out (by simp))
    have D35 := Lib.hid (show (k : Int) < (len0 : Int) by omega)
    clear h hact
    refine s_ (fun K20 hK20 => ?_)
    refine pu_ (v := .int .i64 k) (y_move rfl (by rfl) (by rfl)) ?_
    (try simp only [zP, zN, zA, zB, zC])
    refine pu_ (v := .slice (some ⟨ab, off, none⟩) len0 cap0) (y_move rfl (by rfl) (by rfl)) ?_
    (try simp only [zP, zN, zA, zB, zC])
    refine pu_ (v := .int .i64 len0) (y_run (by rfl) (fun W => by go_simp)) ?_
    (try simp only [zP, zN, zA, zB, zC])
    refine pu_ (v := .bool true) (y_run (by rfl) (fun W => by have d := D21.out; go_simp)) ?_
    (try simp only [zP, zN, zA, zB, zC])
    refine pu_ (v := .bool true) (y_move rfl (by rfl) (by rfl)) ?_
    (try simp only [zP, zN, zA, zB, zC])
    refine pu_ (v := .int .i64 k) (y_move rfl (by rfl) (by rfl)) ?_
    (try simp only [zP, zN, zA, zB, zC])
    refine pu_ (v := .bool true) (y_run (by rfl) (fun W => by have d := D24.out; go_simp)) ?_
    (try simp only [zP, zN, zA, zB, zC])
    refine pu_ (v := .bool true) (y_pick (t := true) (by rfl) rfl (by rfl) (by rfl)) ?_
    (try simp only [zP, zN, zA, zB, zC])
    refine nl_ (hK20 _ _ ?_); clear hK20 K20
    refine wp_cond_true rfl ?_
    refine wp_skip ?_
    refine th_norm (hK19 _ _ ?_); try clear hK19 K19
    refine sq_ (fun K21 hK21 => ?_)
    refine wp_block ?_
    refine cutk_ (fun (a' : Act) (w' : World) => ∃ (s2 : Win), ∃ (v2 : Value), ∃ (tv2 : Value), ∃ (tn2 : Nat), ∃ (T2 : List Int), ∃ (nn2 : Nat), ∃ (us : Nat → Value), a' = ⟨#[.slice (some ⟨ab, off, none⟩) len0 cap0, us 1, .bool false, .pointer (some ⟨b, 0, none⟩), tv2, .bool (s2).over, .bool (s2).done, .int .u64 nn2, .int .i64 k, us 9, us 10, us 11, us 12, us 13, us 14, us 15, us 16, us 17, us 18, us 19, us 20, us 21, us 22, us 23, us 24, us 25, us 26, us 27, us 28, us 29, us 30, us 31, us 32, us 33, us 34, us 35, us 36, us 37, us 38, us 39, us 40, us 41, us 42, us 43, us 44, us 45, us 46, us 47, us 48, us 49, us 50, us 51, us 52, us 53, us 54, us 55, us 56, us 57, us 58, us 59, us 60, us 61, us 62, us 63, us 64, us 65, us 66, us 67, us 68, us 69, us 70, us 71, us 72, us 73, us 74, us 75, us 76, us 77, us 78, us 79, us 80, us 81, us 82, us 83, us 84, us 85, us 86, us 87, us 88, us 89, us 90, us 91, us 92, us 93, us 94, us 95, us 96, us 97, us 98, us 99, us 100, us 101, us 102, us 103, us 104, us 105, us 106, us 107, us 108, us 109, us 110, us 111, us 112, us 113, us 114, us 115, us 116], []⟩ ∧ Hid (Ch [] w w') ∧ Hid (WinIs w' (w.heap.size) b (s2) (v2)) ∧ Hid (OwnQ w' (w.heap.size) 42 1 (tv2) (tn2) ((T2).map (fun r => .int .u64 r))) ∧ Hid (nn2 ≤ k + 1) ∧ Hid (OrdI s2 T2) ∧ Hid (tn2 = T2.length)) (fun K22 hK22 => ?_) ?_
    · refine s_ (fun K24 hK24 => ?_)
      refine pu_ (v := .slice (some ⟨ab, off, none⟩) len0 cap0) (y_move rfl (by rfl) (by rfl)) ?_
      (try simp only [zP, zN, zA, zB, zC])
      refine pu_ (v := .int .i64 k) (y_move rfl (by rfl) (by rfl)) ?_
      (try simp only [zP, zN, zA, zB, zC])
      refine pu_ (v := .pointer (some ⟨ab, off + k * 3, none⟩)) (y_run (by rfl) (fun W => by have d := D35.out; go_simp)) ?_
      (try simp only [zP, zN, zA, zB, zC])
      refine pu_ (v := .pointer (some ⟨ab, off + k * 3, none⟩)) (y_run (by rfl) (fun W => by go_simp)) ?_
      (try simp only [zP, zN, zA, zB, zC])
      refine ld_ (v := .int .i64 kz) rfl (by rfl) (by rfl) (run_load_one (cell0 HACT.out) Try.underlying3 rfl) ?_
      (try simp only [zP, zN, zA, zB, zC])
      refine nl_ (hK24 _ _ ?_); clear hK24 K24
      refine wp_block ?_
      rcases kcases kz hJ.out with h | h | h | h | h | h | h | h | h
      · have D75 := Lib.hid (show (kz == 0) = true from beq_iff_eq.2 (by omega))
        have HO := Lib.hid (show s.over = false from h.2.1)
        rw [HO.out]
        have HP := Lib.hid (show putW s (⟨1, ((nn + 1 : Nat) : Int), 0, 0⟩ : Ev) = (⟨s.L ++ [(⟨1, ((nn + 1 : Nat) : Int), 0, 0⟩ : Ev)], ((nn + 1 : Nat) : Int), false, s.done⟩, true) by rw [putW_ok HO.out h.2.2, HO.out])
        have HJ2 := Lib.hid (ord_put hJ.out HO.out h.2.2 ((nn + 1 : Nat) : Int))
        clear h
        refine s_ (fun K25 hK25 => ?_)
        refine pu_ (v := .bool true) (y_run (by rfl) (fun W => by have d := D75.out; go_simp)) ?_
        (try simp only [zP, zN, zA, zB, zC])
        refine pu_ (v := .bool true) (y_assign rfl (by rfl) (by rfl)) ?_
        (try simp only [zP, zN, zA, zB, zC])
        refine nl_ (hK25 _ _ ?_); clear hK25 K25
        refine wp_cond_true rfl ?_
        refine s_ (fun K26 hK26 => ?_)
        refine pu_ (v := .int .u64 nn) (y_move rfl (by rfl) (by rfl)) ?_
        (try simp only [zP, zN, zA, zB, zC])
        refine pu_ (v := .int .u64 (nn + 1 : Nat)) (y_run (by rfl) (fun W => by have d := WU.out; go_simp)) ?_
        (try simp only [zP, zN, zA, zB, zC])
        refine pu_ (v := .int .u64 (nn + 1 : Nat)) (y_assign rfl (by rfl) (by rfl)) ?_
        (try simp only [zP, zN, zA, zB, zC])
        refine nl_ (hK26 _ _ ?_); clear hK26 K26
        refine s_ (fun K27 hK27 => ?_)
        refine pu_ (v := .pointer (some ⟨b, 0, none⟩)) (y_move rfl (by rfl) (by rfl)) ?_
        (try simp only [zP, zN, zA, zB, zC])
        refine pu_ (v := .int .u64 (nn + 1 : Nat)) (y_move rfl (by rfl) (by rfl)) ?_
        (try simp only [zP, zN, zA, zB, zC])
        refine pu_ (v := .agg #[.int .i64 1, .int .u64 (nn + 1 : Nat), .int .i64 0, .int .u64 0, .string ⟨#[]⟩, .slice none 0 0, .slice none 0 0, .slice none 0 0, .int .i64 0, .int .i64 0, .int .i64 0, .int .i64 0, .slice none 0 0, .int .i64 0, .int .i64 0]) (y_build (vs := #[(0, .int .i64 1), (1, .int .u64 (nn + 1 : Nat))]) (by rfl) rfl (by first | rfl | (simp only [List.map_toArray, List.map_cons, List.map_nil]; first | done | rfl)) (by kernel_rfl)) ?_
        (try simp only [zP, zN, zA, zB, zC])
        refine ef_ (fun K28 hK28 => ?_)
        refine e_call Try.func18 (by kernel_rfl) rfl #[.pointer (some ⟨b, 0, none⟩), .agg #[.int .i64 1, .int .u64 (nn + 1 : Nat), .int .i64 0, .int .u64 0, .string ⟨#[]⟩, .slice none 0 0, .slice none 0 0, .slice none 0 0, .int .i64 0, .int .i64 0, .int .i64 0, .int .i64 0, .slice none 0 0, .int .i64 0, .int .i64 0]] (by rfl) rfl rfl (by first | rfl | (simp only [List.map_toArray, List.map_cons, List.map_nil]; first | done | rfl)) ((by have h := put_all (⟨1, ((nn + 1 : Nat) : Int), 0, 0⟩ : Ev) PW.out C0.out.size (by have := hJ.out.2.2.2; omega); rw [HP.out] at h; exact h)) ?_
        rintro en w33 ⟨v29, rfl, hw31, cc30, hr32⟩
        refine ⟨_, rfl, ?_⟩
        have C0' := Lib.hid (show Ch [] w w33 from C0.out.trans' cc30 (inw_cons (.inr HBN.out) (fun x hx => .inr (PW.out.2.lt x hx).1)))
        have TQ' := Lib.hid (show OwnQ w33 (w.heap.size) 42 1 (tv) (tn) ((T).map (fun r => .int .u64 r)) from TQ.out.ch cc30 (rnin_cons (TQ.out.ne PW.out.1 (by decide)) (OwnQ.rneS TQ.out PW.out.2 (by decide))))
        clear C0 TQ
        have C0 := C0'; clear C0'
        have TQ := TQ'; clear TQ'
        clear PW
        clear cc30
        have PW := Lib.hid (show WinIs w33 (w.heap.size) b (⟨s.L ++ [(⟨1, ((nn + 1 : Nat) : Int), 0, 0⟩ : Ev)], ((nn + 1 : Nat) : Int), false, s.done⟩) (v29) from hw31)
        refine hK28 _ _ ?_; clear hK28 K28
        (try simp only [zP, zN, zA, zB, zC])
        refine pu_ (v := .bool true) (y_assign rfl (by rfl) (by rfl)) ?_
        (try simp only [zP, zN, zA, zB, zC])
        refine nl_ (hK27 _ _ ?_); clear hK27 K27
        refine sq_ (fun K34 hK34 => ?_)
        refine s_ (fun K35 hK35 => ?_)
        refine pu_ (v := .bool true) (y_move rfl (by rfl) (by rfl)) ?_
        (try simp only [zP, zN, zA, zB, zC])
        refine pu_ (v := .bool true) (y_move rfl (by rfl) (by rfl)) ?_
        (try simp only [zP, zN, zA, zB, zC])
        refine pu_ (v := .bool false) (y_move rfl (by rfl) (by rfl)) ?_
        (try simp only [zP, zN, zA, zB, zC])
        refine pu_ (v := .bool false) (y_pick (t := true) (by rfl) rfl (by rfl) (by rfl)) ?_
        (try simp only [zP, zN, zA, zB, zC])
        refine nl_ (hK35 _ _ ?_); clear hK35 K35
        refine wp_cond_false rfl ?_
        refine wp_skip ?_
        refine th_norm (hK34 _ _ ?_); try clear hK34 K34
        refine sq_ (fun K36 hK36 => ?_)
        refine s_ (fun K37 hK37 => ?_)
        refine pu_ (v := .bool true) (y_move rfl (by rfl) (by rfl)) ?_
        (try simp only [zP, zN, zA, zB, zC])
        refine nl_ (hK37 _ _ ?_); clear hK37 K37
        refine wp_cond_true rfl ?_
        refine r_ ?_
        refine pu_ (v := tv) (y_move rfl (by rfl) (by rfl)) ?_
        (try simp only [zP, zN, zA, zB, zC])
        refine pu_ (v := .int .u64 (nn + 1 : Nat)) (y_move rfl (by rfl) (by rfl)) ?_
        (try simp only [zP, zN, zA, zB, zC])
        refine ef_ (fun K38 hK38 => ?_)
        refine e_buildS (parts := #[(0, .int .u64 (nn + 1 : Nat))]) (cells := #[.int .u64 (nn + 1 : Nat)]) (by rfl) rfl rfl (by first | rfl | (simp only [List.map_toArray, List.map_cons, List.map_nil]; first | done | rfl)) Try.underlying68 I42.hi I42.hz I42.hs (by decide) (by decide) (by kernel_rfl) ?_
        rintro g39 w40 HG41 B42 C43
        have nw44 := Lib.hid (show w.heap.size ≤ g39 by have := C0.out.size; have := HG41.out; omega)
        have nr45 := Lib.hid (TQ.out.ne_new HG41)
        have ne46 := Lib.hid (show b ≠ g39 by have := PW.out.1.lt; have := HG41.out; omega)
        have nr47 := Lib.hid (PW.out.2.ne_new HG41)
        have C0' := Lib.hid (show Ch [] w w40 from C0.out.trans' C43 (fun x hx => absurd hx (by simp)))
        have TQ' := Lib.hid (show OwnQ w40 (w.heap.size) 42 1 (tv) (tn) ((T).map (fun r => .int .u64 r)) from TQ.out.ch C43 rnin_nil)
        have PW' := Lib.hid (show WinIs w40 (w.heap.size) b (⟨s.L ++ [(⟨1, ((nn + 1 : Nat) : Int), 0, 0⟩ : Ev)], ((nn + 1 : Nat) : Int), false, s.done⟩) (v29) from PW.out.ch C43 nin_nil rnin_nil)
        clear C0 TQ PW
        have C0 := C0'; clear C0'
        have TQ := TQ'; clear TQ'
        have PW := PW'; clear PW'
        have Fg39 := Lib.hid (show Blk w40 g39 (#[.int .u64 (nn + 1 : Nat)]) 42 from B42); clear B42 C43
        refine hK38 _ _ ?_; clear hK38 K38
        (try simp only [zP, zN, zA, zB, zC])
        refine ef_ (fun K48 hK48 => ?_)
        refine e_appendQ (by rfl) rfl rfl (w.heap.size) 42 _ _ 1 8 Try.underlying68 I42.hi I42.hz I42.hs I42.hb rfl (by decide) (tv) (tn) ((T).map (fun r => .int .u64 r)) (by rfl) TQ.out (.slice (some ⟨g39, 0, none⟩) 1 1) 1 ([.int .u64 ((nn + 1 : Nat) : Int)]) (by rfl) ⟨rfl, .inr ⟨_, _, rfl, CellsAt.blk Fg39.out 0⟩⟩ (ones_cons rfl ones_nil) (by have := HT16.out; unfold maxLen; omega) (by have := HT16.out; omega) C0.out.size ?_
        rintro v49 w50 O51 C52 R53 -
        have nr55 := Lib.hid (show g39 ∉ rl v49 from fun hk => (R53 _ hk).elim nr45.out (fun h => by have := Fg39.out.lt; omega))
        have C0' := Lib.hid (show Ch [] w w50 from C0.out.trans' C52 (fun x hx => .inr (TQ.out.lt x hx).1))
        have PW' := Lib.hid (show WinIs w50 (w.heap.size) b (⟨s.L ++ [(⟨1, ((nn + 1 : Nat) : Int), 0, 0⟩ : Ev)], ((nn + 1 : Nat) : Int), false, s.done⟩) (v29) from PW.out.ch C52 (TQ.out.ne PW.out.1 (by decide)) (fun k hk hm => OwnQ.rneS TQ.out PW.out.2 (by decide) k hm hk))
        have Fg39' := Lib.hid (show Blk w50 g39 (#[.int .u64 (nn + 1 : Nat)]) 42 from C52.blk Fg39.out nr45.out)
        clear C0 PW Fg39
        have C0 := C0'; clear C0'
        have PW := PW'; clear PW'
        have Fg39 := Fg39'; clear Fg39'
        clear TQ
        have TQ := Lib.hid (show OwnQ w50 (w.heap.size) 42 1 (v49) (tn + 1) ((T).map (fun r => .int .u64 r) ++ [.int .u64 ((nn + 1 : Nat) : Int)]) from O51); clear O51 C52
        refine hK48 _ _ ?_; clear hK48 K48
        (try simp only [zP, zN, zA, zB, zC])
        refine pu_ (v := v49) (y_assign rfl (by rfl) (by rfl)) ?_
        (try simp only [zP, zN, zA, zB, zC])
        refine nl_ ?_
        refine th_norm (hK36 _ _ ?_); try clear hK36 K36
        refine r_ ?_
        refine pu_ (v := .bool false) (y_move rfl (by rfl) (by rfl)) ?_
        (try simp only [zP, zN, zA, zB, zC])
        refine pu_ (v := .bool false) (y_move rfl (by rfl) (by rfl)) ?_
        (try simp only [zP, zN, zA, zB, zC])
        refine pu_ (v := .bool true) (y_move rfl (by rfl) (by rfl)) ?_
        (try simp only [zP, zN, zA, zB, zC])
        refine pu_ (v := .bool false) (y_run (by rfl) (fun W => by go_simp)) ?_
        (try simp only [zP, zN, zA, zB, zC])
        refine pu_ (v := .bool false) (y_pick (t := false) (by rfl) rfl (by rfl) (by rfl)) ?_
        (try simp only [zP, zN, zA, zB, zC])
        refine pu_ (v := .bool false) (y_assign rfl (by rfl) (by rfl)) ?_
        (try simp only [zP, zN, zA, zB, zC])
        refine nl_ ?_
        refine ib_norm ?_
        exact th_norm (hK22 _ _ ⟨⟨s.L ++ [(⟨1, ((nn + 1 : Nat) : Int), 0, 0⟩ : Ev)], ((nn + 1 : Nat) : Int), false, s.done⟩, _, v49, tn + 1, T ++ [((nn + 1 : Nat) : Int)], nn + 1, fun us_ => (#[.slice (some ⟨ab, off, none⟩) len0 cap0, us 1, .bool false, .pointer (some ⟨b, 0, none⟩), v49, .bool false, .bool (s).done, .int .u64 (nn + 1 : Nat), .int .i64 k, .bool true, us 10, us 11, us 12, us 13, us 14, us 15, us 16, us 17, .int .i64 k, .slice (some ⟨ab, off, none⟩) len0 cap0, .int .i64 len0, .bool true, .bool true, .int .i64 k, .bool true, .bool true, us 26, us 27, .slice (some ⟨ab, off, none⟩) len0 cap0, .int .i64 k, .pointer (some ⟨ab, off + k * 3, none⟩), .pointer (some ⟨ab, off + k * 3, none⟩), .int .i64 kz, us 33, us 34, us 35, us 36, us 37, us 38, us 39, us 40, us 41, us 42, us 43, us 44, us 45, us 46, us 47, us 48, us 49, us 50, us 51, us 52, us 53, us 54, us 55, us 56, us 57, us 58, us 59, us 60, us 61, us 62, us 63, us 64, us 65, us 66, us 67, us 68, us 69, us 70, us 71, us 72, us 73, .bool true, .bool true, .int .u64 nn, .int .u64 (nn + 1 : Nat), .pointer (some ⟨b, 0, none⟩), .int .u64 (nn + 1 : Nat), .agg #[.int .i64 1, .int .u64 (nn + 1 : Nat), .int .i64 0, .int .u64 0, .string ⟨#[]⟩, .slice none 0 0, .slice none 0 0, .slice none 0 0, .int .i64 0, .int .i64 0, .int .i64 0, .int .i64 0, .slice none 0 0, .int .i64 0, .int .i64 0], .bool true, .bool true, .bool true, .bool false, .bool false, .bool true, tv, .int .u64 (nn + 1 : Nat), .slice (some ⟨g39, 0, none⟩) 1 1, v49, .bool false, .bool false, .bool true, .bool false, .bool false, us 96, us 97, us 98, us 99, us 100, us 101, us 102, us 103, us 104, us 105, us 106, us 107, us 108, us 109, us 110, us 111, us 112, us 113, us 114, us 115, us 116] : Array Value).getD us_ undef, rfl, C0, PW, Lib.hid (by have h := TQ.out; rw [List.map_append]; exact h), Lib.hid (by have := hn.out; omega), HJ2, Lib.hid (by rw [List.length_append, ← htn.out]; rfl)⟩)
      · have D75 := Lib.hid (show (kz == 0) = true from beq_iff_eq.2 (by omega))
        have HO := Lib.hid (show s.over = true from h.2)
        rw [HO.out]
        have HP := Lib.hid (putW_no (s := s) (e := (⟨1, ((nn + 1 : Nat) : Int), 0, 0⟩ : Ev)) (.inl HO.out))
        clear h
        refine s_ (fun K56 hK56 => ?_)
        refine pu_ (v := .bool true) (y_run (by rfl) (fun W => by have d := D75.out; go_simp)) ?_
        (try simp only [zP, zN, zA, zB, zC])
        refine pu_ (v := .bool true) (y_assign rfl (by rfl) (by rfl)) ?_
        (try simp only [zP, zN, zA, zB, zC])
        refine nl_ (hK56 _ _ ?_); clear hK56 K56
        refine wp_cond_true rfl ?_
        refine s_ (fun K57 hK57 => ?_)
        refine pu_ (v := .int .u64 nn) (y_move rfl (by rfl) (by rfl)) ?_
        (try simp only [zP, zN, zA, zB, zC])
        refine pu_ (v := .int .u64 (nn + 1 : Nat)) (y_run (by rfl) (fun W => by have d := WU.out; go_simp)) ?_
        (try simp only [zP, zN, zA, zB, zC])
        refine pu_ (v := .int .u64 (nn + 1 : Nat)) (y_assign rfl (by rfl) (by rfl)) ?_
        (try simp only [zP, zN, zA, zB, zC])
        refine nl_ (hK57 _ _ ?_); clear hK57 K57
        refine s_ (fun K58 hK58 => ?_)
        refine pu_ (v := .pointer (some ⟨b, 0, none⟩)) (y_move rfl (by rfl) (by rfl)) ?_
        (try simp only [zP, zN, zA, zB, zC])
        refine pu_ (v := .int .u64 (nn + 1 : Nat)) (y_move rfl (by rfl) (by rfl)) ?_
        (try simp only [zP, zN, zA, zB, zC])
        refine pu_ (v := .agg #[.int .i64 1, .int .u64 (nn + 1 : Nat), .int .i64 0, .int .u64 0, .string ⟨#[]⟩, .slice none 0 0, .slice none 0 0, .slice none 0 0, .int .i64 0, .int .i64 0, .int .i64 0, .int .i64 0, .slice none 0 0, .int .i64 0, .int .i64 0]) (y_build (vs := #[(0, .int .i64 1), (1, .int .u64 (nn + 1 : Nat))]) (by rfl) rfl (by first | rfl | (simp only [List.map_toArray, List.map_cons, List.map_nil]; first | done | rfl)) (by kernel_rfl)) ?_
        (try simp only [zP, zN, zA, zB, zC])
        refine ef_ (fun K59 hK59 => ?_)
        refine e_call Try.func18 (by kernel_rfl) rfl #[.pointer (some ⟨b, 0, none⟩), .agg #[.int .i64 1, .int .u64 (nn + 1 : Nat), .int .i64 0, .int .u64 0, .string ⟨#[]⟩, .slice none 0 0, .slice none 0 0, .slice none 0 0, .int .i64 0, .int .i64 0, .int .i64 0, .int .i64 0, .slice none 0 0, .int .i64 0, .int .i64 0]] (by rfl) rfl rfl (by first | rfl | (simp only [List.map_toArray, List.map_cons, List.map_nil]; first | done | rfl)) ((by have h := put_all (⟨1, ((nn + 1 : Nat) : Int), 0, 0⟩ : Ev) PW.out C0.out.size (by have := hJ.out.2.2.2; omega); rw [HP.out] at h; exact h)) ?_
        rintro en w64 ⟨v60, rfl, hw62, cc61, hr63⟩
        refine ⟨_, rfl, ?_⟩
        have C0' := Lib.hid (show Ch [] w w64 from C0.out.trans' cc61 (inw_cons (.inr HBN.out) (fun x hx => .inr (PW.out.2.lt x hx).1)))
        have TQ' := Lib.hid (show OwnQ w64 (w.heap.size) 42 1 (tv) (tn) ((T).map (fun r => .int .u64 r)) from TQ.out.ch cc61 (rnin_cons (TQ.out.ne PW.out.1 (by decide)) (OwnQ.rneS TQ.out PW.out.2 (by decide))))
        clear C0 TQ
        have C0 := C0'; clear C0'
        have TQ := TQ'; clear TQ'
        clear PW
        clear cc61
        have PW := Lib.hid (show WinIs w64 (w.heap.size) b (⟨s.L, s.last, true, s.done⟩) (v60) from hw62)
        refine hK59 _ _ ?_; clear hK59 K59
        (try simp only [zP, zN, zA, zB, zC])
        refine pu_ (v := .bool false) (y_assign rfl (by rfl) (by rfl)) ?_
        (try simp only [zP, zN, zA, zB, zC])
        refine nl_ (hK58 _ _ ?_); clear hK58 K58
        refine sq_ (fun K65 hK65 => ?_)
        refine s_ (fun K66 hK66 => ?_)
        refine pu_ (v := .bool false) (y_move rfl (by rfl) (by rfl)) ?_
        (try simp only [zP, zN, zA, zB, zC])
        refine pu_ (v := .bool false) (y_move rfl (by rfl) (by rfl)) ?_
        (try simp only [zP, zN, zA, zB, zC])
        refine pu_ (y_off (by rfl)) ?_
        (try simp only [zP, zN, zA, zB, zC])
        refine pu_ (v := .bool false) (y_pick (t := false) (by rfl) rfl (by rfl) (by rfl)) ?_
        (try simp only [zP, zN, zA, zB, zC])
        refine nl_ (hK66 _ _ ?_); clear hK66 K66
        refine wp_cond_false rfl ?_
        refine wp_skip ?_
        refine th_norm (hK65 _ _ ?_); try clear hK65 K65
        refine sq_ (fun K67 hK67 => ?_)
        refine s_ (fun K68 hK68 => ?_)
        refine pu_ (v := .bool false) (y_move rfl (by rfl) (by rfl)) ?_
        (try simp only [zP, zN, zA, zB, zC])
        refine nl_ (hK68 _ _ ?_); clear hK68 K68
        refine wp_cond_false rfl ?_
        refine wp_skip ?_
        refine th_norm (hK67 _ _ ?_); try clear hK67 K67
        refine r_ ?_
        refine pu_ (v := .bool true) (y_move rfl (by rfl) (by rfl)) ?_
        (try simp only [zP, zN, zA, zB, zC])
        refine pu_ (v := .bool true) (y_move rfl (by rfl) (by rfl)) ?_
        (try simp only [zP, zN, zA, zB, zC])
        refine pu_ (y_off (by rfl)) ?_
        (try simp only [zP, zN, zA, zB, zC])
        refine pu_ (y_off (by rfl)) ?_
        (try simp only [zP, zN, zA, zB, zC])
        refine pu_ (v := .bool true) (y_pick (t := true) (by rfl) rfl (by rfl) (by rfl)) ?_
        (try simp only [zP, zN, zA, zB, zC])
        refine pu_ (v := .bool true) (y_assign rfl (by rfl) (by rfl)) ?_
        (try simp only [zP, zN, zA, zB, zC])
        refine nl_ ?_
        refine ib_norm ?_
        exact th_norm (hK22 _ _ ⟨⟨s.L, s.last, true, s.done⟩, _, tv, tn, T, nn + 1, fun us_ => (#[.slice (some ⟨ab, off, none⟩) len0 cap0, us 1, .bool false, .pointer (some ⟨b, 0, none⟩), tv, .bool true, .bool (s).done, .int .u64 (nn + 1 : Nat), .int .i64 k, .bool false, us 10, us 11, us 12, us 13, us 14, us 15, us 16, us 17, .int .i64 k, .slice (some ⟨ab, off, none⟩) len0 cap0, .int .i64 len0, .bool true, .bool true, .int .i64 k, .bool true, .bool true, us 26, us 27, .slice (some ⟨ab, off, none⟩) len0 cap0, .int .i64 k, .pointer (some ⟨ab, off + k * 3, none⟩), .pointer (some ⟨ab, off + k * 3, none⟩), .int .i64 kz, us 33, us 34, us 35, us 36, us 37, us 38, us 39, us 40, us 41, us 42, us 43, us 44, us 45, us 46, us 47, us 48, us 49, us 50, us 51, us 52, us 53, us 54, us 55, us 56, us 57, us 58, us 59, us 60, us 61, us 62, us 63, us 64, us 65, us 66, us 67, us 68, us 69, us 70, us 71, us 72, us 73, .bool true, .bool true, .int .u64 nn, .int .u64 (nn + 1 : Nat), .pointer (some ⟨b, 0, none⟩), .int .u64 (nn + 1 : Nat), .agg #[.int .i64 1, .int .u64 (nn + 1 : Nat), .int .i64 0, .int .u64 0, .string ⟨#[]⟩, .slice none 0 0, .slice none 0 0, .slice none 0 0, .int .i64 0, .int .i64 0, .int .i64 0, .int .i64 0, .slice none 0 0, .int .i64 0, .int .i64 0], .bool false, .bool false, .bool false, undef, .bool false, .bool false, us 87, us 88, us 89, us 90, .bool true, .bool true, undef, undef, .bool true, us 96, us 97, us 98, us 99, us 100, us 101, us 102, us 103, us 104, us 105, us 106, us 107, us 108, us 109, us 110, us 111, us 112, us 113, us 114, us 115, us 116] : Array Value).getD us_ undef, rfl, C0, PW, TQ, Lib.hid (by have := hn.out; omega), Lib.hid (ord_no hJ.out), htn⟩)
      · have D75 := Lib.hid (show (kz == 0) = true from beq_iff_eq.2 (by omega))
        have HO := Lib.hid (show s.over = false from h.2.1)
        rw [HO.out]
        have HP := Lib.hid (putW_no (s := s) (e := (⟨1, ((nn + 1 : Nat) : Int), 0, 0⟩ : Ev)) (.inr h.2.2))
        clear h
        refine s_ (fun K69 hK69 => ?_)
        refine pu_ (v := .bool true) (y_run (by rfl) (fun W => by have d := D75.out; go_simp)) ?_
        (try simp only [zP, zN, zA, zB, zC])
        refine pu_ (v := .bool true) (y_assign rfl (by rfl) (by rfl)) ?_
        (try simp only [zP, zN, zA, zB, zC])
        refine nl_ (hK69 _ _ ?_); clear hK69 K69
        refine wp_cond_true rfl ?_
        refine s_ (fun K70 hK70 => ?_)
        refine pu_ (v := .int .u64 nn) (y_move rfl (by rfl) (by rfl)) ?_
        (try simp only [zP, zN, zA, zB, zC])
        refine pu_ (v := .int .u64 (nn + 1 : Nat)) (y_run (by rfl) (fun W => by have d := WU.out; go_simp)) ?_
        (try simp only [zP, zN, zA, zB, zC])
        refine pu_ (v := .int .u64 (nn + 1 : Nat)) (y_assign rfl (by rfl) (by rfl)) ?_
        (try simp only [zP, zN, zA, zB, zC])
        refine nl_ (hK70 _ _ ?_); clear hK70 K70
        refine s_ (fun K71 hK71 => ?_)
        refine pu_ (v := .pointer (some ⟨b, 0, none⟩)) (y_move rfl (by rfl) (by rfl)) ?_
        (try simp only [zP, zN, zA, zB, zC])
        refine pu_ (v := .int .u64 (nn + 1 : Nat)) (y_move rfl (by rfl) (by rfl)) ?_
        (try simp only [zP, zN, zA, zB, zC])
        refine pu_ (v := .agg #[.int .i64 1, .int .u64 (nn + 1 : Nat), .int .i64 0, .int .u64 0, .string ⟨#[]⟩, .slice none 0 0, .slice none 0 0, .slice none 0 0, .int .i64 0, .int .i64 0, .int .i64 0, .int .i64 0, .slice none 0 0, .int .i64 0, .int .i64 0]) (y_build (vs := #[(0, .int .i64 1), (1, .int .u64 (nn + 1 : Nat))]) (by rfl) rfl (by first | rfl | (simp only [List.map_toArray, List.map_cons, List.map_nil]; first | done | rfl)) (by kernel_rfl)) ?_
        (try simp only [zP, zN, zA, zB, zC])
        refine ef_ (fun K72 hK72 => ?_)
        refine e_call Try.func18 (by kernel_rfl) rfl #[.pointer (some ⟨b, 0, none⟩), .agg #[.int .i64 1, .int .u64 (nn + 1 : Nat), .int .i64 0, .int .u64 0, .string ⟨#[]⟩, .slice none 0 0, .slice none 0 0, .slice none 0 0, .int .i64 0, .int .i64 0, .int .i64 0, .int .i64 0, .slice none 0 0, .int .i64 0, .int .i64 0]] (by rfl) rfl rfl (by first | rfl | (simp only [List.map_toArray, List.map_cons, List.map_nil]; first | done | rfl)) ((by have h := put_all (⟨1, ((nn + 1 : Nat) : Int), 0, 0⟩ : Ev) PW.out C0.out.size (by have := hJ.out.2.2.2; omega); rw [HP.out] at h; exact h)) ?_
        rintro en w77 ⟨v73, rfl, hw75, cc74, hr76⟩
        refine ⟨_, rfl, ?_⟩
        have C0' := Lib.hid (show Ch [] w w77 from C0.out.trans' cc74 (inw_cons (.inr HBN.out) (fun x hx => .inr (PW.out.2.lt x hx).1)))
        have TQ' := Lib.hid (show OwnQ w77 (w.heap.size) 42 1 (tv) (tn) ((T).map (fun r => .int .u64 r)) from TQ.out.ch cc74 (rnin_cons (TQ.out.ne PW.out.1 (by decide)) (OwnQ.rneS TQ.out PW.out.2 (by decide))))
        clear C0 TQ
        have C0 := C0'; clear C0'
        have TQ := TQ'; clear TQ'
        clear PW
        clear cc74
        have PW := Lib.hid (show WinIs w77 (w.heap.size) b (⟨s.L, s.last, true, s.done⟩) (v73) from hw75)
        refine hK72 _ _ ?_; clear hK72 K72
        (try simp only [zP, zN, zA, zB, zC])
        refine pu_ (v := .bool false) (y_assign rfl (by rfl) (by rfl)) ?_
        (try simp only [zP, zN, zA, zB, zC])
        refine nl_ (hK71 _ _ ?_); clear hK71 K71
        refine sq_ (fun K78 hK78 => ?_)
        refine s_ (fun K79 hK79 => ?_)
        refine pu_ (v := .bool false) (y_move rfl (by rfl) (by rfl)) ?_
        (try simp only [zP, zN, zA, zB, zC])
        refine pu_ (v := .bool false) (y_move rfl (by rfl) (by rfl)) ?_
        (try simp only [zP, zN, zA, zB, zC])
        refine pu_ (y_off (by rfl)) ?_
        (try simp only [zP, zN, zA, zB, zC])
        refine pu_ (v := .bool false) (y_pick (t := false) (by rfl) rfl (by rfl) (by rfl)) ?_
        (try simp only [zP, zN, zA, zB, zC])
        refine nl_ (hK79 _ _ ?_); clear hK79 K79
        refine wp_cond_false rfl ?_
        refine wp_skip ?_
        refine th_norm (hK78 _ _ ?_); try clear hK78 K78
        refine sq_ (fun K80 hK80 => ?_)
        refine s_ (fun K81 hK81 => ?_)
        refine pu_ (v := .bool false) (y_move rfl (by rfl) (by rfl)) ?_
        (try simp only [zP, zN, zA, zB, zC])
        refine nl_ (hK81 _ _ ?_); clear hK81 K81
        refine wp_cond_false rfl ?_
        refine wp_skip ?_
        refine th_norm (hK80 _ _ ?_); try clear hK80 K80
        refine r_ ?_
        refine pu_ (v := .bool false) (y_move rfl (by rfl) (by rfl)) ?_
        (try simp only [zP, zN, zA, zB, zC])
        refine pu_ (v := .bool false) (y_move rfl (by rfl) (by rfl)) ?_
        (try simp only [zP, zN, zA, zB, zC])
        refine pu_ (v := .bool false) (y_move rfl (by rfl) (by rfl)) ?_
        (try simp only [zP, zN, zA, zB, zC])
        refine pu_ (v := .bool true) (y_run (by rfl) (fun W => by go_simp)) ?_
        (try simp only [zP, zN, zA, zB, zC])
        refine pu_ (v := .bool true) (y_pick (t := false) (by rfl) rfl (by rfl) (by rfl)) ?_
        (try simp only [zP, zN, zA, zB, zC])
        refine pu_ (v := .bool true) (y_assign rfl (by rfl) (by rfl)) ?_
        (try simp only [zP, zN, zA, zB, zC])
        refine nl_ ?_
        refine ib_norm ?_
        exact th_norm (hK22 _ _ ⟨⟨s.L, s.last, true, s.done⟩, _, tv, tn, T, nn + 1, fun us_ => (#[.slice (some ⟨ab, off, none⟩) len0 cap0, us 1, .bool false, .pointer (some ⟨b, 0, none⟩), tv, .bool true, .bool (s).done, .int .u64 (nn + 1 : Nat), .int .i64 k, .bool false, us 10, us 11, us 12, us 13, us 14, us 15, us 16, us 17, .int .i64 k, .slice (some ⟨ab, off, none⟩) len0 cap0, .int .i64 len0, .bool true, .bool true, .int .i64 k, .bool true, .bool true, us 26, us 27, .slice (some ⟨ab, off, none⟩) len0 cap0, .int .i64 k, .pointer (some ⟨ab, off + k * 3, none⟩), .pointer (some ⟨ab, off + k * 3, none⟩), .int .i64 kz, us 33, us 34, us 35, us 36, us 37, us 38, us 39, us 40, us 41, us 42, us 43, us 44, us 45, us 46, us 47, us 48, us 49, us 50, us 51, us 52, us 53, us 54, us 55, us 56, us 57, us 58, us 59, us 60, us 61, us 62, us 63, us 64, us 65, us 66, us 67, us 68, us 69, us 70, us 71, us 72, us 73, .bool true, .bool true, .int .u64 nn, .int .u64 (nn + 1 : Nat), .pointer (some ⟨b, 0, none⟩), .int .u64 (nn + 1 : Nat), .agg #[.int .i64 1, .int .u64 (nn + 1 : Nat), .int .i64 0, .int .u64 0, .string ⟨#[]⟩, .slice none 0 0, .slice none 0 0, .slice none 0 0, .int .i64 0, .int .i64 0, .int .i64 0, .int .i64 0, .slice none 0 0, .int .i64 0, .int .i64 0], .bool false, .bool false, .bool false, undef, .bool false, .bool false, us 87, us 88, us 89, us 90, .bool false, .bool false, .bool false, .bool true, .bool true, us 96, us 97, us 98, us 99, us 100, us 101, us 102, us 103, us 104, us 105, us 106, us 107, us 108, us 109, us 110, us 111, us 112, us 113, us 114, us 115, us 116] : Array Value).getD us_ undef, rfl, C0, PW, TQ, Lib.hid (by have := hn.out; omega), Lib.hid (ord_no hJ.out), htn⟩)
      · have D75 := Lib.hid (show (kz == 0) = false from beq_eq_false_iff_ne.2 (by omega))
        have D97 := Lib.hid (show (kz == 1) = true from beq_iff_eq.2 (by omega))
        clear h
        obtain ⟨L', l', mb, hm, hJ'⟩ := ord_mark hJ.out (nn : Int)
        have HM := Lib.hid hm; have HJ2 := Lib.hid hJ'; clear hm hJ'
        refine s_ (fun K82 hK82 => ?_)
        refine pu_ (v := .bool false) (y_run (by rfl) (fun W => by have d := D75.out; go_simp)) ?_
        (try simp only [zP, zN, zA, zB, zC])
        refine pu_ (v := .bool false) (y_assign rfl (by rfl) (by rfl)) ?_
        (try simp only [zP, zN, zA, zB, zC])
        refine nl_ (hK82 _ _ ?_); clear hK82 K82
        refine wp_cond_false rfl ?_
        refine s_ (fun K83 hK83 => ?_)
        refine pu_ (v := .bool true) (y_run (by rfl) (fun W => by have d := D97.out; go_simp)) ?_
        (try simp only [zP, zN, zA, zB, zC])
        refine pu_ (v := .bool true) (y_assign rfl (by rfl) (by rfl)) ?_
        (try simp only [zP, zN, zA, zB, zC])
        refine nl_ (hK83 _ _ ?_); clear hK83 K83
        refine wp_cond_true rfl ?_
        refine s_ (fun K84 hK84 => ?_)
        refine pu_ (v := .pointer (some ⟨b, 0, none⟩)) (y_move rfl (by rfl) (by rfl)) ?_
        (try simp only [zP, zN, zA, zB, zC])
        refine ef_ (fun K85 hK85 => ?_)
        refine e_call Try.func26 (by kernel_rfl) rfl #[.pointer (some ⟨b, 0, none⟩)] (by rfl) rfl rfl (by first | rfl | (simp only [List.map_toArray, List.map_cons, List.map_nil]; first | done | rfl)) (over_all PW.out) ?_
        rintro en w86 ⟨rfl, rfl⟩
        refine ⟨_, rfl, ?_⟩
        refine hK85 _ _ ?_; clear hK85 K85
        (try simp only [zP, zN, zA, zB, zC])
        refine pu_ (v := .bool s.over) (y_assign rfl (by rfl) (by rfl)) ?_
        (try simp only [zP, zN, zA, zB, zC])
        refine nl_ (hK84 _ _ ?_); clear hK84 K84
        refine s_ (fun K87 hK87 => ?_)
        refine pu_ (v := .pointer (some ⟨b, 0, none⟩)) (y_move rfl (by rfl) (by rfl)) ?_
        (try simp only [zP, zN, zA, zB, zC])
        refine pu_ (v := .int .u64 nn) (y_move rfl (by rfl) (by rfl)) ?_
        (try simp only [zP, zN, zA, zB, zC])
        refine ef_ (fun K88 hK88 => ?_)
        refine e_call Try.func20 (by kernel_rfl) rfl #[.pointer (some ⟨b, 0, none⟩), .int .u64 nn] (by rfl) rfl rfl (by first | rfl | (simp only [List.map_toArray, List.map_cons, List.map_nil]; first | done | rfl)) ((by have h := mark_all (nn : Int) PW.out C0.out.size (by have := hJ.out.2.2.2; omega); rw [HM.out] at h; exact h)) ?_
        rintro en w93 ⟨v89, rfl, hw91, cc90, hr92⟩
        refine ⟨_, rfl, ?_⟩
        have C0' := Lib.hid (show Ch [] w w93 from C0.out.trans' cc90 (inw_cons (.inr HBN.out) (fun x hx => .inr (PW.out.2.lt x hx).1)))
        have TQ' := Lib.hid (show OwnQ w93 (w.heap.size) 42 1 (tv) (tn) ((T).map (fun r => .int .u64 r)) from TQ.out.ch cc90 (rnin_cons (TQ.out.ne PW.out.1 (by decide)) (OwnQ.rneS TQ.out PW.out.2 (by decide))))
        clear C0 TQ
        have C0 := C0'; clear C0'
        have TQ := TQ'; clear TQ'
        clear PW
        clear cc90
        have PW := Lib.hid (show WinIs w93 (w.heap.size) b (⟨L', l', s.over, s.done⟩) (v89) from hw91)
        refine hK88 _ _ ?_; clear hK88 K88
        (try simp only [zP, zN, zA, zB, zC])
        refine nl_ (hK87 _ _ ?_); clear hK87 K87
        refine s_ (fun K94 hK94 => ?_)
        refine pu_ (v := .pointer (some ⟨b, 0, none⟩)) (y_move rfl (by rfl) (by rfl)) ?_
        (try simp only [zP, zN, zA, zB, zC])
        refine ef_ (fun K95 hK95 => ?_)
        refine e_call Try.func26 (by kernel_rfl) rfl #[.pointer (some ⟨b, 0, none⟩)] (by rfl) rfl rfl (by first | rfl | (simp only [List.map_toArray, List.map_cons, List.map_nil]; first | done | rfl)) (over_all PW.out) ?_
        rintro en w96 ⟨rfl, rfl⟩
        refine ⟨_, rfl, ?_⟩
        refine hK95 _ _ ?_; clear hK95 K95
        (try simp only [zP, zN, zA, zB, zC])
        refine pu_ (v := .bool s.over) (y_move rfl (by rfl) (by rfl)) ?_
        (try simp only [zP, zN, zA, zB, zC])
        refine pu_ (v := .bool false) (y_run (by rfl) (fun W => by go_simp)) ?_
        (try simp only [zP, zN, zA, zB, zC])
        refine nl_ (hK94 _ _ ?_); clear hK94 K94
        refine wp_cond_false rfl ?_
        refine wp_skip ?_
        refine ib_norm ?_
        exact th_norm (hK22 _ _ ⟨⟨L', l', s.over, s.done⟩, _, tv, tn, T, nn, fun us_ => (#[.slice (some ⟨ab, off, none⟩) len0 cap0, us 1, .bool false, .pointer (some ⟨b, 0, none⟩), tv, .bool (s).over, .bool (s).done, .int .u64 nn, .int .i64 k, us 9, .bool s.over, us 11, us 12, us 13, us 14, us 15, us 16, us 17, .int .i64 k, .slice (some ⟨ab, off, none⟩) len0 cap0, .int .i64 len0, .bool true, .bool true, .int .i64 k, .bool true, .bool true, us 26, us 27, .slice (some ⟨ab, off, none⟩) len0 cap0, .int .i64 k, .pointer (some ⟨ab, off + k * 3, none⟩), .pointer (some ⟨ab, off + k * 3, none⟩), .int .i64 kz, us 33, us 34, us 35, us 36, us 37, us 38, us 39, us 40, us 41, us 42, us 43, us 44, us 45, us 46, us 47, us 48, us 49, us 50, us 51, us 52, us 53, us 54, us 55, us 56, us 57, us 58, us 59, us 60, us 61, us 62, us 63, us 64, us 65, us 66, us 67, us 68, us 69, us 70, us 71, us 72, us 73, .bool false, .bool false, us 76, us 77, us 78, us 79, us 80, us 81, us 82, us 83, us 84, us 85, us 86, us 87, us 88, us 89, us 90, us 91, us 92, us 93, us 94, us 95, .bool true, .bool true, .pointer (some ⟨b, 0, none⟩), .bool s.over, .pointer (some ⟨b, 0, none⟩), .int .u64 nn, .bool mb, .pointer (some ⟨b, 0, none⟩), .bool s.over, .bool s.over, .bool false, us 107, us 108, us 109, us 110, us 111, us 112, us 113, us 114, us 115, us 116] : Array Value).getD us_ undef, rfl, C0, PW, TQ, Lib.hid (by have := hn.out; omega), HJ2, htn⟩)
      · have D75 := Lib.hid (show (kz == 0) = false from beq_eq_false_iff_ne.2 (by omega))
        have D97 := Lib.hid (show (kz == 1) = false from beq_eq_false_iff_ne.2 (by omega))
        obtain ⟨_, hd, e, L1, hL, he⟩ := h
        have HD := Lib.hid hd; have HT := Lib.hid (show takeW s = (⟨L1, s.last, s.over, false⟩, e, true) by unfold takeW; rw [hL]; simp only; rw [hd])
        rw [HD.out]
        have D46 := Lib.hid (show (e.k == 5) = false by rw [he]; rfl); have D59 := Lib.hid (show (e.k == 1) = true by rw [he]; rfl)
        obtain ⟨T1, hT1, hJ1⟩ := ord_one hJ.out hL he hd
        have HJ2 := Lib.hid hJ1
        subst hT1
        have D63 := Lib.hid (show ¬ tn = 0 by rw [htn.out]; simp)
        have hq := TQ.out
        obtain ⟨tg, to, tc, rfl, -, -, -, -⟩ := hq.some_ (by rw [htn.out]; simp)
        obtain ⟨A1, c1, hSL, hTL⟩ := q_tail (by simpa only [List.map_cons] using hq)
        have SL := Lib.hid hSL; have HTL := Lib.hid hTL
        clear hq hSL hTL hJ1 hd hL he
        refine s_ (fun K97 hK97 => ?_)
        refine pu_ (v := .bool false) (y_run (by rfl) (fun W => by have d := D75.out; go_simp)) ?_
        (try simp only [zP, zN, zA, zB, zC])
        refine pu_ (v := .bool false) (y_assign rfl (by rfl) (by rfl)) ?_
        (try simp only [zP, zN, zA, zB, zC])
        refine nl_ (hK97 _ _ ?_); clear hK97 K97
        refine wp_cond_false rfl ?_
        refine s_ (fun K98 hK98 => ?_)
        refine pu_ (v := .bool false) (y_run (by rfl) (fun W => by have d := D97.out; go_simp)) ?_
        (try simp only [zP, zN, zA, zB, zC])
        refine pu_ (v := .bool false) (y_assign rfl (by rfl) (by rfl)) ?_
        (try simp only [zP, zN, zA, zB, zC])
        refine nl_ (hK98 _ _ ?_); clear hK98 K98
        refine wp_cond_false rfl ?_
        refine s_ (fun K99 hK99 => ?_)
        refine pu_ (v := .pointer (some ⟨b, 0, none⟩)) (y_move rfl (by rfl) (by rfl)) ?_
        (try simp only [zP, zN, zA, zB, zC])
        refine ef_ (fun K100 hK100 => ?_)
        refine e_call Try.func22 (by kernel_rfl) rfl #[.pointer (some ⟨b, 0, none⟩)] (by rfl) rfl rfl (by first | rfl | (simp only [List.map_toArray, List.map_cons, List.map_nil]; first | done | rfl)) ((by have h := take_all PW.out C0.out.size (by have := hJ.out.2.2.2; omega); rw [HT.out] at h; exact h)) ?_
        rintro en w105 ⟨v101, rfl, hw103, cc102, hr104⟩
        refine ⟨_, rfl, ?_⟩
        have C0' := Lib.hid (show Ch [] w w105 from C0.out.trans' cc102 (inw_cons (.inr HBN.out) (fun x hx => .inr (PW.out.2.lt x hx).1)))
        have TQ' := Lib.hid (show OwnQ w105 (w.heap.size) 42 1 (.slice (some ⟨tg, to, none⟩) tn tc) (tn) (((e.r :: T1)).map (fun r => .int .u64 r)) from TQ.out.ch cc102 (rnin_cons (TQ.out.ne PW.out.1 (by decide)) (OwnQ.rneS TQ.out PW.out.2 (by decide))))
        clear C0 TQ
        have C0 := C0'; clear C0'
        have TQ := TQ'; clear TQ'
        clear PW
        clear cc102
        have PW := Lib.hid (show WinIs w105 (w.heap.size) b (⟨L1, s.last, s.over, false⟩) (v101) from hw103)
        refine hK100 _ _ ?_; clear hK100 K100
        (try simp only [zP, zN, zA, zB, zC])
        refine pu_ (v := .tuple #[.agg (evA e), .bool true]) (y_move rfl (by rfl) (by rfl)) ?_
        (try simp only [zP, zN, zA, zB, zC])
        refine pu_ (v := .agg (evA e)) (y_run (by rfl) (fun W => by go_simp)) ?_
        (try simp only [zP, zN, zA, zB, zC])
        refine pu_ (v := .bool true) (y_run (by rfl) (fun W => by go_simp)) ?_
        (try simp only [zP, zN, zA, zB, zC])
        refine ef_ (fun K106 hK106 => ?_)
        refine e_alloc (by rfl) rfl rfl (cs := #[.int .i64 0, .int .u64 0, .int .i64 0, .int .u64 0, .string ⟨#[]⟩, .slice none 0 0, .slice none 0 0, .slice none 0 0, .int .i64 0, .int .i64 0, .int .i64 0, .int .i64 0, .slice none 0 0, .int .i64 0, .int .i64 0]) (by kernel_rfl) ?_
        rintro g107 w108 HG109 B110 C111
        have nw112 := Lib.hid (show w.heap.size ≤ g107 by have := C0.out.size; have := HG109.out; omega)
        have ne113 := Lib.hid (show b ≠ g107 by have := PW.out.1.lt; have := HG109.out; omega)
        have nr114 := Lib.hid (PW.out.2.ne_new HG109)
        have C0' := Lib.hid (show Ch [] w w108 from C0.out.trans' C111 (fun x hx => absurd hx (by simp)))
        have TQ' := Lib.hid (show OwnQ w108 (w.heap.size) 42 1 (.slice (some ⟨tg, to, none⟩) tn tc) (tn) (((e.r :: T1)).map (fun r => .int .u64 r)) from TQ.out.ch C111 rnin_nil)
        have PW' := Lib.hid (show WinIs w108 (w.heap.size) b (⟨L1, s.last, s.over, false⟩) (v101) from PW.out.ch C111 nin_nil rnin_nil)
        clear C0 TQ PW
        have C0 := C0'; clear C0'
        have TQ := TQ'; clear TQ'
        have PW := PW'; clear PW'
        have Fg107 := Lib.hid (show Blk w108 g107 (#[.int .i64 0, .int .u64 0, .int .i64 0, .int .u64 0, .string ⟨#[]⟩, .slice none 0 0, .slice none 0 0, .slice none 0 0, .int .i64 0, .int .i64 0, .int .i64 0, .int .i64 0, .slice none 0 0, .int .i64 0, .int .i64 0]) 56 from B110); clear B110 C111
        refine hK106 _ _ ?_; clear hK106 K106
        (try simp only [zP, zN, zA, zB, zC])
        refine ef_ (fun K115 hK115 => ?_)
        refine e_storeN (cells := (evA e)) (by rfl) rfl rfl (by rfl) (by rfl) Fg107.out (by kernel_rfl) (by rfl) (ones_cons rfl (ones_cons rfl (ones_cons rfl (ones_cons rfl (ones_cons rfl (ones_cons rfl (ones_cons rfl (ones_cons rfl (ones_cons rfl (ones_cons rfl (ones_cons rfl (ones_cons rfl (ones_cons rfl (ones_cons rfl (ones_cons rfl ones_nil))))))))))))))) ?_
        rintro w116 B117 C118
        have C0' := Lib.hid (show Ch [] w w116 from C0.out.trans' C118 (inw_cons (.inr nw112.out) inw_nil))
        have TQ' := Lib.hid (show OwnQ w116 (w.heap.size) 42 1 (.slice (some ⟨tg, to, none⟩) tn tc) (tn) (((e.r :: T1)).map (fun r => .int .u64 r)) from TQ.out.ch C118 (rnin_cons (TQ.out.ne Fg107.out (by decide)) rnin_nil))
        have PW' := Lib.hid (show WinIs w116 (w.heap.size) b (⟨L1, s.last, s.over, false⟩) (v101) from PW.out.ch C118 (nin_cons ne113.out nin_nil) (rnin_cons nr114.out rnin_nil))
        clear C0 TQ PW
        have C0 := C0'; clear C0'
        have TQ := TQ'; clear TQ'
        have PW := PW'; clear PW'
        clear Fg107; have Fg107 := Lib.hid (show Blk w116 g107 ((evA e)) 56 from B117); clear B117 C118
        refine hK115 _ _ ?_; clear hK115 K115
        (try simp only [zP, zN, zA, zB, zC])
        refine pu_ (v := .bool true) (y_assign rfl (by rfl) (by rfl)) ?_
        (try simp only [zP, zN, zA, zB, zC])
        refine nl_ (hK99 _ _ ?_); clear hK99 K99
        refine sq_ (fun K119 hK119 => ?_)
        refine s_ (fun K120 hK120 => ?_)
        refine pu_ (v := .bool false) (y_move rfl (by rfl) (by rfl)) ?_
        (try simp only [zP, zN, zA, zB, zC])
        refine pu_ (v := .bool false) (y_move rfl (by rfl) (by rfl)) ?_
        (try simp only [zP, zN, zA, zB, zC])
        refine pu_ (y_off (by rfl)) ?_
        (try simp only [zP, zN, zA, zB, zC])
        refine pu_ (v := .bool false) (y_pick (t := false) (by rfl) rfl (by rfl) (by rfl)) ?_
        (try simp only [zP, zN, zA, zB, zC])
        refine nl_ (hK120 _ _ ?_); clear hK120 K120
        refine wp_cond_false rfl ?_
        refine wp_skip ?_
        refine th_norm (hK119 _ _ ?_); try clear hK119 K119
        refine sq_ (fun K121 hK121 => ?_)
        refine s_ (fun K122 hK122 => ?_)
        refine pu_ (v := .bool true) (y_move rfl (by rfl) (by rfl)) ?_
        (try simp only [zP, zN, zA, zB, zC])
        refine pu_ (v := .bool true) (y_move rfl (by rfl) (by rfl)) ?_
        (try simp only [zP, zN, zA, zB, zC])
        refine pu_ (v := .pointer (some ⟨g107, 0, none⟩)) (y_run (by rfl) (fun W => by go_simp)) ?_
        (try simp only [zP, zN, zA, zB, zC])
        refine ld_ (v := .int .i64 (e).k) rfl (by rfl) (by rfl) (run_load_one ((Fg107.out.cell 0).trans rfl) Try.underlying3 rfl) ?_
        (try simp only [zP, zN, zA, zB, zC])
        refine pu_ (v := .bool false) (y_run (by rfl) (fun W => by have d := D46.out; go_simp)) ?_
        (try simp only [zP, zN, zA, zB, zC])
        refine pu_ (v := .bool false) (y_pick (t := true) (by rfl) rfl (by rfl) (by rfl)) ?_
        (try simp only [zP, zN, zA, zB, zC])
        refine nl_ (hK122 _ _ ?_); clear hK122 K122
        refine wp_cond_false rfl ?_
        refine wp_skip ?_
        refine th_norm (hK121 _ _ ?_); try clear hK121 K121
        refine s_ (fun K123 hK123 => ?_)
        refine pu_ (v := .bool true) (y_move rfl (by rfl) (by rfl)) ?_
        (try simp only [zP, zN, zA, zB, zC])
        refine pu_ (v := .bool true) (y_move rfl (by rfl) (by rfl)) ?_
        (try simp only [zP, zN, zA, zB, zC])
        refine pu_ (v := .pointer (some ⟨g107, 0, none⟩)) (y_run (by rfl) (fun W => by go_simp)) ?_
        (try simp only [zP, zN, zA, zB, zC])
        refine ld_ (v := .int .i64 (e).k) rfl (by rfl) (by rfl) (run_load_one ((Fg107.out.cell 0).trans rfl) Try.underlying3 rfl) ?_
        (try simp only [zP, zN, zA, zB, zC])
        refine pu_ (v := .bool true) (y_run (by rfl) (fun W => by have d := D59.out; go_simp)) ?_
        (try simp only [zP, zN, zA, zB, zC])
        refine pu_ (v := .bool true) (y_pick (t := true) (by rfl) rfl (by rfl) (by rfl)) ?_
        (try simp only [zP, zN, zA, zB, zC])
        refine nl_ (hK123 _ _ ?_); clear hK123 K123
        refine wp_cond_true rfl ?_
        refine sq_ (fun K124 hK124 => ?_)
        refine sq_ (fun K125 hK125 => ?_)
        refine startk_ (S := fun W => OwnQ W (w.heap.size) 42 1 (.slice (some ⟨tg, to, none⟩) tn tc) (tn) (((e.r :: T1)).map (fun r => .int .u64 r)) ∧ Blk W g107 ((evA e)) 56 ∧ True) (ds := []) #[false, false, false, false, false, false, false, false, false, false, false] (by kernel_rfl) rfl rfl (fun W c => ⟨TQ.out.ch c rnin_nil, c.blk Fg107.out nin_nil, trivial⟩) (fun w126 C127 hS128 => ?_)
        have C0' := Lib.hid (show Ch [] w w126 from C0.out.trans' C127 (fun x hx => absurd hx (by simp)))
        have TQ' := Lib.hid (show OwnQ w126 (w.heap.size) 42 1 (.slice (some ⟨tg, to, none⟩) tn tc) (tn) (((e.r :: T1)).map (fun r => .int .u64 r)) from TQ.out.ch C127 rnin_nil)
        have PW' := Lib.hid (show WinIs w126 (w.heap.size) b (⟨L1, s.last, s.over, false⟩) (v101) from PW.out.ch C127 nin_nil rnin_nil)
        have Fg107' := Lib.hid (show Blk w126 g107 ((evA e)) 56 from C127.blk Fg107.out nin_nil)
        clear C0 TQ PW Fg107
        have C0 := C0'; clear C0'
        have TQ := TQ'; clear TQ'
        have PW := PW'; clear PW'
        have Fg107 := Fg107'; clear Fg107'
        clear C127
        refine pure_ (i := 0) (N := some 61) (v := .slice (some ⟨tg, to, none⟩) tn tc) #[true, false, false, false, false, false, false, false, false, false, false] rfl rfl (by kernel_rfl) (fun c a w h => hP c a _ _ w h) (y_move rfl (by rfl) (by rfl)) rfl ?_
        (try simp only [zP, zN, zA, zB, zC])
        refine pure_ (i := 1) (N := some 62) (v := .int .i64 tn) #[true, true, false, false, false, false, false, false, false, false, false] rfl rfl (by kernel_rfl) (fun c a w h => hP c a _ _ w h) (y_run (by rfl) (fun W => by go_simp)) rfl ?_
        (try simp only [zP, zN, zA, zB, zC])
        refine pure_ (i := 2) (N := some 63) (v := .bool false) #[true, true, true, false, false, false, false, false, false, false, false] rfl rfl (by kernel_rfl) (fun c a w h => hP c a _ _ w h) (y_run (by rfl) (fun W => by have d := D63.out; go_simp)) rfl ?_
        (try simp only [zP, zN, zA, zB, zC])
        refine pure_ (i := 3) (N := some 64) (v := .bool false) #[true, true, true, true, false, false, false, false, false, false, false] rfl rfl (by kernel_rfl) (fun c a w h => hP c a _ _ w h) (y_move rfl (by rfl) (by rfl)) rfl ?_
        (try simp only [zP, zN, zA, zB, zC])
        refine pure_ (i := 4) (N := some 65) (v := .slice (some ⟨tg, to, none⟩) tn tc) #[true, true, true, true, true, false, false, false, false, false, false] rfl rfl (by kernel_rfl) (fun c a w h => hP c a _ _ w h) (y_move rfl (by rfl) (by rfl)) rfl ?_
        (try simp only [zP, zN, zA, zB, zC])
        refine pure_ (i := 5) (N := some 66) (v := .pointer (some ⟨tg, to, none⟩)) #[true, true, true, true, true, true, false, false, false, false, false] rfl rfl (by kernel_rfl) (fun c a w h => hP c a _ _ w h) (y_run (by rfl) (fun W => by have d := D63.out; go_simp)) rfl ?_
        (try simp only [zP, zN, zA, zB, zC])
        refine take_ (i := 6) (N := some 67) (v := .int .u64 e.r) #[true, true, true, true, true, true, true, false, false, false, false] rfl rfl (by kernel_rfl) (fun c a w h => hP c a _ _ w h) (y_load (p := ⟨tg, to, none⟩) rfl (by rfl) (by rfl) (fun W hS => run_load_one (q_head (by simpa only [List.map_cons] using hS.1)) Try.underlying42 rfl)) hS128 rfl ?_
        (try simp only [zP, zN, zA, zB, zC])
        refine pure_ (i := 7) (N := some 68) (v := .pointer (some ⟨g107, 1, none⟩)) #[true, true, true, true, true, true, true, true, false, false, false] rfl rfl (by kernel_rfl) (fun c a w h => hP c a _ _ w h) (y_run (by rfl) (fun W => by go_simp)) rfl ?_
        (try simp only [zP, zN, zA, zB, zC])
        refine take_ (i := 8) (N := some 69) (v := .int .u64 (e).r) #[true, true, true, true, true, true, true, true, true, false, false] rfl rfl (by kernel_rfl) (fun c a w h => hP c a _ _ w h) (y_load (p := ⟨g107, 1, none⟩) rfl (by rfl) (by rfl) (fun W hS => run_load_one ((hS.2.1.cell 1).trans rfl) Try.underlying42 rfl)) hS128 rfl ?_
        (try simp only [zP, zN, zA, zB, zC])
        refine pure_ (i := 9) (N := some 70) (v := .bool false) #[true, true, true, true, true, true, true, true, true, true, false] rfl rfl (by kernel_rfl) (fun c a w h => hP c a _ _ w h) (y_run (by rfl) (fun W => by go_simp)) rfl ?_
        (try simp only [zP, zN, zA, zB, zC])
        refine pure_ (i := 10) (N := some 71) (v := .bool false) #[true, true, true, true, true, true, true, true, true, true, true] rfl rfl (by kernel_rfl) (fun c a w h => hP c a _ _ w h) (y_pick (t := false) (by rfl) rfl (by rfl) (by rfl)) rfl ?_
        (try simp only [zP, zN, zA, zB, zC])
        refine done_ (by kernel_rfl) (th_norm (hK125 _ _ ?_)); clear hK125 K125
        refine wp_cond_false rfl ?_
        refine wp_skip ?_
        refine th_norm (hK124 _ _ ?_); try clear hK124 K124
        refine r_ ?_
        refine pu_ (v := .slice (some ⟨tg, to, none⟩) tn tc) (y_move rfl (by rfl) (by rfl)) ?_
        (try simp only [zP, zN, zA, zB, zC])
        refine pu_ (v := .slice (some A1) (tn - 1) c1) (y_run (by rfl) (fun W => by have h := SL.out; go_simp)) ?_
        (try simp only [zP, zN, zA, zB, zC])
        refine pu_ (v := .slice (some A1) (tn - 1) c1) (y_assign rfl (by rfl) (by rfl)) ?_
        (try simp only [zP, zN, zA, zB, zC])
        refine nl_ ?_
        refine ib_norm ?_
        exact th_norm (hK22 _ _ ⟨⟨L1, s.last, s.over, false⟩, _, .slice (some A1) (tn - 1) c1, tn - 1, T1, nn, fun us_ => (#[.slice (some ⟨ab, off, none⟩) len0 cap0, us 1, .bool false, .pointer (some ⟨b, 0, none⟩), .slice (some A1) (tn - 1) c1, .bool (s).over, .bool false, .int .u64 nn, .int .i64 k, us 9, us 10, .pointer (some ⟨g107, 0, none⟩), .bool true, us 13, us 14, us 15, us 16, us 17, .int .i64 k, .slice (some ⟨ab, off, none⟩) len0 cap0, .int .i64 len0, .bool true, .bool true, .int .i64 k, .bool true, .bool true, us 26, us 27, .slice (some ⟨ab, off, none⟩) len0 cap0, .int .i64 k, .pointer (some ⟨ab, off + k * 3, none⟩), .pointer (some ⟨ab, off + k * 3, none⟩), .int .i64 kz, .tuple #[.agg (evA e), .bool true], .pointer (some ⟨b, 0, none⟩), .tuple #[.agg (evA e), .bool true], .agg (evA e), .bool true, .bool false, .bool false, undef, .bool false, .bool true, .bool true, .pointer (some ⟨g107, 0, none⟩), .int .i64 (e).k, .bool false, .bool false, us 48, us 49, us 50, us 51, us 52, us 53, us 54, .bool true, .bool true, .pointer (some ⟨g107, 0, none⟩), .int .i64 (e).k, .bool true, .bool true, .slice (some ⟨tg, to, none⟩) tn tc, .int .i64 tn, .bool false, .bool false, .slice (some ⟨tg, to, none⟩) tn tc, .pointer (some ⟨tg, to, none⟩), .int .u64 e.r, .pointer (some ⟨g107, 1, none⟩), .int .u64 (e).r, .bool false, .bool false, .slice (some ⟨tg, to, none⟩) tn tc, .slice (some A1) (tn - 1) c1, .bool false, .bool false, us 76, us 77, us 78, us 79, us 80, us 81, us 82, us 83, us 84, us 85, us 86, us 87, us 88, us 89, us 90, us 91, us 92, us 93, us 94, us 95, .bool false, .bool false, us 98, us 99, us 100, us 101, us 102, us 103, us 104, us 105, us 106, us 107, us 108, us 109, us 110, us 111, us 112, us 113, us 114, us 115, us 116] : Array Value).getD us_ undef, rfl, C0, PW, Lib.hid (HTL.out _ (by simpa only [List.map_cons] using TQ.out)), Lib.hid (by have := hn.out; omega), HJ2, Lib.hid (by rw [htn.out]; simp)⟩)
      · have D75 := Lib.hid (show (kz == 0) = false from beq_eq_false_iff_ne.2 (by omega))
        have D97 := Lib.hid (show (kz == 1) = false from beq_eq_false_iff_ne.2 (by omega))
        obtain ⟨_, hd, e, L1, hL, he⟩ := h
        have HD := Lib.hid hd; have HT := Lib.hid (show takeW s = (⟨L1, s.last, s.over, false⟩, e, true) by unfold takeW; rw [hL]; simp only; rw [hd])
        rw [HD.out]
        have D46 := Lib.hid (show (e.k == 5) = false by rw [he]; rfl); have D59 := Lib.hid (show (e.k == 1) = false by rw [he]; rfl)
        have HJ2 := Lib.hid (ord_four hJ.out hL he hd)
        clear hd hL he
        refine s_ (fun K129 hK129 => ?_)
        refine pu_ (v := .bool false) (y_run (by rfl) (fun W => by have d := D75.out; go_simp)) ?_
        (try simp only [zP, zN, zA, zB, zC])
        refine pu_ (v := .bool false) (y_assign rfl (by rfl) (by rfl)) ?_
        (try simp only [zP, zN, zA, zB, zC])
        refine nl_ (hK129 _ _ ?_); clear hK129 K129
        refine wp_cond_false rfl ?_
        refine s_ (fun K130 hK130 => ?_)
        refine pu_ (v := .bool false) (y_run (by rfl) (fun W => by have d := D97.out; go_simp)) ?_
        (try simp only [zP, zN, zA, zB, zC])
        refine pu_ (v := .bool false) (y_assign rfl (by rfl) (by rfl)) ?_
        (try simp only [zP, zN, zA, zB, zC])
        refine nl_ (hK130 _ _ ?_); clear hK130 K130
        refine wp_cond_false rfl ?_
        refine s_ (fun K131 hK131 => ?_)
        refine pu_ (v := .pointer (some ⟨b, 0, none⟩)) (y_move rfl (by rfl) (by rfl)) ?_
        (try simp only [zP, zN, zA, zB, zC])
        refine ef_ (fun K132 hK132 => ?_)
        refine e_call Try.func22 (by kernel_rfl) rfl #[.pointer (some ⟨b, 0, none⟩)] (by rfl) rfl rfl (by first | rfl | (simp only [List.map_toArray, List.map_cons, List.map_nil]; first | done | rfl)) ((by have h := take_all PW.out C0.out.size (by have := hJ.out.2.2.2; omega); rw [HT.out] at h; exact h)) ?_
        rintro en w137 ⟨v133, rfl, hw135, cc134, hr136⟩
        refine ⟨_, rfl, ?_⟩
        have C0' := Lib.hid (show Ch [] w w137 from C0.out.trans' cc134 (inw_cons (.inr HBN.out) (fun x hx => .inr (PW.out.2.lt x hx).1)))
        have TQ' := Lib.hid (show OwnQ w137 (w.heap.size) 42 1 (tv) (tn) ((T).map (fun r => .int .u64 r)) from TQ.out.ch cc134 (rnin_cons (TQ.out.ne PW.out.1 (by decide)) (OwnQ.rneS TQ.out PW.out.2 (by decide))))
        clear C0 TQ
        have C0 := C0'; clear C0'
        have TQ := TQ'; clear TQ'
        clear PW
        clear cc134
        have PW := Lib.hid (show WinIs w137 (w.heap.size) b (⟨L1, s.last, s.over, false⟩) (v133) from hw135)
        refine hK132 _ _ ?_; clear hK132 K132
        (try simp only [zP, zN, zA, zB, zC])
        refine pu_ (v := .tuple #[.agg (evA e), .bool true]) (y_move rfl (by rfl) (by rfl)) ?_
        (try simp only [zP, zN, zA, zB, zC])
        refine pu_ (v := .agg (evA e)) (y_run (by rfl) (fun W => by go_simp)) ?_
        (try simp only [zP, zN, zA, zB, zC])
        refine pu_ (v := .bool true) (y_run (by rfl) (fun W => by go_simp)) ?_
        (try simp only [zP, zN, zA, zB, zC])
        refine ef_ (fun K138 hK138 => ?_)
        refine e_alloc (by rfl) rfl rfl (cs := #[.int .i64 0, .int .u64 0, .int .i64 0, .int .u64 0, .string ⟨#[]⟩, .slice none 0 0, .slice none 0 0, .slice none 0 0, .int .i64 0, .int .i64 0, .int .i64 0, .int .i64 0, .slice none 0 0, .int .i64 0, .int .i64 0]) (by kernel_rfl) ?_
        rintro g139 w140 HG141 B142 C143
        have nw144 := Lib.hid (show w.heap.size ≤ g139 by have := C0.out.size; have := HG141.out; omega)
        have ne145 := Lib.hid (show b ≠ g139 by have := PW.out.1.lt; have := HG141.out; omega)
        have nr146 := Lib.hid (PW.out.2.ne_new HG141)
        have C0' := Lib.hid (show Ch [] w w140 from C0.out.trans' C143 (fun x hx => absurd hx (by simp)))
        have TQ' := Lib.hid (show OwnQ w140 (w.heap.size) 42 1 (tv) (tn) ((T).map (fun r => .int .u64 r)) from TQ.out.ch C143 rnin_nil)
        have PW' := Lib.hid (show WinIs w140 (w.heap.size) b (⟨L1, s.last, s.over, false⟩) (v133) from PW.out.ch C143 nin_nil rnin_nil)
        clear C0 TQ PW
        have C0 := C0'; clear C0'
        have TQ := TQ'; clear TQ'
        have PW := PW'; clear PW'
        have Fg139 := Lib.hid (show Blk w140 g139 (#[.int .i64 0, .int .u64 0, .int .i64 0, .int .u64 0, .string ⟨#[]⟩, .slice none 0 0, .slice none 0 0, .slice none 0 0, .int .i64 0, .int .i64 0, .int .i64 0, .int .i64 0, .slice none 0 0, .int .i64 0, .int .i64 0]) 56 from B142); clear B142 C143
        refine hK138 _ _ ?_; clear hK138 K138
        (try simp only [zP, zN, zA, zB, zC])
        refine ef_ (fun K147 hK147 => ?_)
        refine e_storeN (cells := (evA e)) (by rfl) rfl rfl (by rfl) (by rfl) Fg139.out (by kernel_rfl) (by rfl) (ones_cons rfl (ones_cons rfl (ones_cons rfl (ones_cons rfl (ones_cons rfl (ones_cons rfl (ones_cons rfl (ones_cons rfl (ones_cons rfl (ones_cons rfl (ones_cons rfl (ones_cons rfl (ones_cons rfl (ones_cons rfl (ones_cons rfl ones_nil))))))))))))))) ?_
        rintro w148 B149 C150
        have C0' := Lib.hid (show Ch [] w w148 from C0.out.trans' C150 (inw_cons (.inr nw144.out) inw_nil))
        have TQ' := Lib.hid (show OwnQ w148 (w.heap.size) 42 1 (tv) (tn) ((T).map (fun r => .int .u64 r)) from TQ.out.ch C150 (rnin_cons (TQ.out.ne Fg139.out (by decide)) rnin_nil))
        have PW' := Lib.hid (show WinIs w148 (w.heap.size) b (⟨L1, s.last, s.over, false⟩) (v133) from PW.out.ch C150 (nin_cons ne145.out nin_nil) (rnin_cons nr146.out rnin_nil))
        clear C0 TQ PW
        have C0 := C0'; clear C0'
        have TQ := TQ'; clear TQ'
        have PW := PW'; clear PW'
        clear Fg139; have Fg139 := Lib.hid (show Blk w148 g139 ((evA e)) 56 from B149); clear B149 C150
        refine hK147 _ _ ?_; clear hK147 K147
        (try simp only [zP, zN, zA, zB, zC])
        refine pu_ (v := .bool true) (y_assign rfl (by rfl) (by rfl)) ?_
        (try simp only [zP, zN, zA, zB, zC])
        refine nl_ (hK131 _ _ ?_); clear hK131 K131
        refine sq_ (fun K151 hK151 => ?_)
        refine s_ (fun K152 hK152 => ?_)
        refine pu_ (v := .bool false) (y_move rfl (by rfl) (by rfl)) ?_
        (try simp only [zP, zN, zA, zB, zC])
        refine pu_ (v := .bool false) (y_move rfl (by rfl) (by rfl)) ?_
        (try simp only [zP, zN, zA, zB, zC])
        refine pu_ (y_off (by rfl)) ?_
        (try simp only [zP, zN, zA, zB, zC])
        refine pu_ (v := .bool false) (y_pick (t := false) (by rfl) rfl (by rfl) (by rfl)) ?_
        (try simp only [zP, zN, zA, zB, zC])
        refine nl_ (hK152 _ _ ?_); clear hK152 K152
        refine wp_cond_false rfl ?_
        refine wp_skip ?_
        refine th_norm (hK151 _ _ ?_); try clear hK151 K151
        refine sq_ (fun K153 hK153 => ?_)
        refine s_ (fun K154 hK154 => ?_)
        refine pu_ (v := .bool true) (y_move rfl (by rfl) (by rfl)) ?_
        (try simp only [zP, zN, zA, zB, zC])
        refine pu_ (v := .bool true) (y_move rfl (by rfl) (by rfl)) ?_
        (try simp only [zP, zN, zA, zB, zC])
        refine pu_ (v := .pointer (some ⟨g139, 0, none⟩)) (y_run (by rfl) (fun W => by go_simp)) ?_
        (try simp only [zP, zN, zA, zB, zC])
        refine ld_ (v := .int .i64 (e).k) rfl (by rfl) (by rfl) (run_load_one ((Fg139.out.cell 0).trans rfl) Try.underlying3 rfl) ?_
        (try simp only [zP, zN, zA, zB, zC])
        refine pu_ (v := .bool false) (y_run (by rfl) (fun W => by have d := D46.out; go_simp)) ?_
        (try simp only [zP, zN, zA, zB, zC])
        refine pu_ (v := .bool false) (y_pick (t := true) (by rfl) rfl (by rfl) (by rfl)) ?_
        (try simp only [zP, zN, zA, zB, zC])
        refine nl_ (hK154 _ _ ?_); clear hK154 K154
        refine wp_cond_false rfl ?_
        refine wp_skip ?_
        refine th_norm (hK153 _ _ ?_); try clear hK153 K153
        refine s_ (fun K155 hK155 => ?_)
        refine pu_ (v := .bool true) (y_move rfl (by rfl) (by rfl)) ?_
        (try simp only [zP, zN, zA, zB, zC])
        refine pu_ (v := .bool true) (y_move rfl (by rfl) (by rfl)) ?_
        (try simp only [zP, zN, zA, zB, zC])
        refine pu_ (v := .pointer (some ⟨g139, 0, none⟩)) (y_run (by rfl) (fun W => by go_simp)) ?_
        (try simp only [zP, zN, zA, zB, zC])
        refine ld_ (v := .int .i64 (e).k) rfl (by rfl) (by rfl) (run_load_one ((Fg139.out.cell 0).trans rfl) Try.underlying3 rfl) ?_
        (try simp only [zP, zN, zA, zB, zC])
        refine pu_ (v := .bool false) (y_run (by rfl) (fun W => by have d := D59.out; go_simp)) ?_
        (try simp only [zP, zN, zA, zB, zC])
        refine pu_ (v := .bool false) (y_pick (t := true) (by rfl) rfl (by rfl) (by rfl)) ?_
        (try simp only [zP, zN, zA, zB, zC])
        refine nl_ (hK155 _ _ ?_); clear hK155 K155
        refine wp_cond_false rfl ?_
        refine wp_skip ?_
        refine ib_norm ?_
        exact th_norm (hK22 _ _ ⟨⟨L1, s.last, s.over, false⟩, _, tv, tn, T, nn, fun us_ => (#[.slice (some ⟨ab, off, none⟩) len0 cap0, us 1, .bool false, .pointer (some ⟨b, 0, none⟩), tv, .bool (s).over, .bool false, .int .u64 nn, .int .i64 k, us 9, us 10, .pointer (some ⟨g139, 0, none⟩), .bool true, us 13, us 14, us 15, us 16, us 17, .int .i64 k, .slice (some ⟨ab, off, none⟩) len0 cap0, .int .i64 len0, .bool true, .bool true, .int .i64 k, .bool true, .bool true, us 26, us 27, .slice (some ⟨ab, off, none⟩) len0 cap0, .int .i64 k, .pointer (some ⟨ab, off + k * 3, none⟩), .pointer (some ⟨ab, off + k * 3, none⟩), .int .i64 kz, .tuple #[.agg (evA e), .bool true], .pointer (some ⟨b, 0, none⟩), .tuple #[.agg (evA e), .bool true], .agg (evA e), .bool true, .bool false, .bool false, undef, .bool false, .bool true, .bool true, .pointer (some ⟨g139, 0, none⟩), .int .i64 (e).k, .bool false, .bool false, us 48, us 49, us 50, us 51, us 52, us 53, us 54, .bool true, .bool true, .pointer (some ⟨g139, 0, none⟩), .int .i64 (e).k, .bool false, .bool false, us 61, us 62, us 63, us 64, us 65, us 66, us 67, us 68, us 69, us 70, us 71, us 72, us 73, .bool false, .bool false, us 76, us 77, us 78, us 79, us 80, us 81, us 82, us 83, us 84, us 85, us 86, us 87, us 88, us 89, us 90, us 91, us 92, us 93, us 94, us 95, .bool false, .bool false, us 98, us 99, us 100, us 101, us 102, us 103, us 104, us 105, us 106, us 107, us 108, us 109, us 110, us 111, us 112, us 113, us 114, us 115, us 116] : Array Value).getD us_ undef, rfl, C0, PW, TQ, Lib.hid (by have := hn.out; omega), HJ2, htn⟩)
      · have D75 := Lib.hid (show (kz == 0) = false from beq_eq_false_iff_ne.2 (by omega))
        have D97 := Lib.hid (show (kz == 1) = false from beq_eq_false_iff_ne.2 (by omega))
        obtain ⟨_, hL, ho, hd⟩ := h
        have HO := Lib.hid ho; have HD := Lib.hid hd; have HT := Lib.hid (show takeW s = (⟨[], s.last, true, true⟩, (⟨5, s.last, 0, 0⟩ : Ev), true) by obtain ⟨L, l, o, d⟩ := s; simp only at hL ho hd; subst hL ho hd; rfl)
        have hT0 := ord_nil hJ.out hL; subst hT0; have HTN := Lib.hid (show tn = 0 by rw [htn.out]; rfl); clear hL ho hd
        rw [HO.out]
        rw [HD.out]
        have hq := TQ.out.slice; obtain ⟨At, ct, rfl, -, -⟩ := hq
        have D53 := Lib.hid (show ¬ 0 < tn by have := HTN.out; omega)
        refine s_ (fun K156 hK156 => ?_)
        refine pu_ (v := .bool false) (y_run (by rfl) (fun W => by have d := D75.out; go_simp)) ?_
        (try simp only [zP, zN, zA, zB, zC])
        refine pu_ (v := .bool false) (y_assign rfl (by rfl) (by rfl)) ?_
        (try simp only [zP, zN, zA, zB, zC])
        refine nl_ (hK156 _ _ ?_); clear hK156 K156
        refine wp_cond_false rfl ?_
        refine s_ (fun K157 hK157 => ?_)
        refine pu_ (v := .bool false) (y_run (by rfl) (fun W => by have d := D97.out; go_simp)) ?_
        (try simp only [zP, zN, zA, zB, zC])
        refine pu_ (v := .bool false) (y_assign rfl (by rfl) (by rfl)) ?_
        (try simp only [zP, zN, zA, zB, zC])
        refine nl_ (hK157 _ _ ?_); clear hK157 K157
        refine wp_cond_false rfl ?_
        refine s_ (fun K158 hK158 => ?_)
        refine pu_ (v := .pointer (some ⟨b, 0, none⟩)) (y_move rfl (by rfl) (by rfl)) ?_
        (try simp only [zP, zN, zA, zB, zC])
        refine ef_ (fun K159 hK159 => ?_)
        refine e_call Try.func22 (by kernel_rfl) rfl #[.pointer (some ⟨b, 0, none⟩)] (by rfl) rfl rfl (by first | rfl | (simp only [List.map_toArray, List.map_cons, List.map_nil]; first | done | rfl)) ((by have h := take_all PW.out C0.out.size (by have := hJ.out.2.2.2; omega); rw [HT.out] at h; exact h)) ?_
        rintro en w164 ⟨v160, rfl, hw162, cc161, hr163⟩
        refine ⟨_, rfl, ?_⟩
        have C0' := Lib.hid (show Ch [] w w164 from C0.out.trans' cc161 (inw_cons (.inr HBN.out) (fun x hx => .inr (PW.out.2.lt x hx).1)))
        have TQ' := Lib.hid (show OwnQ w164 (w.heap.size) 42 1 (.slice At tn ct) (tn) ((([] : List Int)).map (fun r => .int .u64 r)) from TQ.out.ch cc161 (rnin_cons (TQ.out.ne PW.out.1 (by decide)) (OwnQ.rneS TQ.out PW.out.2 (by decide))))
        clear C0 TQ
        have C0 := C0'; clear C0'
        have TQ := TQ'; clear TQ'
        clear PW
        clear cc161
        have PW := Lib.hid (show WinIs w164 (w.heap.size) b (⟨[], s.last, true, true⟩) (v160) from hw162)
        refine hK159 _ _ ?_; clear hK159 K159
        (try simp only [zP, zN, zA, zB, zC])
        refine pu_ (v := .tuple #[.agg (evA (⟨5, s.last, 0, 0⟩ : Ev)), .bool true]) (y_move rfl (by rfl) (by rfl)) ?_
        (try simp only [zP, zN, zA, zB, zC])
        refine pu_ (v := .agg (evA (⟨5, s.last, 0, 0⟩ : Ev))) (y_run (by rfl) (fun W => by go_simp)) ?_
        (try simp only [zP, zN, zA, zB, zC])
        refine pu_ (v := .bool true) (y_run (by rfl) (fun W => by go_simp)) ?_
        (try simp only [zP, zN, zA, zB, zC])
        refine ef_ (fun K165 hK165 => ?_)
        refine e_alloc (by rfl) rfl rfl (cs := #[.int .i64 0, .int .u64 0, .int .i64 0, .int .u64 0, .string ⟨#[]⟩, .slice none 0 0, .slice none 0 0, .slice none 0 0, .int .i64 0, .int .i64 0, .int .i64 0, .int .i64 0, .slice none 0 0, .int .i64 0, .int .i64 0]) (by kernel_rfl) ?_
        rintro g166 w167 HG168 B169 C170
        have nw171 := Lib.hid (show w.heap.size ≤ g166 by have := C0.out.size; have := HG168.out; omega)
        have ne172 := Lib.hid (show b ≠ g166 by have := PW.out.1.lt; have := HG168.out; omega)
        have nr173 := Lib.hid (PW.out.2.ne_new HG168)
        have C0' := Lib.hid (show Ch [] w w167 from C0.out.trans' C170 (fun x hx => absurd hx (by simp)))
        have TQ' := Lib.hid (show OwnQ w167 (w.heap.size) 42 1 (.slice At tn ct) (tn) ((([] : List Int)).map (fun r => .int .u64 r)) from TQ.out.ch C170 rnin_nil)
        have PW' := Lib.hid (show WinIs w167 (w.heap.size) b (⟨[], s.last, true, true⟩) (v160) from PW.out.ch C170 nin_nil rnin_nil)
        clear C0 TQ PW
        have C0 := C0'; clear C0'
        have TQ := TQ'; clear TQ'
        have PW := PW'; clear PW'
        have Fg166 := Lib.hid (show Blk w167 g166 (#[.int .i64 0, .int .u64 0, .int .i64 0, .int .u64 0, .string ⟨#[]⟩, .slice none 0 0, .slice none 0 0, .slice none 0 0, .int .i64 0, .int .i64 0, .int .i64 0, .int .i64 0, .slice none 0 0, .int .i64 0, .int .i64 0]) 56 from B169); clear B169 C170
        refine hK165 _ _ ?_; clear hK165 K165
        (try simp only [zP, zN, zA, zB, zC])
        refine ef_ (fun K174 hK174 => ?_)
        refine e_storeN (cells := (evA (⟨5, s.last, 0, 0⟩ : Ev))) (by rfl) rfl rfl (by rfl) (by rfl) Fg166.out (by kernel_rfl) (by rfl) (ones_cons rfl (ones_cons rfl (ones_cons rfl (ones_cons rfl (ones_cons rfl (ones_cons rfl (ones_cons rfl (ones_cons rfl (ones_cons rfl (ones_cons rfl (ones_cons rfl (ones_cons rfl (ones_cons rfl (ones_cons rfl (ones_cons rfl ones_nil))))))))))))))) ?_
        rintro w175 B176 C177
        have C0' := Lib.hid (show Ch [] w w175 from C0.out.trans' C177 (inw_cons (.inr nw171.out) inw_nil))
        have TQ' := Lib.hid (show OwnQ w175 (w.heap.size) 42 1 (.slice At tn ct) (tn) ((([] : List Int)).map (fun r => .int .u64 r)) from TQ.out.ch C177 (rnin_cons (TQ.out.ne Fg166.out (by decide)) rnin_nil))
        have PW' := Lib.hid (show WinIs w175 (w.heap.size) b (⟨[], s.last, true, true⟩) (v160) from PW.out.ch C177 (nin_cons ne172.out nin_nil) (rnin_cons nr173.out rnin_nil))
        clear C0 TQ PW
        have C0 := C0'; clear C0'
        have TQ := TQ'; clear TQ'
        have PW := PW'; clear PW'
        clear Fg166; have Fg166 := Lib.hid (show Blk w175 g166 ((evA (⟨5, s.last, 0, 0⟩ : Ev))) 56 from B176); clear B176 C177
        refine hK174 _ _ ?_; clear hK174 K174
        (try simp only [zP, zN, zA, zB, zC])
        refine pu_ (v := .bool true) (y_assign rfl (by rfl) (by rfl)) ?_
        (try simp only [zP, zN, zA, zB, zC])
        refine nl_ (hK158 _ _ ?_); clear hK158 K158
        refine sq_ (fun K178 hK178 => ?_)
        refine s_ (fun K179 hK179 => ?_)
        refine pu_ (v := .bool false) (y_move rfl (by rfl) (by rfl)) ?_
        (try simp only [zP, zN, zA, zB, zC])
        refine pu_ (v := .bool false) (y_move rfl (by rfl) (by rfl)) ?_
        (try simp only [zP, zN, zA, zB, zC])
        refine pu_ (y_off (by rfl)) ?_
        (try simp only [zP, zN, zA, zB, zC])
        refine pu_ (v := .bool false) (y_pick (t := false) (by rfl) rfl (by rfl) (by rfl)) ?_
        (try simp only [zP, zN, zA, zB, zC])
        refine nl_ (hK179 _ _ ?_); clear hK179 K179
        refine wp_cond_false rfl ?_
        refine wp_skip ?_
        refine th_norm (hK178 _ _ ?_); try clear hK178 K178
        refine sq_ (fun K180 hK180 => ?_)
        refine s_ (fun K181 hK181 => ?_)
        refine pu_ (v := .bool true) (y_move rfl (by rfl) (by rfl)) ?_
        (try simp only [zP, zN, zA, zB, zC])
        refine pu_ (v := .bool true) (y_move rfl (by rfl) (by rfl)) ?_
        (try simp only [zP, zN, zA, zB, zC])
        refine pu_ (v := .pointer (some ⟨g166, 0, none⟩)) (y_run (by rfl) (fun W => by go_simp)) ?_
        (try simp only [zP, zN, zA, zB, zC])
        refine ld_ (v := .int .i64 ((⟨5, s.last, 0, 0⟩ : Ev)).k) rfl (by rfl) (by rfl) (run_load_one ((Fg166.out.cell 0).trans rfl) Try.underlying3 rfl) ?_
        (try simp only [zP, zN, zA, zB, zC])
        refine pu_ (v := .bool true) (y_run (by rfl) (fun W => by go_simp)) ?_
        (try simp only [zP, zN, zA, zB, zC])
        refine pu_ (v := .bool true) (y_pick (t := true) (by rfl) rfl (by rfl) (by rfl)) ?_
        (try simp only [zP, zN, zA, zB, zC])
        refine nl_ (hK181 _ _ ?_); clear hK181 K181
        refine wp_cond_true rfl ?_
        refine s_ (fun K182 hK182 => ?_)
        refine pu_ (v := .bool true) (y_assign rfl (by rfl) (by rfl)) ?_
        (try simp only [zP, zN, zA, zB, zC])
        refine nl_ (hK182 _ _ ?_); clear hK182 K182
        refine s_ (fun K183 hK183 => ?_)
        refine pu_ (v := .bool true) (y_move rfl (by rfl) (by rfl)) ?_
        (try simp only [zP, zN, zA, zB, zC])
        refine pu_ (v := .bool false) (y_run (by rfl) (fun W => by go_simp)) ?_
        (try simp only [zP, zN, zA, zB, zC])
        refine pu_ (v := .bool false) (y_move rfl (by rfl) (by rfl)) ?_
        (try simp only [zP, zN, zA, zB, zC])
        refine pu_ (v := .slice At tn ct) (y_move rfl (by rfl) (by rfl)) ?_
        (try simp only [zP, zN, zA, zB, zC])
        refine pu_ (v := .int .i64 tn) (y_run (by rfl) (fun W => by go_simp)) ?_
        (try simp only [zP, zN, zA, zB, zC])
        refine pu_ (v := .bool false) (y_run (by rfl) (fun W => by have d := D53.out; go_simp)) ?_
        (try simp only [zP, zN, zA, zB, zC])
        refine pu_ (v := .bool false) (y_pick (t := false) (by rfl) rfl (by rfl) (by rfl)) ?_
        (try simp only [zP, zN, zA, zB, zC])
        refine nl_ (hK183 _ _ ?_); clear hK183 K183
        refine wp_cond_false rfl ?_
        refine wp_skip ?_
        refine th_norm (hK180 _ _ ?_); try clear hK180 K180
        refine s_ (fun K184 hK184 => ?_)
        refine pu_ (v := .bool true) (y_move rfl (by rfl) (by rfl)) ?_
        (try simp only [zP, zN, zA, zB, zC])
        refine pu_ (v := .bool true) (y_move rfl (by rfl) (by rfl)) ?_
        (try simp only [zP, zN, zA, zB, zC])
        refine pu_ (v := .pointer (some ⟨g166, 0, none⟩)) (y_run (by rfl) (fun W => by go_simp)) ?_
        (try simp only [zP, zN, zA, zB, zC])
        refine ld_ (v := .int .i64 ((⟨5, s.last, 0, 0⟩ : Ev)).k) rfl (by rfl) (by rfl) (run_load_one ((Fg166.out.cell 0).trans rfl) Try.underlying3 rfl) ?_
        (try simp only [zP, zN, zA, zB, zC])
        refine pu_ (v := .bool false) (y_run (by rfl) (fun W => by go_simp)) ?_
        (try simp only [zP, zN, zA, zB, zC])
        refine pu_ (v := .bool false) (y_pick (t := true) (by rfl) rfl (by rfl) (by rfl)) ?_
        (try simp only [zP, zN, zA, zB, zC])
        refine nl_ (hK184 _ _ ?_); clear hK184 K184
        refine wp_cond_false rfl ?_
        refine wp_skip ?_
        refine ib_norm ?_
        exact th_norm (hK22 _ _ ⟨⟨[], s.last, true, true⟩, _, .slice At tn ct, tn, [], nn, fun us_ => (#[.slice (some ⟨ab, off, none⟩) len0 cap0, us 1, .bool false, .pointer (some ⟨b, 0, none⟩), .slice At tn ct, .bool true, .bool true, .int .u64 nn, .int .i64 k, us 9, us 10, .pointer (some ⟨g166, 0, none⟩), .bool true, us 13, us 14, us 15, us 16, us 17, .int .i64 k, .slice (some ⟨ab, off, none⟩) len0 cap0, .int .i64 len0, .bool true, .bool true, .int .i64 k, .bool true, .bool true, us 26, us 27, .slice (some ⟨ab, off, none⟩) len0 cap0, .int .i64 k, .pointer (some ⟨ab, off + k * 3, none⟩), .pointer (some ⟨ab, off + k * 3, none⟩), .int .i64 kz, .tuple #[.agg (evA (⟨5, s.last, 0, 0⟩ : Ev)), .bool true], .pointer (some ⟨b, 0, none⟩), .tuple #[.agg (evA (⟨5, s.last, 0, 0⟩ : Ev)), .bool true], .agg (evA (⟨5, s.last, 0, 0⟩ : Ev)), .bool true, .bool false, .bool false, undef, .bool false, .bool true, .bool true, .pointer (some ⟨g166, 0, none⟩), .int .i64 ((⟨5, s.last, 0, 0⟩ : Ev)).k, .bool true, .bool true, .bool true, .bool false, .bool false, .slice At tn ct, .int .i64 tn, .bool false, .bool false, .bool true, .bool true, .pointer (some ⟨g166, 0, none⟩), .int .i64 ((⟨5, s.last, 0, 0⟩ : Ev)).k, .bool false, .bool false, us 61, us 62, us 63, us 64, us 65, us 66, us 67, us 68, us 69, us 70, us 71, us 72, us 73, .bool false, .bool false, us 76, us 77, us 78, us 79, us 80, us 81, us 82, us 83, us 84, us 85, us 86, us 87, us 88, us 89, us 90, us 91, us 92, us 93, us 94, us 95, .bool false, .bool false, us 98, us 99, us 100, us 101, us 102, us 103, us 104, us 105, us 106, us 107, us 108, us 109, us 110, us 111, us 112, us 113, us 114, us 115, us 116] : Array Value).getD us_ undef, rfl, C0, PW, TQ, Lib.hid (by have := hn.out; omega), Lib.hid (ord_empty _ _), htn⟩)
      · have D75 := Lib.hid (show (kz == 0) = false from beq_eq_false_iff_ne.2 (by omega))
        have D97 := Lib.hid (show (kz == 1) = false from beq_eq_false_iff_ne.2 (by omega))
        obtain ⟨_, hL, ho, hd⟩ := h
        have HO := Lib.hid ho; have HD := Lib.hid hd; have HT := Lib.hid (show takeW s = (⟨[], s.last, false, false⟩, (⟨0, 0, 0, 0⟩ : Ev), false) by obtain ⟨L, l, o, d⟩ := s; simp only at hL ho hd; subst hL ho hd; rfl)
        have hT0 := ord_nil hJ.out hL; subst hT0; have HTN := Lib.hid (show tn = 0 by rw [htn.out]; rfl); clear hL ho hd
        rw [HO.out]
        rw [HD.out]
        have hq := TQ.out.slice; obtain ⟨At, ct, rfl, -, -⟩ := hq
        have D53 := Lib.hid (show ¬ 0 < tn by have := HTN.out; omega)
        refine s_ (fun K185 hK185 => ?_)
        refine pu_ (v := .bool false) (y_run (by rfl) (fun W => by have d := D75.out; go_simp)) ?_
        (try simp only [zP, zN, zA, zB, zC])
        refine pu_ (v := .bool false) (y_assign rfl (by rfl) (by rfl)) ?_
        (try simp only [zP, zN, zA, zB, zC])
        refine nl_ (hK185 _ _ ?_); clear hK185 K185
        refine wp_cond_false rfl ?_
        refine s_ (fun K186 hK186 => ?_)
        refine pu_ (v := .bool false) (y_run (by rfl) (fun W => by have d := D97.out; go_simp)) ?_
        (try simp only [zP, zN, zA, zB, zC])
        refine pu_ (v := .bool false) (y_assign rfl (by rfl) (by rfl)) ?_
        (try simp only [zP, zN, zA, zB, zC])
        refine nl_ (hK186 _ _ ?_); clear hK186 K186
        refine wp_cond_false rfl ?_
        refine s_ (fun K187 hK187 => ?_)
        refine pu_ (v := .pointer (some ⟨b, 0, none⟩)) (y_move rfl (by rfl) (by rfl)) ?_
        (try simp only [zP, zN, zA, zB, zC])
        refine ef_ (fun K188 hK188 => ?_)
        refine e_call Try.func22 (by kernel_rfl) rfl #[.pointer (some ⟨b, 0, none⟩)] (by rfl) rfl rfl (by first | rfl | (simp only [List.map_toArray, List.map_cons, List.map_nil]; first | done | rfl)) ((by have h := take_all PW.out C0.out.size (by have := hJ.out.2.2.2; omega); rw [HT.out] at h; exact h)) ?_
        rintro en w193 ⟨v189, rfl, hw191, cc190, hr192⟩
        refine ⟨_, rfl, ?_⟩
        have C0' := Lib.hid (show Ch [] w w193 from C0.out.trans' cc190 (inw_cons (.inr HBN.out) (fun x hx => .inr (PW.out.2.lt x hx).1)))
        have TQ' := Lib.hid (show OwnQ w193 (w.heap.size) 42 1 (.slice At tn ct) (tn) ((([] : List Int)).map (fun r => .int .u64 r)) from TQ.out.ch cc190 (rnin_cons (TQ.out.ne PW.out.1 (by decide)) (OwnQ.rneS TQ.out PW.out.2 (by decide))))
        clear C0 TQ
        have C0 := C0'; clear C0'
        have TQ := TQ'; clear TQ'
        clear PW
        clear cc190
        have PW := Lib.hid (show WinIs w193 (w.heap.size) b (⟨[], s.last, false, false⟩) (v189) from hw191)
        refine hK188 _ _ ?_; clear hK188 K188
        (try simp only [zP, zN, zA, zB, zC])
        refine pu_ (v := .tuple #[.agg (evA (⟨0, 0, 0, 0⟩ : Ev)), .bool false]) (y_move rfl (by rfl) (by rfl)) ?_
        (try simp only [zP, zN, zA, zB, zC])
        refine pu_ (v := .agg (evA (⟨0, 0, 0, 0⟩ : Ev))) (y_run (by rfl) (fun W => by go_simp)) ?_
        (try simp only [zP, zN, zA, zB, zC])
        refine pu_ (v := .bool false) (y_run (by rfl) (fun W => by go_simp)) ?_
        (try simp only [zP, zN, zA, zB, zC])
        refine ef_ (fun K194 hK194 => ?_)
        refine e_alloc (by rfl) rfl rfl (cs := #[.int .i64 0, .int .u64 0, .int .i64 0, .int .u64 0, .string ⟨#[]⟩, .slice none 0 0, .slice none 0 0, .slice none 0 0, .int .i64 0, .int .i64 0, .int .i64 0, .int .i64 0, .slice none 0 0, .int .i64 0, .int .i64 0]) (by kernel_rfl) ?_
        rintro g195 w196 HG197 B198 C199
        have nw200 := Lib.hid (show w.heap.size ≤ g195 by have := C0.out.size; have := HG197.out; omega)
        have ne201 := Lib.hid (show b ≠ g195 by have := PW.out.1.lt; have := HG197.out; omega)
        have nr202 := Lib.hid (PW.out.2.ne_new HG197)
        have C0' := Lib.hid (show Ch [] w w196 from C0.out.trans' C199 (fun x hx => absurd hx (by simp)))
        have TQ' := Lib.hid (show OwnQ w196 (w.heap.size) 42 1 (.slice At tn ct) (tn) ((([] : List Int)).map (fun r => .int .u64 r)) from TQ.out.ch C199 rnin_nil)
        have PW' := Lib.hid (show WinIs w196 (w.heap.size) b (⟨[], s.last, false, false⟩) (v189) from PW.out.ch C199 nin_nil rnin_nil)
        clear C0 TQ PW
        have C0 := C0'; clear C0'
        have TQ := TQ'; clear TQ'
        have PW := PW'; clear PW'
        have Fg195 := Lib.hid (show Blk w196 g195 (#[.int .i64 0, .int .u64 0, .int .i64 0, .int .u64 0, .string ⟨#[]⟩, .slice none 0 0, .slice none 0 0, .slice none 0 0, .int .i64 0, .int .i64 0, .int .i64 0, .int .i64 0, .slice none 0 0, .int .i64 0, .int .i64 0]) 56 from B198); clear B198 C199
        refine hK194 _ _ ?_; clear hK194 K194
        (try simp only [zP, zN, zA, zB, zC])
        refine ef_ (fun K203 hK203 => ?_)
        refine e_storeN (cells := (evA (⟨0, 0, 0, 0⟩ : Ev))) (by rfl) rfl rfl (by rfl) (by rfl) Fg195.out (by kernel_rfl) (by rfl) (ones_cons rfl (ones_cons rfl (ones_cons rfl (ones_cons rfl (ones_cons rfl (ones_cons rfl (ones_cons rfl (ones_cons rfl (ones_cons rfl (ones_cons rfl (ones_cons rfl (ones_cons rfl (ones_cons rfl (ones_cons rfl (ones_cons rfl ones_nil))))))))))))))) ?_
        rintro w204 B205 C206
        have C0' := Lib.hid (show Ch [] w w204 from C0.out.trans' C206 (inw_cons (.inr nw200.out) inw_nil))
        have TQ' := Lib.hid (show OwnQ w204 (w.heap.size) 42 1 (.slice At tn ct) (tn) ((([] : List Int)).map (fun r => .int .u64 r)) from TQ.out.ch C206 (rnin_cons (TQ.out.ne Fg195.out (by decide)) rnin_nil))
        have PW' := Lib.hid (show WinIs w204 (w.heap.size) b (⟨[], s.last, false, false⟩) (v189) from PW.out.ch C206 (nin_cons ne201.out nin_nil) (rnin_cons nr202.out rnin_nil))
        clear C0 TQ PW
        have C0 := C0'; clear C0'
        have TQ := TQ'; clear TQ'
        have PW := PW'; clear PW'
        clear Fg195; have Fg195 := Lib.hid (show Blk w204 g195 ((evA (⟨0, 0, 0, 0⟩ : Ev))) 56 from B205); clear B205 C206
        refine hK203 _ _ ?_; clear hK203 K203
        (try simp only [zP, zN, zA, zB, zC])
        refine pu_ (v := .bool false) (y_assign rfl (by rfl) (by rfl)) ?_
        (try simp only [zP, zN, zA, zB, zC])
        refine nl_ (hK187 _ _ ?_); clear hK187 K187
        refine sq_ (fun K207 hK207 => ?_)
        refine s_ (fun K208 hK208 => ?_)
        refine pu_ (v := .bool false) (y_move rfl (by rfl) (by rfl)) ?_
        (try simp only [zP, zN, zA, zB, zC])
        refine pu_ (v := .bool false) (y_move rfl (by rfl) (by rfl)) ?_
        (try simp only [zP, zN, zA, zB, zC])
        refine pu_ (y_off (by rfl)) ?_
        (try simp only [zP, zN, zA, zB, zC])
        refine pu_ (v := .bool false) (y_pick (t := false) (by rfl) rfl (by rfl) (by rfl)) ?_
        (try simp only [zP, zN, zA, zB, zC])
        refine nl_ (hK208 _ _ ?_); clear hK208 K208
        refine wp_cond_false rfl ?_
        refine wp_skip ?_
        refine th_norm (hK207 _ _ ?_); try clear hK207 K207
        refine sq_ (fun K209 hK209 => ?_)
        refine s_ (fun K210 hK210 => ?_)
        refine pu_ (v := .bool false) (y_move rfl (by rfl) (by rfl)) ?_
        (try simp only [zP, zN, zA, zB, zC])
        refine pu_ (v := .bool false) (y_move rfl (by rfl) (by rfl)) ?_
        (try simp only [zP, zN, zA, zB, zC])
        refine pu_ (y_off (by rfl)) ?_
        (try simp only [zP, zN, zA, zB, zC])
        refine pu_ (y_off (by rfl)) ?_
        (try simp only [zP, zN, zA, zB, zC])
        refine pu_ (y_off (by rfl)) ?_
        (try simp only [zP, zN, zA, zB, zC])
        refine pu_ (v := .bool false) (y_pick (t := false) (by rfl) rfl (by rfl) (by rfl)) ?_
        (try simp only [zP, zN, zA, zB, zC])
        refine nl_ (hK210 _ _ ?_); clear hK210 K210
        refine wp_cond_false rfl ?_
        refine wp_skip ?_
        refine th_norm (hK209 _ _ ?_); try clear hK209 K209
        refine s_ (fun K211 hK211 => ?_)
        refine pu_ (v := .bool false) (y_move rfl (by rfl) (by rfl)) ?_
        (try simp only [zP, zN, zA, zB, zC])
        refine pu_ (v := .bool false) (y_move rfl (by rfl) (by rfl)) ?_
        (try simp only [zP, zN, zA, zB, zC])
        refine pu_ (y_off (by rfl)) ?_
        (try simp only [zP, zN, zA, zB, zC])
        refine pu_ (y_off (by rfl)) ?_
        (try simp only [zP, zN, zA, zB, zC])
        refine pu_ (y_off (by rfl)) ?_
        (try simp only [zP, zN, zA, zB, zC])
        refine pu_ (v := .bool false) (y_pick (t := false) (by rfl) rfl (by rfl) (by rfl)) ?_
        (try simp only [zP, zN, zA, zB, zC])
        refine nl_ (hK211 _ _ ?_); clear hK211 K211
        refine wp_cond_false rfl ?_
        refine wp_skip ?_
        refine ib_norm ?_
        exact th_norm (hK22 _ _ ⟨⟨[], s.last, false, false⟩, _, .slice At tn ct, tn, [], nn, fun us_ => (#[.slice (some ⟨ab, off, none⟩) len0 cap0, us 1, .bool false, .pointer (some ⟨b, 0, none⟩), .slice At tn ct, .bool false, .bool false, .int .u64 nn, .int .i64 k, us 9, us 10, .pointer (some ⟨g195, 0, none⟩), .bool false, us 13, us 14, us 15, us 16, us 17, .int .i64 k, .slice (some ⟨ab, off, none⟩) len0 cap0, .int .i64 len0, .bool true, .bool true, .int .i64 k, .bool true, .bool true, us 26, us 27, .slice (some ⟨ab, off, none⟩) len0 cap0, .int .i64 k, .pointer (some ⟨ab, off + k * 3, none⟩), .pointer (some ⟨ab, off + k * 3, none⟩), .int .i64 kz, .tuple #[.agg (evA (⟨0, 0, 0, 0⟩ : Ev)), .bool false], .pointer (some ⟨b, 0, none⟩), .tuple #[.agg (evA (⟨0, 0, 0, 0⟩ : Ev)), .bool false], .agg (evA (⟨0, 0, 0, 0⟩ : Ev)), .bool false, .bool false, .bool false, undef, .bool false, .bool false, .bool false, undef, undef, undef, .bool false, us 48, us 49, us 50, us 51, us 52, us 53, us 54, .bool false, .bool false, undef, undef, undef, .bool false, us 61, us 62, us 63, us 64, us 65, us 66, us 67, us 68, us 69, us 70, us 71, us 72, us 73, .bool false, .bool false, us 76, us 77, us 78, us 79, us 80, us 81, us 82, us 83, us 84, us 85, us 86, us 87, us 88, us 89, us 90, us 91, us 92, us 93, us 94, us 95, .bool false, .bool false, us 98, us 99, us 100, us 101, us 102, us 103, us 104, us 105, us 106, us 107, us 108, us 109, us 110, us 111, us 112, us 113, us 114, us 115, us 116] : Array Value).getD us_ undef, rfl, C0, PW, TQ, Lib.hid (by have := hn.out; omega), Lib.hid (ord_empty0 _), htn⟩)
      · have D75 := Lib.hid (show (kz == 0) = false from beq_eq_false_iff_ne.2 (by omega))
        have D97 := Lib.hid (show (kz == 1) = false from beq_eq_false_iff_ne.2 (by omega))
        obtain ⟨_, hL, ho, hd⟩ := h
        have HO := Lib.hid ho; have HD := Lib.hid hd; have HT := Lib.hid (show takeW s = (⟨[], s.last, true, true⟩, (⟨0, 0, 0, 0⟩ : Ev), false) by obtain ⟨L, l, o, d⟩ := s; simp only at hL ho hd; subst hL ho hd; rfl)
        have hT0 := ord_nil hJ.out hL; subst hT0; have HTN := Lib.hid (show tn = 0 by rw [htn.out]; rfl); clear hL ho hd
        rw [HO.out]
        rw [HD.out]
        have hq := TQ.out.slice; obtain ⟨At, ct, rfl, -, -⟩ := hq
        have D53 := Lib.hid (show ¬ 0 < tn by have := HTN.out; omega)
        refine s_ (fun K212 hK212 => ?_)
        refine pu_ (v := .bool false) (y_run (by rfl) (fun W => by have d := D75.out; go_simp)) ?_
        (try simp only [zP, zN, zA, zB, zC])
        refine pu_ (v := .bool false) (y_assign rfl (by rfl) (by rfl)) ?_
        (try simp only [zP, zN, zA, zB, zC])
        refine nl_ (hK212 _ _ ?_); clear hK212 K212
        refine wp_cond_false rfl ?_
        refine s_ (fun K213 hK213 => ?_)
        refine pu_ (v := .bool false) (y_run (by rfl) (fun W => by have d := D97.out; go_simp)) ?_
        (try simp only [zP, zN, zA, zB, zC])
        refine pu_ (v := .bool false) (y_assign rfl (by rfl) (by rfl)) ?_
        (try simp only [zP, zN, zA, zB, zC])
        refine nl_ (hK213 _ _ ?_); clear hK213 K213
        refine wp_cond_false rfl ?_
        refine s_ (fun K214 hK214 => ?_)
        refine pu_ (v := .pointer (some ⟨b, 0, none⟩)) (y_move rfl (by rfl) (by rfl)) ?_
        (try simp only [zP, zN, zA, zB, zC])
        refine ef_ (fun K215 hK215 => ?_)
        refine e_call Try.func22 (by kernel_rfl) rfl #[.pointer (some ⟨b, 0, none⟩)] (by rfl) rfl rfl (by first | rfl | (simp only [List.map_toArray, List.map_cons, List.map_nil]; first | done | rfl)) ((by have h := take_all PW.out C0.out.size (by have := hJ.out.2.2.2; omega); rw [HT.out] at h; exact h)) ?_
        rintro en w220 ⟨v216, rfl, hw218, cc217, hr219⟩
        refine ⟨_, rfl, ?_⟩
        have C0' := Lib.hid (show Ch [] w w220 from C0.out.trans' cc217 (inw_cons (.inr HBN.out) (fun x hx => .inr (PW.out.2.lt x hx).1)))
        have TQ' := Lib.hid (show OwnQ w220 (w.heap.size) 42 1 (.slice At tn ct) (tn) ((([] : List Int)).map (fun r => .int .u64 r)) from TQ.out.ch cc217 (rnin_cons (TQ.out.ne PW.out.1 (by decide)) (OwnQ.rneS TQ.out PW.out.2 (by decide))))
        clear C0 TQ
        have C0 := C0'; clear C0'
        have TQ := TQ'; clear TQ'
        clear PW
        clear cc217
        have PW := Lib.hid (show WinIs w220 (w.heap.size) b (⟨[], s.last, true, true⟩) (v216) from hw218)
        refine hK215 _ _ ?_; clear hK215 K215
        (try simp only [zP, zN, zA, zB, zC])
        refine pu_ (v := .tuple #[.agg (evA (⟨0, 0, 0, 0⟩ : Ev)), .bool false]) (y_move rfl (by rfl) (by rfl)) ?_
        (try simp only [zP, zN, zA, zB, zC])
        refine pu_ (v := .agg (evA (⟨0, 0, 0, 0⟩ : Ev))) (y_run (by rfl) (fun W => by go_simp)) ?_
        (try simp only [zP, zN, zA, zB, zC])
        refine pu_ (v := .bool false) (y_run (by rfl) (fun W => by go_simp)) ?_
        (try simp only [zP, zN, zA, zB, zC])
        refine ef_ (fun K221 hK221 => ?_)
        refine e_alloc (by rfl) rfl rfl (cs := #[.int .i64 0, .int .u64 0, .int .i64 0, .int .u64 0, .string ⟨#[]⟩, .slice none 0 0, .slice none 0 0, .slice none 0 0, .int .i64 0, .int .i64 0, .int .i64 0, .int .i64 0, .slice none 0 0, .int .i64 0, .int .i64 0]) (by kernel_rfl) ?_
        rintro g222 w223 HG224 B225 C226
        have nw227 := Lib.hid (show w.heap.size ≤ g222 by have := C0.out.size; have := HG224.out; omega)
        have ne228 := Lib.hid (show b ≠ g222 by have := PW.out.1.lt; have := HG224.out; omega)
        have nr229 := Lib.hid (PW.out.2.ne_new HG224)
        have C0' := Lib.hid (show Ch [] w w223 from C0.out.trans' C226 (fun x hx => absurd hx (by simp)))
        have TQ' := Lib.hid (show OwnQ w223 (w.heap.size) 42 1 (.slice At tn ct) (tn) ((([] : List Int)).map (fun r => .int .u64 r)) from TQ.out.ch C226 rnin_nil)
        have PW' := Lib.hid (show WinIs w223 (w.heap.size) b (⟨[], s.last, true, true⟩) (v216) from PW.out.ch C226 nin_nil rnin_nil)
        clear C0 TQ PW
        have C0 := C0'; clear C0'
        have TQ := TQ'; clear TQ'
        have PW := PW'; clear PW'
        have Fg222 := Lib.hid (show Blk w223 g222 (#[.int .i64 0, .int .u64 0, .int .i64 0, .int .u64 0, .string ⟨#[]⟩, .slice none 0 0, .slice none 0 0, .slice none 0 0, .int .i64 0, .int .i64 0, .int .i64 0, .int .i64 0, .slice none 0 0, .int .i64 0, .int .i64 0]) 56 from B225); clear B225 C226
        refine hK221 _ _ ?_; clear hK221 K221
        (try simp only [zP, zN, zA, zB, zC])
        refine ef_ (fun K230 hK230 => ?_)
        refine e_storeN (cells := (evA (⟨0, 0, 0, 0⟩ : Ev))) (by rfl) rfl rfl (by rfl) (by rfl) Fg222.out (by kernel_rfl) (by rfl) (ones_cons rfl (ones_cons rfl (ones_cons rfl (ones_cons rfl (ones_cons rfl (ones_cons rfl (ones_cons rfl (ones_cons rfl (ones_cons rfl (ones_cons rfl (ones_cons rfl (ones_cons rfl (ones_cons rfl (ones_cons rfl (ones_cons rfl ones_nil))))))))))))))) ?_
        rintro w231 B232 C233
        have C0' := Lib.hid (show Ch [] w w231 from C0.out.trans' C233 (inw_cons (.inr nw227.out) inw_nil))
        have TQ' := Lib.hid (show OwnQ w231 (w.heap.size) 42 1 (.slice At tn ct) (tn) ((([] : List Int)).map (fun r => .int .u64 r)) from TQ.out.ch C233 (rnin_cons (TQ.out.ne Fg222.out (by decide)) rnin_nil))
        have PW' := Lib.hid (show WinIs w231 (w.heap.size) b (⟨[], s.last, true, true⟩) (v216) from PW.out.ch C233 (nin_cons ne228.out nin_nil) (rnin_cons nr229.out rnin_nil))
        clear C0 TQ PW
        have C0 := C0'; clear C0'
        have TQ := TQ'; clear TQ'
        have PW := PW'; clear PW'
        clear Fg222; have Fg222 := Lib.hid (show Blk w231 g222 ((evA (⟨0, 0, 0, 0⟩ : Ev))) 56 from B232); clear B232 C233
        refine hK230 _ _ ?_; clear hK230 K230
        (try simp only [zP, zN, zA, zB, zC])
        refine pu_ (v := .bool false) (y_assign rfl (by rfl) (by rfl)) ?_
        (try simp only [zP, zN, zA, zB, zC])
        refine nl_ (hK214 _ _ ?_); clear hK214 K214
        refine sq_ (fun K234 hK234 => ?_)
        refine s_ (fun K235 hK235 => ?_)
        refine pu_ (v := .bool true) (y_move rfl (by rfl) (by rfl)) ?_
        (try simp only [zP, zN, zA, zB, zC])
        refine pu_ (v := .bool true) (y_move rfl (by rfl) (by rfl)) ?_
        (try simp only [zP, zN, zA, zB, zC])
        refine pu_ (v := .bool false) (y_move rfl (by rfl) (by rfl)) ?_
        (try simp only [zP, zN, zA, zB, zC])
        refine pu_ (v := .bool false) (y_pick (t := true) (by rfl) rfl (by rfl) (by rfl)) ?_
        (try simp only [zP, zN, zA, zB, zC])
        refine nl_ (hK235 _ _ ?_); clear hK235 K235
        refine wp_cond_false rfl ?_
        refine wp_skip ?_
        refine th_norm (hK234 _ _ ?_); try clear hK234 K234
        refine sq_ (fun K236 hK236 => ?_)
        refine s_ (fun K237 hK237 => ?_)
        refine pu_ (v := .bool false) (y_move rfl (by rfl) (by rfl)) ?_
        (try simp only [zP, zN, zA, zB, zC])
        refine pu_ (v := .bool false) (y_move rfl (by rfl) (by rfl)) ?_
        (try simp only [zP, zN, zA, zB, zC])
        refine pu_ (y_off (by rfl)) ?_
        (try simp only [zP, zN, zA, zB, zC])
        refine pu_ (y_off (by rfl)) ?_
        (try simp only [zP, zN, zA, zB, zC])
        refine pu_ (y_off (by rfl)) ?_
        (try simp only [zP, zN, zA, zB, zC])
        refine pu_ (v := .bool false) (y_pick (t := false) (by rfl) rfl (by rfl) (by rfl)) ?_
        (try simp only [zP, zN, zA, zB, zC])
        refine nl_ (hK237 _ _ ?_); clear hK237 K237
        refine wp_cond_false rfl ?_
        refine wp_skip ?_
        refine th_norm (hK236 _ _ ?_); try clear hK236 K236
        refine s_ (fun K238 hK238 => ?_)
        refine pu_ (v := .bool false) (y_move rfl (by rfl) (by rfl)) ?_
        (try simp only [zP, zN, zA, zB, zC])
        refine pu_ (v := .bool false) (y_move rfl (by rfl) (by rfl)) ?_
        (try simp only [zP, zN, zA, zB, zC])
        refine pu_ (y_off (by rfl)) ?_
        (try simp only [zP, zN, zA, zB, zC])
        refine pu_ (y_off (by rfl)) ?_
        (try simp only [zP, zN, zA, zB, zC])
        refine pu_ (y_off (by rfl)) ?_
        (try simp only [zP, zN, zA, zB, zC])
        refine pu_ (v := .bool false) (y_pick (t := false) (by rfl) rfl (by rfl) (by rfl)) ?_
        (try simp only [zP, zN, zA, zB, zC])
        refine nl_ (hK238 _ _ ?_); clear hK238 K238
        refine wp_cond_false rfl ?_
        refine wp_skip ?_
        refine ib_norm ?_
        exact th_norm (hK22 _ _ ⟨⟨[], s.last, true, true⟩, _, .slice At tn ct, tn, [], nn, fun us_ => (#[.slice (some ⟨ab, off, none⟩) len0 cap0, us 1, .bool false, .pointer (some ⟨b, 0, none⟩), .slice At tn ct, .bool true, .bool true, .int .u64 nn, .int .i64 k, us 9, us 10, .pointer (some ⟨g222, 0, none⟩), .bool false, us 13, us 14, us 15, us 16, us 17, .int .i64 k, .slice (some ⟨ab, off, none⟩) len0 cap0, .int .i64 len0, .bool true, .bool true, .int .i64 k, .bool true, .bool true, us 26, us 27, .slice (some ⟨ab, off, none⟩) len0 cap0, .int .i64 k, .pointer (some ⟨ab, off + k * 3, none⟩), .pointer (some ⟨ab, off + k * 3, none⟩), .int .i64 kz, .tuple #[.agg (evA (⟨0, 0, 0, 0⟩ : Ev)), .bool false], .pointer (some ⟨b, 0, none⟩), .tuple #[.agg (evA (⟨0, 0, 0, 0⟩ : Ev)), .bool false], .agg (evA (⟨0, 0, 0, 0⟩ : Ev)), .bool false, .bool true, .bool true, .bool false, .bool false, .bool false, .bool false, undef, undef, undef, .bool false, us 48, us 49, us 50, us 51, us 52, us 53, us 54, .bool false, .bool false, undef, undef, undef, .bool false, us 61, us 62, us 63, us 64, us 65, us 66, us 67, us 68, us 69, us 70, us 71, us 72, us 73, .bool false, .bool false, us 76, us 77, us 78, us 79, us 80, us 81, us 82, us 83, us 84, us 85, us 86, us 87, us 88, us 89, us 90, us 91, us 92, us 93, us 94, us 95, .bool false, .bool false, us 98, us 99, us 100, us 101, us 102, us 103, us 104, us 105, us 106, us 107, us 108, us 109, us 110, us 111, us 112, us 113, us 114, us 115, us 116] : Array Value).getD us_ undef, rfl, C0, PW, TQ, Lib.hid (by have := hn.out; omega), Lib.hid (ord_empty _ _), htn⟩)
    rintro _ w23 ⟨s2, v2, tv2, tn2, T2, nn2, us, rfl, C0, PW, TQ, hn2, hJ, htn⟩
    refine s_ (fun K239 hK239 => ?_)
    refine pu_ (v := .pointer (some ⟨b, 0, none⟩)) (y_move rfl (by rfl) (by rfl)) ?_
    (try simp only [zP, zN, zA, zB, zC])
    refine ef_ (fun K240 hK240 => ?_)
    refine e_call Try.func26 (by kernel_rfl) rfl #[.pointer (some ⟨b, 0, none⟩)] (by rfl) rfl rfl (by first | rfl | (simp only [List.map_toArray, List.map_cons, List.map_nil]; first | done | rfl)) (over_all PW.out) ?_
    rintro en w241 ⟨rfl, rfl⟩
    refine ⟨_, rfl, ?_⟩
    refine hK240 _ _ ?_; clear hK240 K240
    (try simp only [zP, zN, zA, zB, zC])
    refine pu_ (v := .bool (s2).over) (y_move rfl (by rfl) (by rfl)) ?_
    (try simp only [zP, zN, zA, zB, zC])
    refine pu_ (v := .bool false) (y_run (by rfl) (fun W => by go_simp)) ?_
    (try simp only [zP, zN, zA, zB, zC])
    refine pu_ (v := .bool false) (y_move rfl (by rfl) (by rfl)) ?_
    (try simp only [zP, zN, zA, zB, zC])
    refine pu_ (v := .pointer (some ⟨b, 0, none⟩)) (y_move rfl (by rfl) (by rfl)) ?_
    (try simp only [zP, zN, zA, zB, zC])
    refine ef_ (fun K242 hK242 => ?_)
    refine e_call Try.func27 (by kernel_rfl) rfl #[.pointer (some ⟨b, 0, none⟩)] (by rfl) rfl rfl (by first | rfl | (simp only [List.map_toArray, List.map_cons, List.map_nil]; first | done | rfl)) (done_all PW.out) ?_
    rintro en w243 ⟨rfl, rfl⟩
    refine ⟨_, rfl, ?_⟩
    refine hK242 _ _ ?_; clear hK242 K242
    (try simp only [zP, zN, zA, zB, zC])
    refine pu_ (v := .bool (s2).done) (y_move rfl (by rfl) (by rfl)) ?_
    (try simp only [zP, zN, zA, zB, zC])
    refine pu_ (v := .bool false) (y_run (by rfl) (fun W => by go_simp)) ?_
    (try simp only [zP, zN, zA, zB, zC])
    refine pu_ (v := .bool false) (y_pick (t := false) (by rfl) rfl (by rfl) (by rfl)) ?_
    (try simp only [zP, zN, zA, zB, zC])
    refine nl_ (hK239 _ _ ?_); clear hK239 K239
    refine wp_cond_false rfl ?_
    refine wp_skip ?_
    refine ib_norm ?_
    refine th_norm (hK21 _ _ ?_); try clear hK21 K21
    refine r_ ?_
    refine pu_ (v := .int .i64 k) (y_move rfl (by rfl) (by rfl)) ?_
    (try simp only [zP, zN, zA, zB, zC])
    refine pu_ (v := .int .i64 (k + 1 : Nat)) (y_run (by rfl) (fun W => by have d := WA.out; go_simp)) ?_
    (try simp only [zP, zN, zA, zB, zC])
    refine pu_ (v := .int .i64 (k + 1 : Nat)) (y_assign rfl (by rfl) (by rfl)) ?_
    (try simp only [zP, zN, zA, zB, zC])
    refine nl_ ?_
    exact th_norm (hK18 (kq - 1) _ _ (by have := hlt.out; have := hk.out; omega) ⟨k + 1, s2, _, _, _, _, _, fun us_ => (#[.slice (some ⟨ab, off, none⟩) len0 cap0, us 1, .bool false, .pointer (some ⟨b, 0, none⟩), tv2, .bool (s2).over, .bool (s2).done, .int .u64 nn2, .int .i64 (k + 1 : Nat), us 9, us 10, us 11, us 12, us 13, us 14, us 15, us 16, us 17, us 18, us 19, us 20, us 21, us 22, us 23, us 24, us 25, .int .i64 k, .int .i64 (k + 1 : Nat), us 28, us 29, us 30, us 31, us 32, us 33, us 34, us 35, us 36, us 37, us 38, us 39, us 40, us 41, us 42, us 43, us 44, us 45, us 46, us 47, us 48, us 49, us 50, us 51, us 52, us 53, us 54, us 55, us 56, us 57, us 58, us 59, us 60, us 61, us 62, us 63, us 64, us 65, us 66, us 67, us 68, us 69, us 70, us 71, us 72, us 73, us 74, us 75, us 76, us 77, us 78, us 79, us 80, us 81, us 82, us 83, us 84, us 85, us 86, us 87, us 88, us 89, us 90, us 91, us 92, us 93, us 94, us 95, us 96, us 97, us 98, us 99, us 100, us 101, us 102, us 103, us 104, us 105, us 106, .pointer (some ⟨b, 0, none⟩), .bool (s2).over, .bool (s2).over, .bool false, .bool false, .pointer (some ⟨b, 0, none⟩), .bool (s2).done, .bool (s2).done, .bool false, .bool false] : Array Value).getD us_ undef, rfl, C0, PW, TQ, Lib.hid ⟨by have := hlt.out; omega, by have := hlt.out; omega, by have := hlt.out; have := hk.out; omega⟩, hn2, hJ, htn⟩)
  · have D21 := Lib.hid (show k < len0 by omega)
    have D24 := Lib.hid (show decide ((k : Int) < 100) = false from decide_eq_false (by omega))
    clear h
    refine s_ (fun K244 hK244 => ?_)
    refine pu_ (v := .int .i64 k) (y_move rfl (by rfl) (by rfl)) ?_
    (try simp only [zP, zN, zA, zB, zC])
    refine pu_ (v := .slice a0 len0 cap0) (y_move rfl (by rfl) (by rfl)) ?_
    (try simp only [zP, zN, zA, zB, zC])
    refine pu_ (v := .int .i64 len0) (y_run (by rfl) (fun W => by go_simp)) ?_
    (try simp only [zP, zN, zA, zB, zC])
    refine pu_ (v := .bool true) (y_run (by rfl) (fun W => by have d := D21.out; go_simp)) ?_
    (try simp only [zP, zN, zA, zB, zC])
    refine pu_ (v := .bool true) (y_move rfl (by rfl) (by rfl)) ?_
    (try simp only [zP, zN, zA, zB, zC])
    refine pu_ (v := .int .i64 k) (y_move rfl (by rfl) (by rfl)) ?_
    (try simp only [zP, zN, zA, zB, zC])
    refine pu_ (v := .bool false) (y_run (by rfl) (fun W => by have d := D24.out; go_simp)) ?_
    (try simp only [zP, zN, zA, zB, zC])
    refine pu_ (v := .bool false) (y_pick (t := true) (by rfl) rfl (by rfl) (by rfl)) ?_
    (try simp only [zP, zN, zA, zB, zC])
    refine nl_ (hK244 _ _ ?_); clear hK244 K244
    refine wp_cond_false rfl ?_
    refine wp_exit ?_
    refine th_exit ?_
    refine th_exit ?_
    refine ib_exit ?_
    refine th_norm (hK15 _ _ ?_); try clear hK15 K15
    refine s_ (fun K245 hK245 => ?_)
    refine pu_ (v := .bool true) (y_assign rfl (by rfl) (by rfl)) ?_
    (try simp only [zP, zN, zA, zB, zC])
    refine nl_ (hK245 _ _ ?_); clear hK245 K245
    refine wp_ret ?_
    refine hQ _ _ _ ?_
    refine bodyPost_ret (res1 rfl (rdv_tmp (v := .bool true) (by rfl))) rfl ?_
    exact ⟨rfl, C0.out⟩
  · have D21 := Lib.hid (show ¬ k < len0 by omega)
    clear h
    refine s_ (fun K246 hK246 => ?_)
    refine pu_ (v := .int .i64 k) (y_move rfl (by rfl) (by rfl)) ?_
    (try simp only [zP, zN, zA, zB, zC])
    refine pu_ (v := .slice a0 len0 cap0) (y_move rfl (by rfl) (by rfl)) ?_
    (try simp only [zP, zN, zA, zB, zC])
    refine pu_ (v := .int .i64 len0) (y_run (by rfl) (fun W => by go_simp)) ?_
    (try simp only [zP, zN, zA, zB, zC])
    refine pu_ (v := .bool false) (y_run (by rfl) (fun W => by have d := D21.out; go_simp)) ?_
    (try simp only [zP, zN, zA, zB, zC])
    refine pu_ (v := .bool false) (y_move rfl (by rfl) (by rfl)) ?_
    (try simp only [zP, zN, zA, zB, zC])
    refine pu_ (y_off (by rfl)) ?_
    (try simp only [zP, zN, zA, zB, zC])
    refine pu_ (y_off (by rfl)) ?_
    (try simp only [zP, zN, zA, zB, zC])
    refine pu_ (v := .bool false) (y_pick (t := false) (by rfl) rfl (by rfl) (by rfl)) ?_
    (try simp only [zP, zN, zA, zB, zC])
    refine nl_ (hK246 _ _ ?_); clear hK246 K246
    refine wp_cond_false rfl ?_
    refine wp_exit ?_
    refine th_exit ?_
    refine th_exit ?_
    refine ib_exit ?_
    refine th_norm (hK15 _ _ ?_); try clear hK15 K15
    refine s_ (fun K247 hK247 => ?_)
    refine pu_ (v := .bool true) (y_assign rfl (by rfl) (by rfl)) ?_
    (try simp only [zP, zN, zA, zB, zC])
    refine nl_ (hK247 _ _ ?_); clear hK247 K247
    refine wp_ret ?_
    refine hQ _ _ _ ?_
    refine bodyPost_ret (res1 rfl (rdv_tmp (v := .bool true) (by rfl))) rfl ?_
    exact ⟨rfl, C0.out⟩
end Go.Proofs.Ytanlbnipbbjheaa.V
