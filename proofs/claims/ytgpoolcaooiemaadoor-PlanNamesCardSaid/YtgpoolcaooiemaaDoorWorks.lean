/- The walks of the kinds' names, of 'works' and of the law PlanNames. -/
import Derived.Test.YtgpoolcaooiemaaDoorNext
import Derived.Test.YtgpoolcaooiemaaDoorWGuard
import Derived.Laws.Tables
namespace Go.Proofs.YtgpoolcaooiemaaDoor.D
open Go Go.RowKit Go.Proofs.YtgpoolcaooiemaaDoor.K Go.Proofs.YtgpoolcaooiemaaDoorW.PrintWords Go.Proofs.YtgpoolcaooiemaaDoorW.PrintLast Go.Proofs.YtgpoolcaooiemaaDoorW.PrintMore
set_option linter.unusedVariables false
set_option linter.unusedSimpArgs false
set_option maxRecDepth 100000
set_option maxHeartbeats 4000000
abbrev nmC : Array Value := #[.string ⟨#[110, 111, 110, 101]⟩, .string ⟨#[119, 97, 105, 116]⟩, .string ⟨#[114, 101, 116, 105, 114, 101]⟩, .string ⟨#[112, 104, 97, 115, 101]⟩, .string ⟨#[98, 111, 120]⟩, .string ⟨#[112, 117, 108, 108]⟩, .string ⟨#[109, 97, 107, 101]⟩, .string ⟨#[115, 116, 97, 114, 116]⟩, .string ⟨#[115, 116, 111, 112]⟩, .string ⟨#[97, 103, 97, 105, 110]⟩, .string ⟨#[104, 97, 108, 116]⟩, .string ⟨#[99, 108, 101, 97, 114]⟩, .string ⟨#[103, 111, 110, 101]⟩]
theorem nmCells {w : World} {b : Nat} {g : Nat → Nat} (h : ∀ i, i < 13 → w.cell? ⟨b, i, none⟩ = nmC[i]?) : w.cell? ⟨b, 0, none⟩ = some (.string ⟨#[110, 111, 110, 101]⟩) ∧ w.cell? ⟨b, 1, none⟩ = some (.string ⟨#[119, 97, 105, 116]⟩) ∧ w.cell? ⟨b, 2, none⟩ = some (.string ⟨#[114, 101, 116, 105, 114, 101]⟩) ∧ w.cell? ⟨b, 3, none⟩ = some (.string ⟨#[112, 104, 97, 115, 101]⟩) ∧ w.cell? ⟨b, 4, none⟩ = some (.string ⟨#[98, 111, 120]⟩) ∧ w.cell? ⟨b, 5, none⟩ = some (.string ⟨#[112, 117, 108, 108]⟩) ∧ w.cell? ⟨b, 6, none⟩ = some (.string ⟨#[109, 97, 107, 101]⟩) ∧ w.cell? ⟨b, 7, none⟩ = some (.string ⟨#[115, 116, 97, 114, 116]⟩) ∧ w.cell? ⟨b, 8, none⟩ = some (.string ⟨#[115, 116, 111, 112]⟩) ∧ w.cell? ⟨b, 9, none⟩ = some (.string ⟨#[97, 103, 97, 105, 110]⟩) ∧ w.cell? ⟨b, 10, none⟩ = some (.string ⟨#[104, 97, 108, 116]⟩) ∧ w.cell? ⟨b, 11, none⟩ = some (.string ⟨#[99, 108, 101, 97, 114]⟩) ∧ w.cell? ⟨b, 12, none⟩ = some (.string ⟨#[103, 111, 110, 101]⟩) :=
  ⟨h 0 (by omega), h 1 (by omega), h 2 (by omega), h 3 (by omega), h 4 (by omega), h 5 (by omega), h 6 (by omega), h 7 (by omega), h 8 (by omega), h 9 (by omega), h 10 (by omega), h 11 (by omega), h 12 (by omega)⟩
/-- The package's names lie in the world. -/
def Nm (w : World) : Prop := ∀ i, i < 13 → w.cell? ⟨0, i, none⟩ = nmC[i]?
theorem Nm.ch {w w' : World} (h : Nm w) (c : Ch [] w w') : Nm w' := fun i hi => by
  have e : ∃ v, nmC[i]? = some v := by
    have : i < nmC.size := hi
    exact ⟨nmC[i], Array.getElem?_eq_getElem this⟩
  obtain ⟨v, hv⟩ := e
  rw [hv]
  exact c.get ((h i hi).trans hv)
def nameOf (k : Int) : ByteArray := if 0 ≤ k ∧ k < 13 then (match nmC[k.toNat]? with | some (.string s) => s | _ => ⟨#[]⟩) else ⟨#[]⟩
theorem acts_any (k : Int) (w : World) : Calls Tryd.prog 6 #[.int .i64 k] w fun e w' => e = .returned (.bool (decide (2 ≤ k) && decide (k ≤ 12))) ∧ Ch [] w w' := by
  go_enter Tryd.func6, Tryd.ntmps6
  by_cases h1 : 2 ≤ k
  · have d1 : decide (2 ≤ k) = true := decide_eq_true h1
    go_wp2_with fail
    go_ret
    exact ⟨by simp [h1], Ch.refl [] w⟩
  · have d1 : decide (2 ≤ k) = false := decide_eq_false h1
    go_wp2_with fail
    go_ret
    exact ⟨by simp [h1], Ch.refl [] w⟩
theorem names_any (w : World) : Calls Tryd.prog 4 #[] w fun e w' => ∃ b, e = .returned (.slice (some ⟨b, 0, none⟩) 13 13) ∧ (Ch [] w w' ∧ Blk w' b nmC 9 ∧ b = w.heap.size) := by
  go_enter Tryd.func4, Tryd.ntmps4
  go_wp2_with fail
  go_ret
  exact ⟨_, rfl, (Ch.refl [] w).alloc _, blk_new w _ _, rfl⟩
theorem name_any (k : Int) (w : World) (N : Nm w) : Calls Tryd.prog 5 #[.int .i64 k] w fun e w' => e = .returned (.string (nameOf k)) ∧ Ch [] w w' := by
  have N1 := Lib.hid N
  clear N
  go_enter Tryd.func5, Tryd.ntmps5
  by_cases h1 : k < 0
  · have d1 : decide (k < 0) = true := decide_eq_true h1
    go_wp2_with fail
    go_ret
    exact ⟨by rw [nameOf, if_neg (by omega)]; rfl, Ch.refl [] w⟩
  · have d1 : decide (k < 0) = false := decide_eq_false h1
    by_cases h2 : 13 ≤ k
    · have d2 : decide (13 ≤ k) = true := decide_eq_true h2
      go_wp2_with fail
      go_ret
      exact ⟨by rw [nameOf, if_neg (by omega)]; rfl, Ch.refl [] w⟩
    · have hc : k = 0 ∨ k = 1 ∨ k = 2 ∨ k = 3 ∨ k = 4 ∨ k = 5 ∨ k = 6 ∨ k = 7 ∨ k = 8 ∨ k = 9 ∨ k = 10 ∨ k = 11 ∨ k = 12 := by omega
      clear h1 h2 d1
      obtain ⟨c0, c1, c2, c3, c4, c5, c6, c7, c8, c9, c10, c11, c12⟩ := nmCells (g := id) N1.out
      rcases hc with rfl | rfl | rfl | rfl | rfl | rfl | rfl | rfl | rfl | rfl | rfl | rfl | rfl
      all_goals
        go_wp2_with fail
        go_ret
        exact ⟨rfl, Ch.refl [] w⟩
section
variable {P : Program}
theorem build_to {ops : Array Oper} {rest : List Oper} {o : Oper} {a : Act} {w : World} {Q : Exit → Act → World → Prop} (hg : o.guard = none) (t : TypeId) (parts : Array (Nat × Operand)) (ho : o.op = .build t parts) (cells : Array Value)
    (hb : P.built t (parts.map fun (i, x) => (i, a.eval x)).toList = some cells) (h : wpList P ops Q rest (a.put o.dst (.agg cells)) w) : wpList P ops Q (o :: rest) a w :=
  wpList_build hg t parts ho (by rw [hb]; rfl) (by rw [hb]; exact h)
theorem Ch.setRow {w0 w : World} (h : Ch [] w0 w) {g : Nat} (hg : w0.heap.size ≤ g) (cs : Array Value) : Ch [] w0 (w.setRow g cs) :=
  ⟨h.os, h.tape, h.output, by simpa using h.size, fun k hk hn => (setRow_other w g k cs (by omega)).trans (h.block k hk hn)⟩
theorem Blk.setRow {w : World} {g : Nat} {old : Array Value} {t : TypeId} (h : Blk w g old t) (cs : Array Value) : Blk (w.setRow g cs) g cs t := setRow_heap w g old cs t (0, 0) h
end
abbrev zC : Array Value := #[.int .i64 0, .int .u64 0, .string ⟨#[]⟩, .slice none 0 0, .slice none 0 0, .slice none 0 0, .int .i64 0, .int .i64 0, .int .i64 0, .int .i64 0, .slice none 0 0, .int .i64 0, .int .i64 0, .slice none 0 0, .slice none 0 0, .slice none 0 0, .slice none 0 0, .slice none 0 0, .int .i64 0]
abbrev pC : Array Value := #[.int .i64 1, .int .u64 0, .string ⟨#[]⟩, .slice none 0 0, .slice none 0 0, .slice none 0 0, .int .i64 0, .int .i64 0, .int .i64 0, .int .i64 1, .slice none 0 0, .int .i64 0, .int .i64 0]
theorem field41_0 (v0 v1 v2 v3 v4 v5 v6 v7 : Value) (w : World) : (Instr.field 41 (.agg #[v0, v1, v2, v3, v4, v5, v6, v7]) 0).run Tryd.prog w = .ok v0 w := by kernel_rfl
attribute [local go_sem] field41_0
theorem set11 {w : World} {b : Nat} (B : Blk w b (inC 0 0) 39) : Blk (w.setCell ⟨b, 11, none⟩ (.int .i64 1)) b (inC 1 0) 39 := by
  have h := B.set 11 (.int .i64 1)
  rwa [show (inC 0 0).setIfInBounds 11 (.int .i64 1) = inC 1 0 from by simp [inC]] at h
theorem set18 {w : World} {b : Nat} (B : Blk w b (inC 1 0) 39) : Blk (w.setCell ⟨b, 18, none⟩ (.int .i64 1)) b (inC 1 1) 39 := by
  have h := B.set 18 (.int .i64 1)
  rwa [show (inC 1 0).setIfInBounds 18 (.int .i64 1) = inC 1 1 from by simp [inC]] at h
theorem works_any (w : World) (N : Nm w) : Calls Tryd.prog 7 #[] w fun e w' => e = .returned (.bool true) ∧ Ch [] w w' := by
  have hu39 := Tryd.underlying39
  have hu35 := Tryd.underlying35
  have hu41 := Tryd.underlying41
  have N1 := Lib.hid N
  clear N
  go_enter Tryd.func7, Tryd.ntmps7
  go_upto_region 2 with (first | ((with_reducible refine gate_dst (N := 4) rfl ?_); refine build_to rfl 35 _ rfl pC (by kernel_rfl) ?_) | ((with_reducible refine gate_dst (N := 5) rfl ?_); refine build_to rfl 39 _ rfl (inC 0 0) (by kernel_rfl) ?_) | ((with_reducible refine gate_dst (N := 1) rfl ?_); refine box_event rfl (N := 1) rfl (cs := zC) (t := 39) (by kernel_rfl) ?_; rintro g hg wz B hb; have BZ := Lib.hid (show Blk wz g zC 39 from B); have CZ := Lib.hid (show Ch [] w wz from ⟨hb.os, hb.tape, hb.output, hb.size, fun k hk _ => hb.block k hk⟩); have HG := Lib.hid hg; clear hg hb B) | ((with_reducible refine gate_store (t := 39) (p := 1) rfl ?_); refine wpList_store_row rfl 39 _ _ rfl g (inC 0 0) rfl rfl 39 zC BZ.out (by kernel_rfl) (by kernel_rfl) (by kernel_rfl) ?_))
  have B0 := Lib.hid (Blk.setRow BZ.out (inC 0 0))
  have C0 := Lib.hid (Ch.setRow CZ.out (g := g) (Nat.le_of_eq HG.out.symm) (inC 0 0))
  generalize wz.setRow g (inC 0 0) = wa at *
  have hn : Hid (w.heap.size = g) := Lib.hid HG.out.symm
  clear BZ CZ HG
  generalize g = n at *
  go_upto_region 3 with (first | ((with_reducible refine gate_dst (N := 6) rfl ?_); (try (refine gate_guard (by rfl) ?_; dsimp only)); refine wpList_load_row rfl 39 _ rfl n rfl 39 (inC 0 0) (0, 0) _ B0.out Tryd.underlying39 rfl (by kernel_rfl) ?_) | ((with_reducible refine gate_callee (f := 8) rfl ?_); (try (refine gate_guard (by rfl) ?_; dsimp only)); refine goesL_ (some 7) rfl rfl Tryd.func8 (by kernel_rfl) rfl #[inV 0 0] rfl (by (try simp only [List.map_toArray, List.map_cons, List.map_nil]); first | done | rfl) ?_; with_reducible refine (next_box _).mono ?_; rintro e w1 ⟨rfl, c1⟩; refine ⟨_, rfl, ?_⟩; have nB0 := Lib.hid (c1.blk B0.out (by simp)); have nC := Lib.hid (C0.out.trans0 c1); clear B0 C0 c1; have B0 := nB0; clear nB0; have C0 := nC; clear nC))
  have l0 := B0.out.lt
  have B1 := Lib.hid (blk_new w1 (stC 4) 41)
  replace B0 := Lib.hid (B0.out.alloc (.cells (stC 4) 41))
  replace C0 := Lib.hid (C0.out.alloc (.cells (stC 4) 41))
  generalize w1.alloc (.cells (stC 4) 41) = wb at *
  generalize w1.heap.size = m at *
  have i11 := B0.out.cell 11
  have f11 := B0.out.frozen 11
  go_upto_region 4 with fail
  clear i11 f11
  replace B0 := Lib.hid (set11 B0.out)
  replace B1 := Lib.hid (B1.out.far (p := ⟨n, 11, none⟩) (by simp; omega) (.int .i64 1))
  replace C0 := Lib.hid (C0.out.setCell (p := ⟨n, 11, none⟩) (.inr (by have := hn.out; simp; omega)) (.int .i64 1))
  generalize wb.setCell ⟨n, 11, none⟩ (.int .i64 1) = wc at *
  go_upto_region 5 with (first | ((with_reducible refine gate_dst (N := 10) rfl ?_); (try (refine gate_guard (by rfl) ?_; dsimp only)); refine wpList_load_row rfl 39 _ rfl n rfl 39 (inC 1 0) (0, 0) _ B0.out Tryd.underlying39 rfl (by kernel_rfl) ?_) | ((with_reducible refine gate_callee (f := 8) rfl ?_); (try (refine gate_guard (by rfl) ?_; dsimp only)); refine goesL_ (some 11) rfl rfl Tryd.func8 (by kernel_rfl) rfl #[inV 1 0] rfl (by (try simp only [List.map_toArray, List.map_cons, List.map_nil]); first | done | rfl) ?_; with_reducible refine (next_gone _).mono ?_; rintro e w2 ⟨rfl, c1⟩; refine ⟨_, rfl, ?_⟩; have nB0 := Lib.hid (c1.blk B0.out (by simp)); have nB1 := Lib.hid (c1.blk B1.out (by simp)); have nC := Lib.hid (C0.out.trans0 c1); clear B0 B1 C0 c1; have B0 := nB0; clear nB0; have B1 := nB1; clear nB1; have C0 := nC; clear nC))
  have l1 := B1.out.lt
  have l2 := B0.out.lt
  have B2 := Lib.hid (blk_new w2 (stC 12) 41)
  replace B0 := Lib.hid (B0.out.alloc (.cells (stC 12) 41))
  replace B1 := Lib.hid (B1.out.alloc (.cells (stC 12) 41))
  replace C0 := Lib.hid (C0.out.alloc (.cells (stC 12) 41))
  generalize w2.alloc (.cells (stC 12) 41) = wd at *
  generalize w2.heap.size = q at *
  have i18 := B0.out.cell 18
  have f18 := B0.out.frozen 18
  go_upto_region 6 with fail
  clear i18 f18
  replace B0 := Lib.hid (set18 B0.out)
  replace B1 := Lib.hid (B1.out.far (p := ⟨n, 18, none⟩) (by simp; omega) (.int .i64 1))
  replace B2 := Lib.hid (B2.out.far (p := ⟨n, 18, none⟩) (by simp; omega) (.int .i64 1))
  replace C0 := Lib.hid (C0.out.setCell (p := ⟨n, 18, none⟩) (.inr (by have := hn.out; simp; omega)) (.int .i64 1))
  generalize wd.setCell ⟨n, 18, none⟩ (.int .i64 1) = we at *
  go_wp2_with (first | ((with_reducible refine gate_dst (N := 13) rfl ?_); (try (refine gate_guard (by rfl) ?_; dsimp only)); refine wpList_load_row rfl 41 _ rfl m rfl 41 (stC 4) (0, 0) _ B1.out Tryd.underlying41 rfl (by kernel_rfl) ?_) | ((with_reducible refine gate_dst (N := 17) rfl ?_); (try (refine gate_guard (by rfl) ?_; dsimp only)); refine wpList_load_row rfl 41 _ rfl q rfl 41 (stC 12) (0, 0) _ B2.out Tryd.underlying41 rfl (by kernel_rfl) ?_) | ((with_reducible refine gate_dst (N := 22) rfl ?_); (try (refine gate_guard (by rfl) ?_; dsimp only)); refine wpList_load_row rfl 39 _ rfl n rfl 39 (inC 1 1) (0, 0) _ B0.out Tryd.underlying39 rfl (by kernel_rfl) ?_) | ((with_reducible refine gate_callee (f := 8) rfl ?_); (try (refine gate_guard (by rfl) ?_; dsimp only)); refine goesL_ (some 23) rfl rfl Tryd.func8 (by kernel_rfl) rfl #[inV 1 1] rfl (by (try simp only [List.map_toArray, List.map_cons, List.map_nil]); first | done | rfl) ?_; with_reducible refine (next_retire _).mono ?_; rintro e w3 ⟨rfl, c1⟩; refine ⟨_, rfl, ?_⟩; have nB0 := Lib.hid (c1.blk B0.out (by simp)); have nC := Lib.hid (C0.out.trans0 c1); clear B0 C0 c1; have B0 := nB0; clear nB0; have C0 := nC; clear nC) | ((with_reducible refine gate_callee (f := 5) rfl ?_); (try (refine gate_guard (by rfl) ?_; dsimp only)); refine goesL_ (some 28) rfl rfl Tryd.func5 (by kernel_rfl) rfl #[.int .i64 12] rfl (by (try simp only [List.map_toArray, List.map_cons, List.map_nil]); first | done | rfl) ?_; with_reducible refine (name_any 12 _ (N1.out.ch C0.out)).mono ?_; rintro e w4 ⟨rfl, c1⟩; refine ⟨_, rfl, ?_⟩; have nB0 := Lib.hid (c1.blk B0.out (by simp)); have nC := Lib.hid (C0.out.trans0 c1); clear B0 C0 c1; have B0 := nB0; clear nB0; have C0 := nC; clear nC))
  have e : ((nameOf 12).toList == [103, 111, 110, 101]) = true := by kernel_rfl
  go_ret
  refine ⟨?_, C0.out⟩
  show Ending.returned (.bool ((nameOf 12).toList == [103, 111, 110, 101])) = _
  rw [e]
end Go.Proofs.YtgpoolcaooiemaaDoor.D
