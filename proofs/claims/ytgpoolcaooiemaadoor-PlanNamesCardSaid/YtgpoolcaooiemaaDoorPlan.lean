/- The walks of the law PlanNames: of plan.Next at the three inputs of 'works', of the names. -/
import Derived.Test.YtgpoolcaooiemaaDoorKit
import Derived.Laws.Rows
import Derived.Deep.LoopGhost
import Derived.Deep.DeepCutAuto
namespace Go.Proofs.YtgpoolcaooiemaaDoor.D
open Go Go.RowKit Go.Proofs.YtgpoolcaooiemaaDoor.K
set_option linter.unusedVariables false
set_option linter.unusedSimpArgs false
set_option maxRecDepth 100000
set_option maxHeartbeats 4000000
section
variable {P : Program}
theorem res_ct {fn : Func} {p u : Tmp} {ty : TypeId} (h : fn.results = #[.cell p ty, .tmp u]) (tmps : Array Value) (w : World) (g : Nat) (t : TypeId) (cs : Array Value) (d : TypeDesc)
    (hp : tmps.getD p undef = .pointer (some ⟨g, 0, none⟩)) (hg : Blk w g cs t)
    (hu : P.underlying ty = some d) (hd : (match d with | .struct _ | .array _ _ => true | _ => false) = true) (hi : (P.info? ty).map (·.size) = some cs.size) :
    (results fn tmps).run P w = .ok (.tuple #[.agg cs, tmps.getD u undef]) w := by
  have hp' : tmps[p]?.getD undef = .pointer (some ⟨g, 0, none⟩) := by simpa using hp
  simp [results, h, hp', asAddr, run_loadVar_row w g t ty cs (0, 0) d hg hu hd hi]
theorem res_c {fn : Func} {p : Tmp} {ty : TypeId} (h : fn.results = #[.cell p ty]) (tmps : Array Value) (w : World) (g : Nat) (t : TypeId) (cs : Array Value) (d : TypeDesc)
    (hp : tmps.getD p undef = .pointer (some ⟨g, 0, none⟩)) (hg : Blk w g cs t)
    (hu : P.underlying ty = some d) (hd : (match d with | .struct _ | .array _ _ => true | _ => false) = true) (hi : (P.info? ty).map (·.size) = some cs.size) :
    (results fn tmps).run P w = .ok (.agg cs) w := results_cell_row h tmps w g t cs (0, 0) d hp hg hu hd hi
end
abbrev inC (m h : Int) : Array Value := #[.int .i64 1, .int .u64 0, .string ⟨#[]⟩, .slice none 0 0, .slice none 0 0, .slice none 0 0, .int .i64 0, .int .i64 0, .int .i64 0, .int .i64 1, .slice none 0 0, .int .i64 m, .int .i64 0, .slice none 0 0, .slice none 0 0, .slice none 0 0, .slice none 0 0, .slice none 0 0, .int .i64 h]
abbrev inV (m h : Int) : Value := .agg #[.int .i64 1, .int .u64 0, .string ⟨#[]⟩, .slice none 0 0, .slice none 0 0, .slice none 0 0, .int .i64 0, .int .i64 0, .int .i64 0, .int .i64 1, .slice none 0 0, .int .i64 m, .int .i64 0, .slice none 0 0, .slice none 0 0, .slice none 0 0, .slice none 0 0, .slice none 0 0, .int .i64 h]
abbrev stC (k : Int) : Array Value := #[.int .i64 k, .int .i64 0, .int .i64 0, .int .i64 0, .int .i64 0, .int .i64 0, .string ⟨#[]⟩, .string ⟨#[]⟩]
abbrev stV (k : Int) : Value := .agg #[.int .i64 k, .int .i64 0, .int .i64 0, .int .i64 0, .int .i64 0, .int .i64 0, .string ⟨#[]⟩, .string ⟨#[]⟩]
theorem stCells {w : World} {b : Nat} {k : Int} (B : Blk w b (stC k) 41) : w.cell? ⟨b, 0, none⟩ = some (.int .i64 k) ∧ w.cell? ⟨b, 1, none⟩ = some (.int .i64 0) ∧ w.cell? ⟨b, 2, none⟩ = some (.int .i64 0) ∧ w.cell? ⟨b, 3, none⟩ = some (.int .i64 0) ∧ w.cell? ⟨b, 4, none⟩ = some (.int .i64 0) ∧ w.cell? ⟨b, 5, none⟩ = some (.int .i64 0) ∧ w.cell? ⟨b, 6, none⟩ = some (.string ⟨#[]⟩) ∧ w.cell? ⟨b, 7, none⟩ = some (.string ⟨#[]⟩) ∧ w.frozen? ⟨b, 0, none⟩ = false ∧ w.frozen? ⟨b, 1, none⟩ = false ∧ w.frozen? ⟨b, 2, none⟩ = false ∧ w.frozen? ⟨b, 3, none⟩ = false ∧ w.frozen? ⟨b, 4, none⟩ = false ∧ w.frozen? ⟨b, 5, none⟩ = false ∧ w.frozen? ⟨b, 6, none⟩ = false ∧ w.frozen? ⟨b, 7, none⟩ = false :=
  ⟨B.cell 0, B.cell 1, B.cell 2, B.cell 3, B.cell 4, B.cell 5, B.cell 6, B.cell 7, B.frozen 0, B.frozen 1, B.frozen 2, B.frozen 3, B.frozen 4, B.frozen 5, B.frozen 6, B.frozen 7⟩
theorem blk1 (w : World) (a : Obj) (cs : Array Value) (t : TypeId) : Blk ((w.alloc a).alloc (.cells cs t)) (w.heap.size + 1) cs t := by
  have h := blk_new (w.alloc a) cs t
  rwa [show (w.alloc a).heap.size = w.heap.size + 1 from Array.size_push _] at h
theorem inCells {w : World} {b : Nat} {m h : Int} (B : Blk w b (inC m h) 39) : w.cell? ⟨b, 0, none⟩ = some (.int .i64 1) ∧ w.cell? ⟨b, 1, none⟩ = some (.int .u64 0) ∧ w.cell? ⟨b, 2, none⟩ = some (.string ⟨#[]⟩) ∧ w.cell? ⟨b, 3, none⟩ = some (.slice none 0 0) ∧ w.cell? ⟨b, 4, none⟩ = some (.slice none 0 0) ∧ w.cell? ⟨b, 5, none⟩ = some (.slice none 0 0) ∧ w.cell? ⟨b, 6, none⟩ = some (.int .i64 0) ∧ w.cell? ⟨b, 7, none⟩ = some (.int .i64 0) ∧ w.cell? ⟨b, 8, none⟩ = some (.int .i64 0) ∧ w.cell? ⟨b, 9, none⟩ = some (.int .i64 1) ∧ w.cell? ⟨b, 10, none⟩ = some (.slice none 0 0) ∧ w.cell? ⟨b, 11, none⟩ = some (.int .i64 m) ∧ w.cell? ⟨b, 12, none⟩ = some (.int .i64 0) ∧ w.cell? ⟨b, 13, none⟩ = some (.slice none 0 0) ∧ w.cell? ⟨b, 14, none⟩ = some (.slice none 0 0) ∧ w.cell? ⟨b, 15, none⟩ = some (.slice none 0 0) ∧ w.cell? ⟨b, 16, none⟩ = some (.slice none 0 0) ∧ w.cell? ⟨b, 17, none⟩ = some (.slice none 0 0) ∧ w.cell? ⟨b, 18, none⟩ = some (.int .i64 h) :=
  ⟨B.cell 0, B.cell 1, B.cell 2, B.cell 3, B.cell 4, B.cell 5, B.cell 6, B.cell 7, B.cell 8, B.cell 9, B.cell 10, B.cell 11, B.cell 12, B.cell 13, B.cell 14, B.cell 15, B.cell 16, B.cell 17, B.cell 18⟩
theorem last_any (m h : Int) (w : World) : Calls Tryd.prog 17 #[inV m h] w fun e w' => e = .returned (.tuple #[.agg #[.int .i64 0, .int .i64 0, .int .i64 0, .slice none 0 0], .bool false]) ∧ Ch [] w w' := by
  have hu39 := Tryd.underlying39
  have hu46 := Tryd.underlying46
  go_enter Tryd.func17, Tryd.ntmps17
  go_wp2_with fail
  refine bodyPost_ret (res_ct (fn := Tryd.f17) rfl _ _ (w.heap.size + 1) 46 #[.int .i64 0, .int .i64 0, .int .i64 0, .slice none 0 0] _ ?hp ?hg Tryd.underlying46 rfl (by kernel_rfl)) rfl ?_
  case hp => rfl
  case hg => exact blk1 _ _ _ _
  · exact ⟨rfl, ((Ch.refl [] w).alloc _).alloc _⟩
theorem term_any (w : World) : Calls Tryd.prog 11 #[.int .i64 1] w fun e w' => e = .returned (.bool false) ∧ Ch [] w w' := by
  go_enter Tryd.func11, Tryd.ntmps11
  go_wp2_with fail
  go_ret
  exact ⟨rfl, Ch.refl [] w⟩
theorem done0 (m : Int) (w : World) : Calls Tryd.prog 9 #[inV m 0] w fun e w' => e = .returned (.bool false) ∧ Ch [] w w' := by
  have hu39 := Tryd.underlying39
  have hu35 := Tryd.underlying35
  go_enter Tryd.func9, Tryd.ntmps9
  go_wp2_with fail
  go_ret
  exact ⟨rfl, (Ch.refl [] w).alloc _⟩
theorem done1 (w : World) : Calls Tryd.prog 9 #[inV 1 1] w fun e w' => e = .returned (.bool true) ∧ Ch [] w w' := by
  have hu39 := Tryd.underlying39
  have hu35 := Tryd.underlying35
  go_enter Tryd.func9, Tryd.ntmps9
  go_wp2_with fail
  go_ret
  exact ⟨rfl, (Ch.refl [] w).alloc _⟩
theorem leaves_any (m h : Int) (w : World) : Calls Tryd.prog 10 #[inV m h] w fun e w' => e = .returned (stV 12) ∧ Ch [] w w' := by
  have hu39 := Tryd.underlying39
  have hu35 := Tryd.underlying35
  have hu41 := Tryd.underlying41
  go_enter Tryd.func10, Tryd.ntmps10
  go_wp2_with fail
  go_loopg [10] 0 (fun kq v10 wr => v10 = .int .i64 0 ∧ wr = (w.alloc (.cells (inC m h) 39)).alloc (.cells (stC 0) 41))
  case atStart => exact ⟨rfl, rfl⟩
  case round =>
    obtain ⟨rfl, rfl⟩ := hrel
    go_wp2_with fail
    refine bodyPost_ret (res_c (fn := Tryd.f10) rfl _ _ (w.heap.size + 1) 41 (stC 12) _ ?hp ?hg Tryd.underlying41 rfl (by kernel_rfl)) rfl ?_
    case hp => rfl
    case hg => exact blk1 _ _ _ _
    exact ⟨rfl, ((Ch.refl [] w).alloc _).alloc _⟩
end Go.Proofs.YtgpoolcaooiemaaDoor.D
