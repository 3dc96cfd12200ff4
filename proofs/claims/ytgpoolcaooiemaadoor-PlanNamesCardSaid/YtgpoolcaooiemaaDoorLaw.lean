/- The walk of the law PlanNames: the name of any kind, and which kinds act, are as the document has them. -/
import Derived.Test.YtgpoolcaooiemaaDoorWorks
import Derived.Test.YtgpoolcaooiemaaDoorWGuard
import Derived.Laws.Tables
namespace Go.Proofs.YtgpoolcaooiemaaDoor.D
open Go Go.RowKit Go.Proofs.YtgpoolcaooiemaaDoor.K Go.Proofs.YtgpoolcaooiemaaDoorW.PrintWords Go.Proofs.YtgpoolcaooiemaaDoorW.PrintLast Go.Proofs.YtgpoolcaooiemaaDoorW.PrintMore
set_option linter.unusedVariables false
set_option linter.unusedSimpArgs false
set_option maxRecDepth 100000
set_option maxHeartbeats 4000000
theorem at_0 (w : World) (N : Nm w) : Calls Tryd.prog 3 #[.int .i64 0] w fun e w' => e = .returned (.bool true) ∧ Ch [] w w' := by
  have N1 := Lib.hid N
  clear N
  have M5 : ∀ W, Nm W → Calls Tryd.prog 5 #[.int .i64 0] W fun e w' => e = .returned (.string ⟨#[110, 111, 110, 101]⟩) ∧ Ch [] W w' := fun W hW => by
    have h := name_any 0 W hW
    rwa [show nameOf 0 = ⟨#[110, 111, 110, 101]⟩ from rfl] at h
  have M6 : ∀ W, Calls Tryd.prog 6 #[.int .i64 0] W fun e w' => e = .returned (.bool false) ∧ Ch [] W w' := fun W => by
    have h := acts_any 0 W
    rwa [show (decide (2 ≤ (0 : Int)) && decide ((0 : Int) ≤ 12)) = false from by decide] at h
  replace M5 := Lib.hid M5
  replace M6 := Lib.hid M6
  go_enter Tryd.func3, Tryd.ntmps3
  go_wp2_with (first | ((with_reducible refine gate_callee (f := 4) rfl ?_); refine goesL_ (some 5) rfl rfl Tryd.func4 (by kernel_rfl) rfl #[] rfl (by first | rfl | simp) ?_; with_reducible refine (names_any _).mono ?_; rintro e w1 ⟨b, rfl, c1, X, hb⟩; refine ⟨_, rfl, ?_⟩; have X0 := Lib.hid X; have C0 := Lib.hid c1; have N0 := Lib.hid (N1.out.ch c1); clear c1 X hb; have i0 := X0.out.cell 0) | ((with_reducible refine gate_callee (f := 5) rfl ?_); (try (refine gate_guard (by rfl) ?_; dsimp only)); refine goesL_ (some 19) rfl rfl Tryd.func5 (by kernel_rfl) rfl #[.int .i64 0] rfl (by (try simp only [List.map_toArray, List.map_cons, List.map_nil]); first | done | rfl | simp) ?_; with_reducible refine (M5.out _ N0.out).mono ?_; rintro e w1 ⟨rfl, c1⟩; refine ⟨_, rfl, ?_⟩; have nC := Lib.hid (C0.out.trans0 c1); have nN := Lib.hid (N0.out.ch c1); clear C0 N0 c1; have C0 := nC; have N0 := nN; clear nC nN) | ((with_reducible refine gate_callee (f := 6) rfl ?_); (try (refine gate_guard (by rfl) ?_; dsimp only)); refine goesL_ (some 24) rfl rfl Tryd.func6 (by kernel_rfl) rfl #[.int .i64 0] rfl (by (try simp only [List.map_toArray, List.map_cons, List.map_nil]); first | done | rfl | simp) ?_; with_reducible refine (M6.out _).mono ?_; rintro e w1 ⟨rfl, c1⟩; refine ⟨_, rfl, ?_⟩; have nC := Lib.hid (C0.out.trans0 c1); have nN := Lib.hid (N0.out.ch c1); clear C0 N0 c1; have C0 := nC; have N0 := nN; clear nC nN) | ((with_reducible refine gate_callee (f := 7) rfl ?_); (try (refine gate_guard (by rfl) ?_; dsimp only)); refine goesL_ (some 34) rfl rfl Tryd.func7 (by kernel_rfl) rfl #[] rfl (by (try simp only [List.map_toArray, List.map_cons, List.map_nil]); first | done | rfl | simp) ?_; with_reducible refine (works_any _ N0.out).mono ?_; rintro e w1 ⟨rfl, c1⟩; refine ⟨_, rfl, ?_⟩; have nC := Lib.hid (C0.out.trans0 c1); have nN := Lib.hid (N0.out.ch c1); clear C0 N0 c1; have C0 := nC; have N0 := nN; clear nC nN))
  go_ret
  exact ⟨rfl, C0.out⟩
theorem at_1 (w : World) (N : Nm w) : Calls Tryd.prog 3 #[.int .i64 1] w fun e w' => e = .returned (.bool true) ∧ Ch [] w w' := by
  have N1 := Lib.hid N
  clear N
  have M5 : ∀ W, Nm W → Calls Tryd.prog 5 #[.int .i64 1] W fun e w' => e = .returned (.string ⟨#[119, 97, 105, 116]⟩) ∧ Ch [] W w' := fun W hW => by
    have h := name_any 1 W hW
    rwa [show nameOf 1 = ⟨#[119, 97, 105, 116]⟩ from rfl] at h
  have M6 : ∀ W, Calls Tryd.prog 6 #[.int .i64 1] W fun e w' => e = .returned (.bool false) ∧ Ch [] W w' := fun W => by
    have h := acts_any 1 W
    rwa [show (decide (2 ≤ (1 : Int)) && decide ((1 : Int) ≤ 12)) = false from by decide] at h
  replace M5 := Lib.hid M5
  replace M6 := Lib.hid M6
  go_enter Tryd.func3, Tryd.ntmps3
  go_wp2_with (first | ((with_reducible refine gate_callee (f := 4) rfl ?_); refine goesL_ (some 5) rfl rfl Tryd.func4 (by kernel_rfl) rfl #[] rfl (by first | rfl | simp) ?_; with_reducible refine (names_any _).mono ?_; rintro e w1 ⟨b, rfl, c1, X, hb⟩; refine ⟨_, rfl, ?_⟩; have X0 := Lib.hid X; have C0 := Lib.hid c1; have N0 := Lib.hid (N1.out.ch c1); clear c1 X hb; have i1 := X0.out.cell 1) | ((with_reducible refine gate_callee (f := 5) rfl ?_); (try (refine gate_guard (by rfl) ?_; dsimp only)); refine goesL_ (some 19) rfl rfl Tryd.func5 (by kernel_rfl) rfl #[.int .i64 1] rfl (by (try simp only [List.map_toArray, List.map_cons, List.map_nil]); first | done | rfl | simp) ?_; with_reducible refine (M5.out _ N0.out).mono ?_; rintro e w1 ⟨rfl, c1⟩; refine ⟨_, rfl, ?_⟩; have nC := Lib.hid (C0.out.trans0 c1); have nN := Lib.hid (N0.out.ch c1); clear C0 N0 c1; have C0 := nC; have N0 := nN; clear nC nN) | ((with_reducible refine gate_callee (f := 6) rfl ?_); (try (refine gate_guard (by rfl) ?_; dsimp only)); refine goesL_ (some 24) rfl rfl Tryd.func6 (by kernel_rfl) rfl #[.int .i64 1] rfl (by (try simp only [List.map_toArray, List.map_cons, List.map_nil]); first | done | rfl | simp) ?_; with_reducible refine (M6.out _).mono ?_; rintro e w1 ⟨rfl, c1⟩; refine ⟨_, rfl, ?_⟩; have nC := Lib.hid (C0.out.trans0 c1); have nN := Lib.hid (N0.out.ch c1); clear C0 N0 c1; have C0 := nC; have N0 := nN; clear nC nN) | ((with_reducible refine gate_callee (f := 7) rfl ?_); (try (refine gate_guard (by rfl) ?_; dsimp only)); refine goesL_ (some 34) rfl rfl Tryd.func7 (by kernel_rfl) rfl #[] rfl (by (try simp only [List.map_toArray, List.map_cons, List.map_nil]); first | done | rfl | simp) ?_; with_reducible refine (works_any _ N0.out).mono ?_; rintro e w1 ⟨rfl, c1⟩; refine ⟨_, rfl, ?_⟩; have nC := Lib.hid (C0.out.trans0 c1); have nN := Lib.hid (N0.out.ch c1); clear C0 N0 c1; have C0 := nC; have N0 := nN; clear nC nN))
  go_ret
  exact ⟨rfl, C0.out⟩
theorem at_2 (w : World) (N : Nm w) : Calls Tryd.prog 3 #[.int .i64 2] w fun e w' => e = .returned (.bool true) ∧ Ch [] w w' := by
  have N1 := Lib.hid N
  clear N
  have M5 : ∀ W, Nm W → Calls Tryd.prog 5 #[.int .i64 2] W fun e w' => e = .returned (.string ⟨#[114, 101, 116, 105, 114, 101]⟩) ∧ Ch [] W w' := fun W hW => by
    have h := name_any 2 W hW
    rwa [show nameOf 2 = ⟨#[114, 101, 116, 105, 114, 101]⟩ from rfl] at h
  have M6 : ∀ W, Calls Tryd.prog 6 #[.int .i64 2] W fun e w' => e = .returned (.bool true) ∧ Ch [] W w' := fun W => by
    have h := acts_any 2 W
    rwa [show (decide (2 ≤ (2 : Int)) && decide ((2 : Int) ≤ 12)) = true from by decide] at h
  replace M5 := Lib.hid M5
  replace M6 := Lib.hid M6
  go_enter Tryd.func3, Tryd.ntmps3
  go_wp2_with (first | ((with_reducible refine gate_callee (f := 4) rfl ?_); refine goesL_ (some 5) rfl rfl Tryd.func4 (by kernel_rfl) rfl #[] rfl (by first | rfl | simp) ?_; with_reducible refine (names_any _).mono ?_; rintro e w1 ⟨b, rfl, c1, X, hb⟩; refine ⟨_, rfl, ?_⟩; have X0 := Lib.hid X; have C0 := Lib.hid c1; have N0 := Lib.hid (N1.out.ch c1); clear c1 X hb; have i2 := X0.out.cell 2) | ((with_reducible refine gate_callee (f := 5) rfl ?_); (try (refine gate_guard (by rfl) ?_; dsimp only)); refine goesL_ (some 19) rfl rfl Tryd.func5 (by kernel_rfl) rfl #[.int .i64 2] rfl (by (try simp only [List.map_toArray, List.map_cons, List.map_nil]); first | done | rfl | simp) ?_; with_reducible refine (M5.out _ N0.out).mono ?_; rintro e w1 ⟨rfl, c1⟩; refine ⟨_, rfl, ?_⟩; have nC := Lib.hid (C0.out.trans0 c1); have nN := Lib.hid (N0.out.ch c1); clear C0 N0 c1; have C0 := nC; have N0 := nN; clear nC nN) | ((with_reducible refine gate_callee (f := 6) rfl ?_); (try (refine gate_guard (by rfl) ?_; dsimp only)); refine goesL_ (some 24) rfl rfl Tryd.func6 (by kernel_rfl) rfl #[.int .i64 2] rfl (by (try simp only [List.map_toArray, List.map_cons, List.map_nil]); first | done | rfl | simp) ?_; with_reducible refine (M6.out _).mono ?_; rintro e w1 ⟨rfl, c1⟩; refine ⟨_, rfl, ?_⟩; have nC := Lib.hid (C0.out.trans0 c1); have nN := Lib.hid (N0.out.ch c1); clear C0 N0 c1; have C0 := nC; have N0 := nN; clear nC nN) | ((with_reducible refine gate_callee (f := 7) rfl ?_); (try (refine gate_guard (by rfl) ?_; dsimp only)); refine goesL_ (some 34) rfl rfl Tryd.func7 (by kernel_rfl) rfl #[] rfl (by (try simp only [List.map_toArray, List.map_cons, List.map_nil]); first | done | rfl | simp) ?_; with_reducible refine (works_any _ N0.out).mono ?_; rintro e w1 ⟨rfl, c1⟩; refine ⟨_, rfl, ?_⟩; have nC := Lib.hid (C0.out.trans0 c1); have nN := Lib.hid (N0.out.ch c1); clear C0 N0 c1; have C0 := nC; have N0 := nN; clear nC nN))
  go_ret
  exact ⟨rfl, C0.out⟩
theorem at_3 (w : World) (N : Nm w) : Calls Tryd.prog 3 #[.int .i64 3] w fun e w' => e = .returned (.bool true) ∧ Ch [] w w' := by
  have N1 := Lib.hid N
  clear N
  have M5 : ∀ W, Nm W → Calls Tryd.prog 5 #[.int .i64 3] W fun e w' => e = .returned (.string ⟨#[112, 104, 97, 115, 101]⟩) ∧ Ch [] W w' := fun W hW => by
    have h := name_any 3 W hW
    rwa [show nameOf 3 = ⟨#[112, 104, 97, 115, 101]⟩ from rfl] at h
  have M6 : ∀ W, Calls Tryd.prog 6 #[.int .i64 3] W fun e w' => e = .returned (.bool true) ∧ Ch [] W w' := fun W => by
    have h := acts_any 3 W
    rwa [show (decide (2 ≤ (3 : Int)) && decide ((3 : Int) ≤ 12)) = true from by decide] at h
  replace M5 := Lib.hid M5
  replace M6 := Lib.hid M6
  go_enter Tryd.func3, Tryd.ntmps3
  go_wp2_with (first | ((with_reducible refine gate_callee (f := 4) rfl ?_); refine goesL_ (some 5) rfl rfl Tryd.func4 (by kernel_rfl) rfl #[] rfl (by first | rfl | simp) ?_; with_reducible refine (names_any _).mono ?_; rintro e w1 ⟨b, rfl, c1, X, hb⟩; refine ⟨_, rfl, ?_⟩; have X0 := Lib.hid X; have C0 := Lib.hid c1; have N0 := Lib.hid (N1.out.ch c1); clear c1 X hb; have i3 := X0.out.cell 3) | ((with_reducible refine gate_callee (f := 5) rfl ?_); (try (refine gate_guard (by rfl) ?_; dsimp only)); refine goesL_ (some 19) rfl rfl Tryd.func5 (by kernel_rfl) rfl #[.int .i64 3] rfl (by (try simp only [List.map_toArray, List.map_cons, List.map_nil]); first | done | rfl | simp) ?_; with_reducible refine (M5.out _ N0.out).mono ?_; rintro e w1 ⟨rfl, c1⟩; refine ⟨_, rfl, ?_⟩; have nC := Lib.hid (C0.out.trans0 c1); have nN := Lib.hid (N0.out.ch c1); clear C0 N0 c1; have C0 := nC; have N0 := nN; clear nC nN) | ((with_reducible refine gate_callee (f := 6) rfl ?_); (try (refine gate_guard (by rfl) ?_; dsimp only)); refine goesL_ (some 24) rfl rfl Tryd.func6 (by kernel_rfl) rfl #[.int .i64 3] rfl (by (try simp only [List.map_toArray, List.map_cons, List.map_nil]); first | done | rfl | simp) ?_; with_reducible refine (M6.out _).mono ?_; rintro e w1 ⟨rfl, c1⟩; refine ⟨_, rfl, ?_⟩; have nC := Lib.hid (C0.out.trans0 c1); have nN := Lib.hid (N0.out.ch c1); clear C0 N0 c1; have C0 := nC; have N0 := nN; clear nC nN) | ((with_reducible refine gate_callee (f := 7) rfl ?_); (try (refine gate_guard (by rfl) ?_; dsimp only)); refine goesL_ (some 34) rfl rfl Tryd.func7 (by kernel_rfl) rfl #[] rfl (by (try simp only [List.map_toArray, List.map_cons, List.map_nil]); first | done | rfl | simp) ?_; with_reducible refine (works_any _ N0.out).mono ?_; rintro e w1 ⟨rfl, c1⟩; refine ⟨_, rfl, ?_⟩; have nC := Lib.hid (C0.out.trans0 c1); have nN := Lib.hid (N0.out.ch c1); clear C0 N0 c1; have C0 := nC; have N0 := nN; clear nC nN))
  go_ret
  exact ⟨rfl, C0.out⟩
theorem at_4 (w : World) (N : Nm w) : Calls Tryd.prog 3 #[.int .i64 4] w fun e w' => e = .returned (.bool true) ∧ Ch [] w w' := by
  have N1 := Lib.hid N
  clear N
  have M5 : ∀ W, Nm W → Calls Tryd.prog 5 #[.int .i64 4] W fun e w' => e = .returned (.string ⟨#[98, 111, 120]⟩) ∧ Ch [] W w' := fun W hW => by
    have h := name_any 4 W hW
    rwa [show nameOf 4 = ⟨#[98, 111, 120]⟩ from rfl] at h
  have M6 : ∀ W, Calls Tryd.prog 6 #[.int .i64 4] W fun e w' => e = .returned (.bool true) ∧ Ch [] W w' := fun W => by
    have h := acts_any 4 W
    rwa [show (decide (2 ≤ (4 : Int)) && decide ((4 : Int) ≤ 12)) = true from by decide] at h
  replace M5 := Lib.hid M5
  replace M6 := Lib.hid M6
  go_enter Tryd.func3, Tryd.ntmps3
  go_wp2_with (first | ((with_reducible refine gate_callee (f := 4) rfl ?_); refine goesL_ (some 5) rfl rfl Tryd.func4 (by kernel_rfl) rfl #[] rfl (by first | rfl | simp) ?_; with_reducible refine (names_any _).mono ?_; rintro e w1 ⟨b, rfl, c1, X, hb⟩; refine ⟨_, rfl, ?_⟩; have X0 := Lib.hid X; have C0 := Lib.hid c1; have N0 := Lib.hid (N1.out.ch c1); clear c1 X hb; have i4 := X0.out.cell 4) | ((with_reducible refine gate_callee (f := 5) rfl ?_); (try (refine gate_guard (by rfl) ?_; dsimp only)); refine goesL_ (some 19) rfl rfl Tryd.func5 (by kernel_rfl) rfl #[.int .i64 4] rfl (by (try simp only [List.map_toArray, List.map_cons, List.map_nil]); first | done | rfl | simp) ?_; with_reducible refine (M5.out _ N0.out).mono ?_; rintro e w1 ⟨rfl, c1⟩; refine ⟨_, rfl, ?_⟩; have nC := Lib.hid (C0.out.trans0 c1); have nN := Lib.hid (N0.out.ch c1); clear C0 N0 c1; have C0 := nC; have N0 := nN; clear nC nN) | ((with_reducible refine gate_callee (f := 6) rfl ?_); (try (refine gate_guard (by rfl) ?_; dsimp only)); refine goesL_ (some 24) rfl rfl Tryd.func6 (by kernel_rfl) rfl #[.int .i64 4] rfl (by (try simp only [List.map_toArray, List.map_cons, List.map_nil]); first | done | rfl | simp) ?_; with_reducible refine (M6.out _).mono ?_; rintro e w1 ⟨rfl, c1⟩; refine ⟨_, rfl, ?_⟩; have nC := Lib.hid (C0.out.trans0 c1); have nN := Lib.hid (N0.out.ch c1); clear C0 N0 c1; have C0 := nC; have N0 := nN; clear nC nN) | ((with_reducible refine gate_callee (f := 7) rfl ?_); (try (refine gate_guard (by rfl) ?_; dsimp only)); refine goesL_ (some 34) rfl rfl Tryd.func7 (by kernel_rfl) rfl #[] rfl (by (try simp only [List.map_toArray, List.map_cons, List.map_nil]); first | done | rfl | simp) ?_; with_reducible refine (works_any _ N0.out).mono ?_; rintro e w1 ⟨rfl, c1⟩; refine ⟨_, rfl, ?_⟩; have nC := Lib.hid (C0.out.trans0 c1); have nN := Lib.hid (N0.out.ch c1); clear C0 N0 c1; have C0 := nC; have N0 := nN; clear nC nN))
  go_ret
  exact ⟨rfl, C0.out⟩
theorem at_5 (w : World) (N : Nm w) : Calls Tryd.prog 3 #[.int .i64 5] w fun e w' => e = .returned (.bool true) ∧ Ch [] w w' := by
  have N1 := Lib.hid N
  clear N
  have M5 : ∀ W, Nm W → Calls Tryd.prog 5 #[.int .i64 5] W fun e w' => e = .returned (.string ⟨#[112, 117, 108, 108]⟩) ∧ Ch [] W w' := fun W hW => by
    have h := name_any 5 W hW
    rwa [show nameOf 5 = ⟨#[112, 117, 108, 108]⟩ from rfl] at h
  have M6 : ∀ W, Calls Tryd.prog 6 #[.int .i64 5] W fun e w' => e = .returned (.bool true) ∧ Ch [] W w' := fun W => by
    have h := acts_any 5 W
    rwa [show (decide (2 ≤ (5 : Int)) && decide ((5 : Int) ≤ 12)) = true from by decide] at h
  replace M5 := Lib.hid M5
  replace M6 := Lib.hid M6
  go_enter Tryd.func3, Tryd.ntmps3
  go_wp2_with (first | ((with_reducible refine gate_callee (f := 4) rfl ?_); refine goesL_ (some 5) rfl rfl Tryd.func4 (by kernel_rfl) rfl #[] rfl (by first | rfl | simp) ?_; with_reducible refine (names_any _).mono ?_; rintro e w1 ⟨b, rfl, c1, X, hb⟩; refine ⟨_, rfl, ?_⟩; have X0 := Lib.hid X; have C0 := Lib.hid c1; have N0 := Lib.hid (N1.out.ch c1); clear c1 X hb; have i5 := X0.out.cell 5) | ((with_reducible refine gate_callee (f := 5) rfl ?_); (try (refine gate_guard (by rfl) ?_; dsimp only)); refine goesL_ (some 19) rfl rfl Tryd.func5 (by kernel_rfl) rfl #[.int .i64 5] rfl (by (try simp only [List.map_toArray, List.map_cons, List.map_nil]); first | done | rfl | simp) ?_; with_reducible refine (M5.out _ N0.out).mono ?_; rintro e w1 ⟨rfl, c1⟩; refine ⟨_, rfl, ?_⟩; have nC := Lib.hid (C0.out.trans0 c1); have nN := Lib.hid (N0.out.ch c1); clear C0 N0 c1; have C0 := nC; have N0 := nN; clear nC nN) | ((with_reducible refine gate_callee (f := 6) rfl ?_); (try (refine gate_guard (by rfl) ?_; dsimp only)); refine goesL_ (some 24) rfl rfl Tryd.func6 (by kernel_rfl) rfl #[.int .i64 5] rfl (by (try simp only [List.map_toArray, List.map_cons, List.map_nil]); first | done | rfl | simp) ?_; with_reducible refine (M6.out _).mono ?_; rintro e w1 ⟨rfl, c1⟩; refine ⟨_, rfl, ?_⟩; have nC := Lib.hid (C0.out.trans0 c1); have nN := Lib.hid (N0.out.ch c1); clear C0 N0 c1; have C0 := nC; have N0 := nN; clear nC nN) | ((with_reducible refine gate_callee (f := 7) rfl ?_); (try (refine gate_guard (by rfl) ?_; dsimp only)); refine goesL_ (some 34) rfl rfl Tryd.func7 (by kernel_rfl) rfl #[] rfl (by (try simp only [List.map_toArray, List.map_cons, List.map_nil]); first | done | rfl | simp) ?_; with_reducible refine (works_any _ N0.out).mono ?_; rintro e w1 ⟨rfl, c1⟩; refine ⟨_, rfl, ?_⟩; have nC := Lib.hid (C0.out.trans0 c1); have nN := Lib.hid (N0.out.ch c1); clear C0 N0 c1; have C0 := nC; have N0 := nN; clear nC nN))
  go_ret
  exact ⟨rfl, C0.out⟩
theorem at_6 (w : World) (N : Nm w) : Calls Tryd.prog 3 #[.int .i64 6] w fun e w' => e = .returned (.bool true) ∧ Ch [] w w' := by
  have N1 := Lib.hid N
  clear N
  have M5 : ∀ W, Nm W → Calls Tryd.prog 5 #[.int .i64 6] W fun e w' => e = .returned (.string ⟨#[109, 97, 107, 101]⟩) ∧ Ch [] W w' := fun W hW => by
    have h := name_any 6 W hW
    rwa [show nameOf 6 = ⟨#[109, 97, 107, 101]⟩ from rfl] at h
  have M6 : ∀ W, Calls Tryd.prog 6 #[.int .i64 6] W fun e w' => e = .returned (.bool true) ∧ Ch [] W w' := fun W => by
    have h := acts_any 6 W
    rwa [show (decide (2 ≤ (6 : Int)) && decide ((6 : Int) ≤ 12)) = true from by decide] at h
  replace M5 := Lib.hid M5
  replace M6 := Lib.hid M6
  go_enter Tryd.func3, Tryd.ntmps3
  go_wp2_with (first | ((with_reducible refine gate_callee (f := 4) rfl ?_); refine goesL_ (some 5) rfl rfl Tryd.func4 (by kernel_rfl) rfl #[] rfl (by first | rfl | simp) ?_; with_reducible refine (names_any _).mono ?_; rintro e w1 ⟨b, rfl, c1, X, hb⟩; refine ⟨_, rfl, ?_⟩; have X0 := Lib.hid X; have C0 := Lib.hid c1; have N0 := Lib.hid (N1.out.ch c1); clear c1 X hb; have i6 := X0.out.cell 6) | ((with_reducible refine gate_callee (f := 5) rfl ?_); (try (refine gate_guard (by rfl) ?_; dsimp only)); refine goesL_ (some 19) rfl rfl Tryd.func5 (by kernel_rfl) rfl #[.int .i64 6] rfl (by (try simp only [List.map_toArray, List.map_cons, List.map_nil]); first | done | rfl | simp) ?_; with_reducible refine (M5.out _ N0.out).mono ?_; rintro e w1 ⟨rfl, c1⟩; refine ⟨_, rfl, ?_⟩; have nC := Lib.hid (C0.out.trans0 c1); have nN := Lib.hid (N0.out.ch c1); clear C0 N0 c1; have C0 := nC; have N0 := nN; clear nC nN) | ((with_reducible refine gate_callee (f := 6) rfl ?_); (try (refine gate_guard (by rfl) ?_; dsimp only)); refine goesL_ (some 24) rfl rfl Tryd.func6 (by kernel_rfl) rfl #[.int .i64 6] rfl (by (try simp only [List.map_toArray, List.map_cons, List.map_nil]); first | done | rfl | simp) ?_; with_reducible refine (M6.out _).mono ?_; rintro e w1 ⟨rfl, c1⟩; refine ⟨_, rfl, ?_⟩; have nC := Lib.hid (C0.out.trans0 c1); have nN := Lib.hid (N0.out.ch c1); clear C0 N0 c1; have C0 := nC; have N0 := nN; clear nC nN) | ((with_reducible refine gate_callee (f := 7) rfl ?_); (try (refine gate_guard (by rfl) ?_; dsimp only)); refine goesL_ (some 34) rfl rfl Tryd.func7 (by kernel_rfl) rfl #[] rfl (by (try simp only [List.map_toArray, List.map_cons, List.map_nil]); first | done | rfl | simp) ?_; with_reducible refine (works_any _ N0.out).mono ?_; rintro e w1 ⟨rfl, c1⟩; refine ⟨_, rfl, ?_⟩; have nC := Lib.hid (C0.out.trans0 c1); have nN := Lib.hid (N0.out.ch c1); clear C0 N0 c1; have C0 := nC; have N0 := nN; clear nC nN))
  go_ret
  exact ⟨rfl, C0.out⟩
theorem at_7 (w : World) (N : Nm w) : Calls Tryd.prog 3 #[.int .i64 7] w fun e w' => e = .returned (.bool true) ∧ Ch [] w w' := by
  have N1 := Lib.hid N
  clear N
  have M5 : ∀ W, Nm W → Calls Tryd.prog 5 #[.int .i64 7] W fun e w' => e = .returned (.string ⟨#[115, 116, 97, 114, 116]⟩) ∧ Ch [] W w' := fun W hW => by
    have h := name_any 7 W hW
    rwa [show nameOf 7 = ⟨#[115, 116, 97, 114, 116]⟩ from rfl] at h
  have M6 : ∀ W, Calls Tryd.prog 6 #[.int .i64 7] W fun e w' => e = .returned (.bool true) ∧ Ch [] W w' := fun W => by
    have h := acts_any 7 W
    rwa [show (decide (2 ≤ (7 : Int)) && decide ((7 : Int) ≤ 12)) = true from by decide] at h
  replace M5 := Lib.hid M5
  replace M6 := Lib.hid M6
  go_enter Tryd.func3, Tryd.ntmps3
  go_wp2_with (first | ((with_reducible refine gate_callee (f := 4) rfl ?_); refine goesL_ (some 5) rfl rfl Tryd.func4 (by kernel_rfl) rfl #[] rfl (by first | rfl | simp) ?_; with_reducible refine (names_any _).mono ?_; rintro e w1 ⟨b, rfl, c1, X, hb⟩; refine ⟨_, rfl, ?_⟩; have X0 := Lib.hid X; have C0 := Lib.hid c1; have N0 := Lib.hid (N1.out.ch c1); clear c1 X hb; have i7 := X0.out.cell 7) | ((with_reducible refine gate_callee (f := 5) rfl ?_); (try (refine gate_guard (by rfl) ?_; dsimp only)); refine goesL_ (some 19) rfl rfl Tryd.func5 (by kernel_rfl) rfl #[.int .i64 7] rfl (by (try simp only [List.map_toArray, List.map_cons, List.map_nil]); first | done | rfl | simp) ?_; with_reducible refine (M5.out _ N0.out).mono ?_; rintro e w1 ⟨rfl, c1⟩; refine ⟨_, rfl, ?_⟩; have nC := Lib.hid (C0.out.trans0 c1); have nN := Lib.hid (N0.out.ch c1); clear C0 N0 c1; have C0 := nC; have N0 := nN; clear nC nN) | ((with_reducible refine gate_callee (f := 6) rfl ?_); (try (refine gate_guard (by rfl) ?_; dsimp only)); refine goesL_ (some 24) rfl rfl Tryd.func6 (by kernel_rfl) rfl #[.int .i64 7] rfl (by (try simp only [List.map_toArray, List.map_cons, List.map_nil]); first | done | rfl | simp) ?_; with_reducible refine (M6.out _).mono ?_; rintro e w1 ⟨rfl, c1⟩; refine ⟨_, rfl, ?_⟩; have nC := Lib.hid (C0.out.trans0 c1); have nN := Lib.hid (N0.out.ch c1); clear C0 N0 c1; have C0 := nC; have N0 := nN; clear nC nN) | ((with_reducible refine gate_callee (f := 7) rfl ?_); (try (refine gate_guard (by rfl) ?_; dsimp only)); refine goesL_ (some 34) rfl rfl Tryd.func7 (by kernel_rfl) rfl #[] rfl (by (try simp only [List.map_toArray, List.map_cons, List.map_nil]); first | done | rfl | simp) ?_; with_reducible refine (works_any _ N0.out).mono ?_; rintro e w1 ⟨rfl, c1⟩; refine ⟨_, rfl, ?_⟩; have nC := Lib.hid (C0.out.trans0 c1); have nN := Lib.hid (N0.out.ch c1); clear C0 N0 c1; have C0 := nC; have N0 := nN; clear nC nN))
  go_ret
  exact ⟨rfl, C0.out⟩
theorem at_8 (w : World) (N : Nm w) : Calls Tryd.prog 3 #[.int .i64 8] w fun e w' => e = .returned (.bool true) ∧ Ch [] w w' := by
  have N1 := Lib.hid N
  clear N
  have M5 : ∀ W, Nm W → Calls Tryd.prog 5 #[.int .i64 8] W fun e w' => e = .returned (.string ⟨#[115, 116, 111, 112]⟩) ∧ Ch [] W w' := fun W hW => by
    have h := name_any 8 W hW
    rwa [show nameOf 8 = ⟨#[115, 116, 111, 112]⟩ from rfl] at h
  have M6 : ∀ W, Calls Tryd.prog 6 #[.int .i64 8] W fun e w' => e = .returned (.bool true) ∧ Ch [] W w' := fun W => by
    have h := acts_any 8 W
    rwa [show (decide (2 ≤ (8 : Int)) && decide ((8 : Int) ≤ 12)) = true from by decide] at h
  replace M5 := Lib.hid M5
  replace M6 := Lib.hid M6
  go_enter Tryd.func3, Tryd.ntmps3
  go_wp2_with (first | ((with_reducible refine gate_callee (f := 4) rfl ?_); refine goesL_ (some 5) rfl rfl Tryd.func4 (by kernel_rfl) rfl #[] rfl (by first | rfl | simp) ?_; with_reducible refine (names_any _).mono ?_; rintro e w1 ⟨b, rfl, c1, X, hb⟩; refine ⟨_, rfl, ?_⟩; have X0 := Lib.hid X; have C0 := Lib.hid c1; have N0 := Lib.hid (N1.out.ch c1); clear c1 X hb; have i8 := X0.out.cell 8) | ((with_reducible refine gate_callee (f := 5) rfl ?_); (try (refine gate_guard (by rfl) ?_; dsimp only)); refine goesL_ (some 19) rfl rfl Tryd.func5 (by kernel_rfl) rfl #[.int .i64 8] rfl (by (try simp only [List.map_toArray, List.map_cons, List.map_nil]); first | done | rfl | simp) ?_; with_reducible refine (M5.out _ N0.out).mono ?_; rintro e w1 ⟨rfl, c1⟩; refine ⟨_, rfl, ?_⟩; have nC := Lib.hid (C0.out.trans0 c1); have nN := Lib.hid (N0.out.ch c1); clear C0 N0 c1; have C0 := nC; have N0 := nN; clear nC nN) | ((with_reducible refine gate_callee (f := 6) rfl ?_); (try (refine gate_guard (by rfl) ?_; dsimp only)); refine goesL_ (some 24) rfl rfl Tryd.func6 (by kernel_rfl) rfl #[.int .i64 8] rfl (by (try simp only [List.map_toArray, List.map_cons, List.map_nil]); first | done | rfl | simp) ?_; with_reducible refine (M6.out _).mono ?_; rintro e w1 ⟨rfl, c1⟩; refine ⟨_, rfl, ?_⟩; have nC := Lib.hid (C0.out.trans0 c1); have nN := Lib.hid (N0.out.ch c1); clear C0 N0 c1; have C0 := nC; have N0 := nN; clear nC nN) | ((with_reducible refine gate_callee (f := 7) rfl ?_); (try (refine gate_guard (by rfl) ?_; dsimp only)); refine goesL_ (some 34) rfl rfl Tryd.func7 (by kernel_rfl) rfl #[] rfl (by (try simp only [List.map_toArray, List.map_cons, List.map_nil]); first | done | rfl | simp) ?_; with_reducible refine (works_any _ N0.out).mono ?_; rintro e w1 ⟨rfl, c1⟩; refine ⟨_, rfl, ?_⟩; have nC := Lib.hid (C0.out.trans0 c1); have nN := Lib.hid (N0.out.ch c1); clear C0 N0 c1; have C0 := nC; have N0 := nN; clear nC nN))
  go_ret
  exact ⟨rfl, C0.out⟩
theorem at_9 (w : World) (N : Nm w) : Calls Tryd.prog 3 #[.int .i64 9] w fun e w' => e = .returned (.bool true) ∧ Ch [] w w' := by
  have N1 := Lib.hid N
  clear N
  have M5 : ∀ W, Nm W → Calls Tryd.prog 5 #[.int .i64 9] W fun e w' => e = .returned (.string ⟨#[97, 103, 97, 105, 110]⟩) ∧ Ch [] W w' := fun W hW => by
    have h := name_any 9 W hW
    rwa [show nameOf 9 = ⟨#[97, 103, 97, 105, 110]⟩ from rfl] at h
  have M6 : ∀ W, Calls Tryd.prog 6 #[.int .i64 9] W fun e w' => e = .returned (.bool true) ∧ Ch [] W w' := fun W => by
    have h := acts_any 9 W
    rwa [show (decide (2 ≤ (9 : Int)) && decide ((9 : Int) ≤ 12)) = true from by decide] at h
  replace M5 := Lib.hid M5
  replace M6 := Lib.hid M6
  go_enter Tryd.func3, Tryd.ntmps3
  go_wp2_with (first | ((with_reducible refine gate_callee (f := 4) rfl ?_); refine goesL_ (some 5) rfl rfl Tryd.func4 (by kernel_rfl) rfl #[] rfl (by first | rfl | simp) ?_; with_reducible refine (names_any _).mono ?_; rintro e w1 ⟨b, rfl, c1, X, hb⟩; refine ⟨_, rfl, ?_⟩; have X0 := Lib.hid X; have C0 := Lib.hid c1; have N0 := Lib.hid (N1.out.ch c1); clear c1 X hb; have i9 := X0.out.cell 9) | ((with_reducible refine gate_callee (f := 5) rfl ?_); (try (refine gate_guard (by rfl) ?_; dsimp only)); refine goesL_ (some 19) rfl rfl Tryd.func5 (by kernel_rfl) rfl #[.int .i64 9] rfl (by (try simp only [List.map_toArray, List.map_cons, List.map_nil]); first | done | rfl | simp) ?_; with_reducible refine (M5.out _ N0.out).mono ?_; rintro e w1 ⟨rfl, c1⟩; refine ⟨_, rfl, ?_⟩; have nC := Lib.hid (C0.out.trans0 c1); have nN := Lib.hid (N0.out.ch c1); clear C0 N0 c1; have C0 := nC; have N0 := nN; clear nC nN) | ((with_reducible refine gate_callee (f := 6) rfl ?_); (try (refine gate_guard (by rfl) ?_; dsimp only)); refine goesL_ (some 24) rfl rfl Tryd.func6 (by kernel_rfl) rfl #[.int .i64 9] rfl (by (try simp only [List.map_toArray, List.map_cons, List.map_nil]); first | done | rfl | simp) ?_; with_reducible refine (M6.out _).mono ?_; rintro e w1 ⟨rfl, c1⟩; refine ⟨_, rfl, ?_⟩; have nC := Lib.hid (C0.out.trans0 c1); have nN := Lib.hid (N0.out.ch c1); clear C0 N0 c1; have C0 := nC; have N0 := nN; clear nC nN) | ((with_reducible refine gate_callee (f := 7) rfl ?_); (try (refine gate_guard (by rfl) ?_; dsimp only)); refine goesL_ (some 34) rfl rfl Tryd.func7 (by kernel_rfl) rfl #[] rfl (by (try simp only [List.map_toArray, List.map_cons, List.map_nil]); first | done | rfl | simp) ?_; with_reducible refine (works_any _ N0.out).mono ?_; rintro e w1 ⟨rfl, c1⟩; refine ⟨_, rfl, ?_⟩; have nC := Lib.hid (C0.out.trans0 c1); have nN := Lib.hid (N0.out.ch c1); clear C0 N0 c1; have C0 := nC; have N0 := nN; clear nC nN))
  go_ret
  exact ⟨rfl, C0.out⟩
theorem at_10 (w : World) (N : Nm w) : Calls Tryd.prog 3 #[.int .i64 10] w fun e w' => e = .returned (.bool true) ∧ Ch [] w w' := by
  have N1 := Lib.hid N
  clear N
  have M5 : ∀ W, Nm W → Calls Tryd.prog 5 #[.int .i64 10] W fun e w' => e = .returned (.string ⟨#[104, 97, 108, 116]⟩) ∧ Ch [] W w' := fun W hW => by
    have h := name_any 10 W hW
    rwa [show nameOf 10 = ⟨#[104, 97, 108, 116]⟩ from rfl] at h
  have M6 : ∀ W, Calls Tryd.prog 6 #[.int .i64 10] W fun e w' => e = .returned (.bool true) ∧ Ch [] W w' := fun W => by
    have h := acts_any 10 W
    rwa [show (decide (2 ≤ (10 : Int)) && decide ((10 : Int) ≤ 12)) = true from by decide] at h
  replace M5 := Lib.hid M5
  replace M6 := Lib.hid M6
  go_enter Tryd.func3, Tryd.ntmps3
  go_wp2_with (first | ((with_reducible refine gate_callee (f := 4) rfl ?_); refine goesL_ (some 5) rfl rfl Tryd.func4 (by kernel_rfl) rfl #[] rfl (by first | rfl | simp) ?_; with_reducible refine (names_any _).mono ?_; rintro e w1 ⟨b, rfl, c1, X, hb⟩; refine ⟨_, rfl, ?_⟩; have X0 := Lib.hid X; have C0 := Lib.hid c1; have N0 := Lib.hid (N1.out.ch c1); clear c1 X hb; have i10 := X0.out.cell 10) | ((with_reducible refine gate_callee (f := 5) rfl ?_); (try (refine gate_guard (by rfl) ?_; dsimp only)); refine goesL_ (some 19) rfl rfl Tryd.func5 (by kernel_rfl) rfl #[.int .i64 10] rfl (by (try simp only [List.map_toArray, List.map_cons, List.map_nil]); first | done | rfl | simp) ?_; with_reducible refine (M5.out _ N0.out).mono ?_; rintro e w1 ⟨rfl, c1⟩; refine ⟨_, rfl, ?_⟩; have nC := Lib.hid (C0.out.trans0 c1); have nN := Lib.hid (N0.out.ch c1); clear C0 N0 c1; have C0 := nC; have N0 := nN; clear nC nN) | ((with_reducible refine gate_callee (f := 6) rfl ?_); (try (refine gate_guard (by rfl) ?_; dsimp only)); refine goesL_ (some 24) rfl rfl Tryd.func6 (by kernel_rfl) rfl #[.int .i64 10] rfl (by (try simp only [List.map_toArray, List.map_cons, List.map_nil]); first | done | rfl | simp) ?_; with_reducible refine (M6.out _).mono ?_; rintro e w1 ⟨rfl, c1⟩; refine ⟨_, rfl, ?_⟩; have nC := Lib.hid (C0.out.trans0 c1); have nN := Lib.hid (N0.out.ch c1); clear C0 N0 c1; have C0 := nC; have N0 := nN; clear nC nN) | ((with_reducible refine gate_callee (f := 7) rfl ?_); (try (refine gate_guard (by rfl) ?_; dsimp only)); refine goesL_ (some 34) rfl rfl Tryd.func7 (by kernel_rfl) rfl #[] rfl (by (try simp only [List.map_toArray, List.map_cons, List.map_nil]); first | done | rfl | simp) ?_; with_reducible refine (works_any _ N0.out).mono ?_; rintro e w1 ⟨rfl, c1⟩; refine ⟨_, rfl, ?_⟩; have nC := Lib.hid (C0.out.trans0 c1); have nN := Lib.hid (N0.out.ch c1); clear C0 N0 c1; have C0 := nC; have N0 := nN; clear nC nN))
  go_ret
  exact ⟨rfl, C0.out⟩
theorem at_11 (w : World) (N : Nm w) : Calls Tryd.prog 3 #[.int .i64 11] w fun e w' => e = .returned (.bool true) ∧ Ch [] w w' := by
  have N1 := Lib.hid N
  clear N
  have M5 : ∀ W, Nm W → Calls Tryd.prog 5 #[.int .i64 11] W fun e w' => e = .returned (.string ⟨#[99, 108, 101, 97, 114]⟩) ∧ Ch [] W w' := fun W hW => by
    have h := name_any 11 W hW
    rwa [show nameOf 11 = ⟨#[99, 108, 101, 97, 114]⟩ from rfl] at h
  have M6 : ∀ W, Calls Tryd.prog 6 #[.int .i64 11] W fun e w' => e = .returned (.bool true) ∧ Ch [] W w' := fun W => by
    have h := acts_any 11 W
    rwa [show (decide (2 ≤ (11 : Int)) && decide ((11 : Int) ≤ 12)) = true from by decide] at h
  replace M5 := Lib.hid M5
  replace M6 := Lib.hid M6
  go_enter Tryd.func3, Tryd.ntmps3
  go_wp2_with (first | ((with_reducible refine gate_callee (f := 4) rfl ?_); refine goesL_ (some 5) rfl rfl Tryd.func4 (by kernel_rfl) rfl #[] rfl (by first | rfl | simp) ?_; with_reducible refine (names_any _).mono ?_; rintro e w1 ⟨b, rfl, c1, X, hb⟩; refine ⟨_, rfl, ?_⟩; have X0 := Lib.hid X; have C0 := Lib.hid c1; have N0 := Lib.hid (N1.out.ch c1); clear c1 X hb; have i11 := X0.out.cell 11) | ((with_reducible refine gate_callee (f := 5) rfl ?_); (try (refine gate_guard (by rfl) ?_; dsimp only)); refine goesL_ (some 19) rfl rfl Tryd.func5 (by kernel_rfl) rfl #[.int .i64 11] rfl (by (try simp only [List.map_toArray, List.map_cons, List.map_nil]); first | done | rfl | simp) ?_; with_reducible refine (M5.out _ N0.out).mono ?_; rintro e w1 ⟨rfl, c1⟩; refine ⟨_, rfl, ?_⟩; have nC := Lib.hid (C0.out.trans0 c1); have nN := Lib.hid (N0.out.ch c1); clear C0 N0 c1; have C0 := nC; have N0 := nN; clear nC nN) | ((with_reducible refine gate_callee (f := 6) rfl ?_); (try (refine gate_guard (by rfl) ?_; dsimp only)); refine goesL_ (some 24) rfl rfl Tryd.func6 (by kernel_rfl) rfl #[.int .i64 11] rfl (by (try simp only [List.map_toArray, List.map_cons, List.map_nil]); first | done | rfl | simp) ?_; with_reducible refine (M6.out _).mono ?_; rintro e w1 ⟨rfl, c1⟩; refine ⟨_, rfl, ?_⟩; have nC := Lib.hid (C0.out.trans0 c1); have nN := Lib.hid (N0.out.ch c1); clear C0 N0 c1; have C0 := nC; have N0 := nN; clear nC nN) | ((with_reducible refine gate_callee (f := 7) rfl ?_); (try (refine gate_guard (by rfl) ?_; dsimp only)); refine goesL_ (some 34) rfl rfl Tryd.func7 (by kernel_rfl) rfl #[] rfl (by (try simp only [List.map_toArray, List.map_cons, List.map_nil]); first | done | rfl | simp) ?_; with_reducible refine (works_any _ N0.out).mono ?_; rintro e w1 ⟨rfl, c1⟩; refine ⟨_, rfl, ?_⟩; have nC := Lib.hid (C0.out.trans0 c1); have nN := Lib.hid (N0.out.ch c1); clear C0 N0 c1; have C0 := nC; have N0 := nN; clear nC nN))
  go_ret
  exact ⟨rfl, C0.out⟩
theorem at_12 (w : World) (N : Nm w) : Calls Tryd.prog 3 #[.int .i64 12] w fun e w' => e = .returned (.bool true) ∧ Ch [] w w' := by
  have N1 := Lib.hid N
  clear N
  have M5 : ∀ W, Nm W → Calls Tryd.prog 5 #[.int .i64 12] W fun e w' => e = .returned (.string ⟨#[103, 111, 110, 101]⟩) ∧ Ch [] W w' := fun W hW => by
    have h := name_any 12 W hW
    rwa [show nameOf 12 = ⟨#[103, 111, 110, 101]⟩ from rfl] at h
  have M6 : ∀ W, Calls Tryd.prog 6 #[.int .i64 12] W fun e w' => e = .returned (.bool true) ∧ Ch [] W w' := fun W => by
    have h := acts_any 12 W
    rwa [show (decide (2 ≤ (12 : Int)) && decide ((12 : Int) ≤ 12)) = true from by decide] at h
  replace M5 := Lib.hid M5
  replace M6 := Lib.hid M6
  go_enter Tryd.func3, Tryd.ntmps3
  go_wp2_with (first | ((with_reducible refine gate_callee (f := 4) rfl ?_); refine goesL_ (some 5) rfl rfl Tryd.func4 (by kernel_rfl) rfl #[] rfl (by first | rfl | simp) ?_; with_reducible refine (names_any _).mono ?_; rintro e w1 ⟨b, rfl, c1, X, hb⟩; refine ⟨_, rfl, ?_⟩; have X0 := Lib.hid X; have C0 := Lib.hid c1; have N0 := Lib.hid (N1.out.ch c1); clear c1 X hb; have i12 := X0.out.cell 12) | ((with_reducible refine gate_callee (f := 5) rfl ?_); (try (refine gate_guard (by rfl) ?_; dsimp only)); refine goesL_ (some 19) rfl rfl Tryd.func5 (by kernel_rfl) rfl #[.int .i64 12] rfl (by (try simp only [List.map_toArray, List.map_cons, List.map_nil]); first | done | rfl | simp) ?_; with_reducible refine (M5.out _ N0.out).mono ?_; rintro e w1 ⟨rfl, c1⟩; refine ⟨_, rfl, ?_⟩; have nC := Lib.hid (C0.out.trans0 c1); have nN := Lib.hid (N0.out.ch c1); clear C0 N0 c1; have C0 := nC; have N0 := nN; clear nC nN) | ((with_reducible refine gate_callee (f := 6) rfl ?_); (try (refine gate_guard (by rfl) ?_; dsimp only)); refine goesL_ (some 24) rfl rfl Tryd.func6 (by kernel_rfl) rfl #[.int .i64 12] rfl (by (try simp only [List.map_toArray, List.map_cons, List.map_nil]); first | done | rfl | simp) ?_; with_reducible refine (M6.out _).mono ?_; rintro e w1 ⟨rfl, c1⟩; refine ⟨_, rfl, ?_⟩; have nC := Lib.hid (C0.out.trans0 c1); have nN := Lib.hid (N0.out.ch c1); clear C0 N0 c1; have C0 := nC; have N0 := nN; clear nC nN) | ((with_reducible refine gate_callee (f := 7) rfl ?_); (try (refine gate_guard (by rfl) ?_; dsimp only)); refine goesL_ (some 34) rfl rfl Tryd.func7 (by kernel_rfl) rfl #[] rfl (by (try simp only [List.map_toArray, List.map_cons, List.map_nil]); first | done | rfl | simp) ?_; with_reducible refine (works_any _ N0.out).mono ?_; rintro e w1 ⟨rfl, c1⟩; refine ⟨_, rfl, ?_⟩; have nC := Lib.hid (C0.out.trans0 c1); have nN := Lib.hid (N0.out.ch c1); clear C0 N0 c1; have C0 := nC; have N0 := nN; clear nC nN))
  go_ret
  exact ⟨rfl, C0.out⟩
theorem at_neg (k : Int) (h : k < 0) (w : World) (N : Nm w) : Calls Tryd.prog 3 #[.int .i64 k] w fun e w' => e = .returned (.bool true) ∧ Ch [] w w' := by
  have N1 := Lib.hid N
  clear N
  have M5 : ∀ W, Nm W → Calls Tryd.prog 5 #[.int .i64 k] W fun e w' => e = .returned (.string ⟨#[]⟩) ∧ Ch [] W w' := fun W hW => by
    have h := name_any k W hW
    rwa [show nameOf k = ⟨#[]⟩ from by rw [nameOf, if_neg (by omega)]] at h
  have M6 : ∀ W, Calls Tryd.prog 6 #[.int .i64 k] W fun e w' => e = .returned (.bool false) ∧ Ch [] W w' := fun W => by
    have h := acts_any k W
    rwa [show (decide (2 ≤ (k : Int)) && decide ((k : Int) ≤ 12)) = false from by simp; omega] at h
  replace M5 := Lib.hid M5
  replace M6 := Lib.hid M6
  have d0 : decide (0 ≤ k) = false := decide_eq_false (by omega)
  have d1 : decide (2 ≤ k) = false := decide_eq_false (by omega)
  have d3 : decide (k < 0) = true := decide_eq_true h
  go_enter Tryd.func3, Tryd.ntmps3
  go_wp2_with (first | ((with_reducible refine gate_callee (f := 4) rfl ?_); refine goesL_ (some 5) rfl rfl Tryd.func4 (by kernel_rfl) rfl #[] rfl (by first | rfl | simp) ?_; with_reducible refine (names_any _).mono ?_; rintro e w1 ⟨b, rfl, c1, X, hb⟩; refine ⟨_, rfl, ?_⟩; have X0 := Lib.hid X; have C0 := Lib.hid c1; have N0 := Lib.hid (N1.out.ch c1); clear c1 X hb) | ((with_reducible refine gate_callee (f := 5) rfl ?_); (try (refine gate_guard (by rfl) ?_; dsimp only)); refine goesL_ (some 19) rfl rfl Tryd.func5 (by kernel_rfl) rfl #[.int .i64 k] rfl (by (try simp only [List.map_toArray, List.map_cons, List.map_nil]); first | done | rfl | simp) ?_; with_reducible refine (M5.out _ N0.out).mono ?_; rintro e w1 ⟨rfl, c1⟩; refine ⟨_, rfl, ?_⟩; have nC := Lib.hid (C0.out.trans0 c1); have nN := Lib.hid (N0.out.ch c1); clear C0 N0 c1; have C0 := nC; have N0 := nN; clear nC nN) | ((with_reducible refine gate_callee (f := 6) rfl ?_); (try (refine gate_guard (by rfl) ?_; dsimp only)); refine goesL_ (some 24) rfl rfl Tryd.func6 (by kernel_rfl) rfl #[.int .i64 k] rfl (by (try simp only [List.map_toArray, List.map_cons, List.map_nil]); first | done | rfl | simp) ?_; with_reducible refine (M6.out _).mono ?_; rintro e w1 ⟨rfl, c1⟩; refine ⟨_, rfl, ?_⟩; have nC := Lib.hid (C0.out.trans0 c1); have nN := Lib.hid (N0.out.ch c1); clear C0 N0 c1; have C0 := nC; have N0 := nN; clear nC nN) | ((with_reducible refine gate_callee (f := 7) rfl ?_); (try (refine gate_guard (by rfl) ?_; dsimp only)); refine goesL_ (some 34) rfl rfl Tryd.func7 (by kernel_rfl) rfl #[] rfl (by (try simp only [List.map_toArray, List.map_cons, List.map_nil]); first | done | rfl | simp) ?_; with_reducible refine (works_any _ N0.out).mono ?_; rintro e w1 ⟨rfl, c1⟩; refine ⟨_, rfl, ?_⟩; have nC := Lib.hid (C0.out.trans0 c1); have nN := Lib.hid (N0.out.ch c1); clear C0 N0 c1; have C0 := nC; have N0 := nN; clear nC nN))
  go_ret
  exact ⟨rfl, C0.out⟩
theorem at_big (k : Int) (h : 13 ≤ k) (w : World) (N : Nm w) : Calls Tryd.prog 3 #[.int .i64 k] w fun e w' => e = .returned (.bool true) ∧ Ch [] w w' := by
  have N1 := Lib.hid N
  clear N
  have M5 : ∀ W, Nm W → Calls Tryd.prog 5 #[.int .i64 k] W fun e w' => e = .returned (.string ⟨#[]⟩) ∧ Ch [] W w' := fun W hW => by
    have h := name_any k W hW
    rwa [show nameOf k = ⟨#[]⟩ from by rw [nameOf, if_neg (by omega)]] at h
  have M6 : ∀ W, Calls Tryd.prog 6 #[.int .i64 k] W fun e w' => e = .returned (.bool false) ∧ Ch [] W w' := fun W => by
    have h := acts_any k W
    rwa [show (decide (2 ≤ (k : Int)) && decide ((k : Int) ≤ 12)) = false from by simp; omega] at h
  replace M5 := Lib.hid M5
  replace M6 := Lib.hid M6
  have d0 : decide (0 ≤ k) = true := decide_eq_true (by omega)
  have d1 : decide (k < 13) = false := decide_eq_false (by omega)
  have d2 : decide (2 ≤ k) = true := decide_eq_true (by omega)
  have d3 : decide (k ≤ 12) = false := decide_eq_false (by omega)
  have d4 : decide (13 ≤ k) = true := decide_eq_true h
  go_enter Tryd.func3, Tryd.ntmps3
  go_wp2_with (first | ((with_reducible refine gate_callee (f := 4) rfl ?_); refine goesL_ (some 5) rfl rfl Tryd.func4 (by kernel_rfl) rfl #[] rfl (by first | rfl | simp) ?_; with_reducible refine (names_any _).mono ?_; rintro e w1 ⟨b, rfl, c1, X, hb⟩; refine ⟨_, rfl, ?_⟩; have X0 := Lib.hid X; have C0 := Lib.hid c1; have N0 := Lib.hid (N1.out.ch c1); clear c1 X hb) | ((with_reducible refine gate_callee (f := 5) rfl ?_); (try (refine gate_guard (by rfl) ?_; dsimp only)); refine goesL_ (some 19) rfl rfl Tryd.func5 (by kernel_rfl) rfl #[.int .i64 k] rfl (by (try simp only [List.map_toArray, List.map_cons, List.map_nil]); first | done | rfl | simp) ?_; with_reducible refine (M5.out _ N0.out).mono ?_; rintro e w1 ⟨rfl, c1⟩; refine ⟨_, rfl, ?_⟩; have nC := Lib.hid (C0.out.trans0 c1); have nN := Lib.hid (N0.out.ch c1); clear C0 N0 c1; have C0 := nC; have N0 := nN; clear nC nN) | ((with_reducible refine gate_callee (f := 6) rfl ?_); (try (refine gate_guard (by rfl) ?_; dsimp only)); refine goesL_ (some 24) rfl rfl Tryd.func6 (by kernel_rfl) rfl #[.int .i64 k] rfl (by (try simp only [List.map_toArray, List.map_cons, List.map_nil]); first | done | rfl | simp) ?_; with_reducible refine (M6.out _).mono ?_; rintro e w1 ⟨rfl, c1⟩; refine ⟨_, rfl, ?_⟩; have nC := Lib.hid (C0.out.trans0 c1); have nN := Lib.hid (N0.out.ch c1); clear C0 N0 c1; have C0 := nC; have N0 := nN; clear nC nN) | ((with_reducible refine gate_callee (f := 7) rfl ?_); (try (refine gate_guard (by rfl) ?_; dsimp only)); refine goesL_ (some 34) rfl rfl Tryd.func7 (by kernel_rfl) rfl #[] rfl (by (try simp only [List.map_toArray, List.map_cons, List.map_nil]); first | done | rfl | simp) ?_; with_reducible refine (works_any _ N0.out).mono ?_; rintro e w1 ⟨rfl, c1⟩; refine ⟨_, rfl, ?_⟩; have nC := Lib.hid (C0.out.trans0 c1); have nN := Lib.hid (N0.out.ch c1); clear C0 N0 c1; have C0 := nC; have N0 := nN; clear nC nN))
  go_ret
  exact ⟨rfl, C0.out⟩
theorem law_any (k : Int) (w : World) (N : Nm w) : Calls Tryd.prog 3 #[.int .i64 k] w fun e w' => e = .returned (.bool true) ∧ Ch [] w w' := by
  by_cases h1 : k < 0
  · exact at_neg k h1 w N
  · by_cases h2 : 13 ≤ k
    · exact at_big k h2 w N
    · have hc : k = 0 ∨ k = 1 ∨ k = 2 ∨ k = 3 ∨ k = 4 ∨ k = 5 ∨ k = 6 ∨ k = 7 ∨ k = 8 ∨ k = 9 ∨ k = 10 ∨ k = 11 ∨ k = 12 := by omega
      rcases hc with rfl | rfl | rfl | rfl | rfl | rfl | rfl | rfl | rfl | rfl | rfl | rfl | rfl
      · exact at_0 w N
      · exact at_1 w N
      · exact at_2 w N
      · exact at_3 w N
      · exact at_4 w N
      · exact at_5 w N
      · exact at_6 w N
      · exact at_7 w N
      · exact at_8 w N
      · exact at_9 w N
      · exact at_10 w N
      · exact at_11 w N
      · exact at_12 w N
end Go.Proofs.YtgpoolcaooiemaaDoor.D
