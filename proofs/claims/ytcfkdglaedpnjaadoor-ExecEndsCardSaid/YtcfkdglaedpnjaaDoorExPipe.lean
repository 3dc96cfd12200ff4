/- The contracts of package pipe: a pipe is a text that waits, and two counts. -/
import Derived.Test.YtcfkdglaedpnjaaDoorProg
import Derived.Test.YtcfkdglaedpnjaaDoorExPipeRing
namespace Go.Proofs.YtcfkdglaedpnjaaDoor.R
open Go Go.RowKit Go.Proofs.YtcfkdglaedpnjaaDoor.K
set_option linter.unusedVariables false
set_option linter.unusedSimpArgs false
/-- A pipe at block b: q waits in it, i came, o went; sh: is it shut? -/
def PipeIs (w : World) (b : Nat) (q : List UInt8) (i o : Nat) (sh : Bool) : Prop := ∃ cs, Blk w b cs 83 ∧ Ring cs q i o sh
theorem chPipe {bs : List Nat} {w w' : World} (h : Ch bs w w') {b : Nat} {q : List UInt8} {i o : Nat} {sh : Bool} (hp : PipeIs w b q i o sh) (hn : b ∉ bs) : PipeIs w' b q i o sh :=
  let ⟨cs, h1, h2⟩ := hp
  ⟨cs, h.blk h1 hn, h2⟩
theorem PipeIs.lt {w : World} {b : Nat} {q : List UInt8} {i o : Nat} {sh : Bool} (hp : PipeIs w b q i o sh) : b < w.heap.size := let ⟨_, h1, _⟩ := hp; h1.lt
theorem PipeIs.len {w : World} {b : Nat} {q : List UInt8} {i o : Nat} {sh : Bool} (hp : PipeIs w b q i o sh) : i = o + q.length ∧ q.length ≤ 64 := let ⟨_, _, h⟩ := hp; ⟨h.2.1, h.2.2.1⟩
theorem PipeIs.cells {w : World} {b : Nat} {q : List UInt8} {i o : Nat} {sh : Bool} (hp : PipeIs w b q i o sh) :
    w.cell? ⟨b, 64, none⟩ = some (.int .i64 i) ∧ w.cell? ⟨b, 65, none⟩ = some (.int .i64 o) ∧ w.cell? ⟨b, 66, none⟩ = some (.bool sh) := by
  obtain ⟨cs, h1, h2⟩ := hp
  exact ⟨(h1.cell 64).trans h2.2.2.2.2.2.1, (h1.cell 65).trans h2.2.2.2.2.2.2.1, (h1.cell 66).trans h2.2.2.2.2.2.2.2⟩
theorem rep_at (n : Nat) (v : Value) (l : List Value) (j : Nat) (h : j < n) : (List.replicate n v ++ l).toArray[j]? = some v := by
  rw [List.getElem?_toArray, List.getElem?_append_left (by simpa using h), List.getElem?_replicate, if_pos h]
def zero46 : Array Value := #[.int .u8 0, .int .u8 0, .int .u8 0, .int .u8 0, .int .u8 0, .int .u8 0, .int .u8 0, .int .u8 0, .int .u8 0, .int .u8 0, .int .u8 0, .int .u8 0, .int .u8 0, .int .u8 0, .int .u8 0, .int .u8 0, .int .u8 0, .int .u8 0, .int .u8 0, .int .u8 0, .int .u8 0, .int .u8 0, .int .u8 0, .int .u8 0, .int .u8 0, .int .u8 0, .int .u8 0, .int .u8 0, .int .u8 0, .int .u8 0, .int .u8 0, .int .u8 0, .int .u8 0, .int .u8 0, .int .u8 0, .int .u8 0, .int .u8 0, .int .u8 0, .int .u8 0, .int .u8 0, .int .u8 0, .int .u8 0, .int .u8 0, .int .u8 0, .int .u8 0, .int .u8 0, .int .u8 0, .int .u8 0, .int .u8 0, .int .u8 0, .int .u8 0, .int .u8 0, .int .u8 0, .int .u8 0, .int .u8 0, .int .u8 0, .int .u8 0, .int .u8 0, .int .u8 0, .int .u8 0, .int .u8 0, .int .u8 0, .int .u8 0, .int .u8 0, .int .i64 0, .int .i64 0, .bool false]
theorem run_zero46 (w : World) : (zeroValue 83).run Tryd.prog w = .ok (.agg zero46) w := by kernel_rfl
theorem ring_new : Ring zero46 [] 0 0 false := by
  refine ⟨rfl, rfl, by simp, fun j hj => ⟨0, ?_⟩, fun j c hj => by simp at hj, rfl, rfl, rfl⟩
  exact rep_at 64 (.int .u8 0) [.int .i64 0, .int .i64 0, .bool false] j hj
set_option maxRecDepth 100000 in
theorem New_any (w : World) : Calls Tryd.prog 23 #[] w fun e w' => ∃ b, e = .returned (.pointer (some ⟨b, 0, none⟩)) ∧ PipeIs w' b [] 0 0 false ∧ w.heap.size ≤ b ∧ Ch [] w w' := by
  have hz := run_zero46
  go_enter Tryd.func23, Tryd.ntmps23
  go_wp2
  go_ret
  exact ⟨_, rfl, ⟨_, blk_new _ _ _, ring_new⟩, Nat.le_refl _, (Ch.refl _ _).alloc _⟩
theorem Len_any (b : Nat) (q : List UInt8) (i o : Nat) (sh : Bool) (w : World) (hp : PipeIs w b q i o sh) (hi : i ≤ 1000000000000) :
    Calls Tryd.prog 39 #[.pointer (some ⟨b, 0, none⟩)] w fun e w' => e = .returned (.int .i64 q.length) ∧ ∃ n, w' = w.drewN n := by
  obtain ⟨c1, c2, c3⟩ := hp.cells
  obtain ⟨h1, h2⟩ := hp.len
  have HE := Lib.hid (show (i : Int) - o = q.length by omega)
  have h3 : o ≤ i := by omega
  clear hp h1
  go_enter Tryd.func39, Tryd.ntmps39
  go_wp2
  go_quiet (fail)
  go_wp2
  go_ret
  exact ⟨by rw [← HE.out]; rfl, _, rfl⟩
def room (q : List UInt8) (sh : Bool) : Nat := if sh then 0 else 64 - q.length
theorem Room_any (b : Nat) (q : List UInt8) (i o : Nat) (sh : Bool) (w : World) (hp : PipeIs w b q i o sh) (hi : i ≤ 1000000000000) :
    Calls Tryd.prog 28 #[.pointer (some ⟨b, 0, none⟩)] w fun e w' => e = .returned (.int .i64 (room q sh)) ∧ ∃ n, w' = w.drewN n := by
  obtain ⟨c1, c2, c3⟩ := hp.cells
  obtain ⟨h1, h2⟩ := hp.len
  have HP := Lib.hid hp
  clear hp
  cases sh
  · go_enter Tryd.func28, Tryd.ntmps28
    go_wp2_with (go_at_call 39; with_reducible refine (Len_any _ _ _ _ _ _ HP.out hi).mono ?_; rintro e w1 ⟨rfl, nq, rfl⟩)
    go_ret
    exact ⟨by simp [room]; omega, _, rfl⟩
  · go_enter Tryd.func28, Tryd.ntmps28
    go_wp2_with fail
    go_ret
    exact ⟨rfl, 0, rfl⟩
theorem Shut_any (b : Nat) (q : List UInt8) (i o : Nat) (sh : Bool) (w : World) (hp : PipeIs w b q i o sh) :
    Calls Tryd.prog 32 #[.pointer (some ⟨b, 0, none⟩)] w fun e w' => e = .returned (.tuple #[]) ∧ PipeIs w' b q i o true ∧ Ch [b] w w' := by
  obtain ⟨c1, c2, c3⟩ := hp.cells
  obtain ⟨cs, h1, h2⟩ := hp
  have f3 := h1.frozen 66
  have H1 := Lib.hid h1
  have H2 := Lib.hid h2
  clear h1 h2 c1 c2
  go_enter Tryd.func32, Tryd.ntmps32
  go_wp2
  go_end0
  exact ⟨rfl, ⟨_, H1.out.set 66 _, H2.out.shut⟩, (Ch.refl _ _).setCell (.inl (by simp)) _⟩
end Go.Proofs.YtcfkdglaedpnjaaDoor.R
