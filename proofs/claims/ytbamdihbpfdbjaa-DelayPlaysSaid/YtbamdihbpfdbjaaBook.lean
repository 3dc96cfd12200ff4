/- The contracts of the calls of a book. -/
import Derived.Test.YtbamdihbpfdbjaaDelay
namespace Go.Proofs.Ytbamdihbpfdbjaa.R
open Go Go.RowKit Go.Proofs.Ytbamdihbpfdbjaa.K
set_option linter.unusedVariables false
set_option linter.unusedSimpArgs false
def BookIs (w : World) (b mb : Nat) (l : List ((Int × Int) × (Int × Int))) : Prop := Blk w b #[.map (some mb)] 50 ∧ MapIs w mb kv kv okK l
theorem BookIs.ne {w : World} {b mb : Nat} {l : List ((Int × Int) × (Int × Int))} (h : BookIs w b mb l) : b ≠ mb := fun e => h.2.no_cells h.1 e.symm
theorem BookIs.keep {w w' : World} {b mb : Nat} {l : List ((Int × Int) × (Int × Int))} (h : BookIs w b mb l) {bs : List Nat} (hc : Ch bs w w') (hb : b ∉ bs) (hm : mb ∉ bs) : BookIs w' b mb l := ⟨hc.blk h.1 hb, h.2.keep hc hm⟩
theorem BookIs.cell {w : World} {b mb : Nat} {l : List ((Int × Int) × (Int × Int))} (h : BookIs w b mb l) : w.cell? ⟨b, 0, none⟩ = some (.map (some mb)) := h.1.cell 0
def att (l : List ((Int × Int) × (Int × Int))) (x : Int × Int) : Int × Int := (mlook l x).getD (0, 0)
theorem getD_kv (l : List ((Int × Int) × (Int × Int))) (x : Int × Int) : ((mlook l x).map kv).getD (.agg #[.int .i64 0, .int .i64 0]) = .agg #[.int .i64 (att l x).1, .int .i64 (att l x).2] := by
  unfold att
  cases mlook l x <;> rfl
theorem zero54 (w : World) : (zeroValue 54).run Try.prog w = .ok (.agg #[.int .i64 0, .int .i64 0]) w := by kernel_rfl
theorem New_any (w : World) : Calls Try.prog 9 #[] w fun e w' => ∃ b mb, e = .returned (.pointer (some ⟨b, 0, none⟩)) ∧ BookIs w' b mb [] ∧ w.heap.size ≤ b ∧ w.heap.size ≤ mb ∧ Ch [] w w' := by
  have hmm := @run_makeMap Try.prog
  go_enter Try.func9, Try.ntmps9
  go_wp2
  go_ret
  have hb := blk_new (w.alloc (.map #[] 0)) #[.map (some w.heap.size)] 50
  rw [show (w.alloc (.map #[] 0)).heap.size = w.heap.size + 1 by simp] at hb
  exact ⟨_, _, rfl, ⟨hb, (MapIs.new w).alloc _⟩, by omega, Nat.le_refl _, ((Ch.refl _ _).alloc _).alloc _⟩
theorem Len_any (b mb : Nat) (l : List ((Int × Int) × (Int × Int))) (w : World) (h : BookIs w b mb l) : Calls Try.prog 20 #[.pointer (some ⟨b, 0, none⟩)] w fun e w' => e = .returned (.int .i64 l.length) ∧ w = w' := by
  have c0 := h.cell
  have HM := Lib.hid h.2
  clear h
  go_enter Try.func20, Try.ntmps20
  go_wp2_with (at_len; refine wpList_mlen _ rfl _ 48 rfl 54 Try.underlying48 HM.out (by rfl) ?_)
  go_ret
  exact ⟨rfl, rfl⟩
theorem field54_0 (v0 v1 : Value) (w : World) : (Instr.field 54 (.agg #[v0, v1]) 0).run Try.prog w = .ok v0 w := by kernel_rfl
theorem Fails_any (b mb : Nat) (l : List ((Int × Int) × (Int × Int))) (u n : Int) (w : World) (h : BookIs w b mb l) (hok : okK (u, n)) :
    Calls Try.prog 22 #[.pointer (some ⟨b, 0, none⟩), .int .i64 u, .int .i64 n] w fun e w' => e = .returned (.int .i64 (att l (u, n)).1) ∧ w = w' := by
  have c0 := h.cell
  have HM := Lib.hid h.2
  clear h
  have hf := field54_0
  go_enter Try.func22, Try.ntmps22
  go_wp2_with (at_lookup; refine wpList_mlook _ rfl _ _ 48 false rfl 54 Try.underlying48 _ (zero54 _) k52 HM.out (by rfl) (u, n) hok (by rfl) _ (getD_kv _ _) ?_)
  go_ret
  exact ⟨rfl, rfl⟩
theorem ret_int {k : IntKind} {a b : Int} (h : a = b) : Ending.returned (.int k a) = .returned (.int k b) := by rw [h]
def leftF (l : List ((Int × Int) × (Int × Int))) (x : Int × Int) (now : Int) : Int := if (mlook l x).isSome then max ((att l x).2 - now) 0 else 0
theorem Left_any (b mb : Nat) (l : List ((Int × Int) × (Int × Int))) (u n now : Int) (w : World) (h : BookIs w b mb l) (hok : okK (u, n)) (hn : 0 ≤ now) (hn2 : now ≤ 1000000000000000000) (hu : -1000000000000000000 ≤ (att l (u, n)).2) (hu2 : (att l (u, n)).2 ≤ 1000000000000000000) :
    Calls Try.prog 21 #[.pointer (some ⟨b, 0, none⟩), .int .i64 u, .int .i64 n, .int .i64 now] w fun e w' => e = .returned (.int .i64 (leftF l (u, n) now)) ∧ Ch [] w w' := by
  have c0 := h.cell
  have HM := Lib.hid h.2
  have hr : ∀ c, (mlook l (u, n)).isSome = c → (if true = true then Value.tuple #[((mlook l (u, n)).map kv).getD (.agg #[.int .i64 0, .int .i64 0]), .bool (mlook l (u, n)).isSome] else ((mlook l (u, n)).map kv).getD (.agg #[.int .i64 0, .int .i64 0])) = .tuple #[.agg #[.int .i64 (att l (u, n)).1, .int .i64 (att l (u, n)).2], .bool c] := fun c hc => by rw [hc, getD_kv]; rfl
  unfold leftF
  clear h
  rcases hc : (mlook l (u, n)).isSome with _ | _
  · have hr' := Lib.hid (hr false hc)
    clear hr hc
    go_enter Try.func21, Try.ntmps21
    go_wp2_with (at_lookup; refine wpList_mlook _ rfl _ _ 48 true rfl 54 Try.underlying48 _ (zero54 _) k52 HM.out (by rfl) (u, n) hok (by rfl) _ hr'.out ?_)
    go_ret
    exact ⟨rfl, (Ch.refl _ _).alloc _⟩
  · have hr' := Lib.hid (hr true hc)
    clear hr hc
    generalize (att l (u, n)).2 = z at *
    go_enter Try.func21, Try.ntmps21
    go_wp2_with (at_lookup; refine wpList_mlook _ rfl _ _ 48 true rfl 54 Try.underlying48 _ (zero54 _) k52 HM.out (by rfl) (u, n) hok (by rfl) _ hr'.out ?_)
    all_goals
      go_ret
      exact ⟨ret_int (by omega), (Ch.refl _ _).alloc _⟩
theorem Ready_any (b mb : Nat) (l : List ((Int × Int) × (Int × Int))) (u n now : Int) (w : World) (h : BookIs w b mb l) (hok : okK (u, n)) (hn : 0 ≤ now) (hn2 : now ≤ 1000000000000000000) (hu : -1000000000000000000 ≤ (att l (u, n)).2) (hu2 : (att l (u, n)).2 ≤ 1000000000000000000) :
    Calls Try.prog 13 #[.pointer (some ⟨b, 0, none⟩), .int .i64 u, .int .i64 n, .int .i64 now] w fun e w' => e = .returned (.bool (leftF l (u, n) now == 0)) ∧ Ch [] w w' := by
  go_enter Try.func13, Try.ntmps13
  go_wp2_with (go_at_call 21; with_reducible refine (Left_any _ _ _ _ _ _ _ h hok hn hn2 hu hu2).mono ?_; rintro e w1 ⟨rfl, hc⟩)
  go_ret
  exact ⟨rfl, by assumption⟩
theorem Good_any (b mb : Nat) (l : List ((Int × Int) × (Int × Int))) (u n : Int) (w : World) (h : BookIs w b mb l) (hok : okK (u, n)) :
    Calls Try.prog 16 #[.pointer (some ⟨b, 0, none⟩), .int .i64 u, .int .i64 n] w fun e w' => e = .returned (.tuple #[]) ∧ BookIs w' b mb (mdel l (u, n)) ∧ Ch [mb] w w' := by
  have c0 := h.cell
  have HM := Lib.hid h.2
  have HB := Lib.hid h.1
  have hne := Lib.hid h.ne
  clear h
  go_enter Try.func16, Try.ntmps16
  go_wp2_with (at_delete; refine wpList_mdel _ rfl _ _ 48 rfl 54 Try.underlying48 k52 HM.out (by rfl) (u, n) hok (by rfl) ?_; intro w1 h1 h2)
  go_end0
  exact ⟨rfl, ⟨h2.blk HB.out (by simpa using hne.out), h1⟩, h2⟩
end Go.Proofs.Ytbamdihbpfdbjaa.R
