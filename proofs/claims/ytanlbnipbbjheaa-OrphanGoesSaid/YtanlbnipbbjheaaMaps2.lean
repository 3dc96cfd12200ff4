/- The same at the operations of a walk. -/
import Derived.Test.YtanlbnipbbjheaaMaps
namespace Go.Proofs.Ytanlbnipbbjheaa.K
open Go Go.RowKit
set_option linter.unusedVariables false
set_option linter.unusedSimpArgs false
set_option linter.unusedSectionVars false
section
variable {α β : Type} [DecidableEq α] {ek : α → Value} {ev : β → Value} {ok : α → Prop} {l left : List (α × β)} {P : Program} {k : TypeId}
variable (w : World) {ops : Array Oper} {rest : List Oper} {o : Oper} {a : Act} {Q : Exit → Act → World → Prop} {b : Nat}
theorem wpList_mlook (hg : o.guard = none) (m x : Operand) (t : TypeId) (c : Bool) (hop : o.op = Op.lookup t m x c) (e : TypeId) (ht : P.underlying t = some (.map k e)) (z : Value) (hz : (zeroValue e).run P w = .ok z w)
    (K : MK P k ek ok) (h : MapIs w b ek ev ok l) (hm : a.eval m = .map (some b)) (key : α) (hok : ok key) (hx : a.eval x = ek key) (r : Value) (hr : (if c then .tuple #[((mlook l key).map ev).getD z, .bool (mlook l key).isSome] else ((mlook l key).map ev).getD z) = r)
    (hK : wpList P ops Q rest (a.put o.dst r) w) : wpList P ops Q (o :: rest) a w := by
  refine wpList_plain hg fun K' hK' => ?_
  have hrun := h.lookup K ht hz hok c
  rw [hr] at hrun
  unfold Oper.wp
  simp [execOp, hop, hm, hx, hrun, Result.andThen]
  exact hK' _ _ hK
theorem wpList_mset (hg : o.guard = none) (m x v : Operand) (t : TypeId) (hop : o.op = Op.mapUpdate t m x v) (e : TypeId) (ht : P.underlying t = some (.map k e))
    (K : MK P k ek ok) (h : MapIs w b ek ev ok l) (hm : a.eval m = .map (some b)) (key : α) (hok : ok key) (hx : a.eval x = ek key) (y : β) (hv : a.eval v = ev y)
    (hK : ∀ w', MapIs w' b ek ev ok (mput l key y) → Ch [b] w w' → wpList P ops Q rest (a.put o.dst undef) w') : wpList P ops Q (o :: rest) a w := by
  refine wpList_plain hg fun K' hK' => ?_
  obtain ⟨w', hrun, r1, r2⟩ := h.update K ht hok y
  unfold Oper.wp
  simp [execOp, hop, hm, hx, hv, hrun, Result.andThen]
  exact hK' _ _ (hK w' r1 r2)
theorem wpList_mdel (hg : o.guard = none) (m x : Operand) (t : TypeId) (hop : o.op = Op.call { callee := Callee.builtin Builtin.delete, args := #[m, x], argTypes := #[t, k] }) (e : TypeId) (ht : P.underlying t = some (.map k e))
    (K : MK P k ek ok) (h : MapIs w b ek ev ok l) (hm : a.eval m = .map (some b)) (key : α) (hok : ok key) (hx : a.eval x = ek key)
    (hK : ∀ w', MapIs w' b ek ev ok (mdel l key) → Ch [b] w w' → wpList P ops Q rest (a.put o.dst (.tuple #[])) w') : wpList P ops Q (o :: rest) a w := by
  refine wpList_plain hg fun K' hK' => ?_
  obtain ⟨w', hrun, r1, r2⟩ := h.delete K ht hok o.type
  unfold Oper.wp
  simp [execOp, hop, resolve, invoke, builtin, hm, hx, hrun, Result.andThen]
  exact hK' _ _ (hK w' r1 r2)
theorem wpList_mlen (hg : o.guard = none) (m : Operand) (t : TypeId) (hop : o.op = Op.call { callee := Callee.builtin Builtin.len, args := #[m], argTypes := #[t] }) (e : TypeId) (ht : P.underlying t = some (.map k e))
    (h : MapIs w b ek ev ok l) (hm : a.eval m = .map (some b)) (hK : wpList P ops Q rest (a.put o.dst (.int .i64 l.length)) w) : wpList P ops Q (o :: rest) a w := by
  refine wpList_plain hg fun K' hK' => ?_
  unfold Oper.wp
  simp [execOp, hop, resolve, invoke, builtin, hm, h.len ht o.type, Result.andThen]
  exact hK' _ _ hK
theorem wpList_mrange (hg : o.guard = none) (m : Operand) (t : TypeId) (hop : o.op = Op.range t m) (e : TypeId) (ht : P.underlying t = some (.map k e))
    (h : MapIs w b ek ev ok l) (hm : a.eval m = .map (some b))
    (hK : ∀ w' r, w.heap.size ≤ r → IterIs w' r b ek ev ok l l → Ch [] w w' → wpList P ops Q rest (a.put o.dst (.pointer (some ⟨r, 0, none⟩))) w') : wpList P ops Q (o :: rest) a w := by
  refine wpList_plain hg fun K' hK' => ?_
  obtain ⟨w', hrun, r1, r2⟩ := h.range ht
  unfold Oper.wp
  simp [execOp, hop, hm, hrun, Result.andThen]
  exact hK' _ _ (hK w' _ (Nat.le_refl _) r1 r2)
/-- A step of the iterator r: p has come; left' is to come. -/
structure Stepped (w : World) (r b : Nat) (ek : α → Value) (ev : β → Value) (ok : α → Prop) (l left : List (α × β)) (p : α × β) (left' : List (α × β)) (w' : World) : Prop where
  mem : p ∈ left
  eq : left' = left.filter (fun q => decide (q.1 ≠ p.1))
  lt : left'.length < left.length
  it : IterIs w' r b ek ev ok l left'
  ch : Ch [r] w w'
theorem wpList_mnext (hg : o.guard = none) (it : Operand) (hop : o.op = Op.next it false) {r : Nat} (h : IterIs w r b ek ev ok l left) (hit : a.eval it = .pointer (some ⟨r, 0, none⟩))
    (hDone : Hid (left = []) → wpList P ops Q rest (a.put o.dst (.tuple #[.bool false])) w)
    (hMore : ∀ (x : α) (y : β) left' w', Stepped w r b ek ev ok l left (x, y) left' w' → (Instr.entry (.pointer (some ⟨r, 0, none⟩))).run P w' = .ok (.tuple #[ek x, ev y]) w' →
      wpList P ops Q rest (a.put o.dst (.tuple #[.bool true, ek x, ev y])) w') : wpList P ops Q (o :: rest) a w := by
  refine wpList_plain hg fun K' hK' => ?_
  unfold Oper.wp
  rcases h.next (P := P) o.type with ⟨h0, hrun⟩ | ⟨p, left', w', h1, h2, h3, hrun, h4, h5, h6⟩
  · simp [execOp, hop, hit, hrun, Result.andThen]
    exact hK' _ _ (hDone (Lib.hid h0))
  · simp [execOp, hop, hit, hrun, Result.andThen]
    exact hK' _ _ (hMore p.1 p.2 left' w' ⟨h1, h2, h3, h4, h5⟩ h6)
theorem wpList_mdel_it (hg : o.guard = none) (m x : Operand) (t : TypeId) (hop : o.op = Op.call { callee := Callee.builtin Builtin.delete, args := #[m, x], argTypes := #[t, k] }) (e : TypeId) (ht : P.underlying t = some (.map k e))
    (K : MK P k ek ok) {r : Nat} (h : IterIs w r b ek ev ok l left) (hm : a.eval m = .map (some b)) (key : α) (hok : ok key) (hne : ∀ p ∈ left, p.1 ≠ key) (hx : a.eval x = ek key)
    (hK : ∀ w', IterIs w' r b ek ev ok (mdel l key) left → Ch [b] w w' → wpList P ops Q rest (a.put o.dst (.tuple #[])) w') : wpList P ops Q (o :: rest) a w := by
  refine wpList_plain hg fun K' hK' => ?_
  obtain ⟨w', hrun, r1, r2⟩ := h.delete K ht hok hne o.type
  unfold Oper.wp
  simp [execOp, hop, resolve, invoke, builtin, hm, hx, hrun, Result.andThen]
  exact hK' _ _ (hK w' r1 r2)
end
end Go.Proofs.Ytanlbnipbbjheaa.K
