/- Maps of a call's own, at the operations of a woven walk; a struct stored into a row of the call's own. -/
import Derived.Test.YtggcpbnlblbpjaaMaps
import Derived.Test.YtggcpbnlblbpjaaWeave
namespace Go.Proofs.Ytggcpbnlblbpjaa.K
open Go Go.RowKit Go.Proofs.YtggcpbnlblbpjaaW.PrintLast
set_option linter.unusedVariables false
set_option linter.unusedSimpArgs false
set_option linter.unusedSectionVars false
section
variable {α β : Type} [DecidableEq α] {ek : α → Value} {ev : β → Value} {ok : α → Prop} {l : List (α × β)} {P : Program} {k : TypeId}
variable {w : World} {ops : Array Oper} {oi : Oper} {a : Act} {Q : Exit → Act → World → Prop} {b : Nat} {N : Option Tmp} {K : Act → World → Prop}
theorem MapIs.no_row (h : MapIs w b ek ev ok l) {base : Nat} {e : TypeId} {size : Nat} {v : Value} {n : Nat} {xs : List Value} (ho : OwnS w base e size v n xs) : b ∉ rl v := fun hk => by
  rcases ho.2 with ⟨A, rfl, _⟩ | ⟨g, cap, cur, rfl, h0, _, hg, _⟩
  · rw [rl_zero] at hk
    simp at hk
  · rw [rl_some g n cap h0] at hk
    have : b = g := by simpa using hk
    exact h.no_cells hg this
theorem MapIs.ne_new (h : MapIs w b ek ev ok l) {g : Nat} (hg : Hid (g = w.heap.size)) : b ≠ g := by
  have := h.lt
  have := hg.out
  omega
theorem lk_run {t : TypeId} {m x : Operand} {c : Bool} (ho : oi.op = .lookup t m x c) (K : MK P k ek ok) (h : MapIs w b ek ev ok l) {e : TypeId} (ht : P.underlying t = some (.map k e)) {z : Value} (hz : (zeroValue e).run P w = .ok z w)
    (hm : a.eval m = .map (some b)) (key : α) (hok : ok key) (hx : a.eval x = ek key) (r : Value) (hr : (if c then .tuple #[((mlook l key).map ev).getD z, .bool (mlook l key).isSome] else ((mlook l key).map ev).getD z) = r) : (execOp a.eval oi).run P w = .ok (.value r) w := by
  have hrun := h.lookup K ht hz hok c
  rw [hr] at hrun
  unfold execOp
  simp [ho, hm, hx, hrun, Result.andThen]
theorem e_mset {t : TypeId} {m x v : Operand} (hw : Region.wanted oi (yielded ops a.tmps) = true) (hN : oi.dst = none) (ho : oi.op = .mapUpdate t m x v) {e : TypeId} (ht : P.underlying t = some (.map k e)) (hk : MK P k ek ok) (h : MapIs w b ek ev ok l)
    (hm : a.eval m = .map (some b)) (key : α) (hok : ok key) (hx : a.eval x = ek key) (y : β) (hv : a.eval v = ev y)
    (hK : ∀ w', MapIs w' b ek ev ok (mput l key y) → Ch [b] w w' → K a w') : if Region.wanted oi (yielded ops a.tmps) = true then Oper.wp P oi a w K Q else K (a.put none undef) w := by
  obtain ⟨w', hrun, r1, r2⟩ := h.update hk ht hok y
  refine skip_ hw hN (w1 := w') ?_ (hK _ r1 r2)
  unfold execOp
  simp [ho, hm, hx, hv, hrun, Result.andThen]
theorem e_mmake {t : TypeId} (hw : Region.wanted oi (yielded ops a.tmps) = true) (hN : oi.dst = N) (ho : oi.op = .makeMap t none) (ek : α → Value) (ev : β → Value) (ok : α → Prop)
    (hK : ∀ b w', Hid (b = w.heap.size) → MapIs w' b ek ev ok [] → Ch [] w w' → K (a.put N (.map (some b))) w') : if Region.wanted oi (yielded ops a.tmps) = true then Oper.wp P oi a w K Q else K (a.put N undef) w := by
  refine value_ (w1 := w.alloc (.map #[] 0)) hw hN ?_ (hK _ _ (Lib.hid rfl) (MapIs.new w) ((Ch.refl [] w).alloc _))
  unfold execOp
  have hr : (Instr.makeMap t none).run P w = .ok (.map (some w.heap.size)) (w.alloc (.map #[] 0)) := rfl
  simp [ho, hr, Result.andThen]
end
section
variable {P : Program} {ops : Array Oper} {Q : Exit → Act → World → Prop} {oi : Oper} {a : Act} {w : World} {K : Act → World → Prop}
theorem e_storeSN {x y : Operand} {ty : TypeId} (hw : Region.wanted oi (yielded ops a.tmps) = true) (hN : oi.dst = none) (ho : oi.op = .store ty x y) {base : Nat} {e : TypeId} {size g n cap : Nat} {xs : List Value} (hown : OwnS w base e size (.slice (some ⟨g, 0, none⟩) n cap) n xs) (off : Nat) (cells : Array Value) (hx : a.eval x = .pointer (some ⟨g, off, none⟩)) (hy : a.eval y = .agg cells)
    (hi : (P.info? ty).map (·.size) = some cells.size) (hoff : off + cells.size ≤ n * size) (h1 : ∀ u ∈ cells.toList, u.oneCell' = true) (h0 : 0 < cap)
    (h : ∀ w', OwnS w' base e size (.slice (some ⟨g, 0, none⟩) n cap) n (xs.take off ++ cells.toList ++ xs.drop (off + cells.size)) → Ch [g] w w' → K a w') : if Region.wanted oi (yielded ops a.tmps) = true then Oper.wp P oi a w K Q else K (a.put none undef) w := by
  obtain ⟨w', hr, h2, h3⟩ := hown.put hi hoff h1 h0
  refine skip_ hw hN (w1 := w') ?_ (h _ h2 h3)
  unfold execOp
  simp only [ho, hx, hy, Instr.storeAt, Instr.sureAddr, Sem.run_bind, Sem.run_pure, Result.andThen_ok, hr]
end
end Go.Proofs.Ytggcpbnlblbpjaa.K
