/- Regions that draw their order, step by step: what yields its value in every world that meets a condition; what is run, and what is known behind it. -/
import Derived.Test.YtmoelehhofmhcaaCells
import Derived.Test.YtmoelehhofmhcaaWLast
namespace Go.Proofs.Ytmoelehhofmhcaa.K
open Go Go.RowKit Go.Proofs.YtmoelehhofmhcaaW.PrintLast
set_option linter.unusedVariables false
set_option linter.unusedSimpArgs false
section
variable {P : Program} {ops : Array Oper} {Q : Exit → Act → World → Prop} {S : World → Prop} {oi : Oper} {a : Act}
theorem y_run {v : Value} (hw : Region.wanted oi (yielded ops a.tmps) = true) (hrun : ∀ w, (execOp a.eval oi).run P w = .ok (.value v) w) : Yields P ops oi v a := .inl ⟨hw, hrun⟩
theorem y_move {v : Value} {x : Operand} (ho : oi.op = .move x) (hw : Region.wanted oi (yielded ops a.tmps) = true) (hx : a.eval x = v) : Yields P ops oi v a := .inl ⟨hw, fun w => by unfold execOp; simp only [ho, hx, Sem.run_pure]⟩
theorem y_assign {v : Value} {x : Operand} (ho : oi.op = .assign x) (hw : Region.wanted oi (yielded ops a.tmps) = true) (hx : a.eval x = v) : Yields P ops oi v a := .inl ⟨hw, fun w => by unfold execOp; simp only [ho, hx, Sem.run_pure]⟩
theorem y_nil {p : Addr} {x : Operand} (ho : oi.op = .nilCheck x) (hw : Region.wanted oi (yielded ops a.tmps) = true) (hx : a.eval x = .pointer (some p)) : Yields P ops oi (.pointer (some p)) a := .inl ⟨hw, fun w => by unfold execOp; simp only [ho, hx, Sem.run_pure]⟩
theorem y_off (hw : Region.wanted oi (yielded ops a.tmps) = false) : Yields P ops oi undef a := .inr ⟨hw, rfl⟩
theorem y_load {v : Value} {x : Operand} {ty : TypeId} {p : Addr} (ho : oi.op = .load ty x) (hw : Region.wanted oi (yielded ops a.tmps) = true) (hx : a.eval x = .pointer (some p)) (hl : ∀ w, S w → (loadVar ty p).run P w = .ok v w) : YieldsIf P ops S oi v a :=
  .inl ⟨hw, fun w hS => by
    unfold execOp
    simp only [ho, hx, Instr.loadAt, Instr.sureAddr, Sem.run_bind, Sem.run_pure, Result.andThen_ok, hl w hS]⟩
end
section
variable {P : Program} {w : World}
/-- One cell, loaded. -/
theorem run_load_one {p : Addr} {ty : TypeId} {d : TypeDesc} {v : Value} (h : w.cell? p = some v) (hu : P.underlying ty = some d) (hd : (match d with | .struct _ | .array _ _ => true | _ => false) = false) : (loadVar ty p).run P w = .ok v w := by
  have hagg : (isAgg ty).run P w = .ok false w := by
    unfold isAgg
    rw [Sem.run_bind, run_underlying hu w]
    cases d <;> simp_all
  simp [loadVar, Sem.run_bind, hagg, h]
theorem run_buildS {t e : TypeId} {i : TypeInfo} {z : Value} {size len : Nat} {parts : Array (Nat × Value)} {cells : Array Value} (ht : P.underlying t = some (.slice e)) (hi : P.info? e = some i) (hz : i.zero = some z) (hsize : i.size = size) (h24 : len * size ≤ 2 ^ 24) (h0 : 0 < len * size)
    (hf : Instr.fill (fun i => some (i * size, size)) ((Array.range (len * size)).map (z.cells[· % z.cells.size]!)) parts.toList = some cells) :
    (Instr.buildSlice t len parts).run P w = .ok (.slice (some ⟨w.heap.size, 0, none⟩) len len) (w.alloc (.cells cells e)) := by
  subst hsize
  have h0' : len ≠ 0 ∧ i.size ≠ 0 := by constructor <;> (intro h; simp [h] at h0)
  have h24' : ¬ 16777216 < len * i.size := by simp at h24; omega
  simp [Instr.buildSlice, run_underlying ht, sizeOf, typeInfo, zeroValue, hi, hz, h0', h24', hf, newRow]
  intro h9
  omega
theorem run_buildS0 {t e : TypeId} {i : TypeInfo} (ht : P.underlying t = some (.slice e)) (hi : P.info? e = some i) :
    (Instr.buildSlice t 0 #[]).run P w = .ok (.slice (some ⟨w.heap.size, 0, none⟩) 0 0) (w.alloc (.cells #[] e)) := by
  simp [Instr.buildSlice, run_underlying ht, sizeOf, typeInfo, hi, newRow, Instr.fill]
  congr 2
  apply Array.eq_empty_of_size_eq_zero
  simp
end
section
variable {P : Program} {ops : Array Oper} {Q : Exit → Act → World → Prop} {oi : Oper} {a : Act} {w : World} {N : Option Tmp} {K : Act → World → Prop}
theorem e_buildS {t e : TypeId} {i : TypeInfo} {z : Value} {size len : Nat} {ps : Array (Nat × Operand)} {parts : Array (Nat × Value)} {cells : Array Value} (hw : Region.wanted oi (yielded ops a.tmps) = true) (hN : oi.dst = N) (ho : oi.op = .buildSlice t len ps) (hp : (ps.map fun (i, x) => (i, a.eval x)) = parts)
    (ht : P.underlying t = some (.slice e)) (hi : P.info? e = some i) (hz : i.zero = some z) (hsize : i.size = size) (h24 : len * size ≤ 2 ^ 24) (h0 : 0 < len * size)
    (hf : Instr.fill (fun i => some (i * size, size)) ((Array.range (len * size)).map (z.cells[· % z.cells.size]!)) parts.toList = some cells)
    (h : ∀ g w', Hid (g = w.heap.size) → Blk w' g cells e → Ch [] w w' → K (a.put N (.slice (some ⟨g, 0, none⟩) len len)) w') : if Region.wanted oi (yielded ops a.tmps) = true then Oper.wp P oi a w K Q else K (a.put N undef) w :=
  value_ hw hN (by unfold execOp; simp only [ho, hp, Sem.run_bind, Sem.run_pure, run_buildS (w := w) ht hi hz hsize h24 h0 hf, Result.andThen_ok]) (h _ _ (Lib.hid rfl) (blk_new w cells e) ((Ch.refl [] w).alloc _))
theorem e_buildS0 {t e : TypeId} {i : TypeInfo} (hw : Region.wanted oi (yielded ops a.tmps) = true) (hN : oi.dst = N) (ho : oi.op = .buildSlice t 0 #[])
    (ht : P.underlying t = some (.slice e)) (hi : P.info? e = some i)
    (h : ∀ g w', Hid (g = w.heap.size) → Ch [] w w' → K (a.put N (.slice (some ⟨g, 0, none⟩) 0 0)) w') : if Region.wanted oi (yielded ops a.tmps) = true then Oper.wp P oi a w K Q else K (a.put N undef) w :=
  value_ (w1 := w.alloc (.cells #[] e)) hw hN (by unfold execOp; simp only [ho, List.map_toArray, List.map_nil, Sem.run_bind, Sem.run_pure, run_buildS0 (w := w) ht hi, Result.andThen_ok]) (h _ _ (Lib.hid rfl) ((Ch.refl [] w).alloc _))
theorem e_append {s x : Operand} {t : TypeId} (hw : Region.wanted oi (yielded ops a.tmps) = true) (hN : oi.dst = N) (ho : oi.op = .call { callee := .builtin .append, args := #[s, x], argTypes := #[t, t] })
    (base : Nat) (e : TypeId) (i : TypeInfo) (z : Value) (size bytes : Nat) (ht : P.underlying t = some (.slice e)) (hi : P.info? e = some i) (hz : i.zero = some z)
    (hsize : i.size = size) (hby : i.bytes = bytes) (hzs : z.cells.size = size) (hsz : 0 < size)
    (v : Value) (n : Nat) (xs : List Value) (hs : a.eval s = v) (hown : OwnS w base e size v n xs)
    (xv : Value) (m : Nat) (news : List Value) (hx : a.eval x = xv) (hsrc : SrcIs w xv m news size) (h1 : ∀ u ∈ news, u.oneCell' = true)
    (h63 : n + m ≤ maxLen) (hbytes : (n + m) * bytes ≤ 140737488355328) (hbase : base ≤ w.heap.size)
    (h : ∀ v' w', OwnS w' base e size v' (n + m) (xs ++ news) → Ch (rl v) w w' → (∀ k, k ∈ rl v' → k ∈ rl v ∨ w.heap.size ≤ k) → (m = 0 → v' = v ∧ w' = w) → K (a.put N v') w') : if Region.wanted oi (yielded ops a.tmps) = true then Oper.wp P oi a w K Q else K (a.put N undef) w := by
  obtain ⟨v', w', hr, h2, h3, h4, h5⟩ := run_append_S (P := P) w base t oi.type e i z size bytes ht hi hz hsize hby hzs hsz v n xs hown xv m news hsrc h1 h63 hbytes hbase
  refine value_ hw hN ?_ (h v' w' h2 h3 h4 h5)
  unfold execOp
  simp only [ho, resolve, invoke, builtin, Sem.run_bind, Sem.run_pure, Result.andThen_ok, List.map_toArray, List.map_cons, List.map_nil, hs, hx, hr]
theorem e_store1 {x y : Operand} {ty : TypeId} (hw : Region.wanted oi (yielded ops a.tmps) = true) (hN : oi.dst = none) (ho : oi.op = .store ty x y) {b j : Nat} {v : Value} {cs : Array Value} {t : TypeId} (hx : a.eval x = .pointer (some ⟨b, j, none⟩)) (hy : a.eval y = v)
    (hb : Blk w b cs t) (hj : j < cs.size) (hi : (P.info? ty).map (·.size) = some 1) (h1 : v.oneCell' = true)
    (h : ∀ w', Blk w' b (cs.setIfInBounds j v) t → Ch [b] w w' → K a w') : if Region.wanted oi (yielded ops a.tmps) = true then Oper.wp P oi a w K Q else K (a.put none undef) w := by
  refine skip_ hw hN (w1 := w.setCell ⟨b, j, none⟩ v) ?_ (h _ (hb.set j v) ((Ch.refl _ _).setCell (.inl (by simp)) v))
  have hc : w.cell? ⟨b, j, none⟩ = some cs[j] := by rw [hb.cell, Array.getElem?_eq_getElem hj]
  have hf := hb.frozen j
  have hcells : v.cells = #[v] := by cases v <;> first | rfl | simp [Value.oneCell'] at h1
  cases hq : P.info? ty with
  | none => simp [hq] at hi
  | some i =>
    have hs : i.size = 1 := by simpa [hq] using hi
    have hst : (store (⟨b, j, none⟩ : Addr) v).run P w = .ok () (w.setCell ⟨b, j, none⟩ v) := by
      rw [run_store P w _ v _ h1, hc]
      simp [hf]
    have hadd : (⟨b, j, none⟩ : Addr).add 0 = ⟨b, j, none⟩ := by simp [Addr.add]
    unfold execOp
    simp only [ho, hx, hy]
    simp [Instr.storeAt, Instr.sureAddr, storeVar, sizeOf, typeInfo, hq, hs, hcells, storeCells, hadd, hst]
theorem e_storeN {x y : Operand} {ty : TypeId} (hw : Region.wanted oi (yielded ops a.tmps) = true) (hN : oi.dst = none) (ho : oi.op = .store ty x y) {g : Nat} {cells old : Array Value} {t : TypeId} (hx : a.eval x = .pointer (some ⟨g, 0, none⟩)) (hy : a.eval y = .agg cells)
    (hg : Blk w g old t) (hi : (P.info? ty).map (·.size) = some cells.size) (hold : old.size = cells.size) (h1' : ∀ u ∈ cells.toList, u.oneCell' = true)
    (h : ∀ w', Blk w' g cells t → Ch [g] w w' → K a w') : if Region.wanted oi (yielded ops a.tmps) = true then Oper.wp P oi a w K Q else K (a.put none undef) w := by
  have h1 : cells.all (·.oneCell') = true := Array.all_eq_true_iff_forall_mem.2 fun u hu => h1' u (by simpa using hu)
  refine skip_ hw hN (w1 := w.setRow g cells) ?_ (h _ (setRow_heap w g old cells t (0, 0) hg) ⟨rfl, rfl, rfl, by simp, fun k _ hk => setRow_other w g k _ (by simpa using hk)⟩)
  unfold execOp
  simp only [ho, hx, hy, Instr.storeAt, Instr.sureAddr, Sem.run_bind, Sem.run_pure, Result.andThen_ok, run_storeVar_row w g t ty old cells hg hi hold h1]
end
/-! The same in a plain region, each with what is known behind it. -/
section
variable {P : Program} {ops : Array Oper} {Q : Exit → Act → World → Prop} {rest : List Oper} {o : Oper} {a : Act} {w : World}
theorem p_box {elem : TypeId} {x : Operand} (hg : o.guard = none) (ho : o.op = .box elem x) {cs : Array Value} (hx : a.eval x = .agg cs)
    (h : ∀ g w', Hid (g = w.heap.size) → Blk w' g cs elem → Ch [] w w' → wpList P ops Q rest (a.put o.dst (.pointer (some ⟨g, 0, none⟩))) w') : wpList P ops Q (o :: rest) a w := by
  refine wpList_plain hg fun K hK => ?_
  unfold Oper.wp execOp
  simp only [ho, hx, Instr.box, newVar, newRow, Sem.run_bind, Sem.run_pure, Result.andThen_ok, Value.cells]
  simp
  exact hK _ _ (h _ _ (Lib.hid rfl) (blk_new w cs elem) ((Ch.refl [] w).alloc _))
theorem p_alloc {elem : TypeId} (hg : o.guard = none) (ho : o.op = .alloc elem) {cs : Array Value} (hz : (P.info? elem).bind (·.zero) = some (.agg cs))
    (h : ∀ g w', Hid (g = w.heap.size) → Blk w' g cs elem → Ch [] w w' → wpList P ops Q rest (a.put o.dst (.pointer (some ⟨g, 0, none⟩))) w') : wpList P ops Q (o :: rest) a w := by
  refine wpList_plain hg fun K hK => ?_
  cases hq : P.info? elem with
  | none => simp [hq] at hz
  | some i =>
    have hz' : i.zero = some (.agg cs) := by simpa [hq] using hz
    unfold Oper.wp execOp
    simp [ho, Instr.alloc, newVar, newRow, zeroValue, typeInfo, hq, hz', Value.cells, Result.andThen]
    exact hK _ _ (h _ _ (Lib.hid rfl) (blk_new w cs elem) ((Ch.refl [] w).alloc _))
theorem p_load {ty : TypeId} {x : Operand} {g : Nat} {cs : Array Value} {t : TypeId} {d : TypeDesc} (hgd : o.guard = none) (ho : o.op = .load ty x) (hb : Blk w g cs t) (hx : a.eval x = .pointer (some ⟨g, 0, none⟩))
    (hu : P.underlying ty = some d) (hd : (match d with | .struct _ | .array _ _ => true | _ => false) = true) (hi : (P.info? ty).map (·.size) = some cs.size)
    (h : wpList P ops Q rest (a.put o.dst (.agg cs)) w) : wpList P ops Q (o :: rest) a w := wpList_load_row hgd ty x ho g hx t cs (0, 0) d hb hu hd hi h
theorem p_store {ty : TypeId} {x y : Operand} {g : Nat} {cells old : Array Value} {t : TypeId} (hgd : o.guard = none) (ho : o.op = .store ty x y) (hb : Blk w g old t) (hx : a.eval x = .pointer (some ⟨g, 0, none⟩)) (hy : a.eval y = .agg cells)
    (hi : (P.info? ty).map (·.size) = some cells.size) (hold : old.size = cells.size) (h1 : cells.all (·.oneCell') = true)
    (h : ∀ w', Blk w' g cells t → Ch [g] w w' → wpList P ops Q rest (a.put o.dst undef) w') : wpList P ops Q (o :: rest) a w :=
  wpList_store_row hgd ty x y ho g cells hx hy t old hb hi hold h1 (h _ (setRow_heap w g old cells t (0, 0) hb) ⟨rfl, rfl, rfl, by simp, fun k _ hk => setRow_other w g k _ (by simpa using hk)⟩)
theorem p_build {t : TypeId} {parts : Array (Nat × Operand)} {vs : Array (Nat × Value)} (hg : o.guard = none) (ho : o.op = .build t parts) (hp : (parts.map fun (i, x) => (i, a.eval x)) = vs) (cells : Array Value) (hb : P.built t vs.toList = some cells)
    (h : wpList P ops Q rest (a.put o.dst (.agg cells)) w) : wpList P ops Q (o :: rest) a w := by
  subst hp
  exact wpList_build hg t parts ho (by rw [hb]; rfl) (by rw [hb]; exact h)
theorem p_buildS {t e : TypeId} {i : TypeInfo} {z : Value} {size len : Nat} {ps : Array (Nat × Operand)} {parts : Array (Nat × Value)} {cells : Array Value} (hg : o.guard = none) (ho : o.op = .buildSlice t len ps) (hp : (ps.map fun (i, x) => (i, a.eval x)) = parts)
    (ht : P.underlying t = some (.slice e)) (hi : P.info? e = some i) (hz : i.zero = some z) (hsize : i.size = size) (h24 : len * size ≤ 2 ^ 24) (h0 : 0 < len * size)
    (hf : Instr.fill (fun i => some (i * size, size)) ((Array.range (len * size)).map (z.cells[· % z.cells.size]!)) parts.toList = some cells)
    (h : ∀ g w', Hid (g = w.heap.size) → Blk w' g cells e → Ch [] w w' → wpList P ops Q rest (a.put o.dst (.slice (some ⟨g, 0, none⟩) len len)) w') : wpList P ops Q (o :: rest) a w := by
  refine wpList_plain hg fun K hK => ?_
  unfold Oper.wp execOp
  simp only [ho, hp, Sem.run_bind, Sem.run_pure, run_buildS (w := w) ht hi hz hsize h24 h0 hf, Result.andThen_ok]
  exact hK _ _ (h _ _ (Lib.hid rfl) (blk_new w cells e) ((Ch.refl [] w).alloc _))
theorem p_buildS0 {t e : TypeId} {i : TypeInfo} (hg : o.guard = none) (ho : o.op = .buildSlice t 0 #[]) (ht : P.underlying t = some (.slice e)) (hi : P.info? e = some i)
    (h : ∀ g w', Hid (g = w.heap.size) → Ch [] w w' → wpList P ops Q rest (a.put o.dst (.slice (some ⟨g, 0, none⟩) 0 0)) w') : wpList P ops Q (o :: rest) a w := by
  refine wpList_plain hg fun K hK => ?_
  unfold Oper.wp execOp
  simp only [ho, List.map_toArray, List.map_nil, Sem.run_bind, Sem.run_pure, run_buildS0 (w := w) ht hi, Result.andThen_ok]
  exact hK _ _ (h _ _ (Lib.hid rfl) ((Ch.refl [] w).alloc _))
theorem p_store1 {ty : TypeId} {x y : Operand} {b j : Nat} {v : Value} {cs : Array Value} {t : TypeId} (hgd : o.guard = none) (ho : o.op = .store ty x y) (hN : o.dst = none) (hb : Blk w b cs t) (hx : a.eval x = .pointer (some ⟨b, j, none⟩)) (hy : a.eval y = v)
    (hj : j < cs.size) (hi : (P.info? ty).map (·.size) = some 1) (h1 : v.oneCell' = true)
    (h : ∀ w', Blk w' b (cs.setIfInBounds j v) t → Ch [b] w w' → wpList P ops Q rest a w') : wpList P ops Q (o :: rest) a w := by
  refine wpList_plain hgd fun K hK => ?_
  have hw : Region.wanted o (yielded ops a.tmps) = true := by simp [Region.wanted, hgd]
  have := e_store1 (P := P) (Q := Q) (w := w) (K := K) hw hN ho hx hy hb hj hi h1 (fun w' hb' hc => hK _ _ (h w' hb' hc))
  rwa [if_pos hw] at this
end
end Go.Proofs.Ytmoelehhofmhcaa.K
