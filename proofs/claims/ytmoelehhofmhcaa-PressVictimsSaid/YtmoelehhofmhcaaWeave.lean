/- The words of walks that a program of this session prints: one step for one operation, what is known carried from world to world. -/
import Derived.Test.YtmoelehhofmhcaaReg
import Derived.Deep.LoopGhost
import Derived.WalkSpells
namespace Go.Proofs.Ytmoelehhofmhcaa.K
open Go Go.RowKit Go.Proofs.YtmoelehhofmhcaaW.PrintLast
set_option linter.unusedVariables false
set_option linter.unusedSimpArgs false
theorem zP (a : Act) (d : Tmp) (v : Value) : a.put (some d) v = ⟨a.tmps.setIfInBounds d v, a.defers⟩ := rfl
theorem zN (a : Act) (v : Value) : a.put none v = a := rfl
theorem zA {α : Type} (l : List α) (i : Nat) (x : α) : l.toArray.setIfInBounds i x = (l.set i x).toArray := by simp
theorem zB {α : Type} (x y : α) (l : List α) : (x :: l).set 0 y = y :: l := rfl
theorem zC {α : Type} (x y : α) (l : List α) (n : Nat) : (x :: l).set (n + 1) y = x :: l.set n y := rfl
/-- wpList, each operation carried out: no way round. -/
def wpListS (P : Program) (ops : Array Oper) (Q : Exit → Act → World → Prop) : List Oper → Act → World → Prop
  | [], a, w => Q .normal a w
  | o :: rest, a, w => if Region.wanted o (yielded ops a.tmps) then o.wp P a w (wpListS P ops Q rest) Q else wpListS P ops Q rest (a.put o.dst undef) w
theorem wpListS.list {P : Program} {ops : Array Oper} {Q : Exit → Act → World → Prop} : ∀ {l : List Oper} {a : Act} {w : World}, wpListS P ops Q l a w → wpList P ops Q l a w
  | [], _, _, h => h
  | o :: rest, a, w, h => by
    unfold wpListS at h
    unfold wpList
    split
    · rename_i hw; rw [if_pos hw] at h; exact .inl (Oper.wp_mono (fun _ _ h => h.list) h)
    · rename_i hw; rw [if_neg hw] at h; exact h.list
/-- wpListS, behind a name that is not opened. -/
structure WL (P : Program) (ops : Array Oper) (Q : Exit → Act → World → Prop) (l : List Oper) (a : Act) (w : World) : Prop where
  out : wpListS P ops Q l a w
section
variable {P : Program} {Q : Exit → Act → World → Prop} {a : Act} {w : World} {x y : Code}
theorem q_ {fn : Func} {R : Ending → World → Prop} (h : ∀ Q : Exit → Act → World → Prop, (∀ e a w, bodyPost P fn R e a w → Q e a w) → (∀ c a d v w, Q (.panic c) (a.put d v) w → Q (.panic c) a w) → x.wp P Q a w) : x.wp P (bodyPost P fn R) a w := h _ (fun _ _ _ h => h) (fun c a d v w h => by cases d <;> exact h)
theorem s_ {id : Nat} {l : List Oper} (h : ∀ K : Act → World → Prop, (∀ a w, y.wp P Q a w → K a w) → WL P l.toArray (Exit.then K Q) l a w) : (Code.seq (.region id l.toArray false) y).wp P Q a w :=
  wp_seq_k fun K hK => wp_region_lit (h K hK).out.list
theorem r_ {id : Nat} {l : List Oper} (h : WL P l.toArray Q l a w) : (Code.region id l.toArray false).wp P Q a w := wp_region_lit h.out.list
theorem sq_ (h : ∀ K : Act → World → Prop, (∀ a w, y.wp P Q a w → K a w) → x.wp P (Exit.then K Q) a w) : (Code.seq x y).wp P Q a w := wp_seq_k h
theorem th_norm {K : Act → World → Prop} (h : K a w) : Exit.then K Q .normal a w := h
theorem th_exit {K : Act → World → Prop} {id : Nat} (h : Q (.exit id) a w) : Exit.then K Q (.exit id) a w := h
theorem th_ret {K : Act → World → Prop} (h : Q .ret a w) : Exit.then K Q .ret a w := h
theorem ib_norm {id : Nat} (h : Q .normal a w) : Exit.inBlock id Q .normal a w := h
theorem ib_ret {id : Nat} (h : Q .ret a w) : Exit.inBlock id Q .ret a w := h
theorem ib_exit {id : Nat} (h : Q .normal a w) : Exit.inBlock id Q (.exit id) a w := by simp only [Exit.inBlock, if_true]; exact h
theorem ib_other {id id' : Nat} (hn : id' ≠ id) (h : Q (.exit id') a w) : Exit.inBlock id Q (.exit id') a w := by simp only [Exit.inBlock, if_neg hn]; exact h
theorem nl_ {ops : Array Oper} (h : Q .normal a w) : WL P ops Q [] a w := ⟨h⟩
end
section
variable {P : Program} {ops : Array Oper} {Q : Exit → Act → World → Prop} {rest : List Oper} {o : Oper} {a : Act} {w : World}
theorem ef_ (h : ∀ K : Act → World → Prop, (∀ a w, WL P ops Q rest a w → K a w) → if Region.wanted o (yielded ops a.tmps) = true then o.wp P a w K Q else K (a.put o.dst undef) w) : WL P ops Q (o :: rest) a w := ⟨by unfold wpListS; exact h _ fun a w h => h.out⟩
theorem pu_ {v : Value} (hy : Yields P ops o v a) (h' : WL P ops Q rest (a.put o.dst v) w) : WL P ops Q (o :: rest) a w := by
  have h := h'.out
  refine ⟨?_⟩
  unfold wpListS
  rcases hy with ⟨hw, hv⟩ | ⟨hw, rfl⟩
  · rw [if_pos hw]
    unfold Oper.wp
    rw [hv w]
    exact h
  · rw [if_neg (by rw [hw]; simp)]
    exact h
theorem ld_ {ty : TypeId} {x : Operand} {p : Addr} {v : Value} (ho : o.op = .load ty x) (hw : Region.wanted o (yielded ops a.tmps) = true) (hx : a.eval x = .pointer (some p)) (hl : (loadVar ty p).run P w = .ok v w) (h' : WL P ops Q rest (a.put o.dst v) w) : WL P ops Q (o :: rest) a w := by
  have h := h'.out
  refine ⟨?_⟩
  unfold wpListS
  rw [if_pos hw]
  unfold Oper.wp execOp
  simp only [ho, hx, Instr.loadAt, Instr.sureAddr, Sem.run_bind, Sem.run_pure, Result.andThen_ok, hl]
  exact h
/-- Any operation that yields, in the world at hand. -/
theorem an_ {v : Value} (hw : Region.wanted o (yielded ops a.tmps) = true) (hrun : (execOp a.eval o).run P w = .ok (.value v) w) (h' : WL P ops Q rest (a.put o.dst v) w) : WL P ops Q (o :: rest) a w := by
  have h := h'.out
  refine ⟨?_⟩
  unfold wpListS
  rw [if_pos hw]
  unfold Oper.wp
  rw [hrun]
  exact h
end
section
variable {P : Program} {ops : Array Oper} {Q : Exit → Act → World → Prop} {oi : Oper} {a : Act} {w : World} {N : Option Tmp} {K : Act → World → Prop}
/-- A region that draws: the world behind the draw is a new name. -/
theorem startk_ {S : World → Prop} {ds : List Nat} {id n : Nat} (l : Array Bool) (hm : P.follows .mixedOrders = true) (hn : ops.size = n) (hl : Array.replicate n false = l) (hS : ∀ w1, Ch [] w w1 → S w1)
    (h : ∀ w1, Ch [] w w1 → S w1 → wpAnyLast P .any ops Q S ds n l a w1) : (Code.region id ops true).wp P Q a w :=
  start_ l hm hn hl (hS _ (Ch.refl [] w).drew) (h _ (Ch.refl [] w).drew)
theorem e_boxN {elem : TypeId} {x : Operand} (hw : Region.wanted oi (yielded ops a.tmps) = true) (hN : oi.dst = N) (ho : oi.op = .box elem x) {cs : Array Value} {v : Value} (hx : a.eval x = v) (hc : v.cells = cs)
    (h : ∀ g w', Hid (g = w.heap.size) → Blk w' g cs elem → Ch [] w w' → K (a.put N (.pointer (some ⟨g, 0, none⟩))) w') : if Region.wanted oi (yielded ops a.tmps) = true then Oper.wp P oi a w K Q else K (a.put N undef) w := by
  subst hc
  refine value_ (w1 := w.alloc (.cells v.cells elem)) hw hN ?_ (h _ _ (Lib.hid rfl) (blk_new w v.cells elem) ((Ch.refl [] w).alloc _))
  unfold execOp
  simp [ho, hx, Instr.box, newVar, newRow]
theorem e_alloc {elem : TypeId} (hw : Region.wanted oi (yielded ops a.tmps) = true) (hN : oi.dst = N) (ho : oi.op = .alloc elem) {cs : Array Value} (hz : ((P.info? elem).bind (·.zero)).map (·.cells) = some cs)
    (h : ∀ g w', Hid (g = w.heap.size) → Blk w' g cs elem → Ch [] w w' → K (a.put N (.pointer (some ⟨g, 0, none⟩))) w') : if Region.wanted oi (yielded ops a.tmps) = true then Oper.wp P oi a w K Q else K (a.put N undef) w := by
  refine value_ (w1 := w.alloc (.cells cs elem)) hw hN ?_ (h _ _ (Lib.hid rfl) (blk_new w cs elem) ((Ch.refl [] w).alloc _))
  cases hq : P.info? elem with
  | none => simp [hq] at hz
  | some i =>
    cases hz' : i.zero with
    | none => simp [hq, hz'] at hz
    | some z =>
      have hc : z.cells = cs := by simpa [hq, hz'] using hz
      subst hc
      unfold execOp
      simp [ho, Instr.alloc, newVar, newRow, zeroValue, typeInfo, hq, hz']
theorem y_build {t : TypeId} {parts : Array (Nat × Operand)} {vs : Array (Nat × Value)} {cells : Array Value} (hw : Region.wanted oi (yielded ops a.tmps) = true) (ho : oi.op = .build t parts) (hp : (parts.map fun (i, x) => (i, a.eval x)) = vs) (hb : P.built t vs.toList = some cells) : Yields P ops oi (.agg cells) a :=
  .inl ⟨hw, fun W => by
    subst hp
    unfold execOp
    simp only [ho, Sem.run_bind, Sem.run_pure, run_build W t _ cells hb, Result.andThen_ok]⟩
theorem y_pick {c x y : Operand} {t : Bool} {v : Value} (hw : Region.wanted oi (yielded ops a.tmps) = true) (ho : oi.op = .pick c x y) (hc : a.eval c = .bool t) (hv : (if t then a.eval x else a.eval y) = v) : Yields P ops oi v a :=
  .inl ⟨hw, fun W => by
    subst hv
    unfold execOp
    simp [ho, hc, asBool]⟩
theorem e_call {f : FuncId} {fn : Func} {as : Array Operand} {ts : Array TypeId} (hf : P.funcs[f]? = some fn) (hname : (fn.name == "runtime.NumGoroutine") = false) (hb : fn.body.isSome = true) (args : Array Value) (hw : Region.wanted oi (yielded ops a.tmps) = true) (hN : oi.dst = N) (hop : oi.op = .call { callee := .value (.func f), args := as, argTypes := ts }) (hargs : as.map a.eval = args)
    {R : Ending → World → Prop} (hc : Calls P f args w R) (h : ∀ e w', R e w' → ∃ v, e = .returned v ∧ K (a.put N v) w') : if Region.wanted oi (yielded ops a.tmps) = true then Oper.wp P oi a w K Q else K (a.put N undef) w :=
  goes_ hf hname hb args hw hN hop hargs (hc.mono h)
/-- A store into the middle of a row of the call's own. -/
theorem e_storeS {x y : Operand} {ty : TypeId} (hw : Region.wanted oi (yielded ops a.tmps) = true) (hN : oi.dst = none) (ho : oi.op = .store ty x y) {base : Nat} {e : TypeId} {size g n cap : Nat} {xs : List Value} (hown : OwnS w base e size (.slice (some ⟨g, 0, none⟩) n cap) n xs) (off : Nat) (cells : Array Value) (hx : a.eval x = .pointer (some ⟨g, off, none⟩)) (hy : a.eval y = .agg cells)
    (hi : (P.info? ty).map (·.size) = some cells.size) (hoff : off + cells.size ≤ n * size) (h1 : ∀ u ∈ cells.toList, u.oneCell' = true) (h0 : 0 < cap)
    (h : ∀ w', OwnS w' base e size (.slice (some ⟨g, 0, none⟩) n cap) n (xs.take off ++ cells.toList ++ xs.drop (off + cells.size)) → Ch [g] w w' → K a w') : if Region.wanted oi (yielded ops a.tmps) = true then Oper.wp P oi a w K Q else K (a.put none undef) w := by
  obtain ⟨w', hr, h2, h3⟩ := hown.put (P := P) hi hoff h1 h0
  refine skip_ hw hN (w1 := w') ?_ (h w' h2 h3)
  unfold execOp
  simp only [ho, hx, hy, Instr.storeAt, Instr.sureAddr, Sem.run_bind, Sem.run_pure, Result.andThen_ok, hr]
theorem run_store_one {p : Addr} {ty : TypeId} {v u : Value} (hc : w.cell? p = some u) (hf : w.frozen? p = false) (hi : (P.info? ty).map (·.size) = some 1) (h1 : v.oneCell' = true) : (storeVar ty p v).run P w = .ok () (w.setCell p v) := by
  have hcells : v.cells = #[v] := by cases v <;> first | rfl | simp [Value.oneCell'] at h1
  cases hq : P.info? ty with
  | none => simp [hq] at hi
  | some i =>
    have hs : i.size = 1 := by simpa [hq] using hi
    have hadd : p.add 0 = p := by
      unfold Addr.add
      split <;> simp_all
    have hst : (store p v).run P w = .ok () (w.setCell p v) := by
      rw [run_store P w _ v _ h1, hc]
      simp [hf]
    simp [storeVar, sizeOf, typeInfo, hq, hs, hcells, storeCells, hadd, hst]
theorem e_storeS1 {x y : Operand} {ty : TypeId} (hw : Region.wanted oi (yielded ops a.tmps) = true) (hN : oi.dst = none) (ho : oi.op = .store ty x y) {base : Nat} {e : TypeId} {size g n cap : Nat} {xs : List Value} (hown : OwnS w base e size (.slice (some ⟨g, 0, none⟩) n cap) n xs) (off : Nat) (v : Value) (hx : a.eval x = .pointer (some ⟨g, off, none⟩)) (hy : a.eval y = v)
    (hi : (P.info? ty).map (·.size) = some 1) (hoff : off < n * size) (h1 : v.oneCell' = true)
    (h : ∀ w', OwnS w' base e size (.slice (some ⟨g, 0, none⟩) n cap) n (xs.set off v) → Ch [g] w w' → K a w') : if Region.wanted oi (yielded ops a.tmps) = true then Oper.wp P oi a w K Q else K (a.put none undef) w := by
  have hn : 0 < n := by
    rcases Nat.eq_zero_or_pos n with h0 | h0
    · subst h0; simp at hoff
    · exact h0
  obtain ⟨g', cap', he, _, _, _, hc, hf⟩ := hown.some_ hn
  injection he with e1 e2 e3
  injection e1 with e1
  injection e1 with e1 _ _
  subst e1
  have hlt : off < xs.length := by rw [hown.1]; exact hoff
  have hcell : w.cell? ⟨g, off, none⟩ = some xs[off] := by
    have := hc off _ (List.getElem?_eq_getElem hlt)
    rwa [add_plain, Nat.zero_add] at this
  obtain ⟨h2, h3⟩ := hown.set off v hn
  refine skip_ hw hN (w1 := w.setCell ⟨g, off, none⟩ v) ?_ (h _ h2 h3)
  unfold execOp
  simp only [ho, hx, hy, Instr.storeAt, Instr.sureAddr, Sem.run_bind, Sem.run_pure, Result.andThen_ok, run_store_one hcell (hf off) hi h1]
end
/-! What a function gives back. -/
section
variable {P : Program} {fn : Func} {tmps : Array Value} {w : World}
def rd1 (tmps : Array Value) (r : ResultVar) : Sem Value := match r with
  | .tmp t => pure (tmps.getD t undef)
  | .cell a t => do loadVar t (← asAddr (tmps.getD a undef))
theorem results_eq (fn : Func) (tmps : Array Value) : results fn tmps = (do
    let vs ← fn.results.mapM (rd1 tmps)
    pure (if h : vs.size = 1 then vs[0] else .tuple vs)) := rfl
def rdv (P : Program) (tmps : Array Value) (w : World) (r : ResultVar) (v : Value) : Prop := (rd1 tmps r).run P w = .ok v w
theorem rdv_tmp {t : Tmp} {v : Value} (h : tmps.getD t undef = v) : rdv P tmps w (.tmp t) v := by unfold rdv rd1; simp only [h, Sem.run_pure]
theorem rdv_cell {t : Tmp} {ty : TypeId} {p : Addr} {v : Value} (h : tmps.getD t undef = .pointer (some p)) (hl : (loadVar ty p).run P w = .ok v w) : rdv P tmps w (.cell t ty) v := by
  unfold rdv rd1
  simp only [h, Sem.run_bind, asAddr, Sem.run_pure, Result.andThen_ok, hl]
theorem res0 (h : fn.results = #[]) : (results fn tmps).run P w = .ok (.tuple #[]) w := by simp [results, h]
theorem res1 {r : ResultVar} {v : Value} (h : fn.results = #[r]) (h1 : rdv P tmps w r v) : (results fn tmps).run P w = .ok v w := by
  unfold rdv at h1
  simp [results_eq, h, h1, Result.andThen]
theorem res2 {r s : ResultVar} {v u : Value} (h : fn.results = #[r, s]) (h1 : rdv P tmps w r v) (h2 : rdv P tmps w s u) : (results fn tmps).run P w = .ok (.tuple #[v, u]) w := by
  unfold rdv at h1 h2
  simp [results_eq, h, h1, h2, Result.andThen]
theorem res3 {r s q : ResultVar} {v u x : Value} (h : fn.results = #[r, s, q]) (h1 : rdv P tmps w r v) (h2 : rdv P tmps w s u) (h3 : rdv P tmps w q x) : (results fn tmps).run P w = .ok (.tuple #[v, u, x]) w := by
  unfold rdv at h1 h2 h3
  simp [results_eq, h, h1, h2, h3, Result.andThen]
end
theorem ones_nil : ∀ u ∈ ([] : List Value), u.oneCell' = true := fun _ h => absurd h (by simp)
theorem ones_cons {v : Value} {l : List Value} (h : v.oneCell' = true) (t : ∀ u ∈ l, u.oneCell' = true) : ∀ u ∈ v :: l, u.oneCell' = true := fun u hu => by
  rcases List.mem_cons.1 hu with rfl | hu
  · exact h
  · exact t u hu
/-! Not among. -/
theorem nin_cons {x a : Nat} {l : List Nat} (h : x ≠ a) (t : x ∉ l) : x ∉ a :: l := by simp [h, t]
theorem nin_nil {x : Nat} : x ∉ ([] : List Nat) := by simp
theorem nin_app {x : Nat} {l m : List Nat} (h : x ∉ l) (t : x ∉ m) : x ∉ l ++ m := by simp [h, t]
theorem rnin_nil {v : Value} : ∀ k, k ∈ rl v → k ∉ ([] : List Nat) := fun _ _ => by simp
theorem rnin_cons {v : Value} {a : Nat} {l : List Nat} (h : a ∉ rl v) (t : ∀ k, k ∈ rl v → k ∉ l) : ∀ k, k ∈ rl v → k ∉ a :: l := fun k hk => nin_cons (fun e => h (e ▸ hk)) (t k hk)
theorem rnin_app {v : Value} {l m : List Nat} (h : ∀ k, k ∈ rl v → k ∉ l) (t : ∀ k, k ∈ rl v → k ∉ m) : ∀ k, k ∈ rl v → k ∉ l ++ m := fun k hk => nin_app (h k hk) (t k hk)
theorem Blk.ne_type {w : World} {a b : Nat} {ca cb : Array Value} {s t : TypeId} (h : Blk w a ca s) (k : Blk w b cb t) (hne : s ≠ t) : a ≠ b := by
  rintro rfl
  unfold Blk at h k
  rw [h] at k
  injection k with k
  injection k with _ k
  exact hne k
theorem Blk.ne_new {w : World} {a g : Nat} {ca : Array Value} {s : TypeId} (h : Blk w a ca s) (hg : Hid (g = w.heap.size)) : a ≠ g := by
  have := h.lt
  have := hg.out
  omega
theorem OwnS.ne_new {w : World} {base : Nat} {e : TypeId} {size : Nat} {v : Value} {n : Nat} {xs : List Value} (h : OwnS w base e size v n xs) {g : Nat} (hg : Hid (g = w.heap.size)) : g ∉ rl v := fun hk => by
  have := (h.lt g hk).2
  have := hg.out
  omega
theorem OwnS.one {w : World} {base : Nat} {e : TypeId} {size : Nat} {v : Value} {n : Nat} {xs : List Value} (h : OwnS w base e size v n xs) : v.oneCell' = true := by
  obtain ⟨A, c, rfl, _⟩ := h.slice
  rfl
theorem OwnS.rne {w : World} {base base' : Nat} {e e' : TypeId} {size size' : Nat} {v v' : Value} {n n' : Nat} {xs xs' : List Value} (h : OwnS w base e size v n xs) (h' : OwnS w base' e' size' v' n' xs') (hn : e ≠ e') : ∀ k, k ∈ rl v → k ∉ rl v' := fun k hk hm => by
  obtain ⟨c, hc⟩ := h.typed k hk
  obtain ⟨c', hc'⟩ := h'.typed k hm
  rw [hc] at hc'
  injection hc' with hc'
  injection hc' with _ hc'
  exact hn hc'
theorem inw_nil {bs : List Nat} {w : World} : ∀ x, x ∈ ([] : List Nat) → x ∈ bs ∨ w.heap.size ≤ x := fun x hx => absurd hx (by simp)
theorem inw_cons {bs l : List Nat} {w : World} {a : Nat} (h : a ∈ bs ∨ w.heap.size ≤ a) (t : ∀ x, x ∈ l → x ∈ bs ∨ w.heap.size ≤ x) : ∀ x, x ∈ a :: l → x ∈ bs ∨ w.heap.size ≤ x := fun x hx => by
  rcases List.mem_cons.1 hx with rfl | hx
  · exact h
  · exact t x hx
theorem wr64 {x : Int} (h : -9223372036854775808 ≤ x ∧ x ≤ 9223372036854775807) : IntKind.i64.wrap x = x := by rw [IntKind.wrap_i64]; omega
/-- The block that a slice's elements are read from. -/
def xb (v : Value) : List Nat := match v with
  | .slice (some a) (_ + 1) _ => [a.block]
  | _ => []
theorem xb_some (a : Addr) (n c : Nat) (h : 0 < n) : xb (.slice (some a) n c) = [a.block] := by
  obtain ⟨n, rfl⟩ : ∃ m, n = m + 1 := ⟨n - 1, by omega⟩
  rfl
theorem xb_rl {w : World} {base : Nat} {e : TypeId} {size : Nat} {v : Value} {n : Nat} {xs : List Value} (h : OwnS w base e size v n xs) : ∀ k, k ∈ xb v → k ∈ rl v := fun k hk => by
  obtain ⟨A, c, rfl, hn, _⟩ := h.slice
  cases A with
  | none => simp [xb] at hk
  | some a => cases n with
    | zero => simp [xb] at hk
    | succ n =>
      obtain ⟨c, rfl⟩ : ∃ m, c = m + 1 := ⟨c - 1, by omega⟩
      exact hk
theorem SrcIs.lt {w : World} {x : Value} {m size : Nat} {news : List Value} (h : SrcIs w x m news size) (hs : 0 < size) : ∀ k, k ∈ xb x → k < w.heap.size := fun k hk => by
  rcases h.2 with ⟨_, rfl⟩ | ⟨a, c, rfl, hc⟩
  · simp [xb] at hk
  · cases m with
    | zero => simp [xb] at hk
    | succ m =>
      have hl : 0 < news.length := by rw [h.1]; exact Nat.mul_pos (Nat.succ_pos _) hs
      have := World.block_lt_of_cell? w _ (hc 0 _ (List.getElem?_eq_getElem hl))
      have hb : (a.add 0).block = a.block := by unfold Addr.add; split <;> simp_all
      have hk' : k = a.block := by simpa [xb] using hk
      omega
theorem SrcIs.chx {w w' : World} {x : Value} {m size : Nat} {news : List Value} (h : SrcIs w x m news size) {bs : List Nat} (c : Ch bs w w') (hn : ∀ k, k ∈ xb x → k ∉ bs) : SrcIs w' x m news size :=
  h.ch c fun a m' c' he h0 => hn a.block (by rw [he, xb_some a m' c' h0]; simp)
theorem SrcIs.chw {w0 w w' : World} {x : Value} {m size : Nat} {news : List Value} (h : SrcIs w x m news size) (h0 : SrcIs w0 x m news size) (hs : 0 < size) {bs : List Nat} (c : Ch bs w w') (hn : ∀ k, k ∈ bs → k ∈ ([] : List Nat) ∨ w0.heap.size ≤ k) : SrcIs w' x m news size :=
  h.chx c fun k hk hb => by
    have := h0.lt hs k hk
    rcases hn k hb with h | h
    · simp at h
    · omega
theorem loop_none {P : Program} {Q : Exit → Act → World → Prop} {a : Act} {w : World} {c : Code} (h : c.wp P (Exit.then (fun _ _ => False) Q) a w) : (Code.loop c).wp P Q a w := by
  refine wp_loop_ghost (fun _ a' w' => a' = a ∧ w' = w) 0 ⟨rfl, rfl⟩ ?_
  rintro n a' w' ⟨rfl, rfl⟩
  refine wp_mono h ?_
  intro e a w hq
  cases e with
  | normal => exact hq.elim
  | exit id => exact hq
  | goto l => exact hq
  | ret => exact hq
  | panic c => exact hq
  | outgrown => exact hq
theorem loopk_ {P : Program} {Q : Exit → Act → World → Prop} {a : Act} {w : World} {c : Code} (I : Nat → Act → World → Prop) (n₀ : Nat) (h₀ : I n₀ a w)
    (round : ∀ n a w, I n a w → ∀ K : Act → World → Prop, (∀ n' a' w', n' < n → I n' a' w' → K a' w') → c.wp P (Exit.then K Q) a w) : (Code.loop c).wp P Q a w :=
  wp_loop_ghost I n₀ h₀ fun n a w h => round n a w h _ fun n' a' w' hn hI => ⟨n', hn, hI⟩
theorem cutk_ {P : Program} {Q : Exit → Act → World → Prop} {a : Act} {w : World} {x y : Code} (I : Act → World → Prop) (h : ∀ K : Act → World → Prop, (∀ a' w', I a' w' → K a' w') → x.wp P (Exit.then K Q) a w) (h2 : ∀ a' w', I a' w' → y.wp P Q a' w') : (Code.seq x y).wp P Q a w :=
  wp_seq (h _ h2)
theorem spot0_none {w : World} {x : Addr} {k : IntKind} {z : Int} (e0 : w.cell? x = some (.int k z)) : ∃ b o, x = ⟨b, o, none⟩ := by
  rcases hx : x.spot with _ | s
  · exact ⟨x.block, x.off, by cases x; simp_all⟩
  · simp [World.cell?, hx] at e0
    split at e0 <;> simp at e0
theorem SrcIs.ne_new {w : World} {x : Value} {m size : Nat} {news : List Value} (h : SrcIs w x m news size) (hs : 0 < size) {g : Nat} (hg : Hid (g = w.heap.size)) : g ∉ xb x := fun hk => by
  have := h.lt hs g hk
  have := hg.out
  omega
theorem xnin_nil {x : Value} : ∀ k, k ∈ xb x → k ∉ ([] : List Nat) := fun _ _ => by simp
theorem xnin_cons {x : Value} {b : Nat} {l : List Nat} (h : b ∉ xb x) (t : ∀ k, k ∈ xb x → k ∉ l) : ∀ k, k ∈ xb x → k ∉ b :: l := fun k hk => nin_cons (fun e => h (e ▸ hk)) (t k hk)
/-- A type's row of the table. -/
structure Info (P : Program) (e : TypeId) (i : TypeInfo) (z : Value) (size bytes : Nat) : Prop where
  hi : P.info? e = some i
  hz : i.zero = some z
  hs : i.size = size
  hb : i.bytes = bytes
theorem Info.of {P : Program} {e : TypeId} {z : Value} {size bytes : Nat} (h : (P.info? e).map (fun i => (i.zero, i.size, i.bytes)) = some (some z, size, bytes)) : ∃ i, Info P e i z size bytes :=
  let ⟨i, h1, h2, h3, h4⟩ := info_parts h
  ⟨i, h1, h2, h3, h4⟩
theorem cells_part {w : World} {b : Nat} {cs : Array Value} {t : TypeId} (h : Blk w b cs t) (o : Nat) {l : List Value} (hl : (cs.toList.drop o).take l.length = l) : CellsAt w ⟨b, o, none⟩ l := (CellsAt.blk h o).to fun j u hu => by
  rw [← hl, List.getElem?_take] at hu
  split at hu
  · exact hu
  · cases hu
section
variable {P : Program} {t : TypeId} {sz : Nat} {W : World}
theorem run_slice_from (ht : P.underlying t = some (.slice (P.elem t))) (hs : (P.info? (P.elem t)).map (·.size) = some sz) (p : Addr) (k n c : Nat) (K : Int) (hK : K = k) (hk : k ≤ n) (hc : n ≤ c) (hm : c ≤ maxLen) :
    (Instr.sliceAt t (.slice (some p) n c) (some (.int .i64 K)) none none).run P W = .ok (.slice (some (if c = k then p else p.add (k * sz))) (n - k) (c - k)) W := by
  subst hK
  unfold maxLen at hm
  cases hq : P.info? (P.elem t) with
  | none => simp [hq] at hs
  | some i =>
    have hsz : i.size = sz := by simpa [hq] using hs
    rw [run_sliceAt_slice W t _ _ _ _ ht, run_slice_l W t _ _ _ ht .i64 k (by omega) (by omega)]
    simp only [sizeOf, typeInfo, hq, hsz]
    simp [hq, hsz, Result.andThen, sliced]
    split <;> rfl
theorem run_slice_upto (ht : P.underlying t = some (.slice (P.elem t))) (hs : (P.info? (P.elem t)).map (·.size) = some sz) (p : Addr) (k n c : Nat) (K : Int) (hK : K = k) (hk : k ≤ c) :
    (Instr.sliceAt t (.slice (some p) n c) none (some (.int .i64 K)) none).run P W = .ok (.slice (some p) k c) W := by
  subst hK
  cases hq : P.info? (P.elem t) with
  | none => simp [hq] at hs
  | some i =>
    rw [run_sliceAt_slice W t _ _ _ _ ht, run_slice_h W t _ _ _ ht .i64 k (by omega) (by omega)]
    simp [sizeOf, typeInfo, hq, Result.andThen, sliced, Addr.add]
end
end Go.Proofs.Ytmoelehhofmhcaa.K
