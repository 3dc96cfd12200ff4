/- More words of a woven walk: rows that are made, cells of rows. -/
import Derived.Test.YtmoelehhofmhcaaWeave
namespace Go.Proofs.Ytmoelehhofmhcaa.K
open Go Go.RowKit Go.Proofs.YtmoelehhofmhcaaW.PrintLast
set_option linter.unusedVariables false
set_option linter.unusedSimpArgs false
/-- What has come up, as the bits of a number. -/
def msk (n m : Nat) : Array Bool := ⟨(List.range n).map fun i => m.testBit i⟩
/-- What an act holds. -/
def uo (a : Act) (i : Nat) : Value := a.tmps.getD i undef
theorem qh {p : Prop} (h : p) : Hid p := Lib.hid h
/-- Arguments, one by one. -/
theorem mp0 {e : Operand → Value} : (#[] : Array Operand).map e = #[] := by simp
theorem mp1 {e : Operand → Value} {x : Operand} {v : Value} (h : e x = v) : #[x].map e = #[v] := by simp [h]
theorem mp2 {e : Operand → Value} {x y : Operand} {v u : Value} (h : e x = v) (k : e y = u) : #[x, y].map e = #[v, u] := by simp [h, k]
theorem mp3 {e : Operand → Value} {x y z : Operand} {v u t : Value} (h : e x = v) (k : e y = u) (l : e z = t) : #[x, y, z].map e = #[v, u, t] := by simp [h, k, l]
theorem mp4 {e : Operand → Value} {x y z q : Operand} {v u t r : Value} (h : e x = v) (k : e y = u) (l : e z = t) (m : e q = r) : #[x, y, z, q].map e = #[v, u, t, r] := by simp [h, k, l, m]
/-- Parts of a code. -/
def sndC : Code → Code
  | .seq _ y => y
  | c => c
def fstC : Code → Code
  | .seq x _ => x
  | c => c
def bodyOf : Option Code → Code
  | some c => c
  | none => .skip
theorem made_one (z : Value) (h : z.cells = #[z]) (n : Nat) : (madeCells z.cells n).toList = List.replicate n z := by
  rw [h]
  refine List.ext_getElem? fun k => ?_
  by_cases hk : k < n
  · have : ((madeCells #[z] n).toList)[k]? = some (#[z][k % #[z].size]!) := by
      unfold madeCells
      simp [hk]
    rw [this, List.getElem?_replicate, if_pos hk]
    have h0 : k % #[z].size = 0 := Nat.mod_one k
    rw [h0]
    rfl
  · rw [List.getElem?_eq_none (by simp [size_madeCells]; omega), List.getElem?_eq_none (by simp; omega)]
section
variable {P : Program} {ops : Array Oper} {Q : Exit → Act → World → Prop} {oi : Oper} {a : Act} {w : World} {N : Option Tmp} {K : Act → World → Prop}
/-- make, of elements of one cell. -/
theorem e_make1 {t : TypeId} {x y : Operand} (hw : Region.wanted oi (yielded ops a.tmps) = true) (hN : oi.dst = N) (ho : oi.op = .makeSlice t x y) {e : TypeId} {i : TypeInfo} {z : Value} {bytes : Nat} (ht : P.underlying t = some (.slice e)) (I : Info P e i z 1 bytes) (h1 : z.cells = #[z])
    (base n : Nat) (hx : a.eval x = .int .i64 (n : Int)) (hy : a.eval y = .int .i64 (n : Int)) (hb : base ≤ w.heap.size) (hn : n ≤ maxLen) (hby : bytes * n ≤ 281474976710656)
    (h : ∀ g w', Hid (g = w.heap.size) → OwnS w' base e 1 (.slice (some ⟨g, 0, none⟩) n n) n (List.replicate n z) → Ch [] w w' → K (a.put N (.slice (some ⟨g, 0, none⟩) n n)) w') : if Region.wanted oi (yielded ops a.tmps) = true then Oper.wp P oi a w K Q else K (a.put N undef) w := by
  have hb5 : (i.bytes : Int) * (n : Int) ≤ 281474976710656 := by
    rw [I.hb]
    have h5 : ((bytes * n : Nat) : Int) ≤ 281474976710656 := by omega
    rwa [Int.natCast_mul] at h5
  have hr := run_make (P := P) w t e i z ht I.hi I.hz .i64 .i64 n n (by omega) (Int.le_refl _) hb5 (by unfold maxLen at hn; omega)
  simp only [Int.toNat_natCast, I.hs, Nat.mul_one] at hr
  refine value_ (w1 := w.alloc (.cells (madeCells z.cells n) e)) hw hN ?_ (h w.heap.size _ (Lib.hid rfl) ?_ ((Ch.refl [] w).alloc _))
  · unfold execOp
    simp [ho, hx, hy, hr, Result.andThen]
  · rcases Nat.eq_zero_or_pos n with rfl | h0
    · exact OwnS.nil _ _ _ _ _
    · exact OwnS.fresh w _ n n hb h0 (Nat.le_refl _) hn (by simp [size_madeCells]) (by rw [made_one z h1, List.take_of_length_le (by simp)]) (by simp)
/-- A call of a closure. -/
theorem e_callf {f : FuncId} {fn : Func} {as : Array Operand} {ts : Array TypeId} {x : Operand} {first cap : Array Value} (hf : P.funcs[f]? = some fn) (hname : (fn.name == "runtime.NumGoroutine") = false) (hb : fn.body.isSome = true) (args : Array Value) (hw : Region.wanted oi (yielded ops a.tmps) = true) (hN : oi.dst = N) (hop : oi.op = .call { callee := .value x, args := as, argTypes := ts }) (hx : a.eval x = .func (.func f) first cap) (hargs : first ++ as.map a.eval ++ cap = args)
    {R : Ending → World → Prop} (hc : Calls P f args w R) (h : ∀ e w', R e w' → ∃ v, e = .returned v ∧ K (a.put N v) w') : if Region.wanted oi (yielded ops a.tmps) = true then Oper.wp P oi a w K Q else K (a.put N undef) w := by
  refine call_ f args hw hN ?_ (hc.mono h)
  have he := enters_ hf hname hb args w
  subst hargs
  unfold execOp
  simp only [hop, resolve, hx, Deferred.ofValue, invoke]
  simpa using he
theorem y_slice {t : TypeId} {x : Operand} {l h m : Option Operand} {X v : Value} {L H M : Option Value} (hw : Region.wanted oi (yielded ops a.tmps) = true) (ho : oi.op = .slice t x l h m) (hx : a.eval x = X) (hl : l.map a.eval = L) (hh : h.map a.eval = H) (hm : m.map a.eval = M) (hr : ∀ W, (Instr.sliceAt t X L H M).run P W = .ok v W) : Yields P ops oi v a :=
  .inl ⟨hw, fun W => by
    unfold execOp
    simp only [ho, hx, hl, hh, hm, Sem.run_bind, hr W, Result.andThen_ok, Sem.run_pure]⟩
/-- A part of a block's cells, stored anew. -/
theorem e_storeP {x y : Operand} {ty : TypeId} (hw : Region.wanted oi (yielded ops a.tmps) = true) (hN : oi.dst = none) (ho : oi.op = .store ty x y) {b : Nat} {t : TypeId} {cs cells : Array Value} (off : Nat) (hx : a.eval x = .pointer (some ⟨b, off, none⟩)) (hy : a.eval y = .agg cells) (hb : Blk w b cs t)
    (hi : (P.info? ty).map (·.size) = some cells.size) (hoff : off + cells.size ≤ cs.size) (h1 : ∀ u ∈ cells.toList, u.oneCell' = true)
    (h : ∀ w', Blk w' b (cs.toList.take off ++ cells.toList ++ cs.toList.drop (off + cells.size)).toArray t → Ch [b] w w' → K a w') : if Region.wanted oi (yielded ops a.tmps) = true then Oper.wp P oi a w K Q else K (a.put none undef) w := by
  have hr := run_storeVar_at (P := P) hb hi hoff h1
  refine skip_ hw hN (w1 := _) ?_ (h _ (setRow_heap w b cs _ t (0, 0) hb) ⟨rfl, rfl, rfl, by simp, fun k _ hk => setRow_other w b k _ (by simpa using hk)⟩)
  unfold execOp
  simp only [ho, hx, hy, Instr.storeAt, Instr.sureAddr, Sem.run_bind, Sem.run_pure, Result.andThen_ok, hr]
theorem new_row {g n m : Nat} (hg : Hid (g = w.heap.size)) : ∀ k, k ∈ rl (.slice (some ⟨g, 0, none⟩) n m) → w.heap.size ≤ k := fun k hk => by
  cases m with
  | zero => rw [rl_zero] at hk; simp at hk
  | succ m => rw [rl_some _ _ _ (Nat.succ_pos m)] at hk; rw [List.mem_singleton.1 hk, hg.out]; exact Nat.le_refl _
theorem own_cell {base e g n c : Nat} {xs : List Value} (h : OwnS w base e 1 (.slice (some ⟨g, 0, none⟩) n c) n xs) {i : Nat} {x : Value} (hx : xs[i]? = some x) : w.cell? ⟨g, i, none⟩ = some x := by
  have hl := (List.getElem?_eq_some_iff.1 hx).1
  obtain ⟨g', c', he, _, _, _, hc, _⟩ := h.some_ (by have := h.1; omega)
  injection he with e1 _ _
  injection e1 with e1
  injection e1 with e1 _ _
  subst e1
  have := hc i x hx
  rwa [add_plain, Nat.zero_add] at this
/-- The block of a row that has elements. -/
theorem own_block {base e sz g n c : Nat} {xs : List Value} (h : OwnS w base e sz (.slice (some ⟨g, 0, none⟩) n c) n xs) (h0 : 0 < n) : base ≤ g ∧ g < w.heap.size := by
  obtain ⟨g', c', he, h1, _, _, _, _⟩ := h.some_ h0
  injection he with e1 _ e3
  injection e1 with e1
  injection e1 with e1 _ _
  subst e1
  exact h.lt g (by rw [rl_some _ _ _ (by omega)]; simp)
/-- Two operations that write, of which either may come first; nothing is shown behind them. -/
theorem twol_ {md : Region.Mode} {S : World → Prop} {ds : List Nat} {i j : Nat} {Ni Nj : Option Tmp} {oi oj : Oper} {fuel : Nat} {l : Array Bool} {a : Act} {w : World} (li lj : Array Bool) (hi : ops[i]? = some oi) (hj : ops[j]? = some oj) (hNi : oi.dst = Ni) (hNj : oj.dst = Nj)
    (hc : (Region.ready md ops l == [i, j] && l.setIfInBounds i true == li && l.setIfInBounds j true == lj) = true) (hdi : i ∈ ds) (hdj : j ∈ ds)
    (h1 : ∀ K : Act → World → Prop, Shut (∀ a' w', wpAnyLast P md ops Q S ds fuel li a' w' → K a' w') → if Region.wanted oi (yielded ops a.tmps) = true then Oper.wp P oi a w K Q else K (a.put Ni undef) w)
    (h2 : ∀ K : Act → World → Prop, Shut (∀ a' w', wpAnyLast P md ops Q S ds fuel lj a' w' → K a' w') → if Region.wanted oj (yielded ops a.tmps) = true then Oper.wp P oj a w K Q else K (a.put Nj undef) w) :
    wpAnyLast P md ops Q S ds (fuel + 1) l a w := by
  subst hNi
  subst hNj
  simp only [Bool.and_eq_true, beq_iff_eq] at hc
  obtain ⟨⟨h3, h4⟩, h5⟩ := hc
  subst h4
  subst h5
  exact wpAnyLast_ready h3 (by simp) (AllReadyL.cons_last hi hdi (fun K hK => h1 K hK) (AllReadyL.cons_last hj hdj (fun K hK => h2 K hK) AllReadyL.nil))
theorem wu64 {x : Int} (h : 0 ≤ x ∧ x ≤ 18446744073709551615) : IntKind.u64.wrap x = x := by
  obtain ⟨n, rfl⟩ := Int.eq_ofNat_of_zero_le h.1
  simp [IntKind.wrap, IntKind.bits, IntKind.signed]
  omega
/-- The same steps, out of what is known of every Q. -/
theorem pureh_ {md : Region.Mode} {S : World → Prop} {ds : List Nat} {i : Nat} {v : Value} {fuel : Nat} {l : Array Bool} (l' : Array Bool) (hi : ops[i]? = some oi) (hN : oi.dst = N) (hc : anyB md ops l l' i = true)
    (hP : ∀ c a d v w, Q (.panic c) (a.put d v) w → Q (.panic c) a w) (hy : Yields P ops oi v a) {a' : Act} (ha : a.put N v = a')
    (h : wpAnyLast P md ops Q S ds fuel l' a' w) : wpAnyLast P md ops Q S ds (fuel + 1) l a w := pure_ l' hi hN hc (fun c a w h => hP c a _ _ w h) hy ha h
theorem takeh_ {md : Region.Mode} {S : World → Prop} {ds : List Nat} {i : Nat} {v : Value} {fuel : Nat} {l : Array Bool} (l' : Array Bool) (hi : ops[i]? = some oi) (hN : oi.dst = N) (hc : takeB md ops ds l l' i = true)
    (hP : ∀ c a d v w, Q (.panic c) (a.put d v) w → Q (.panic c) a w) (hy : YieldsIf P ops S oi v a) (hS : S w) {a' : Act} (ha : a.put N v = a')
    (h : wpAnyLast P md ops Q S ds fuel l' a' w) : wpAnyLast P md ops Q S ds (fuel + 1) l a w := take_ l' hi hN hc (fun c a w h => hP c a _ _ w h) hy hS ha h
end
end Go.Proofs.Ytmoelehhofmhcaa.K
