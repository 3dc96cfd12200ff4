/- A range over a function, at a woven walk: the statement, a round, the return behind it. -/
import Derived.Test.YtmoelehhofmhcaaWeaveM
import Derived.RangeFuncLeaves
import Derived.RangeFuncKeeps
import Derived.RangeFuncCalls
namespace Go.Proofs.Ytmoelehhofmhcaa.K
open Go Go.RowKit Go.Proofs.YtmoelehhofmhcaaW.PrintLast
set_option linter.unusedVariables false
set_option linter.unusedSimpArgs false
variable {P : Program} {n : Nat}
/-- The fence that lets all in, in a round or not. -/
def wideR (ro : Option Nat) : Fence := { Fence.wide with round := ro }
def NoDefer (l : List Oper) : Prop := ∀ o ∈ l, ∀ c, o.op ≠ .defer c
theorem NoDefer.nil : NoDefer [] := fun o h => by simp at h
theorem NoDefer.cons {o : Oper} {l : List Oper} (ho : (match o.op with | .defer _ => true | _ => false) = false) (h : NoDefer l) : NoDefer (o :: l) := fun p hp c hc => by
  rcases List.mem_cons.1 hp with rfl | hp
  · rw [hc] at ho; cases ho
  · exact h p hp c hc
theorem callsR {ro : Option Nat} {f : FuncId} {args : Array Value} {w : World} {R : Ending → World → Prop} (h : Calls P f args w R) : CallsIn (wideR ro) n P f args w R := by
  have h1 : CallsIn Fence.wide n P f args w R := callsIn_wide.2 h
  exact h1
theorem rowsR {ro : Option Nat} {row : String} {args : Array Value} {w : World} {R : Value → World → Prop} (h : Rows P row args w R) : RowsIn (wideR ro) n P row args w R := fun c cs _ => by
  obtain ⟨v, w', hr, hs⟩ := h c cs
  have h1 : StepsIn (Machine.fenced P Fence.wide) P _ _ := stepsIn_wide.2 hs
  exact ⟨v, w', hr, h1⟩
theorem semAtR {ro : Option Nat} {o : Oper} (h : ro.isSome = true → ∀ c, o.op ≠ .defer c) (ρ : Operand → Value) : o.semAt ro ρ = execOp ρ o := by
  cases ro with
  | none => rfl
  | some l => exact Oper.semAt_some l ρ o (h rfl)
theorem upR {ro : Option Nat} {Q : Exit → Act → World → Prop} {o : Oper} {a : Act} {w : World} {K K' : Act → World → Prop} (hd : ro.isSome = true → ∀ c, o.op ≠ .defer c) (hK : ∀ a w, K a w → K' a w) (h : o.wp P a w K Q) : o.wpIn (wideR ro) n P a w K' Q := by
  have h := Oper.wp_mono hK h
  refine ⟨fun _ _ => trivial, ?_⟩
  show o.uponIn (wideR ro) n P a K' Q ((o.semAt ro a.eval).run P w)
  rw [semAtR hd]
  unfold Oper.wp at h
  generalize (execOp a.eval o).run P w = r at *
  cases r with
  | ok nx w' =>
    cases nx <;> simp only [Oper.upon] at h <;>
      first
        | exact h
        | exact h.elim
        | exact ⟨(fun hh => by cases hh), callsR h⟩
        | exact ⟨(fun hh => by cases hh), rowsR h⟩
  | halt x w' => cases x <;> simp only [Oper.upon] at h <;> first | exact h | exact h.elim
theorem inn_ {ro : Option Nat} {ops : Array Oper} {Q : Exit → Act → World → Prop} : ∀ {l : List Oper} {a : Act} {w : World}, (ro.isSome = true → NoDefer l) → wpListS P ops Q l a w → wpListIn (wideR ro) n P ops Q l a w
  | [], _, _, _, h => h
  | o :: rest, a, w, hd, h => by
    unfold wpListS at h
    unfold wpListIn
    split
    · rename_i hw
      rw [if_pos hw] at h
      exact upR (fun hr c => hd hr o (by simp) c) (fun _ _ h => inn_ (fun hr p hp => hd hr p (by simp [hp])) h) h
    · rename_i hw
      rw [if_neg hw] at h
      exact ⟨fun _ _ => trivial, inn_ (fun hr p hp => hd hr p (by simp [hp])) h⟩
/-- Left by its end alone. -/
def only (M : Act → World → Prop) : Exit → Act → World → Prop
  | .normal, a, w => M a w
  | _, _, _ => False
theorem upQ {M : Act → World → Prop} {Q : Exit → Act → World → Prop} {o : Oper} {a : Act} {w : World} {K : Act → World → Prop} (h : o.wp P a w K (only M)) : o.wp P a w K Q := by
  unfold Oper.wp at *
  generalize (execOp a.eval o).run P w = r at *
  have hlo : LetsOut (only M) → False := fun ⟨_, _, h⟩ => h
  cases r with
  | ok nx w' =>
    cases nx <;> simp only [Oper.upon] at h ⊢ <;>
      first
        | exact h
        | exact Calls.mono h (fun e w'' he => by cases e <;> first | exact he | exact (hlo he).elim | exact False.elim he)
  | halt x w' => cases x <;> simp only [Oper.upon] at h ⊢ <;> first | exact h | exact False.elim h
theorem ch_putObj (w : World) (r : Nat) (o : Obj) : Ch [r] w (w.putObj r o) :=
  ⟨rfl, rfl, rfl, by simp, fun k _ hk => World.putObj_heap_other (by simpa using hk)⟩
/-- A loop's record. -/
def Rec (w : World) (L : Nat) (r : Loop) : Prop := w.heap[L]? = some (.loop r)
theorem Rec.lt {w : World} {L : Nat} {r : Loop} (h : Rec w L r) : L < w.heap.size := (Array.getElem?_eq_some_iff.1 h).1
theorem Rec.ch {w w' : World} {L : Nat} {r : Loop} (h : Rec w L r) {bs : List Nat} (c : Ch bs w w') (hn : L ∉ bs) : Rec w' L r := (c.block L h.lt hn).trans h
theorem Rec.ne {w : World} {L b : Nat} {r : Loop} (h : Rec w L r) {cs : Array Value} {t : TypeId} (hb : Blk w b cs t) : b ≠ L := fun e => by
  subst e
  unfold Rec at h
  unfold Blk at hb
  rw [h] at hb
  cases hb
theorem Rec.nr {w : World} {L : Nat} {r : Loop} (h : Rec w L r) {base : Nat} {e : TypeId} {size : Nat} {v : Value} {k : Nat} {xs : List Value} (ho : OwnS w base e size v k xs) : L ∉ rl v := fun hk => by
  obtain ⟨cells, hc⟩ := ho.typed L hk
  unfold Rec at h
  rw [h] at hc
  cases hc
theorem Rec.nx {w : World} {L : Nat} {r : Loop} (h : Rec w L r) {x : Value} {m size : Nat} {news : List Value} (hs : SrcIs w x m news size) (h0 : 0 < size) : L ∉ xb x := fun hk => by
  unfold xb at hk
  split at hk
  · rename_i a j c
    rw [List.mem_singleton] at hk
    subst hk
    obtain ⟨hl, hh⟩ := hs
    rcases hh with ⟨_, h1⟩ | ⟨a', c', he, hc⟩
    · cases h1
    · injection he with e1 e2 e3
      injection e1 with e1
      subst e1 e2
      have hlt : 0 < news.length := by rw [hl]; exact Nat.mul_pos (by omega) h0
      have := hc 0 _ (List.getElem?_eq_getElem hlt)
      unfold World.cell? at this
      unfold Rec at h
      have hb : (a.add 0).block = a.block := by unfold Addr.add; split <;> rfl
      simp only [hb, h] at this
      cases this
  · simp at hk
/-- The block for a loop's deferred calls. -/
def Dfr (w : World) (D : Nat) : Prop := w.heap[D]? = some (.deferred (some []))
theorem Dfr.lt {w : World} {D : Nat} (h : Dfr w D) : D < w.heap.size := (Array.getElem?_eq_some_iff.1 h).1
theorem Dfr.ch {w w' : World} {D : Nat} (h : Dfr w D) {bs : List Nat} (c : Ch bs w w') (hn : D ∉ bs) : Dfr w' D := (c.block D h.lt hn).trans h
theorem Dfr.ne {w : World} {D b : Nat} (h : Dfr w D) {cs : Array Value} {t : TypeId} (hb : Blk w b cs t) : b ≠ D := fun e => by
  subst e
  unfold Dfr at h
  unfold Blk at hb
  rw [h] at hb
  cases hb
theorem Dfr.nr {w : World} {D : Nat} (h : Dfr w D) {base : Nat} {e : TypeId} {size : Nat} {v : Value} {k : Nat} {xs : List Value} (ho : OwnS w base e size v k xs) : D ∉ rl v := fun hk => by
  obtain ⟨cells, hc⟩ := ho.typed D hk
  unfold Dfr at h
  rw [h] at hc
  cases hc
theorem Dfr.nl {w : World} {D L : Nat} {r : Loop} (h : Dfr w D) (hr : Rec w L r) : D ≠ L := fun e => by
  subst e
  unfold Dfr at h
  unfold Rec at hr
  rw [h] at hr
  cases hr
/-- A call of yield, in the world W: R of what it hands back. -/
def YieldS (P : Program) (L : Nat) (args : Array Value) (W : World) (R : Ending → World → Prop) : Prop := YieldAt Fence.wide 0 P L args W R
theorem YieldS.mono {L : Nat} {args : Array Value} {W : World} {R R' : Ending → World → Prop} (h : YieldS P L args W R) (hr : ∀ e w, R e w → R' e w) : YieldS P L args W R' := by
  obtain ⟨fn, tmps, assign, body, h1, h2⟩ := h
  exact ⟨fn, tmps, assign, body, h1, h2.mono hr⟩
/-- One round, of a loop whose body is one region. -/
theorem yield_ {L : Nat} {r : Loop} {args : Array Value} {w : World} {R : Ending → World → Prop} (hrec : Rec w L r) (hs : args.size = r.params.size) (hst : r.state = .ready) (hpe : r.pending = none)
    {ida blk idb : Nat} {lA lB : List Oper} (hA : r.assign = .region ida lA.toArray false) (hB : r.body = .block blk (.region idb lB.toArray false)) (nA : NoDefer lA) (nB : NoDefer lB)
    {tmps : Array Value} (ht : (r.params.zip args).foldl (fun t (p, v) => t.setIfInBounds p v) r.tmps = tmps)
    (MA MB : Act → World → Prop) (h1 : WL P lA.toArray (only MA) lA ⟨tmps, []⟩ w)
    (h2 : ∀ a1 w1, MA a1 w1 → Rec w1 L r ∧ ∀ w2, Ch [L] w1 w2 → Rec w2 L { r with state := .busy } → WL P lB.toArray (only MB) lB a1 w2)
    (h3 : ∀ a2 w3, MB a2 w3 → Rec w3 L { r with state := .busy } ∧ ∀ w4, Ch [L] w3 w4 → Rec w4 L r → R (.returned (.bool true)) w4) : YieldS P L args w R := by
  refine ⟨r.fn, _, r.assign, r.body, run_yield hrec hs, roundIn_of_wpIn trivial ?_⟩
  rw [ht, hA, hB]
  have e1 : wpListIn (wideR (some L)) 0 P lA.toArray (only MA) lA ⟨tmps, []⟩ w := inn_ (fun _ => nA) h1.out
  refine wpIn_mono (wpIn_region_lit e1) ?_
  intro e a1 w1 hq
  cases e <;> first | exact hq.elim | skip
  obtain ⟨hr1, hh⟩ := h2 a1 w1 hq
  refine ⟨_, run_beginRound hr1 hst, ?_⟩
  refine wpIn_block ?_
  have hr2 : Rec (w1.putObj L (.loop { r with state := .busy })) L { r with state := .busy } := World.putObj_heap_same hr1.lt
  have e2 : wpListIn (wideR (some L)) 0 P lB.toArray (only MB) lB a1 (w1.putObj L (.loop { r with state := .busy })) := inn_ (fun _ => nB) (hh _ (ch_putObj _ _ _) hr2).out
  refine wpIn_mono (wpIn_region_lit e2) ?_
  intro e a2 w3 hq
  cases e <;> first | exact hq.elim | skip
  obtain ⟨hr3, hfin⟩ := h3 a2 w3 hq
  refine ⟨_, _, run_endRound none hr3, hfin _ (ch_putObj _ _ _) ?_⟩
  have := World.putObj_heap_same (w := w3) (o := .loop r) hr3.lt
  have he : ({ { r with state := LoopState.busy } with state := if (none : Option Code).isNone = true then LoopState.ready else LoopState.done, pending := none } : Loop) = r := by
    cases r
    simp at hst hpe ⊢
    exact ⟨hst.symm, hpe.symm⟩
  rw [he]
  exact this
/-- The statement 'for .. := range g'. -/
theorem rfunc_ {g : Operand} {ps : Array Tmp} {assign body : Code} {Q : Exit → Act → World → Prop} {a : Act} {w : World} {gf : FuncId} {lb : Array Value} (hg : a.eval g = .func (.func gf) #[] lb) {fc : Func} (hf : P.funcs[gf]? = some fc) (hname : (fc.name == "runtime.NumGoroutine") = false) {c : Code} (hb : fc.body = some c)
    (h : ∀ (D L : Nat) (r : Loop) (W1 : World), Hid (w.heap.size ≤ D) → Hid (w.heap.size ≤ L) → Ch [] w W1 → Dfr W1 D → Rec W1 L r → Hid (r.state = .ready ∧ r.pending = none ∧ r.tmps = a.tmps ∧ r.params = ps ∧ r.assign = assign ∧ r.body = body) →
      Calls P gf (#[.func (.yield L) #[] #[]] ++ lb) W1 fun e w3 => (∃ v, e = .returned v) ∧ Rec w3 L r ∧ ∀ w4, Ch [L] w3 w4 → Q .normal { a with defers := { target := .collected D, args := #[] } :: a.defers } w4) :
    (Code.rangeFunc g ps assign body).wp P Q a w := by
  refine (wpIn_wide (n := 0)).1 (wpIn_rangeFunc ?_)
  intro fn hfn
  have h1 : fc.name ≠ "runtime.NumGoroutine" := by simpa using hname
  have eg : ∀ args w, (callFunc gf args).run P w = .ok (.enter gf args) w := fun args w => by simp [callFunc, hf, h1, hb, mark]
  obtain ⟨W1, hW1⟩ : ∃ W1, (w.alloc (.deferred (some []))).alloc (.loop { state := .ready, pending := none, fn := fn, tmps := a.tmps, params := ps, assign, body, defers := w.heap.size }) = W1 := ⟨_, rfl⟩
  have hL1 : Rec W1 (w.heap.size + 1) { state := .ready, pending := none, fn := fn, tmps := a.tmps, params := ps, assign, body, defers := w.heap.size } := by
    rw [← hW1]
    have := World.alloc_heap_new (w.alloc (.deferred (some []))) (.loop { state := .ready, pending := none, fn := fn, tmps := a.tmps, params := ps, assign, body, defers := w.heap.size })
    rwa [World.size_alloc] at this
  have hD1 : Dfr W1 w.heap.size := by
    rw [← hW1]
    exact (Below.heap_alloc _ _ _ (by simp)).trans (World.alloc_heap_new w _)
  have hC : Ch [] w W1 := by
    rw [← hW1]
    exact ((Ch.refl [] w).alloc _).alloc _
  refine ⟨w.heap.size + 1, [{ target := .collected w.heap.size, args := #[] }], W1, { target := .fn (.func gf) lb, args := #[.func (.yield (w.heap.size + 1)) #[] #[]] }, W1, gf,
    #[.func (.yield (w.heap.size + 1)) #[] #[]] ++ lb, W1, ?_, ?_, fun _ _ => trivial, ?_, (fun hh => by cases hh), ?_⟩
  · rw [← hW1]
    exact run_enterLoop_outer _ _ _ _ _
  · simp only [resolve, hg]
    simp [go_sem]
  · simp [invoke, go_sem, eg]
  · refine callsIn_wide.2 ((h w.heap.size (w.heap.size + 1) _ W1 (Lib.hid (Nat.le_refl _)) (Lib.hid (Nat.le_succ _)) hC hD1 hL1 (Lib.hid ⟨rfl, rfl, rfl, rfl, rfl, rfl⟩)).mono ?_)
    rintro e w3 ⟨⟨v, rfl⟩, hr, hq⟩
    exact ⟨none, _, run_endLoop hr (by simp), hq _ (ch_putObj _ _ _)⟩
/-- A function that holds a range over a function. -/
theorem callsM_ {f : FuncId} {fn : Func} {c : Code} {args : Array Value} {w : World} {R : Ending → World → Prop} (hf : P.funcs[f]? = some fn) (hb : fn.body = some c)
    (h : c.wp P (bodyPostM Fence.wide 0 P fn R) { tmps := args ++ Array.replicate (fn.ntmps - args.size) undef, defers := [] } w) : Calls P f args w R :=
  callsIn_wide.1 (callsIn_of_wp_marks hf hb trivial (wpIn_wide.2 h))
theorem qM_ {x : Code} {a : Act} {w : World} {fn : Func} {R : Ending → World → Prop} (h : ∀ Q : Exit → Act → World → Prop, (∀ e a w, bodyPostM Fence.wide 0 P fn R e a w → Q e a w) → x.wp P Q a w) : x.wp P (bodyPostM Fence.wide 0 P fn R) a w := h _ (fun _ _ _ h => h)
/-- The return behind one such statement. -/
theorem retM_ {fn : Func} {R : Ending → World → Prop} {a : Act} {w : World} {D : Nat} {v : Value} (hd : a.defers = [{ target := .collected D, args := #[] }]) (hD : Dfr w D) (hr : ∀ W, (results fn a.tmps).run P W = .ok v W) (h : ∀ W, Ch [D] w W → R (.returned v) W) : bodyPostM Fence.wide 0 P fn R .ret a w := by
  show LeavesInM _ _ _ _ _ _ a.defers _ _
  rw [hd]
  refine ⟨by simp, .inl ⟨_, _, rfl, run_takeDeferred hD, ?_⟩⟩
  exact ⟨v, hr _, h _ (ch_putObj _ _ _)⟩
/-- A region that ends in a call of yield and a test of what comes back. -/
theorem yreg_ {id : Nat} {pre post : List Oper} {o : Oper} {Q : Exit → Act → World → Prop} {a : Act} {w : World}
    (h : WL P (pre ++ o :: post).toArray (only fun a1 w1 => Region.wanted o (yielded (pre ++ o :: post).toArray a1.tmps) = true ∧ ∃ (L : Nat) (x : Operand) (xs : Array Operand) (ts : Array TypeId) (args : Array Value), o.op = .call { callee := .value x, args := xs, argTypes := ts } ∧ a1.eval x = .func (.yield L) #[] #[] ∧ xs.map a1.eval = args ∧
      YieldS P L args w1 fun e w2 => ∃ v, e = .returned v ∧ WL P (pre ++ o :: post).toArray Q post (a1.put o.dst v) w2) pre a w) : (Code.region id (pre ++ o :: post).toArray false).wp P Q a w := by
  refine (wpIn_wide (n := 0)).1 (wpIn_region_lit ?_)
  suffices hh : ∀ (p : List Oper) (a : Act) (w : World), WL P (pre ++ o :: post).toArray (only fun a1 w1 => Region.wanted o (yielded (pre ++ o :: post).toArray a1.tmps) = true ∧ ∃ (L : Nat) (x : Operand) (xs : Array Operand) (ts : Array TypeId) (args : Array Value), o.op = .call { callee := .value x, args := xs, argTypes := ts } ∧ a1.eval x = .func (.yield L) #[] #[] ∧ xs.map a1.eval = args ∧
      YieldS P L args w1 fun e w2 => ∃ v, e = .returned v ∧ WL P (pre ++ o :: post).toArray Q post (a1.put o.dst v) w2) p a w → wpListIn Fence.wide 0 P (pre ++ o :: post).toArray Q (p ++ o :: post) a w from hh pre a w h
  intro p
  induction p with
  | nil =>
    intro a w h
    obtain ⟨hw, L, x, xs, ts, args, ho, hx, hxs, fn, tmps, assign, body, hy, hR⟩ := h.out
    show wpListIn _ _ _ _ _ (o :: post) a w
    unfold wpListIn
    rw [if_pos hw]
    refine ⟨fun _ _ => trivial, ?_⟩
    have hexec : (o.semAt Fence.wide.round a.eval).run P w = .ok (.round L fn tmps assign body) w := by
      show (execOp a.eval o).run P w = _
      unfold execOp
      simp only [ho, resolve, hx]
      simp [go_sem, invoke, hxs, hy]
    rw [hexec]
    refine ⟨(fun hh => by cases hh), hR.mono ?_⟩
    rintro e w2 ⟨v, rfl, hv⟩
    exact inn_ (ro := none) (fun hh => by cases hh) hv.out
  | cons q p ih =>
    intro a w h
    have h := h.out
    show wpListIn _ _ _ _ _ (q :: (p ++ o :: post)) a w
    unfold wpListIn
    unfold wpListS at h
    split
    · rename_i hw
      rw [if_pos hw] at h
      exact upR (n := 0) (ro := none) (fun hh => by cases hh) (fun a w h => ih a w ⟨h⟩) (upQ h)
    · rename_i hw
      rw [if_neg hw] at h
      exact ⟨fun _ _ => trivial, ih _ _ ⟨h⟩⟩
theorem only_ {M : Act → World → Prop} {a : Act} {w : World} (h : M a w) : only M .normal a w := h
theorem yregk_ {id : Nat} {l pre post : List Oper} {o : Oper} {Q : Exit → Act → World → Prop} {a : Act} {w : World} (k : Nat) (h1 : l.take k = pre) (h2 : l.drop k = o :: post)
    (h : WL P l.toArray (only fun a1 w1 => Region.wanted o (yielded l.toArray a1.tmps) = true ∧ ∃ (L : Nat) (x : Operand) (xs : Array Operand) (ts : Array TypeId) (args : Array Value), o.op = .call { callee := .value x, args := xs, argTypes := ts } ∧ a1.eval x = .func (.yield L) #[] #[] ∧ xs.map a1.eval = args ∧
      YieldS P L args w1 fun e w2 => ∃ v, e = .returned v ∧ WL P l.toArray Q post (a1.put o.dst v) w2) pre a w) : (Code.region id l.toArray false).wp P Q a w := by
  have hl : l = pre ++ o :: post := by rw [← h1, ← h2, List.take_append_drop]
  clear h1 h2
  subst hl
  exact yreg_ h
/-- A round whose body is one region, taken by its parts. -/
theorem Rec.new {w w' : World} {L b : Nat} {r : Loop} (h : Rec w L r) (hb : w.heap.size ≤ b) : b ≠ L := fun e => by
  have := h.lt
  omega
end Go.Proofs.Ytmoelehhofmhcaa.K
