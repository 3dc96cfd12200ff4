/- Rows of cells: what a slice leads to, read, appended to, stored into; loads and stores of whole structs out of and into rows. -/
import Derived.Test.YtmoelehhofmhcaaKit
import Derived.Laws.AppendOwn
import Derived.Laws.Tables
import Derived.Laws.OwnMore
import Derived.Tactics
namespace Go.Proofs.Ytmoelehhofmhcaa.K
open Go Go.RowKit
set_option linter.unusedVariables false
set_option linter.unusedSimpArgs false
/-- From p on stand the cells xs. -/
def CellsAt (w : World) (p : Addr) (xs : List Value) : Prop := ∀ j u, xs[j]? = some u → w.cell? (p.add j) = some u
theorem add_plain (b o j : Nat) : (⟨b, o, none⟩ : Addr).add j = ⟨b, o + j, none⟩ := by unfold Addr.add; split <;> simp_all
theorem CellsAt.nil (w : World) (p : Addr) : CellsAt w p [] := fun j u h => by simp at h
theorem CellsAt.ch {bs : List Nat} {w w' : World} {p : Addr} {xs : List Value} (h : CellsAt w p xs) (c : Ch bs w w') (hp : p.block ∉ bs) : CellsAt w' p xs := fun j u hu => by
  have h1 := h j u hu
  have hb : (p.add j).block = p.block := by unfold Addr.add; split <;> simp_all
  exact (c.cell (World.block_lt_of_cell? w _ h1) (by rw [hb]; exact hp)).trans h1
theorem CellsAt.blk {w : World} {b : Nat} {cs : Array Value} {t : TypeId} (h : Blk w b cs t) (o : Nat) : CellsAt w ⟨b, o, none⟩ (cs.toList.drop o) := fun j u hu => by
  rw [add_plain, h.cell]
  simpa using hu
theorem CellsAt.part {w : World} {b o : Nat} {xs : List Value} (h : CellsAt w ⟨b, o, none⟩ xs) (i n : Nat) : CellsAt w ⟨b, o + i, none⟩ ((xs.drop i).take n) := fun j u hu => by
  rw [List.getElem?_take] at hu
  split at hu
  · rw [List.getElem?_drop] at hu
    have := h (i + j) u hu
    rw [add_plain] at this ⊢
    rw [Nat.add_assoc]
    exact this
  · cases hu
theorem CellsAt.to {w : World} {b o : Nat} {xs ys : List Value} (h : CellsAt w ⟨b, o, none⟩ xs) (he : ∀ (j : Nat) (u : Value), ys[j]? = some u → xs[j]? = some u) : CellsAt w ⟨b, o, none⟩ ys := fun j u hu => h j u (he j u hu)
/-- The block that a slice's elements may be written in. -/
def rl (v : Value) : List Nat := match v with
  | .slice (some a) _ (_ + 1) => [a.block]
  | _ => []
theorem rl_zero (A : Option Addr) (n : Nat) : rl (.slice A n 0) = [] := by cases A <;> rfl
theorem rl_some (g n c : Nat) (h : 0 < c) : rl (.slice (some ⟨g, 0, none⟩) n c) = [g] := by
  obtain ⟨c, rfl⟩ : ∃ m, c = m + 1 := ⟨c - 1, by omega⟩
  rfl
/-- The slice v has n elements of type e (size cells each), whose cells are xs; the row is of the call's own, from block base on. -/
def OwnS (w : World) (base : Nat) (e : TypeId) (size : Nat) (v : Value) (n : Nat) (xs : List Value) : Prop :=
  xs.length = n * size ∧ ((∃ A, v = .slice A 0 0 ∧ n = 0) ∨
    ∃ g cap cur, v = .slice (some ⟨g, 0, none⟩) n cap ∧ 0 < cap ∧ base ≤ g ∧ w.heap[g]? = some (.cells cur e (0, 0)) ∧ n ≤ cap ∧ cap ≤ maxLen ∧ cur.size = cap * size ∧ cur.toList.take (n * size) = xs)
/-- The slice x has m elements, whose cells are news. -/
def SrcIs (w : World) (x : Value) (m : Nat) (news : List Value) (size : Nat) : Prop :=
  news.length = m * size ∧ ((m = 0 ∧ x = .slice none 0 0) ∨ ∃ a c, x = .slice (some a) m c ∧ CellsAt w a news)
section
variable {w w' : World} {base : Nat} {e : TypeId} {size : Nat} {v : Value} {n : Nat} {xs : List Value}
theorem OwnS.nil (w : World) (base : Nat) (e : TypeId) (size : Nat) (A : Option Addr) : OwnS w base e size (.slice A 0 0) 0 [] := ⟨by simp, .inl ⟨A, rfl, rfl⟩⟩
theorem OwnS.fresh (w : World) (cur : Array Value) (n cap : Nat) (hb : base ≤ w.heap.size) (h0 : 0 < cap) (hn : n ≤ cap) (hm : cap ≤ maxLen) (hs : cur.size = cap * size) (hx : cur.toList.take (n * size) = xs) (hl : xs.length = n * size) :
    OwnS (w.alloc (.cells cur e)) base e size (.slice (some ⟨w.heap.size, 0, none⟩) n cap) n xs :=
  ⟨hl, .inr ⟨w.heap.size, cap, cur, rfl, h0, hb, heap_alloc_new w _, hn, hm, hs, hx⟩⟩
theorem OwnS.lt (h : OwnS w base e size v n xs) : ∀ k, k ∈ rl v → base ≤ k ∧ k < w.heap.size := by
  intro k hk
  rcases h.2 with ⟨A, rfl, _⟩ | ⟨g, cap, cur, rfl, h0, hb, hg, _⟩
  · rw [rl_zero] at hk; simp at hk
  · rw [rl_some g n cap h0] at hk
    have : k = g := by simpa using hk
    subst this
    exact ⟨hb, (Array.getElem?_eq_some_iff.1 hg).1⟩
theorem OwnS.typed (h : OwnS w base e size v n xs) : ∀ k, k ∈ rl v → ∃ cells, w.heap[k]? = some (.cells cells e (0, 0)) := by
  intro k hk
  rcases h.2 with ⟨A, rfl, _⟩ | ⟨g, cap, cur, rfl, h0, hb, hg, _⟩
  · rw [rl_zero] at hk; simp at hk
  · rw [rl_some g n cap h0] at hk
    have : k = g := by simpa using hk
    subst this
    exact ⟨_, hg⟩
theorem OwnS.ne (h : OwnS w base e size v n xs) {b : Nat} {cs : Array Value} {t : TypeId} (hb : Blk w b cs t) (ht : t ≠ e) : b ∉ rl v := fun hk => by
  obtain ⟨cells, hc⟩ := h.typed b hk
  unfold Blk at hb
  rw [hb] at hc
  injection hc with hc
  injection hc with _ hc
  exact ht hc
theorem OwnS.ch (h : OwnS w base e size v n xs) {bs : List Nat} (c : Ch bs w w') (hn : ∀ k, k ∈ rl v → k ∉ bs) : OwnS w' base e size v n xs := by
  refine ⟨h.1, ?_⟩
  rcases h.2 with h0 | ⟨g, cap, cur, rfl, h0, hb, hg, hr⟩
  · exact .inl h0
  · refine .inr ⟨g, cap, cur, rfl, h0, hb, ?_, hr⟩
    rw [c.block g (Array.getElem?_eq_some_iff.1 hg).1 (hn g (by rw [rl_some g n cap h0]; simp))]
    exact hg
theorem OwnS.lower {b' : Nat} (h : OwnS w base e size v n xs) (hb : b' ≤ base) : OwnS w b' e size v n xs := by
  refine ⟨h.1, ?_⟩
  rcases h.2 with h0 | ⟨g, cap, cur, rfl, h0, h1, hr⟩
  · exact .inl h0
  · exact .inr ⟨g, cap, cur, rfl, h0, by omega, hr⟩
theorem OwnS.slice (h : OwnS w base e size v n xs) : ∃ A c, v = .slice A n c ∧ n ≤ c ∧ c ≤ maxLen := by
  rcases h.2 with ⟨A, rfl, rfl⟩ | ⟨g, cap, cur, rfl, h0, hb, hg, h1, h2, _⟩
  · exact ⟨A, 0, rfl, by omega, by omega⟩
  · exact ⟨_, cap, rfl, h1, h2⟩
theorem OwnS.some_ (h : OwnS w base e size v n xs) (hn : 0 < n) : ∃ g cap, v = .slice (some ⟨g, 0, none⟩) n cap ∧ n ≤ cap ∧ cap ≤ maxLen ∧ rl v = [g] ∧ CellsAt w ⟨g, 0, none⟩ xs ∧ (∀ j, w.frozen? ⟨g, j, none⟩ = false) := by
  rcases h.2 with ⟨A, rfl, rfl⟩ | ⟨g, cap, cur, rfl, h0, hb, hg, h1, h2, h3, h4⟩
  · omega
  · refine ⟨g, cap, rfl, h1, h2, rl_some g n cap h0, fun j u hu => ?_, fun j => frozen_of_row w g j cur e hg⟩
    rw [add_plain, cell_of_row w g (0 + j) cur e (0, 0) hg, Nat.zero_add]
    rw [← h4, List.getElem?_take] at hu
    split at hu
    · simpa using hu
    · cases hu
theorem OwnS.src (h : OwnS w base e size v n xs) : SrcIs w v n xs size := by
  refine ⟨h.1, ?_⟩
  by_cases hn : 0 < n
  · obtain ⟨g, cap, rfl, _, _, _, hc, _⟩ := h.some_ hn
    exact .inr ⟨_, _, rfl, hc⟩
  · have h0 : n = 0 := by omega
    subst h0
    have hx : xs = [] := List.eq_nil_of_length_eq_zero (by simpa using h.1)
    subst hx
    obtain ⟨A, c, rfl, _, _⟩ := h.slice
    rcases h.2 with ⟨A', he, _⟩ | ⟨g, cap, cur, he, _⟩
    · cases A' with
      | none => exact .inl ⟨rfl, he⟩
      | some a => exact .inr ⟨a, 0, he, CellsAt.nil _ _⟩
    · exact .inr ⟨_, _, he, CellsAt.nil _ _⟩
theorem SrcIs.ch {x : Value} {m : Nat} {news : List Value} (h : SrcIs w x m news size) {bs : List Nat} (c : Ch bs w w') (hn : ∀ a m' c', x = .slice (some a) m' c' → 0 < m' → a.block ∉ bs) : SrcIs w' x m news size := by
  refine ⟨h.1, ?_⟩
  rcases h.2 with h0 | ⟨a, c', rfl, hc⟩
  · exact .inl h0
  · refine .inr ⟨a, c', rfl, ?_⟩
    by_cases h0 : 0 < m
    · exact hc.ch c (hn a m c' rfl h0)
    · have hx : news = [] := List.eq_nil_of_length_eq_zero (by rw [h.1, show m = 0 by omega, Nat.zero_mul])
      subst hx
      exact CellsAt.nil _ _
end
section
variable {P : Program} (w : World)
theorem run_append_zero (t ty e : TypeId) (i : TypeInfo) (ht : P.underlying t = some (.slice e)) (hi : P.info? e = some i) (A : Option Addr) (n c : Nat) (hA : A = none → n = 0 ∧ c = 0) (hc : n ≤ c) (x : Value) (hx : ∃ B c', x = .slice B 0 c') :
    (Builtin.append_ #[t, t] ty #[.slice A n c, x]).run P w = .ok (.slice A n c) w := by
  obtain ⟨B, c', rfl⟩ := hx
  cases A with
  | none =>
    obtain ⟨rfl, rfl⟩ := hA rfl
    cases B <;> simp [Builtin.append_, run_underlying ht, sizeOf, typeInfo, hi, Builtin.lenOf, Builtin.firstCells, loadCells, loadCellsFrom]
  | some a => cases B <;> simp [Builtin.append_, run_underlying ht, sizeOf, typeInfo, hi, Builtin.lenOf, hc, Builtin.firstCells, loadCells, loadCellsFrom, storeCells]
theorem run_append_S (base : Nat) (t ty e : TypeId) (i : TypeInfo) (z : Value) (size bytes : Nat) (ht : P.underlying t = some (.slice e)) (hi : P.info? e = some i) (hz : i.zero = some z)
    (hsize : i.size = size) (hby : i.bytes = bytes) (hzs : z.cells.size = size) (hsz : 0 < size)
    (v : Value) (n : Nat) (xs : List Value) (hown : OwnS w base e size v n xs)
    (x : Value) (m : Nat) (news : List Value) (hx : SrcIs w x m news size) (h1 : ∀ u ∈ news, u.oneCell' = true)
    (h63 : n + m ≤ maxLen) (hbytes : (n + m) * bytes ≤ 140737488355328) (hbase : base ≤ w.heap.size) :
    ∃ v' w', (Builtin.append_ #[t, t] ty #[v, x]).run P w = .ok v' w' ∧ OwnS w' base e size v' (n + m) (xs ++ news) ∧ Ch (rl v) w w' ∧ (∀ k, k ∈ rl v' → k ∈ rl v ∨ w.heap.size ≤ k) ∧ (m = 0 → v' = v ∧ w' = w) := by
  subst hsize
  subst hby
  obtain ⟨hl, hx⟩ := hx
  have hsmall : n + m ≤ 9223372036854775807 := by simp only [maxLen] at h63; omega
  have hlen : (xs ++ news).length = (n + m) * i.size := by rw [List.length_append, hown.1, hl, Nat.add_mul]
  by_cases hm : m = 0
  · subst hm
    have hn : news = [] := List.eq_nil_of_length_eq_zero (by simpa using hl)
    subst hn
    obtain ⟨A, c, rfl, hc, _⟩ := hown.slice
    refine ⟨_, w, run_append_zero w t ty e i ht hi A n c (fun h => ?_) hc x ?_, by simpa using hown, Ch.refl _ _, fun k hk => .inl hk, fun _ => ⟨rfl, rfl⟩⟩
    · subst h
      rcases hown.2 with ⟨_, he, h0⟩ | ⟨g, cap, cur, he, _⟩
      · injection he with _ _ he
        exact ⟨h0, he⟩
      · injection he with he
        cases he
    · rcases hx with ⟨_, rfl⟩ | ⟨a, c', rfl, _⟩
      · exact ⟨_, _, rfl⟩
      · exact ⟨_, _, rfl⟩
  rcases hx with ⟨h0, _⟩ | ⟨a, c, rfl, hnews⟩
  · exact absurd h0 hm
  have grown : ∀ (old : Nat), old < n + m → ∀ (bs : List Nat),
      OwnS (w.drew.alloc (.cells (xs.toArray ++ news.toArray ++ Builtin.zeroCells z.cells (grownCap w (n + m) old e - (n + m))) e)) base e i.size
        (.slice (some ⟨w.heap.size, 0, none⟩) (n + m) (grownCap w (n + m) old e)) (n + m) (xs ++ news) ∧
      Ch bs w (w.drew.alloc (.cells (xs.toArray ++ news.toArray ++ Builtin.zeroCells z.cells (grownCap w (n + m) old e - (n + m))) e)) ∧ 0 < grownCap w (n + m) old e := by
    intro old ho bs
    have hge := grownCap_ge w (n + m) old e
    have hcm : grownCap w (n + m) old e ≤ maxLen := grownCap_le_maxLen w (n + m) old e h63
    refine ⟨⟨hlen, .inr ⟨w.heap.size, _, _, rfl, by omega, hbase, heap_alloc_new w.drew _, hge, hcm, ?_, ?_⟩⟩, ((Ch.refl bs w).drew).alloc _, by omega⟩
    · simp only [Array.size_append, List.size_toArray, size_zeroCells, hzs, hown.1, hl, ← Nat.add_mul]
      congr 1
      omega
    · simp only [Array.toList_append, List.append_assoc]
      rw [← List.append_assoc, ← hlen]
      exact List.take_left
  rcases hown.2 with ⟨A, rfl, rfl⟩ | ⟨g, cap, cur, rfl, h0c, hbg, hg, hnc, hcm, hcs, htake⟩
  · have hx0 : xs = [] := List.eq_nil_of_length_eq_zero (by simpa using hown.1)
    subst hx0
    have hgr := grown 0 (by omega) (rl (.slice A 0 0))
    have hrun : (Builtin.append_ #[t, t] ty #[.slice A 0 0, .slice (some a) m c]).run P w = .ok (.slice (some ⟨w.heap.size, 0, none⟩) (0 + m) (grownCap w (0 + m) 0 e)) (w.drew.alloc (.cells (([] : List Value).toArray ++ news.toArray ++ Builtin.zeroCells z.cells (grownCap w (0 + m) 0 e - (0 + m))) e)) := by
      cases A with
      | none =>
        have hr := run_append_nil (P := P) w t ty e i z ht hi hz a m c news hl hnews (by omega) (by omega) (by have hb := hbytes; simp only [Nat.zero_add] at hb; omega)
        simpa using hr
      | some b => exact run_append_grow (P := P) w t ty e i z ht hi hz b 0 0 [] (by simp) (fun j u hu => by simp at hu) a m c news hl hnews (by omega) (by omega) (growslice_fits (by omega) hbytes)
    refine ⟨_, _, hrun, hgr.1, hgr.2.1, fun k hk => .inr ?_, fun h => absurd h hm⟩
    rw [rl_some _ _ _ hgr.2.2] at hk
    have : k = w.heap.size := by simpa using hk
    omega
  · by_cases hroom : n + m ≤ cap
    · have hfit : n * i.size + news.length ≤ cur.size := by rw [hl, hcs, ← Nat.add_mul]; exact Nat.mul_le_mul_right _ hroom
      have hr := run_append_room (P := P) w t ty e i ht hi g n cap cur hg a m c news hl hnews h1 hroom hfit
      refine ⟨_, _, hr, ⟨hlen, .inr ⟨g, cap, _, rfl, h0c, hbg, setRow_heap w g cur _ e _ hg, hroom, hcm, ?_, ?_⟩⟩, ⟨rfl, rfl, rfl, by simp, fun k _ hk => setRow_other w g k _ (fun e' => hk (by rw [rl_some g n cap h0c, e']; simp))⟩, fun k hk => .inl ?_, fun h => absurd h hm⟩
      · simp only [List.size_toArray, List.length_append, List.length_take, List.length_drop, Array.length_toList]
        omega
      · rw [htake, ← hlen]
        exact List.take_left
      · rw [rl_some _ _ _ h0c] at hk ⊢
        exact hk
    · have holds : CellsAt w ⟨g, 0, none⟩ xs := fun j u hu => by
        rw [add_plain, cell_of_row w g (0 + j) cur e (0, 0) hg, Nat.zero_add]
        rw [← htake, List.getElem?_take] at hu
        split at hu
        · simpa using hu
        · cases hu
      have hr := run_append_grow (P := P) w t ty e i z ht hi hz ⟨g, 0, none⟩ n cap xs hown.1 holds a m c news hl hnews (by omega) (by omega) (growslice_fits (by omega) hbytes)
      have hgr := grown cap (by omega) (rl (.slice (some ⟨g, 0, none⟩) n cap))
      refine ⟨_, _, hr, hgr.1, hgr.2.1, fun k hk => .inr ?_, fun h => absurd h hm⟩
      rw [rl_some _ _ _ hgr.2.2] at hk
      have : k = w.heap.size := by simpa using hk
      omega
theorem wpList_append_S {w : World} {ops : Array Oper} {rest : List Oper} {o : Oper} {a : Act} {Q : Exit → Act → World → Prop} (hgd : o.guard = none) (s x : Operand) (t : TypeId)
    (ho : o.op = .call { callee := .builtin .append, args := #[s, x], argTypes := #[t, t] })
    (base : Nat) (e : TypeId) (i : TypeInfo) (z : Value) (size bytes : Nat) (ht : P.underlying t = some (.slice e)) (hi : P.info? e = some i) (hz : i.zero = some z)
    (hsize : i.size = size) (hby : i.bytes = bytes) (hzs : z.cells.size = size) (hsz : 0 < size)
    (v : Value) (n : Nat) (xs : List Value) (hs : a.eval s = v) (hown : OwnS w base e size v n xs)
    (xv : Value) (m : Nat) (news : List Value) (hx : a.eval x = xv) (hsrc : SrcIs w xv m news size) (h1 : ∀ u ∈ news, u.oneCell' = true)
    (h63 : n + m ≤ maxLen) (hbytes : (n + m) * bytes ≤ 140737488355328) (hbase : base ≤ w.heap.size)
    (h : ∀ v' w', OwnS w' base e size v' (n + m) (xs ++ news) → Ch (rl v) w w' → (∀ k, k ∈ rl v' → k ∈ rl v ∨ w.heap.size ≤ k) → (m = 0 → v' = v ∧ w' = w) → wpList P ops Q rest (a.put o.dst v') w') : wpList P ops Q (o :: rest) a w := by
  refine wpList_plain hgd fun K hK => ?_
  obtain ⟨v', w', hr, h2, h3, h4, h5⟩ := run_append_S (P := P) w base t o.type e i z size bytes ht hi hz hsize hby hzs hsz v n xs hown xv m news hsrc h1 h63 hbytes hbase
  unfold Oper.wp execOp
  simp only [ho, resolve, invoke, builtin, Sem.run_bind, Sem.run_pure, Result.andThen_ok, List.map_toArray, List.map_cons, List.map_nil, hs, hx, hr]
  exact hK _ _ (h v' w' h2 h3 h4 h5)
/-! A struct, loaded out of the middle of a row, stored into it. -/
theorem run_loadVar_at {w : World} {p : Addr} {ty : TypeId} {cs : List Value} {d : TypeDesc} (h : CellsAt w p cs) (hu : P.underlying ty = some d) (hd : (match d with | .struct _ | .array _ _ => true | _ => false) = true) (hi : (P.info? ty).map (·.size) = some cs.length) :
    (loadVar ty p).run P w = .ok (.agg cs.toArray) w := by
  have hl : (loadCells p cs.length).run P w = .ok cs.toArray w := run_loadCells_list (P := P) w p cs h
  cases hq : P.info? ty with
  | none => simp [hq] at hi
  | some i =>
    have hs : i.size = cs.length := by simpa [hq] using hi
    have hagg : (isAgg ty).run P w = .ok true w := by
      unfold isAgg
      rw [Sem.run_bind, run_underlying hu w]
      cases d <;> simp_all
    simp [loadVar, Sem.run_bind, hagg, sizeOf, typeInfo, hq, hs, hl]
theorem wpList_load_at {ops : Array Oper} {rest : List Oper} {o : Oper} {a : Act} {w : World} {Q : Exit → Act → World → Prop} (hgd : o.guard = none) (ty : TypeId) (x : Operand) (ho : o.op = .load ty x)
    (p : Addr) (hx : a.eval x = .pointer (some p)) (cs : List Value) (d : TypeDesc) (hc : CellsAt w p cs)
    (hu : P.underlying ty = some d) (hd : (match d with | .struct _ | .array _ _ => true | _ => false) = true) (hi : (P.info? ty).map (·.size) = some cs.length)
    (h : wpList P ops Q rest (a.put o.dst (.agg cs.toArray)) w) : wpList P ops Q (o :: rest) a w := by
  refine wpList_plain hgd fun K hK => ?_
  unfold Oper.wp execOp
  simp only [ho, hx, Instr.loadAt, Instr.sureAddr, Sem.run_bind, Sem.run_pure, Result.andThen_ok, run_loadVar_at hc hu hd hi]
  exact hK _ _ h
theorem run_storeVar_at {w : World} {g o : Nat} {t ty : TypeId} {cur cells : Array Value} (hg : w.heap[g]? = some (.cells cur t (0, 0))) (hi : (P.info? ty).map (·.size) = some cells.size)
    (ho : o + cells.size ≤ cur.size) (h1 : ∀ u ∈ cells.toList, u.oneCell' = true) :
    (storeVar ty ⟨g, o, none⟩ (.agg cells)).run P w = .ok () (w.setRow g (cur.toList.take o ++ cells.toList ++ cur.toList.drop (o + cells.size)).toArray) := by
  have := run_storeCells_at P g o t cells.toList 0 cur w hg (by simpa using ho) h1
  cases hq : P.info? ty with
  | none => simp [hq] at hi
  | some i =>
    have hs : cells.size = i.size := by simp [hq] at hi; omega
    simp only [Nat.add_zero, Array.length_toList] at this
    simp [storeVar, sizeOf, typeInfo, hq, Value.cells, hs]
    rw [← hs]
    simpa using this
theorem OwnS.put {w : World} {base : Nat} {e : TypeId} {size g n cap : Nat} {xs : List Value} (h : OwnS w base e size (.slice (some ⟨g, 0, none⟩) n cap) n xs) {ty : TypeId} {cells : Array Value} {o : Nat} (hi : (P.info? ty).map (·.size) = some cells.size)
    (ho : o + cells.size ≤ n * size) (h1 : ∀ u ∈ cells.toList, u.oneCell' = true) (h0 : 0 < cap) :
    ∃ w', (storeVar ty ⟨g, o, none⟩ (.agg cells)).run P w = .ok () w' ∧ OwnS w' base e size (.slice (some ⟨g, 0, none⟩) n cap) n (xs.take o ++ cells.toList ++ xs.drop (o + cells.size)) ∧ Ch [g] w w' := by
  rcases h.2 with ⟨A, he, _⟩ | ⟨g', cap', cur, he, _, hb, hg, hn, hm, hs, ht⟩
  · injection he with _ _ he
    omega
  · injection he with e1 e2 e3
    injection e1 with e1
    injection e1 with e1 _ _
    subst e1
    subst e3
    have hcs : n * size ≤ cur.size := by rw [hs]; exact Nat.mul_le_mul_right _ hn
    have hx : xs.length = n * size := h.1
    refine ⟨_, run_storeVar_at hg hi (by omega) h1, ⟨?_, .inr ⟨g, cap, _, rfl, h0, hb, setRow_heap w g cur _ e _ hg, hn, hm, ?_, ?_⟩⟩, ⟨rfl, rfl, rfl, by simp, fun k _ hk => setRow_other w g k _ (by simpa using hk)⟩⟩
    · simp; omega
    · simp; omega
    · rw [← ht]
      apply List.ext_getElem?
      intro j
      simp only [List.getElem?_take, List.getElem?_append, List.length_take, List.length_append, Array.length_toList, List.getElem?_drop, List.toList_toArray]
      by_cases j1 : j < o
      · simp [j1, show min o cur.size = o by omega, show min o (min (n * size) cur.size) = o by omega, show j < n * size by omega, show j < o + cells.size by omega]
      · by_cases j2 : j < o + cells.size
        · simp [j1, j2, show min o cur.size = o by omega, show min o (min (n * size) cur.size) = o by omega, show j < n * size by omega]
        · by_cases j3 : j < n * size
          · simp [j1, j2, j3, show min o cur.size = o by omega, show min o (min (n * size) cur.size) = o by omega, show o + cells.size + (j - (o + cells.size)) < n * size by omega]
          · simp [j1, j2, j3, show min o cur.size = o by omega, show min o (min (n * size) cur.size) = o by omega, show ¬ o + cells.size + (j - (o + cells.size)) < n * size by omega]
theorem wpList_store_S {ops : Array Oper} {rest : List Oper} {o : Oper} {a : Act} {w : World} {Q : Exit → Act → World → Prop} (hgd : o.guard = none) (ty : TypeId) (x y : Operand) (ho : o.op = .store ty x y)
    {base : Nat} {e : TypeId} {size g n cap : Nat} {xs : List Value} (hown : OwnS w base e size (.slice (some ⟨g, 0, none⟩) n cap) n xs) (off : Nat) (cells : Array Value) (hx : a.eval x = .pointer (some ⟨g, off, none⟩)) (hy : a.eval y = .agg cells)
    (hi : (P.info? ty).map (·.size) = some cells.size) (hoff : off + cells.size ≤ n * size) (h1 : ∀ u ∈ cells.toList, u.oneCell' = true) (h0 : 0 < cap)
    (h : ∀ w', OwnS w' base e size (.slice (some ⟨g, 0, none⟩) n cap) n (xs.take off ++ cells.toList ++ xs.drop (off + cells.size)) → Ch [g] w w' → wpList P ops Q rest (a.put o.dst undef) w') : wpList P ops Q (o :: rest) a w := by
  refine wpList_plain hgd fun K hK => ?_
  obtain ⟨w', hr, h2, h3⟩ := hown.put (P := P) hi hoff h1 h0
  unfold Oper.wp execOp
  simp only [ho, hx, hy, Instr.storeAt, Instr.sureAddr, Sem.run_bind, Sem.run_pure, Result.andThen_ok, hr]
  exact hK _ _ (h w' h2 h3)
theorem OwnS.set {w : World} {base : Nat} {e : TypeId} {size g n cap : Nat} {xs : List Value} (h : OwnS w base e size (.slice (some ⟨g, 0, none⟩) n cap) n xs) (j : Nat) (u : Value) (h0 : 0 < n) :
    OwnS (w.setCell ⟨g, j, none⟩ u) base e size (.slice (some ⟨g, 0, none⟩) n cap) n (xs.set j u) ∧ Ch [g] w (w.setCell ⟨g, j, none⟩ u) := by
  rcases h.2 with ⟨A, he, hn⟩ | ⟨g', cap', cur, he, h0c, hb, hg, hn, hm, hs, ht⟩
  · omega
  · injection he with e1 e2 e3
    injection e1 with e1
    injection e1 with e1 _ _
    subst e1
    subst e3
    refine ⟨⟨by simpa using h.1, .inr ⟨g, cap, cur.setIfInBounds j u, rfl, h0c, hb, heap_setCell_same w g j cur e u hg, hn, hm, by simpa using hs, ?_⟩⟩, (Ch.refl _ _).setCell (.inl (by simp)) u⟩
    rw [Array.toList_setIfInBounds, ← ht, List.take_set]
end
/-! Rows of things: what a list of things writes, each so many cells. -/
section
variable {α : Type} {f : α → List Value} {sz : Nat}
theorem flat_len (hf : ∀ x, (f x).length = sz) (L : List α) : (L.flatMap f).length = L.length * sz := by
  induction L with
  | nil => simp
  | cons x L ih => rw [List.flatMap_cons, List.length_append, hf, ih, List.length_cons, Nat.succ_mul]; omega
theorem flat_drop (hf : ∀ x, (f x).length = sz) (L : List α) (i : Nat) : (L.flatMap f).drop (i * sz) = (L.drop i).flatMap f := by
  induction i generalizing L with
  | zero => simp
  | succ i ih =>
    cases L with
    | nil => simp
    | cons x L =>
      rw [List.flatMap_cons, Nat.succ_mul, Nat.add_comm, List.drop_append, List.drop_of_length_le (by rw [hf]; omega), hf, List.nil_append, show sz + i * sz - sz = i * sz by omega, ih, List.drop_succ_cons]
theorem flat_take (hf : ∀ x, (f x).length = sz) (L : List α) (i : Nat) : (L.flatMap f).take (i * sz) = (L.take i).flatMap f := by
  induction i generalizing L with
  | zero => simp
  | succ i ih =>
    cases L with
    | nil => simp
    | cons x L =>
      rw [List.flatMap_cons, Nat.succ_mul, Nat.add_comm, List.take_append, List.take_of_length_le (by rw [hf]; omega), hf, show sz + i * sz - sz = i * sz by omega, ih, List.take_succ_cons, List.flatMap_cons]
theorem flat_at (hf : ∀ x, (f x).length = sz) (L : List α) (i : Nat) (h : i < L.length) : ((L.flatMap f).drop (i * sz)).take sz = f L[i] := by
  rw [flat_drop hf, List.drop_eq_getElem_cons h, List.flatMap_cons, List.take_append, List.take_of_length_le (by rw [hf]; omega), hf, Nat.sub_self]
  simp
theorem flat_one (hf : ∀ x, ∀ u ∈ f x, u.oneCell' = true) (L : List α) : ∀ u ∈ L.flatMap f, u.oneCell' = true := fun u hu => by
  obtain ⟨x, _, hx⟩ := List.mem_flatMap.1 hu
  exact hf x u hx
theorem flat_set (hf : ∀ x, (f x).length = sz) (L : List α) (i : Nat) (x : α) (h : i < L.length) : (L.flatMap f).take (i * sz) ++ f x ++ (L.flatMap f).drop (i * sz + sz) = (L.set i x).flatMap f := by
  rw [flat_take hf, show i * sz + sz = (i + 1) * sz by rw [Nat.succ_mul], flat_drop hf, List.set_eq_take_append_cons_drop, if_pos h, List.flatMap_append, List.flatMap_cons, List.append_assoc]
theorem CellsAt.elem {w : World} {g o : Nat} {L : List α} (hf : ∀ x, (f x).length = sz) (h : CellsAt w ⟨g, o, none⟩ (L.flatMap f)) (i : Nat) (hi : i < L.length) : CellsAt w ⟨g, o + i * sz, none⟩ (f L[i]) := by
  have := h.part (i * sz) sz
  rwa [flat_at hf L i hi] at this
end
end Go.Proofs.Ytmoelehhofmhcaa.K
