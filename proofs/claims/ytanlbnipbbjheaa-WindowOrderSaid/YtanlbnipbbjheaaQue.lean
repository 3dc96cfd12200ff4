/- A row of the call's own that is taken from at its head and appended to at its end. -/
import Derived.Test.YtanlbnipbbjheaaWeave
namespace Go.Proofs.Ytanlbnipbbjheaa.K
open Go Go.RowKit Go.Proofs.YtanlbnipbbjheaaW.PrintLast
set_option linter.unusedVariables false
set_option linter.unusedSimpArgs false
def OwnQ (w : World) (base : Nat) (e : TypeId) (size : Nat) (v : Value) (n : Nat) (xs : List Value) : Prop :=
  xs.length = n * size ∧ ((∃ A, v = .slice A 0 0 ∧ n = 0) ∨
    ∃ g o cap cur, v = .slice (some ⟨g, o, none⟩) n cap ∧ 0 < cap ∧ base ≤ g ∧ w.heap[g]? = some (.cells cur e (0, 0)) ∧ n ≤ cap ∧ cap ≤ maxLen ∧ cur.size = o + cap * size ∧ (cur.toList.drop o).take (n * size) = xs)
theorem rl_q (g o n c : Nat) (h : 0 < c) : rl (.slice (some ⟨g, o, none⟩) n c) = [g] := by
  obtain ⟨c, rfl⟩ : ∃ m, c = m + 1 := ⟨c - 1, by omega⟩
  rfl
section
variable {w w' : World} {base : Nat} {e : TypeId} {size : Nat} {v : Value} {n : Nat} {xs : List Value}
theorem OwnQ.nil (w : World) (base : Nat) (e : TypeId) (size : Nat) (A : Option Addr) : OwnQ w base e size (.slice A 0 0) 0 [] := ⟨by simp, .inl ⟨A, rfl, rfl⟩⟩
theorem OwnS.q (h : OwnS w base e size v n xs) : OwnQ w base e size v n xs := by
  refine ⟨h.1, ?_⟩
  rcases h.2 with h0 | ⟨g, cap, cur, rfl, h0, hb, hg, h1, h2, h3, h4⟩
  · exact .inl h0
  · exact .inr ⟨g, 0, cap, cur, rfl, h0, hb, hg, h1, h2, by omega, by simpa using h4⟩
theorem OwnQ.lt (h : OwnQ w base e size v n xs) : ∀ k, k ∈ rl v → base ≤ k ∧ k < w.heap.size := by
  intro k hk
  rcases h.2 with ⟨A, rfl, _⟩ | ⟨g, o, cap, cur, rfl, h0, hb, hg, _⟩
  · rw [rl_zero] at hk; simp at hk
  · rw [rl_q g o n cap h0] at hk
    have : k = g := by simpa using hk
    subst this
    exact ⟨hb, (Array.getElem?_eq_some_iff.1 hg).1⟩
theorem OwnQ.typed (h : OwnQ w base e size v n xs) : ∀ k, k ∈ rl v → ∃ cells, w.heap[k]? = some (.cells cells e (0, 0)) := by
  intro k hk
  rcases h.2 with ⟨A, rfl, _⟩ | ⟨g, o, cap, cur, rfl, h0, hb, hg, _⟩
  · rw [rl_zero] at hk; simp at hk
  · rw [rl_q g o n cap h0] at hk
    have : k = g := by simpa using hk
    subst this
    exact ⟨_, hg⟩
theorem OwnQ.ne (h : OwnQ w base e size v n xs) {b : Nat} {cs : Array Value} {t : TypeId} (hb : Blk w b cs t) (ht : t ≠ e) : b ∉ rl v := fun hk => by
  obtain ⟨cells, hc⟩ := h.typed b hk
  unfold Blk at hb
  rw [hb] at hc
  injection hc with hc
  injection hc with _ hc
  exact ht hc
theorem OwnQ.rneS {base' : Nat} {e' : TypeId} {size' : Nat} {v' : Value} {n' : Nat} {xs' : List Value} (h : OwnQ w base e size v n xs) (h' : OwnS w base' e' size' v' n' xs') (hn : e ≠ e') : ∀ k, k ∈ rl v → k ∉ rl v' := fun k hk hm => by
  obtain ⟨c, hc⟩ := h.typed k hk
  obtain ⟨c', hc'⟩ := h'.typed k hm
  rw [hc] at hc'
  injection hc' with hc'
  injection hc' with _ hc'
  exact hn hc'
theorem OwnQ.ne_new (h : OwnQ w base e size v n xs) {g : Nat} (hg : Hid (g = w.heap.size)) : g ∉ rl v := fun hk => by
  have := (h.lt g hk).2
  have := hg.out
  omega
theorem OwnQ.ch (h : OwnQ w base e size v n xs) {bs : List Nat} (c : Ch bs w w') (hn : ∀ k, k ∈ rl v → k ∉ bs) : OwnQ w' base e size v n xs := by
  refine ⟨h.1, ?_⟩
  rcases h.2 with h0 | ⟨g, o, cap, cur, rfl, h0, hb, hg, hr⟩
  · exact .inl h0
  · refine .inr ⟨g, o, cap, cur, rfl, h0, hb, ?_, hr⟩
    rw [c.block g (Array.getElem?_eq_some_iff.1 hg).1 (hn g (by rw [rl_q g o n cap h0]; simp))]
    exact hg
theorem OwnQ.slice (h : OwnQ w base e size v n xs) : ∃ A c, v = .slice A n c ∧ n ≤ c ∧ c ≤ maxLen := by
  rcases h.2 with ⟨A, rfl, rfl⟩ | ⟨g, o, cap, cur, rfl, h0, hb, hg, h1, h2, _⟩
  · exact ⟨A, 0, rfl, by omega, by omega⟩
  · exact ⟨_, cap, rfl, h1, h2⟩
theorem OwnQ.one (h : OwnQ w base e size v n xs) : v.oneCell' = true := by
  obtain ⟨A, c, rfl, _⟩ := h.slice
  rfl
theorem OwnQ.some_ (h : OwnQ w base e size v n xs) (hn : 0 < n) : ∃ g o cap, v = .slice (some ⟨g, o, none⟩) n cap ∧ n ≤ cap ∧ cap ≤ maxLen ∧ rl v = [g] ∧ CellsAt w ⟨g, o, none⟩ xs := by
  rcases h.2 with ⟨A, rfl, rfl⟩ | ⟨g, o, cap, cur, rfl, h0, hb, hg, h1, h2, h3, h4⟩
  · omega
  · refine ⟨g, o, cap, rfl, h1, h2, rl_q g o n cap h0, fun j u hu => ?_⟩
    rw [add_plain, cell_of_row w g (o + j) cur e (0, 0) hg]
    rw [← h4, List.getElem?_take] at hu
    split at hu
    · rw [List.getElem?_drop] at hu
      simpa using hu
    · cases hu
/-- The head is taken. -/
theorem OwnQ.tail {p : Addr} {c k : Nat} (h : OwnQ w base e size (.slice (some p) n c) n xs) (hk : k ≤ n) (h0 : 0 < k) : OwnQ w base e size (.slice (some (if c = k then p else p.add (k * size))) (n - k) (c - k)) (n - k) (xs.drop (k * size)) ∧ rl (.slice (some (if c = k then p else p.add (k * size))) (n - k) (c - k)) ⊆ rl (.slice (some p) n c) := by
  have hl : (xs.drop (k * size)).length = (n - k) * size := by rw [List.length_drop, h.1, Nat.sub_mul]
  rcases h.2 with ⟨A, he, hn⟩ | ⟨g, o, cap, cur, he, hc0, hb, hg, h1, h2, h3, h4⟩
  · omega
  · injection he with e1 e2 e3
    injection e1 with e1
    subst e1
    subst e3
    by_cases hck : c = k
    · subst hck
      have : n = c := by omega
      subst this
      rw [if_pos rfl, Nat.sub_self]
      refine ⟨⟨by simpa using hl, .inl ⟨_, rfl, rfl⟩⟩, ?_⟩
      rw [rl_zero]
      simp
    · rw [if_neg hck, add_plain]
      have hlt : k < c := by omega
      refine ⟨⟨hl, .inr ⟨g, o + k * size, c - k, cur, rfl, by omega, hb, hg, by omega, by omega, ?_, ?_⟩⟩, ?_⟩
      · rw [h3, Nat.sub_mul]
        have : k * size ≤ c * size := Nat.mul_le_mul_right _ (by omega)
        omega
      · rw [← h4, List.drop_take, List.drop_drop, Nat.sub_mul]
      · rw [rl_q _ _ _ _ (by omega), rl_q _ _ _ _ hc0]
        simp
end
section
variable {P : Program} (w : World)
theorem run_append_roomQ (t ty e : TypeId) (i : TypeInfo) (ht : P.underlying t = some (.slice e)) (hi : P.info? e = some i)
    (g o sLen sCap : Nat) (cur : Array Value) (hg : w.heap[g]? = some (.cells cur e (0, 0)))
    (a : Addr) (m c : Nat) (news : List Value) (hl : news.length = m * i.size) (hnews : ∀ j u, news[j]? = some u → w.cell? (a.add j) = some u) (h1 : ∀ u ∈ news, u.oneCell' = true)
    (hroom : sLen + m ≤ sCap) (hfit : o + sLen * i.size + news.length ≤ cur.size) :
    (Builtin.append_ #[t, t] ty #[.slice (some ⟨g, o, none⟩) sLen sCap, .slice (some a) m c]).run P w =
      .ok (.slice (some ⟨g, o, none⟩) (sLen + m) sCap) (w.setRow g (cur.toList.take (o + sLen * i.size) ++ news ++ cur.toList.drop (o + sLen * i.size + news.length)).toArray) := by
  have hf := run_firstCells_some (P := P) w i.size m a m c news hl hnews
  have hst := run_storeCells_at P g (o + sLen * i.size) e news 0 cur w hg (by simpa using hfit) h1
  simp only [Nat.add_zero] at hst
  simp [Builtin.append_, run_underlying ht, sizeOf, typeInfo, hi, Builtin.lenOf, hroom, hf, add_plain, hst]
theorem run_append_Q (base : Nat) (t ty e : TypeId) (i : TypeInfo) (z : Value) (size bytes : Nat) (ht : P.underlying t = some (.slice e)) (hi : P.info? e = some i) (hz : i.zero = some z)
    (hsize : i.size = size) (hby : i.bytes = bytes) (hzs : z.cells.size = size) (hsz : 0 < size)
    (v : Value) (n : Nat) (xs : List Value) (hown : OwnQ w base e size v n xs)
    (x : Value) (m : Nat) (news : List Value) (hx : SrcIs w x m news size) (h1 : ∀ u ∈ news, u.oneCell' = true)
    (h63 : n + m ≤ maxLen) (hbytes : (n + m) * bytes ≤ 140737488355328) (hbase : base ≤ w.heap.size) :
    ∃ v' w', (Builtin.append_ #[t, t] ty #[v, x]).run P w = .ok v' w' ∧ OwnQ w' base e size v' (n + m) (xs ++ news) ∧ Ch (rl v) w w' ∧ (∀ k, k ∈ rl v' → k ∈ rl v ∨ w.heap.size ≤ k) ∧ (m = 0 → v' = v ∧ w' = w) := by
  rcases hown.2 with ⟨A, rfl, rfl⟩ | ⟨g, o, cap, cur, rfl, h0c, hbg, hg, hnc, hcm, hcs, htake⟩
  · have hs : OwnS w base e size (.slice A 0 0) 0 xs := ⟨hown.1, .inl ⟨A, rfl, rfl⟩⟩
    obtain ⟨v', w', h2, h3, h4, h5, h6⟩ := run_append_S (P := P) w base t ty e i z size bytes ht hi hz hsize hby hzs hsz _ 0 xs hs x m news hx h1 h63 hbytes hbase
    exact ⟨v', w', h2, h3.q, h4, h5, h6⟩
  · subst hsize
    subst hby
    obtain ⟨hl, hx⟩ := hx
    have hsmall : n + m ≤ 9223372036854775807 := by simp only [maxLen] at h63; omega
    have hlen : (xs ++ news).length = (n + m) * i.size := by rw [List.length_append, hown.1, hl, Nat.add_mul]
    by_cases hm : m = 0
    · subst hm
      have hn : news = [] := List.eq_nil_of_length_eq_zero (by simpa using hl)
      subst hn
      refine ⟨_, w, run_append_zero w t ty e i ht hi (some ⟨g, o, none⟩) n cap (fun h => by cases h) hnc x ?_, by simpa using hown, Ch.refl _ _, fun k hk => .inl hk, fun _ => ⟨rfl, rfl⟩⟩
      rcases hx with ⟨_, rfl⟩ | ⟨a, c', rfl, _⟩
      · exact ⟨_, _, rfl⟩
      · exact ⟨_, _, rfl⟩
    rcases hx with ⟨h0, _⟩ | ⟨a, c, rfl, hnews⟩
    · exact absurd h0 hm
    by_cases hroom : n + m ≤ cap
    · have hfit : o + n * i.size + news.length ≤ cur.size := by
        have : (n + m) * i.size ≤ cap * i.size := Nat.mul_le_mul_right _ hroom
        rw [Nat.add_mul] at this
        omega
      have hr := run_append_roomQ (P := P) w t ty e i ht hi g o n cap cur hg a m c news hl hnews h1 hroom hfit
      refine ⟨_, _, hr, ⟨hlen, .inr ⟨g, o, cap, _, rfl, h0c, hbg, setRow_heap w g cur _ e _ hg, hroom, hcm, ?_, ?_⟩⟩, ⟨rfl, rfl, rfl, by simp, fun k _ hk => setRow_other w g k _ (fun e' => hk (by rw [rl_q g o n cap h0c, e']; simp))⟩, fun k hk => .inl ?_, fun h => absurd h hm⟩
      · simp only [List.size_toArray, List.length_append, List.length_take, List.length_drop, Array.length_toList]
        omega
      · rw [← htake]
        have hx : ((cur.toList.drop o).take (n * i.size)).length = n * i.size := by rw [htake]; exact hown.1
        simp only [List.toList_toArray]
        rw [List.append_assoc, List.drop_append_of_le_length (by simp; omega), List.drop_take, show o + n * i.size - o = n * i.size by omega, ← List.append_assoc, ← hlen, ← htake, List.take_left']
        rfl
      · rw [rl_q _ _ _ _ h0c] at hk ⊢
        exact hk
    · have holds : CellsAt w ⟨g, o, none⟩ xs := fun j u hu => by
        rw [add_plain, cell_of_row w g (o + j) cur e (0, 0) hg]
        rw [← htake, List.getElem?_take] at hu
        split at hu
        · rw [List.getElem?_drop] at hu
          simpa using hu
        · cases hu
      have hge := grownCap_ge w (n + m) cap e
      have hcm' : grownCap w (n + m) cap e ≤ maxLen := grownCap_le_maxLen w (n + m) cap e h63
      have hr := run_append_grow (P := P) w t ty e i z ht hi hz ⟨g, o, none⟩ n cap xs hown.1 holds a m c news hl hnews (by omega) (by omega) (growslice_fits (by omega) hbytes)
      refine ⟨_, _, hr, ⟨hlen, .inr ⟨w.heap.size, 0, _, _, rfl, by omega, hbase, heap_alloc_new w.drew _, hge, hcm', ?_, ?_⟩⟩, ((Ch.refl _ w).drew).alloc _, fun k hk => .inr ?_, fun h => absurd h hm⟩
      · simp only [Array.size_append, List.size_toArray, size_zeroCells, hzs, hown.1, hl, ← Nat.add_mul, Nat.zero_add]
        congr 1
        omega
      · simp only [Array.toList_append, List.append_assoc, List.drop_zero]
        rw [← List.append_assoc, ← hlen]
        exact List.take_left
      · rw [rl_q _ _ _ _ (by omega)] at hk
        have : k = w.heap.size := by simpa using hk
        omega
end
section
variable {P : Program} {ops : Array Oper} {Q : Exit → Act → World → Prop} {oi : Oper} {a : Act} {w : World} {N : Option Tmp} {K : Act → World → Prop}
theorem e_appendQ {s x : Operand} {t : TypeId} (hw : Region.wanted oi (yielded ops a.tmps) = true) (hN : oi.dst = N) (ho : oi.op = .call { callee := .builtin .append, args := #[s, x], argTypes := #[t, t] })
    (base : Nat) (e : TypeId) (i : TypeInfo) (z : Value) (size bytes : Nat) (ht : P.underlying t = some (.slice e)) (hi : P.info? e = some i) (hz : i.zero = some z)
    (hsize : i.size = size) (hby : i.bytes = bytes) (hzs : z.cells.size = size) (hsz : 0 < size)
    (v : Value) (n : Nat) (xs : List Value) (hs : a.eval s = v) (hown : OwnQ w base e size v n xs)
    (xv : Value) (m : Nat) (news : List Value) (hx : a.eval x = xv) (hsrc : SrcIs w xv m news size) (h1 : ∀ u ∈ news, u.oneCell' = true)
    (h63 : n + m ≤ maxLen) (hbytes : (n + m) * bytes ≤ 140737488355328) (hbase : base ≤ w.heap.size)
    (h : ∀ v' w', OwnQ w' base e size v' (n + m) (xs ++ news) → Ch (rl v) w w' → (∀ k, k ∈ rl v' → k ∈ rl v ∨ w.heap.size ≤ k) → (m = 0 → v' = v ∧ w' = w) → K (a.put N v') w') : if Region.wanted oi (yielded ops a.tmps) = true then Oper.wp P oi a w K Q else K (a.put N undef) w := by
  obtain ⟨v', w', hr, h2, h3, h4, h5⟩ := run_append_Q (P := P) w base t oi.type e i z size bytes ht hi hz hsize hby hzs hsz v n xs hown xv m news hsrc h1 h63 hbytes hbase
  refine value_ hw hN ?_ (h v' w' h2 h3 h4 h5)
  unfold execOp
  simp only [ho, resolve, invoke, builtin, Sem.run_bind, Sem.run_pure, Result.andThen_ok, List.map_toArray, List.map_cons, List.map_nil, hs, hx, hr]
end
end Go.Proofs.Ytanlbnipbbjheaa.K
