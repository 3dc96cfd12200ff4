/- Maps of a call's own, as lists of pairs in the order in which their keys came: what mlook-up, store, delete, len and range do. -/
import Derived.Test.YtggcpbnlblbpjaaKit
import Derived.Maps.RangeWalk
import Derived.Maps.OwnOps
import Derived.Maps.OwnSet
namespace Go.Proofs.Ytggcpbnlblbpjaa.K
open Go Go.RowKit
set_option linter.unusedVariables false
set_option linter.unusedSimpArgs false
set_option linter.unusedSectionVars false
theorem in1 {bs : List Nat} {w : World} {b : Nat} (h : w.heap.size ≤ b) : ∀ z, z ∈ [b] → z ∈ bs ∨ w.heap.size ≤ z := fun z hz => .inr (by have hz' : z = b := by simpa using hz
                                                                                                                                          omega)
/-- A key's type: ek writes keys as values; ok says which keys may be. -/
structure MK (P : Program) (k : TypeId) {α : Type} (ek : α → Value) (ok : α → Prop) : Prop where
  inj : ∀ {x y : α}, ok x → ok y → ek x = ek y → x = y
  check : ∀ (w : World) (em : Bool) {x : α}, ok x → (Instr.checkKey em 10000 k (ek x)).run P w = .ok () w
  find : ∀ (w : World) {x : α}, ok x → ∀ es : List MapEntry, (∀ e ∈ es, ∃ y, ok y ∧ e.key = ek y) →
    ((Instr.findKey k (ek x) es).run P w = .ok none w ∧ ∀ e ∈ es, e.key ≠ ek x) ∨ ∃ j e, (Instr.findKey k (ek x) es).run P w = .ok (some (j, e.val)) w ∧ es[j]? = some e ∧ e.key = ek x
  stays : ∀ (w : World) {x : α}, ok x → (Instr.keyThatStays (ek x) (ek x)).run P w = .ok (ek x) w
theorem MK.of {P : Program} {k : TypeId} (K : Maps.Keyed P k) {α : Type} (ek : α → Value) (ok : α → Prop) (hk : ∀ x, ok x → ∃ l, keyOf P k (ek x) = some l) (hinj : ∀ {x y}, ok x → ok y → ek x = ek y → x = y) : MK P k ek ok where
  inj := hinj
  check := fun w em x hx => let ⟨_, h⟩ := hk x hx; K.check w em h
  find := fun w x hx es hes => by
    obtain ⟨_, h⟩ := hk x hx
    exact K.find w h es (fun e he => by
      obtain ⟨y, hy, h⟩ := hes e he
      obtain ⟨l, hl⟩ := hk y hy
      exact ⟨l, by rw [h]; exact hl⟩)
  stays := fun w x hx => let ⟨_, h⟩ := hk x hx; K.stays w h
/-- Block b of w is a map: l, in the order in which the keys came. -/
def MapIs {α β : Type} (w : World) (b : Nat) (ek : α → Value) (ev : β → Value) (ok : α → Prop) (l : List (α × β)) : Prop :=
  ∃ (es : Array MapEntry) (clock : Nat), w.heap[b]? = some (.map es clock) ∧ es.toList.map (fun e => (e.key, e.val)) = l.map (fun p => (ek p.1, ev p.2)) ∧
    es.toList.Pairwise (fun x y => x.born < y.born) ∧ (∀ e ∈ es.toList, e.born < clock) ∧ (l.map (·.1)).Nodup ∧ ∀ p ∈ l, ok p.1
section
variable {α β : Type} {w : World} {b : Nat} {ek : α → Value} {ev : β → Value} {ok : α → Prop} {l : List (α × β)} {P : Program} {k : TypeId}
theorem MapIs.new (w : World) : MapIs (w.alloc (.map #[] 0)) w.heap.size ek ev ok [] := ⟨#[], 0, (MapKept.heap_alloc w _).1, rfl, by simp, by simp, by simp, by simp⟩
theorem MapIs.lt (h : MapIs w b ek ev ok l) : b < w.heap.size := by
  obtain ⟨es, clock, hb, _⟩ := h
  exact (Array.getElem?_eq_some_iff.1 hb).1
theorem MapIs.no_cells (h : MapIs w b ek ev ok l) {c : Nat} {cs : Array Value} {t : TypeId} (hc : Blk w c cs t) : b ≠ c := by
  obtain ⟨es, clock, hb, _⟩ := h
  intro e
  subst e
  unfold Blk at hc
  rw [hb] at hc
  cases hc
theorem MapIs.keep (h : MapIs w b ek ev ok l) {bs : List Nat} {w' : World} (hc : Ch bs w w') (hn : b ∉ bs) : MapIs w' b ek ev ok l := by
  have hl := h.lt
  obtain ⟨es, clock, hb, h2⟩ := h
  exact ⟨es, clock, (hc.block b hl hn).trans hb, h2⟩
theorem MapIs.set (h : MapIs w b ek ev ok l) (p : Addr) (u : Value) : MapIs (w.setCell p u) b ek ev ok l := by
  obtain ⟨es, clock, hb, h2⟩ := h
  refine ⟨es, clock, ?_, h2⟩
  show (w.heap.modify p.block _)[b]? = _
  rw [Array.getElem?_modify]
  split
  · rw [hb]; rfl
  · exact hb
theorem MapIs.alloc (h : MapIs w b ek ev ok l) (o : Obj) : MapIs (w.alloc o) b ek ev ok l := h.keep ((Ch.refl [] w).alloc o) (by simp)
theorem MapIs.drew (h : MapIs w b ek ev ok l) : MapIs w.drew b ek ev ok l := h
theorem MapIs.nodup (h : MapIs w b ek ev ok l) : (l.map (·.1)).Nodup := let ⟨_, _, _, _, _, _, h, _⟩ := h; h
theorem MapIs.good (h : MapIs w b ek ev ok l) : ∀ p ∈ l, ok p.1 := let ⟨_, _, _, _, _, _, _, h⟩ := h; h
theorem Ch.setBlock {w : World} {b : Nat} (o : Obj) : Ch [b] w (ChangeMaps.setBlock w b o) :=
  ⟨rfl, rfl, rfl, by simp [ChangeMaps.setBlock], fun k hk hn => by
    have : k ≠ b := by simpa using hn
    simp [ChangeMaps.setBlock, Array.getElem?_setIfInBounds, Ne.symm this]⟩
theorem setBlock_same {w : World} {b : Nat} (h : b < w.heap.size) (o : Obj) : (ChangeMaps.setBlock w b o).heap[b]? = some o := by
  simp [ChangeMaps.setBlock, Array.getElem?_setIfInBounds, h]
/-- Where a key stands. -/
theorem at_of {es : Array MapEntry} (he : es.toList.map (fun e => (e.key, e.val)) = l.map (fun p => (ek p.1, ev p.2))) {j : Nat} {e : MapEntry} (hj : es.toList[j]? = some e) : ∃ p, l[j]? = some p ∧ e.key = ek p.1 ∧ e.val = ev p.2 := by
  have h1 := congrArg (fun x => x[j]?) he
  simp only [List.getElem?_map, hj, Option.map_some] at h1
  rcases hl : l[j]? with _ | p
  · simp [hl] at h1
  · rw [hl] at h1
    simp at h1
    exact ⟨p, rfl, h1.1, h1.2⟩
theorem MapIs.keys (K : MK P k ek ok) {es : Array MapEntry} (he : es.toList.map (fun e => (e.key, e.val)) = l.map (fun p => (ek p.1, ev p.2))) (hg : ∀ p ∈ l, ok p.1) : ∀ e ∈ es.toList, ∃ y, ok y ∧ e.key = ek y := by
  intro e hem
  obtain ⟨j, hj, rfl⟩ := List.getElem_of_mem hem
  obtain ⟨p, hp, h1, _⟩ := at_of he (List.getElem?_eq_getElem hj)
  exact ⟨p.1, hg p (List.mem_of_getElem? hp), h1⟩
variable [DecidableEq α]
/-- What stands at a key. -/
def mlook (l : List (α × β)) (x : α) : Option β := (l.find? (fun p => decide (p.1 = x))).map (·.2)
theorem mlook_none {l : List (α × β)} {x : α} (h : ∀ p ∈ l, p.1 ≠ x) : mlook l x = none := by
  unfold mlook
  rw [List.find?_eq_none.2 (fun p hp => by simpa using h p hp)]
  rfl
theorem mlook_none_iff {l : List (α × β)} {x : α} : mlook l x = none ↔ ∀ p ∈ l, p.1 ≠ x := by
  constructor
  · intro h p hp e
    unfold mlook at h
    simp only [Option.map_eq_none_iff, List.find?_eq_none] at h
    exact h p hp (by simpa using e)
  · exact mlook_none
theorem mlook_some {l : List (α × β)} {p : α × β} {j : Nat} (hn : (l.map (·.1)).Nodup) (hj : l[j]? = some p) : mlook l p.1 = some p.2 := by
  induction l generalizing j with
  | nil => simp at hj
  | cons q l ih =>
    unfold mlook
    rw [List.find?_cons]
    cases j with
    | zero =>
      simp at hj
      subst hj
      simp
    | succ j =>
      simp at hj
      rw [List.map_cons, List.nodup_cons] at hn
      have : q.1 ≠ p.1 := fun e => hn.1 (by rw [e]; exact List.mem_map_of_mem (List.mem_of_getElem? hj))
      simp only [this, decide_false]
      exact ih hn.2 hj
theorem mlook_mem {l : List (α × β)} {x : α} {y : β} (h : mlook l x = some y) : (x, y) ∈ l := by
  unfold mlook at h
  rw [Option.map_eq_some_iff] at h
  obtain ⟨p, hp, rfl⟩ := h
  have h1 := List.find?_some hp
  have h2 := List.mem_of_find?_eq_some hp
  simp at h1
  subst h1
  exact h2
theorem MapIs.find (h : MapIs w b ek ev ok l) (K : MK P k ek ok) {x : α} (hx : ok x) :
    ∃ (es : Array MapEntry) (clock : Nat), w.heap[b]? = some (.map es clock) ∧ ((mlook l x = none ∧ (∀ p ∈ l, p.1 ≠ x) ∧ (Instr.findKey k (ek x) es.toList).run P w = .ok none w) ∨
      ∃ j y, mlook l x = some y ∧ l[j]? = some (x, y) ∧ (Instr.findKey k (ek x) es.toList).run P w = .ok (some (j, ev y)) w) := by
  obtain ⟨es, clock, hb, he, _, _, hn, hg⟩ := h
  refine ⟨es, clock, hb, ?_⟩
  rcases K.find w hx es.toList (MapIs.keys K he hg) with ⟨h1, h2⟩ | ⟨j, e, h1, h2, h3⟩
  · have hne : ∀ p ∈ l, p.1 ≠ x := by
      intro p hp e
      obtain ⟨j, hj, rfl⟩ := List.getElem_of_mem hp
      have h4 := congrArg (fun x => x[j]?) he
      simp only [List.getElem?_map, List.getElem?_eq_getElem hj, Option.map_some] at h4
      rcases hl : es.toList[j]? with _ | e'
      · rw [hl] at h4; simp at h4
      · rw [hl] at h4
        simp at h4
        exact h2 e' (List.mem_of_getElem? hl) (by rw [h4.1, e])
    exact .inl ⟨mlook_none hne, hne, h1⟩
  · obtain ⟨p, hp, h4, h5⟩ := at_of he h2
    have : p.1 = x := K.inj (hg p (List.mem_of_getElem? hp)) hx (by rw [← h4, h3])
    subst this
    exact .inr ⟨j, p.2, mlook_some hn hp, hp, by rw [h1, h5]⟩
/-- 'm[x]' and 'm[x]' with ok. -/
theorem MapIs.lookup (h : MapIs w b ek ev ok l) (K : MK P k ek ok) {t e : TypeId} (ht : P.underlying t = some (.map k e)) {z : Value} (hz : (zeroValue e).run P w = .ok z w) {x : α} (hx : ok x) (c : Bool) :
    (Instr.lookup t (.map (some b)) (ek x) c).run P w = .ok (if c then .tuple #[((mlook l x).map ev).getD z, .bool (mlook l x).isSome] else ((mlook l x).map ev).getD z) w := by
  obtain ⟨es, clock, hb, hf⟩ := h.find K hx
  rcases hf with ⟨h1, _, h2⟩ | ⟨j, y, h1, _, h2⟩
  · simp [Instr.lookup, run_underlying ht, MapKept.run_getObj_map hb, K.check w es.isEmpty hx, h2, hz, h1]
  · simp [Instr.lookup, run_underlying ht, MapKept.run_getObj_map hb, K.check w es.isEmpty hx, h2, h1]
/-- A store. -/
def mput (l : List (α × β)) (x : α) (y : β) : List (α × β) := if (mlook l x).isSome then l.map (fun p => if p.1 = x then (x, y) else p) else l ++ [(x, y)]
theorem mput_keys (l : List (α × β)) (x : α) (y : β) : (mput l x y).map (·.1) = if (mlook l x).isSome then l.map (·.1) else l.map (·.1) ++ [x] := by
  unfold mput
  split
  · rw [List.map_map]
    apply List.map_congr_left
    intro p _
    simp only [Function.comp_apply]
    split
    · rename_i h; exact h.symm
    · rfl
  · simp
theorem MapIs.update (h : MapIs w b ek ev ok l) (K : MK P k ek ok) {t e : TypeId} (ht : P.underlying t = some (.map k e)) {x : α} (hx : ok x) (y : β) :
    ∃ w', (Instr.mapUpdate t (.map (some b)) (ek x) (ev y)).run P w = .ok () w' ∧ MapIs w' b ek ev ok (mput l x y) ∧ Ch [b] w w' := by
  have hlt := h.lt
  have hgood := h.good
  have hnod := h.nodup
  obtain ⟨es, clock, hb, hf⟩ := h.find K hx
  obtain ⟨es', clock', hb', he, hp, hc, hn, hg⟩ := h
  rw [hb] at hb'
  obtain ⟨rfl, rfl⟩ : es = es' ∧ clock = clock' := by simpa using hb'
  rcases hf with ⟨h1, hne, h2⟩ | ⟨j, y0, h1, hj, h2⟩
  · refine ⟨ChangeMaps.setBlock w b (.map (es.push { key := ek x, val := ev y, born := clock }) (clock + 1)), ?_, ⟨_, _, setBlock_same hlt _, ?_, ?_, ?_, ?_, ?_⟩, Ch.setBlock _⟩
    · simp [Instr.mapUpdate, run_underlying ht, MapKept.run_getObj_map hb, K.check w false hx, h2]
      simp [setObj, Sem.run, hb, ChangeMaps.setBlock]
    · simp [mput, h1, he]
    · simp only [Array.toList_push, List.pairwise_append, List.pairwise_cons, List.mem_singleton, forall_eq]
      exact ⟨hp, ⟨by simp, by simp⟩, hc⟩
    · intro e' he'
      simp only [Array.toList_push, List.mem_append, List.mem_singleton] at he'
      rcases he' with he' | rfl
      · have := hc e' he'; omega
      · simp
    · rw [mput_keys, h1]
      simp only [Option.isSome_none, Bool.false_eq_true, if_false, List.nodup_append]
      exact ⟨hn, by simp, fun a ha b hb e => by
        simp at hb
        subst hb
        subst e
        obtain ⟨p, hp, rfl⟩ := List.mem_map.1 ha
        exact hne p hp rfl⟩
    · intro p hp
      simp [mput, h1] at hp
      rcases hp with hp | rfl
      · exact hg p hp
      · exact hx
  · have hjl : j < es.toList.length := by
      have := congrArg List.length he
      simp only [List.length_map] at this
      rw [this]
      exact (List.getElem?_eq_some_iff.1 hj).1
    obtain ⟨e0, he0⟩ : ∃ e0, es.toList[j]? = some e0 := ⟨_, List.getElem?_eq_getElem hjl⟩
    have he0' : es[j]? = some e0 := by simpa using he0
    obtain ⟨p, hpj, hk0, hv0⟩ := at_of he he0
    rw [hj] at hpj
    obtain rfl := Option.some.inj hpj
    refine ⟨ChangeMaps.setBlock w b (.map (es.modify j fun e => { e with key := ek x, val := ev y }) clock), ?_, ⟨_, _, setBlock_same hlt _, ?_, ?_, ?_, ?_, ?_⟩, Ch.setBlock _⟩
    · have hst := K.stays w hx
      simp only at hk0
      simp [Instr.mapUpdate, run_underlying ht, MapKept.run_getObj_map hb, K.check w false hx, h2, he0', hk0, hst]
      simp [setObj, Sem.run, hb, ChangeMaps.setBlock]
    · rw [mput, h1]
      simp only [Option.isSome_some, if_true]
      apply List.ext_getElem?
      intro i
      have h4 := congrArg (fun z => z[i]?) he
      simp only [List.getElem?_map] at h4 ⊢
      rw [Array.getElem?_toList, Array.getElem?_modify] 
      rw [Array.getElem?_toList] at h4
      by_cases hij : j = i
      · subst hij
        rw [if_pos rfl, he0', hj]
        simp
      · rw [if_neg hij, h4]
        rcases hli : l[i]? with _ | q
        · simp
        · have hqx : q.1 ≠ x := by
            intro e
            have hh := List.getElem?_eq_some_iff.1 hli
            have hh2 := List.getElem?_eq_some_iff.1 hj
            have n1 : (l.map (·.1))[i]? = some x := by rw [List.getElem?_map, hli, ← e]; rfl
            have n2 : (l.map (·.1))[j]? = some x := by rw [List.getElem?_map, hj]; rfl
            exact hij (List.getElem?_inj (by simpa using hh2.1) hn |>.1 (n2.trans n1.symm))
          simp [hqx]
    · rw [List.pairwise_iff_getElem] at hp ⊢
      intro i i' hi hi' hii
      have := hp i i' (by simpa using hi) (by simpa using hi') hii
      simp only [Array.getElem_toList, Array.getElem_modify] at this ⊢
      split <;> split <;> simpa using this
    · intro e' he'
      obtain ⟨i, hi, rfl⟩ := List.getElem_of_mem he'
      have := hc (es.toList[i]'(by simpa using hi)) (List.getElem_mem _)
      simp only [Array.getElem_toList, Array.getElem_modify] at this ⊢
      split <;> simpa using this
    · rw [mput_keys, h1]
      simpa using hn
    · intro p hp
      simp only [mput, h1, Option.isSome_some, if_true, List.mem_map] at hp
      obtain ⟨q, hq, rfl⟩ := hp
      split
      · exact hx
      · exact hg q hq
theorem map_eraseIdx' {γ δ : Type} (f : γ → δ) : ∀ (l : List γ) (j : Nat), (l.eraseIdx j).map f = (l.map f).eraseIdx j
  | [], j => by simp
  | x :: l, 0 => by simp
  | x :: l, j + 1 => by simp [map_eraseIdx' f l j]
/-- A delete. -/
def mdel (l : List (α × β)) (x : α) : List (α × β) := l.filter (fun p => decide (p.1 ≠ x))
theorem mdel_none {l : List (α × β)} {x : α} (h : ∀ p ∈ l, p.1 ≠ x) : mdel l x = l := by
  unfold mdel
  rw [List.filter_eq_self]
  intro p hp
  simpa using h p hp
theorem mdel_at {l : List (α × β)} {x : α} {y : β} {j : Nat} (hn : (l.map (·.1)).Nodup) (hj : l[j]? = some (x, y)) : mdel l x = l.eraseIdx j := by
  induction l generalizing j with
  | nil => simp at hj
  | cons q l ih =>
    rw [List.map_cons, List.nodup_cons] at hn
    cases j with
    | zero =>
      simp at hj
      subst hj
      simp only [List.eraseIdx_cons_zero]
      unfold mdel
      rw [List.filter_cons_of_neg (by simp)]
      refine mdel_none fun p hp e => hn.1 ?_
      show x ∈ _
      rw [← e]
      exact List.mem_map.2 ⟨p, hp, rfl⟩
    | succ j =>
      simp at hj
      have : q.1 ≠ x := fun e => hn.1 (by rw [e]; exact List.mem_map.2 ⟨_, List.mem_of_getElem? hj, rfl⟩)
      simp only [List.eraseIdx_cons_succ]
      unfold mdel
      rw [List.filter_cons_of_pos (by simpa using this)]
      exact congrArg _ (ih hn.2 hj)
theorem MapIs.delete (h : MapIs w b ek ev ok l) (K : MK P k ek ok) {t e : TypeId} (ht : P.underlying t = some (.map k e)) {x : α} (hx : ok x) (T : TypeId) :
    ∃ w', (Builtin.delete_ #[t, k] T #[.map (some b), ek x]).run P w = .ok (.tuple #[]) w' ∧ MapIs w' b ek ev ok (mdel l x) ∧ Ch [b] w w' := by
  have hlt := h.lt
  obtain ⟨es, clock, hb, hf⟩ := h.find K hx
  obtain ⟨es', clock', hb', he, hp, hc, hn, hg⟩ := h
  rw [hb] at hb'
  obtain ⟨rfl, rfl⟩ : es = es' ∧ clock = clock' := by simpa using hb'
  rcases hf with ⟨h1, hne, h2⟩ | ⟨j, y0, h1, hj, h2⟩
  · refine ⟨ChangeMaps.setBlock w b (.map es clock), ?_, ⟨es, clock, setBlock_same hlt _, ?_, hp, hc, ?_, ?_⟩, Ch.setBlock _⟩
    · simp [Builtin.delete_, run_underlying ht, MapKept.run_getObj_map hb, K.check w es.isEmpty hx, h2]
      simp [setObj, Sem.run, hb, ChangeMaps.setBlock]
    · rw [mdel_none hne]; exact he
    · rw [mdel_none hne]; exact hn
    · rw [mdel_none hne]; exact hg
  · have hlist : (es.eraseIdxIfInBounds j).toList = es.toList.eraseIdx j := by
      rw [Array.eraseIdxIfInBounds]
      split
      · simp
      · rename_i hsz
        rw [List.eraseIdx_of_length_le (by simpa using hsz)]
    refine ⟨ChangeMaps.setBlock w b (.map (es.eraseIdxIfInBounds j) clock), ?_, ⟨_, _, setBlock_same hlt _, ?_, ?_, ?_, ?_, ?_⟩, Ch.setBlock _⟩
    · simp [Builtin.delete_, run_underlying ht, MapKept.run_getObj_map hb, K.check w es.isEmpty hx, h2]
      simp [setObj, Sem.run, hb, ChangeMaps.setBlock]
    · rw [hlist, mdel_at hn hj, map_eraseIdx', map_eraseIdx', he]
    · rw [hlist]; exact hp.sublist (List.eraseIdx_sublist _ _)
    · rw [hlist]; exact fun e' he' => hc e' (List.mem_of_mem_eraseIdx he')
    · unfold mdel; exact hn.sublist ((List.filter_sublist).map _)
    · intro p hp; exact hg p (List.mem_filter.1 hp).1
/-- len. -/
theorem MapIs.len (h : MapIs w b ek ev ok l) {t k e : TypeId} (ht : P.underlying t = some (.map k e)) (T : TypeId) : (Builtin.len_ #[t] T #[.map (some b)]).run P w = .ok (goInt l.length) w := by
  obtain ⟨es, clock, hb, he, _⟩ := h
  have : es.size = l.length := by
    have := congrArg List.length he
    simpa using this
  simp [Builtin.len_, run_underlying ht, MapKept.run_getObj_map hb, this]
/-- Block r is an iterator over the map l at block b, of which 'left' is to come. -/
def IterIs (w : World) (r b : Nat) (ek : α → Value) (ev : β → Value) (ok : α → Prop) (l left : List (α × β)) : Prop :=
  ∃ (es : Array MapEntry) (clock since c0 : Nat) (seen : Array Nat), w.heap[b]? = some (.map es clock) ∧ w.heap[r]? = some (.mapIter (some b) since seen c0) ∧ es.toList.map (fun e => (e.key, e.val)) = l.map (fun p => (ek p.1, ev p.2)) ∧
    es.toList.Pairwise (fun x y => x.born < y.born) ∧ (∀ e ∈ es.toList, e.born < clock) ∧ (l.map (·.1)).Nodup ∧ (∀ p ∈ l, ok p.1) ∧ (∀ e ∈ es.toList, e.born < since) ∧ since ≤ c0 ∧ clock = since ∧
    (es.toList.filter (fun e => !seen.contains e.born)).map (fun e => (e.key, e.val)) = left.map (fun p => (ek p.1, ev p.2)) ∧ left.Sublist l
theorem IterIs.map {r : Nat} {left : List (α × β)} (h : IterIs w r b ek ev ok l left) : MapIs w b ek ev ok l := by
  obtain ⟨es, clock, since, c0, seen, h1, h2, h3, h4, h5, h6, h7, _⟩ := h
  exact ⟨es, clock, h1, h3, h4, h5, h6, h7⟩
theorem IterIs.sub {r : Nat} {left : List (α × β)} (h : IterIs w r b ek ev ok l left) : left.Sublist l := let ⟨_, _, _, _, _, _, _, _, _, _, _, _, _, _, _, _, h⟩ := h; h
theorem IterIs.keep {r : Nat} {left : List (α × β)} (h : IterIs w r b ek ev ok l left) {bs : List Nat} {w' : World} (hc : Ch bs w w') (hn : b ∉ bs) (hr : r ∉ bs) : IterIs w' r b ek ev ok l left := by
  have hl := h.map.lt
  obtain ⟨es, clock, since, c0, seen, h1, h2, h3⟩ := h
  have hrl : r < w.heap.size := (Array.getElem?_eq_some_iff.1 h2).1
  exact ⟨es, clock, since, c0, seen, (hc.block b hl hn).trans h1, (hc.block r hrl hr).trans h2, h3⟩
theorem MapIs.range (h : MapIs w b ek ev ok l) {t k e : TypeId} (ht : P.underlying t = some (.map k e)) :
    ∃ w', (Instr.range t (.map (some b))).run P w = .ok (.pointer (some ⟨w.heap.size, 0, none⟩)) w' ∧ IterIs w' w.heap.size b ek ev ok l l ∧ Ch [] w w' := by
  have hlt := h.lt
  obtain ⟨es, clock, hb, he, hp, hc, hn, hg⟩ := h
  refine ⟨_, run_range_map w t k e b es clock ht hb, ⟨es, clock, clock, clock, #[], ?_, ?_, he, hp, hc, hn, hg, hc, Nat.le_refl _, rfl, ?_, List.Sublist.refl _⟩, (Ch.refl _ _).alloc _⟩
  · exact (Below.heap_alloc w _ b hlt).trans hb
  · show (w.heap.push _)[w.heap.size]? = _
    simp
  · have : es.toList.filter (fun e => !(#[] : Array Nat).contains e.born) = es.toList := List.filter_eq_self.2 (fun _ _ => by simp)
    rw [this]
    exact he
/-- A step. -/
theorem IterIs.next {r : Nat} {left : List (α × β)} (h : IterIs w r b ek ev ok l left) (ty : TypeId) :
    (left = [] ∧ (Instr.next (.pointer (some ⟨r, 0, none⟩)) false ty).run P w = .ok (.tuple #[.bool false]) w) ∨
    ∃ p left' w', p ∈ left ∧ left' = left.filter (fun q => decide (q.1 ≠ p.1)) ∧ left'.length < left.length ∧ (Instr.next (.pointer (some ⟨r, 0, none⟩)) false ty).run P w = .ok (.tuple #[.bool true, ek p.1, ev p.2]) w' ∧ IterIs w' r b ek ev ok l left' ∧ Ch [r] w w' ∧
      (Instr.entry (.pointer (some ⟨r, 0, none⟩))).run P w' = .ok (.tuple #[ek p.1, ev p.2]) w' := by
  have hrb : r ≠ b := by
    obtain ⟨es, clock, since, c0, seen, h1, h2, _⟩ := h
    intro e
    subst e
    rw [h1] at h2
    cases h2
  obtain ⟨es, clock, since, c0, seen, h1, h2, h3, h4, h5, h6, h7, h8, h9, h10, h11, h12⟩ := h
  have hrl : r < w.heap.size := (Array.getElem?_eq_some_iff.1 h2).1
  rcases run_next_at (P := P) w ty r b since c0 seen es clock h2 h1 h8 h9 with ⟨hl, hrun⟩ | ⟨e, hem, w1, hw1, hrun⟩
  · refine .inl ⟨?_, hrun⟩
    unfold leftOf at hl
    have : es.toList.filter (fun e => !seen.contains e.born) = [] := by
      have h := Array.eq_empty_of_size_eq_zero hl
      have := congrArg Array.toList h
      simpa using this
    rw [this] at h11
    simpa using h11.symm
  · right
    unfold leftOf at hem
    have hem' : e ∈ es.toList.filter (fun e => !seen.contains e.born) := by simpa using hem
    obtain ⟨j, hj, hej⟩ := List.getElem_of_mem hem'
    have hbornnd : (es.toList.map (·.born)).Nodup := by
      rw [List.nodup_iff_pairwise_ne, List.pairwise_map]
      exact h4.imp (fun h => by omega)
    have hlj := congrArg (fun z => z[j]?) h11
    simp only [List.getElem?_map, List.getElem?_eq_getElem hj, hej, Option.map_some] at hlj
    rcases hleft : left[j]? with _ | p
    · rw [hleft] at hlj; simp at hlj
    rw [hleft] at hlj
    simp at hlj
    obtain ⟨hk, hv⟩ := hlj
    have hpm : p ∈ left := List.mem_of_getElem? hleft
    have hnl : (left.map (·.1)).Nodup := h6.sublist (h12.map _)
    have hdel : left.filter (fun q => decide (q.1 ≠ p.1)) = left.eraseIdx j := mdel_at (x := p.1) (y := p.2) hnl hleft
    have hch : Ch [r] w (ChangeMaps.setBlock w1 r (.mapIter (some b) since (seen.push e.born) clock)) := by
      rcases hw1 with rfl | rfl
      · exact Ch.setBlock _
      · exact (((Ch.refl [r] w).drew).trans (Ch.setBlock _))
    have hb1 : (ChangeMaps.setBlock w1 r (.mapIter (some b) since (seen.push e.born) clock)).heap[b]? = some (.map es clock) := (hch.block b (Array.getElem?_eq_some_iff.1 h1).1 (by simpa using hrb.symm)).trans h1
    have hr1 : (ChangeMaps.setBlock w1 r (.mapIter (some b) since (seen.push e.born) clock)).heap[r]? = some (.mapIter (some b) since (seen.push e.born) clock) := setBlock_same (by rcases hw1 with rfl | rfl <;> exact hrl) _
    have hee : e ∈ es.toList := (List.mem_filter.1 hem').1
    refine ⟨p, _, _, hpm, rfl, ?_, by rw [← hk, ← hv]; exact hrun, ⟨es, clock, since, clock, seen.push e.born, hb1, hr1, h3, h4, h5, h6, h7, h8, by omega, h10, ?_, (List.filter_sublist).trans h12⟩, hch, ?_⟩
    · rw [hdel, List.length_eraseIdx]
      have := (List.getElem?_eq_some_iff.1 hleft).1
      rw [if_pos this]
      omega
    · rw [hdel, map_eraseIdx', ← h11, ← map_eraseIdx']
      congr 1
      have : es.toList.filter (fun x => !(seen.push e.born).contains x.born) = (es.toList.filter (fun x => !seen.contains x.born)).filter (fun x => decide (x.born ≠ e.born)) := by
        rw [List.filter_filter]
        apply List.filter_congr
        intro x _
        simp only [Array.contains_push]
        by_cases hx : x.born = e.born
        · simp [hx]
        · simp [hx]
      rw [this]
      have hfn : ((es.toList.filter (fun x => !seen.contains x.born)).map (·.born)).Nodup := hbornnd.sublist ((List.filter_sublist).map _)
      have hd2 := mdel_at (l := (es.toList.filter (fun x => !seen.contains x.born)).map (fun x => (x.born, x))) (x := e.born) (y := e) (j := j) (by simpa [Function.comp_def] using hfn) (by rw [List.getElem?_map, List.getElem?_eq_getElem hj, hej]; rfl)
      have hd3 := congrArg (List.map (·.2)) hd2
      unfold mdel at hd3
      rw [List.filter_map, List.map_map, map_eraseIdx'] at hd3
      simpa [Function.comp_def] using hd3
    · rw [← hk, ← hv]
      exact run_entry_at _ r b since seen es clock e hr1 hb1 hee hbornnd
/-- A delete while ranging: of one that is not to come any more. -/
theorem IterIs.delete {r : Nat} {left : List (α × β)} (h : IterIs w r b ek ev ok l left) (K : MK P k ek ok) {t e : TypeId} (ht : P.underlying t = some (.map k e)) {x : α} (hx : ok x) (hne : ∀ p ∈ left, p.1 ≠ x) (T : TypeId) :
    ∃ w', (Builtin.delete_ #[t, k] T #[.map (some b), ek x]).run P w = .ok (.tuple #[]) w' ∧ IterIs w' r b ek ev ok (mdel l x) left ∧ Ch [b] w w' := by
  have hrb : r ≠ b := by
    obtain ⟨es, clock, since, c0, seen, h1, h2, _⟩ := h
    intro e
    subst e
    rw [h1] at h2
    cases h2
  have hlt := h.map.lt
  obtain ⟨es, clock, hb, hf⟩ := h.map.find K hx
  obtain ⟨es', clock', since, c0, seen, h1, h2, h3, h4, h5, h6, h7, h8, h9, h10, h11, h12⟩ := h
  have hrl : r < w.heap.size := (Array.getElem?_eq_some_iff.1 h2).1
  rw [hb] at h1
  obtain ⟨rfl, rfl⟩ : es = es' ∧ clock = clock' := by simpa using h1
  have hsub : left.Sublist (mdel l x) := by
    have := h12.filter (fun p => decide (p.1 ≠ x))
    rwa [List.filter_eq_self.2 (fun p hp => by simpa using hne p hp)] at this
  rcases hf with ⟨g1, gne, g2⟩ | ⟨j, y0, g1, hj, g2⟩
  · refine ⟨ChangeMaps.setBlock w b (.map es clock), ?_, ⟨es, clock, since, c0, seen, setBlock_same hlt _, ?_, ?_, h4, h5, ?_, ?_, h8, h9, h10, h11, hsub⟩, Ch.setBlock _⟩
    · simp [Builtin.delete_, run_underlying ht, MapKept.run_getObj_map hb, K.check w es.isEmpty hx, g2]
      simp [setObj, Sem.run, hb, ChangeMaps.setBlock]
    · exact ((Ch.setBlock (w := w) (b := b) _).block r hrl (by simpa using hrb)).trans h2
    · rw [mdel_none gne]; exact h3
    · rw [mdel_none gne]; exact h6
    · rw [mdel_none gne]; exact h7
  · have hlist : (es.eraseIdxIfInBounds j).toList = es.toList.eraseIdx j := by
      rw [Array.eraseIdxIfInBounds]
      split
      · simp
      · rename_i hsz
        rw [List.eraseIdx_of_length_le (by simpa using hsz)]
    have hjl : j < es.toList.length := by
      have := congrArg List.length h3
      simp only [List.length_map] at this
      rw [this]
      exact (List.getElem?_eq_some_iff.1 hj).1
    obtain ⟨e0, he0⟩ : ∃ e0, es.toList[j]? = some e0 := ⟨_, List.getElem?_eq_getElem hjl⟩
    obtain ⟨p, hpj, hk0, hv0⟩ := at_of h3 he0
    rw [hj] at hpj
    obtain rfl := Option.some.inj hpj
    -- that entry was seen
    have hseen : (!seen.contains e0.born) = false := by
      rcases hs : seen.contains e0.born with _ | _
      · exfalso
        have hm : e0 ∈ es.toList.filter (fun e => !seen.contains e.born) := List.mem_filter.2 ⟨List.mem_of_getElem? he0, by rw [hs]; rfl⟩
        have hm2 : (e0.key, e0.val) ∈ (es.toList.filter (fun e => !seen.contains e.born)).map (fun e => (e.key, e.val)) := List.mem_map_of_mem hm
        rw [h11] at hm2
        obtain ⟨q, hq, hqe⟩ := List.mem_map.1 hm2
        simp at hqe
        have := K.inj (h7 q (h12.subset hq)) hx (by rw [hqe.1, hk0])
        exact hne q hq this
      · rfl
    refine ⟨ChangeMaps.setBlock w b (.map (es.eraseIdxIfInBounds j) clock), ?_, ⟨_, clock, since, c0, seen, setBlock_same hlt _, ?_, ?_, ?_, ?_, ?_, ?_, ?_, h9, h10, ?_, hsub⟩, Ch.setBlock _⟩
    · simp [Builtin.delete_, run_underlying ht, MapKept.run_getObj_map hb, K.check w es.isEmpty hx, g2]
      simp [setObj, Sem.run, hb, ChangeMaps.setBlock]
    · exact ((Ch.setBlock (w := w) (b := b) _).block r hrl (by simpa using hrb)).trans h2
    · rw [hlist, mdel_at h6 hj, map_eraseIdx', map_eraseIdx', h3]
    · rw [hlist]; exact h4.sublist (List.eraseIdx_sublist _ _)
    · rw [hlist]; exact fun e' he' => h5 e' (List.mem_of_mem_eraseIdx he')
    · unfold mdel; exact h6.sublist ((List.filter_sublist).map _)
    · intro p hp; exact h7 p (List.mem_filter.1 hp).1
    · rw [hlist]; exact fun e' he' => h8 e' (List.mem_of_mem_eraseIdx he')
    · rw [← h11, hlist]
      congr 1
      obtain ⟨h21, h22⟩ := List.getElem?_eq_some_iff.1 he0
      have hsplit : es.toList = es.toList.take j ++ e0 :: es.toList.drop (j + 1) := by
        rw [← h22, List.getElem_cons_drop, List.take_append_drop]
      rw [List.eraseIdx_eq_take_drop_succ]
      conv => rhs; rw [hsplit]
      rw [List.filter_append, List.filter_append, List.filter_cons_of_neg (by rw [hseen]; simp)]
end
end Go.Proofs.Ytggcpbnlblbpjaa.K
