/- Sessions in memory: a list of structs by pointers, each with two pipes. -/
import Derived.Test.YtcfkdglaedpnjaaDoorWeaveF
import Derived.Test.YtcfkdglaedpnjaaDoorExPipe2
import Derived.Deep.Slices
import Derived.Deep.Fields
namespace Go.Proofs.YtcfkdglaedpnjaaDoor.V
open Go Go.RowKit Go.Proofs.YtcfkdglaedpnjaaDoor.K Go.Proofs.YtcfkdglaedpnjaaDoor.R
set_option linter.unusedVariables false
set_option linter.unusedSimpArgs false
set_option maxRecDepth 100000
section
variable {w : World}
theorem at_ways' {α : Type} {L : List α} {k : Nat} (h : k ≤ L.length) : (∃ o, L[k]? = some o ∧ k < L.length) ∨ k = L.length := by
 rcases Nat.lt_or_ge k L.length with h1 | h1
 ·exact .inl ⟨_, List.getElem?_eq_getElem h1, h1⟩
 ·exact .inr (by omega)
theorem take_snoc {α : Type} {L : List α} {k : Nat} {x : α} (h : L[k]? = some x) : L.take (k + 1) = L.take k ++ [x] := by
 obtain ⟨hlt, rfl⟩ := List.getElem?_eq_some_iff.1 h
 exact List.take_succ_eq_append_getElem hlt
theorem src_some {A : Option Addr} {n c sz : Nat} {xs : List Value} (h : SrcIs w (.slice A n c) n xs sz) (hn : 0 < n) : ∃ a, A = some a := by
 rcases h.2 with ⟨h0, _⟩ | ⟨a, c', he, _⟩
 ·omega
 ·injection he with e1 _ _
  exact ⟨a, e1⟩
theorem flat_len {α : Type} {f : α → List Value} {m : Nat} (hf : ∀ x, (f x).length = m) (L : List α) : (L.flatMap f).length = L.length * m := by
 induction L with
 | nil => simp
 | cons x L ih => simp [ih, hf, Nat.add_mul, Nat.add_comm]
theorem flat_get {α : Type} {f : α → List Value} {m : Nat} (hf : ∀ x, (f x).length = m) : ∀ (L : List α) (k : Nat) (x : α), L[k]? = some x → ∀ (j : Nat) (u : Value), (f x)[j]? = some u → (L.flatMap f)[k * m + j]? = some u := by
 intro L
 induction L with
 | nil => intro k x h; simp at h
 | cons y L ih =>
  intro k x h j u hu
  have hj : j < m := by rw [← hf x]; exact (List.getElem?_eq_some_iff.1 hu).1
  cases k with
  | zero =>
   have : y = x := by simpa using h
   subst this
   rw [List.flatMap_cons, Nat.zero_mul, Nat.zero_add, List.getElem?_append_left (by rw [hf]; exact hj)]
   exact hu
  | succ k =>
   rw [List.flatMap_cons, List.getElem?_append_right (by rw [hf, Nat.succ_mul]; omega), hf, show (k + 1) * m + j - m = k * m + j by rw [Nat.succ_mul]; omega]
   exact ih k x (by simpa using h) j u hu
theorem src_at {α : Type} {f : α → List Value} {m : Nat} (hf : ∀ x, (f x).length = m) {a : Addr} {n c : Nat} {L : List α} (h : SrcIs w (.slice (some a) n c) n (L.flatMap f) m) {k : Nat} {x : α} (hx : L[k]? = some x) : CellsAt w (a.add (k * m)) (f x) := fun j u hu => by
 rw [Go.Deep.add_add]
 have h1 := flat_get hf L k x hx j u hu
 rcases h.2 with ⟨_, h0⟩ | ⟨a', c', he, hc⟩
 ·cases h0
 ·injection he with e1 _ _
  injection e1 with e1
  subst e1
  exact hc _ _ h1
theorem own_at {α : Type} {f : α → List Value} {m : Nat} (hf : ∀ x, (f x).length = m) {base e g n c : Nat} {L : List α} (h : OwnS w base e m (.slice (some ⟨g, 0, none⟩) n c) n (L.flatMap f)) {k : Nat} {x : α} (hx : L[k]? = some x) : CellsAt w ⟨g, k * m, none⟩ (f x) := by
 have := src_at hf h.src hx
 rwa [K.add_plain, Nat.zero_add] at this
theorem flat_one {α : Type} {f : α → List Value} (hf : ∀ x, ∀ u ∈ f x, u.oneCell' = true) (L : List α) : ∀ u ∈ L.flatMap f, u.oneCell' = true := fun u hu => by
 obtain ⟨x, _, h⟩ := List.mem_flatMap.1 hu
 exact hf x u h
theorem info61 : (Tryd.prog.info? 61).map (fun i => (i.zero, i.size, i.bytes)) = some (some (.pointer none), 1, 8) := by kernel_rfl
end
theorem add_zero_ (p : Addr) : p.add 0 = p := by unfold Addr.add; exact if_pos rfl
theorem one_at {w : World} {p : Addr} {v : Value} (h : CellsAt w p [v]) : w.cell? p = some v := by
  have := h 0 v rfl
  rwa [add_zero_] at this
/-- A session, without its place. -/
structure HS where
  id : Int
  box : Int
  ctr : Int
  op : Bool
  qi : List UInt8
  qo : List UInt8
/-- A session's blocks: its own, its two pipes. -/
structure SB where
  b : Nat
  bi : Nat
  bo : Nat
def ptrC (k : SB) : List Value := [.pointer (some ⟨k.b, 0, none⟩)]
theorem ptrC_len (k : SB) : (ptrC k).length = 1 := rfl
theorem ptrC_one (k : SB) : ∀ u ∈ ptrC k, u.oneCell' = true := fun u hu => by
  rw [List.mem_singleton.1 hu]; rfl
abbrev sessA (k : SB) (s : HS) : Array Value := #[.int .i64 s.id, .int .i64 s.box, .int .i64 s.ctr, .bool s.op, .pointer (some ⟨k.bi, 0, none⟩), .pointer (some ⟨k.bo, 0, none⟩)]
/-- A pipe whose counts are at most c. -/
def PipeC (w : World) (c b : Nat) (q : List UInt8) (sh : Bool) : Prop := ∃ i o, PipeIs w b q i o sh ∧ i ≤ c
structure SessIs (w : World) (c : Nat) (k : SB) (s : HS) : Prop where
  blk : Blk w k.b (sessA k s) 65
  pin : PipeC w c k.bi s.qi (!s.op)
  pout : PipeC w c k.bo s.qo false
def kbs (K : List SB) : List Nat := K.flatMap fun k => [k.b, k.bi, k.bo]
/-- All sessions, each in its blocks. -/
structure AllIs (w : World) (c : Nat) (K : List SB) (L : List HS) : Prop where
  len : K.length = L.length
  each : ∀ (j : Nat) (k : SB) (s : HS), K[j]? = some k → L[j]? = some s → SessIs w c k s
  nodup : (kbs K).Nodup
structure HX where
  L : List HS
  last : Nat
/-- The sessions x: Bs are its blocks. -/
def ExIs (w : World) (lo : Nat) (Bs : List Nat) (x c : Nat) (E : HX) : Prop :=
  ∃ v K, Bs = x :: (rl v ++ kbs K) ∧ lo ≤ x ∧ (∀ k ∈ kbs K, lo ≤ k) ∧ Blk w x #[v, .int .i64 E.last] 60 ∧ OwnS w lo 61 1 v E.L.length (K.flatMap ptrC) ∧ AllIs w c K E.L
/-- Behind a call: the blocks are those of before, or new ones; nothing else has turned. -/
def Step (w w' : World) (lo : Nat) (Bs : List Nat) (x c : Nat) (E' : HX) : Prop := ∃ Bs', ExIs w' lo Bs' x c E' ∧ Ch Bs w w' ∧ ∀ k, k ∈ Bs' → k ∈ Bs ∨ w.heap.size ≤ k
theorem PipeC.lt {w : World} {c b : Nat} {q : List UInt8} {sh : Bool} (h : PipeC w c b q sh) : b < w.heap.size := by
  obtain ⟨i, o, h, _⟩ := h
  exact h.lt
theorem PipeC.ch {w w' : World} {c b : Nat} {q : List UInt8} {sh : Bool} (h : PipeC w c b q sh) {bs : List Nat} (cc : Ch bs w w') (hn : b ∉ bs) : PipeC w' c b q sh := by
  obtain ⟨i, o, h, hi⟩ := h
  exact ⟨i, o, chPipe cc h hn, hi⟩
theorem PipeC.up {w : World} {c c' b : Nat} {q : List UInt8} {sh : Bool} (h : PipeC w c b q sh) (hc : c ≤ c') : PipeC w c' b q sh := by
  obtain ⟨i, o, h, hi⟩ := h
  exact ⟨i, o, h, by omega⟩
theorem PipeC.blk {w : World} {c b : Nat} {q : List UInt8} {sh : Bool} (h : PipeC w c b q sh) : ∃ cs, Blk w b cs 83 := by
  obtain ⟨i, o, ⟨cs, h, _⟩, _⟩ := h
  exact ⟨cs, h⟩
theorem PipeC.ne {w : World} {c b : Nat} {q : List UInt8} {sh : Bool} (h : PipeC w c b q sh) {b' : Nat} {cs : Array Value} {t : TypeId} (hb : Blk w b' cs t) (ht : t ≠ 83) : b ≠ b' := by
  obtain ⟨cs', h⟩ := h.blk
  exact fun e => Blk.ne_type hb h ht e.symm
theorem SessIs.ch {w w' : World} {c : Nat} {k : SB} {s : HS} (h : SessIs w c k s) {bs : List Nat} (cc : Ch bs w w') (hn : ∀ z, z ∈ [k.b, k.bi, k.bo] → z ∉ bs) : SessIs w' c k s :=
  ⟨cc.blk h.blk (hn _ (by simp)), h.pin.ch cc (hn _ (by simp)), h.pout.ch cc (hn _ (by simp))⟩
theorem SessIs.up {w : World} {c c' : Nat} {k : SB} {s : HS} (h : SessIs w c k s) (hc : c ≤ c') : SessIs w c' k s := ⟨h.blk, h.pin.up hc, h.pout.up hc⟩
theorem SessIs.lt {w : World} {c : Nat} {k : SB} {s : HS} (h : SessIs w c k s) : ∀ z, z ∈ [k.b, k.bi, k.bo] → z < w.heap.size := by
  intro z hz
  simp only [List.mem_cons, List.not_mem_nil, or_false] at hz
  rcases hz with rfl | rfl | rfl
  · exact h.blk.lt
  · exact h.pin.lt
  · exact h.pout.lt
theorem mem_kbs {K : List SB} {z : Nat} (h : z ∈ kbs K) : ∃ (j : Nat) (k : SB), K[j]? = some k ∧ z ∈ [k.b, k.bi, k.bo] := by
  obtain ⟨k, hk, hz⟩ := List.mem_flatMap.1 h
  obtain ⟨j, hj⟩ := List.mem_iff_getElem?.1 hk
  exact ⟨j, k, hj, hz⟩
theorem kbs_mem {K : List SB} {j : Nat} {k : SB} (h : K[j]? = some k) {z : Nat} (hz : z ∈ [k.b, k.bi, k.bo]) : z ∈ kbs K := List.mem_flatMap.2 ⟨k, List.mem_of_getElem? h, hz⟩
theorem AllIs.get {w : World} {c : Nat} {K : List SB} {L : List HS} (h : AllIs w c K L) {j : Nat} {k : SB} (hk : K[j]? = some k) : ∃ s, L[j]? = some s ∧ SessIs w c k s := by
  have hj : j < L.length := by rw [← h.len]; exact (List.getElem?_eq_some_iff.1 hk).1
  have hs : L[j]? = some L[j] := List.getElem?_eq_getElem hj
  exact ⟨_, hs, h.each j k _ hk hs⟩
theorem AllIs.at {w : World} {c : Nat} {K : List SB} {L : List HS} (h : AllIs w c K L) {j : Nat} {s : HS} (hs : L[j]? = some s) : ∃ k, K[j]? = some k ∧ SessIs w c k s := by
  have hj : j < K.length := by rw [h.len]; exact (List.getElem?_eq_some_iff.1 hs).1
  have hk : K[j]? = some K[j] := List.getElem?_eq_getElem hj
  exact ⟨_, hk, h.each j _ s hk hs⟩
theorem AllIs.lt {w : World} {c : Nat} {K : List SB} {L : List HS} (h : AllIs w c K L) : ∀ z ∈ kbs K, z < w.heap.size := by
  intro z hz
  obtain ⟨j, k, hk, hz⟩ := mem_kbs hz
  obtain ⟨s, _, hs⟩ := h.get hk
  exact hs.lt z hz
theorem AllIs.ch {w w' : World} {c : Nat} {K : List SB} {L : List HS} (h : AllIs w c K L) {bs : List Nat} (cc : Ch bs w w') (hn : ∀ z, z ∈ kbs K → z ∉ bs) : AllIs w' c K L :=
  ⟨h.len, fun j k s hk hs => (h.each j k s hk hs).ch cc (fun z hz => hn z (kbs_mem hk hz)), h.nodup⟩
theorem AllIs.up {w : World} {c c' : Nat} {K : List SB} {L : List HS} (h : AllIs w c K L) (hc : c ≤ c') : AllIs w c' K L :=
  ⟨h.len, fun j k s hk hs => (h.each j k s hk hs).up hc, h.nodup⟩
theorem nodup_apart {α : Type} {f : α → List Nat} : ∀ {K : List α}, (K.flatMap f).Nodup → ∀ {i j : Nat} {a b : α}, i ≠ j → K[i]? = some a → K[j]? = some b → ∀ z, z ∈ f a → z ∉ f b
  | [], _, i, j, a, b, _, h, _ => by simp at h
  | x :: K, hn, i, j, a, b, hij, ha, hb => by
    rw [List.flatMap_cons, List.nodup_append] at hn
    obtain ⟨h1, h2, h3⟩ := hn
    cases i with
    | zero =>
      cases j with
      | zero => exact absurd rfl hij
      | succ j =>
        simp at ha hb
        subst ha
        exact fun z hz hz2 => h3 z hz z (List.mem_flatMap.2 ⟨b, List.mem_of_getElem? hb, hz2⟩) rfl
    | succ i =>
      cases j with
      | zero =>
        simp at ha hb
        subst hb
        exact fun z hz hz2 => h3 z hz2 z (List.mem_flatMap.2 ⟨a, List.mem_of_getElem? ha, hz⟩) rfl
      | succ j =>
        simp at ha hb
        exact nodup_apart h2 (by omega) ha hb
/-- One session is another: nothing of the others has turned. -/
theorem AllIs.set {w w' : World} {c : Nat} {K : List SB} {L : List HS} (h : AllIs w c K L) {j : Nat} {k : SB} (hk : K[j]? = some k) {bs : List Nat} (cc : Ch bs w w') (hb : ∀ z, z ∈ bs → z ∈ [k.b, k.bi, k.bo]) {s' : HS} {c' : Nat} (hc : c ≤ c') (hs : SessIs w' c' k s') : AllIs w' c' K (L.set j s') := by
  refine ⟨by rw [List.length_set]; exact h.len, fun i k2 s2 hk2 hs2 => ?_, h.nodup⟩
  by_cases hij : i = j
  · subst hij
    rw [hk] at hk2
    injection hk2 with hk2
    subst hk2
    have : i < L.length := by rw [← h.len]; exact (List.getElem?_eq_some_iff.1 hk).1
    rw [List.getElem?_set_self this] at hs2
    injection hs2 with hs2
    subst hs2
    exact hs
  · rw [List.getElem?_set_ne (Ne.symm hij)] at hs2
    exact ((h.each i k2 s2 hk2 hs2).ch cc (fun z hz hm => nodup_apart h.nodup hij hk2 hk z hz (hb z hm))).up hc
/-- Where a session stands. -/
def fx (id : Int) (L : List HS) : Option Nat := L.findIdx? fun s => s.id == id
theorem fx_some {id : Int} {L : List HS} {j : Nat} {s : HS} (hs : L[j]? = some s) (he : s.id = id) (hb : ∀ (i : Nat) (s' : HS), i < j → L[i]? = some s' → s'.id ≠ id) : fx id L = some j := by
  unfold fx
  rw [List.findIdx?_eq_some_iff_getElem]
  obtain ⟨hj, hjs⟩ := List.getElem?_eq_some_iff.1 hs
  refine ⟨hj, by rw [hjs]; simpa using he, fun i hi => ?_⟩
  have := hb i L[i] hi (List.getElem?_eq_getElem _)
  simpa using this
theorem fx_none {id : Int} {L : List HS} (hb : ∀ (i : Nat) (s' : HS), L[i]? = some s' → s'.id ≠ id) : fx id L = none := by
  unfold fx
  rw [List.findIdx?_eq_none_iff]
  intro s hs
  obtain ⟨i, hi⟩ := List.mem_iff_getElem?.1 hs
  simpa using hb i s hi
theorem fx_at {id : Int} {L : List HS} {j : Nat} (h : fx id L = some j) : ∃ s, L[j]? = some s ∧ s.id = id := by
  unfold fx at h
  rw [List.findIdx?_eq_some_iff_getElem] at h
  obtain ⟨hj, h1, _⟩ := h
  exact ⟨L[j], List.getElem?_eq_getElem hj, by simpa using h1⟩
def fxI (id : Int) (L : List HS) : Int := match fx id L with | none => -1 | some j => j
end Go.Proofs.YtcfkdglaedpnjaaDoor.V
