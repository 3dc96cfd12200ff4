import Derived.WalkKit
import Derived.ProofKit
import Derived.OpenShut
import Derived.Outline
import Derived.Deep.QuietTactic
import Derived.BigQuiet
import Derived.Deep.RegionHeld3
import Derived.Lib.Hide
namespace Go.Proofs.Ytmoelehhofmhcaa.K
open Go Go.RowKit

/-- Block b of w holds just these cells, none frozen. -/
def Blk (w : World) (b : Nat) (cs : Array Value) (t : TypeId) : Prop := w.heap[b]? = some (.cells cs t (0, 0))
theorem Blk.lt {w : World} {b : Nat} {cs : Array Value} {t : TypeId} (h : Blk w b cs t) : b < w.heap.size := (Array.getElem?_eq_some_iff.1 h).1
theorem Blk.cell {w : World} {b : Nat} {cs : Array Value} {t : TypeId} (h : Blk w b cs t) (i : Nat) : w.cell? ⟨b, i, none⟩ = cs[i]? := by
  unfold Blk at h; simp [World.cell?, h]
theorem Blk.frozen {w : World} {b : Nat} {cs : Array Value} {t : TypeId} (h : Blk w b cs t) (i : Nat) : w.frozen? ⟨b, i, none⟩ = false := by
  unfold Blk at h; simp [World.frozen?, h]

theorem blk_new (w : World) (cs : Array Value) (t : TypeId) : Blk (w.alloc (.cells cs t)) w.heap.size cs t := by unfold Blk; show (w.heap.push _)[w.heap.size]? = _; simp
theorem Blk.alloc {w : World} {b : Nat} {cs : Array Value} {t : TypeId} (h : Blk w b cs t) (o : Obj) : Blk (w.alloc o) b cs t := (Below.heap_alloc w o b h.lt).trans h
theorem Blk.drew {w : World} {b : Nat} {cs : Array Value} {t : TypeId} (h : Blk w b cs t) : Blk w.drew b cs t := h
theorem Blk.drewN {w : World} {b : Nat} {cs : Array Value} {t : TypeId} (h : Blk w b cs t) (n : Nat) : Blk (w.drewN n) b cs t := h
theorem Blk.far {w : World} {b : Nat} {cs : Array Value} {t : TypeId} (h : Blk w b cs t) {p : Addr} (hn : b ≠ p.block) (u : Value) : Blk (w.setCell p u) b cs t := (Below.heap_setCell w p u b hn).trans h
theorem Blk.set {w : World} {b : Nat} {cs : Array Value} {t : TypeId} (h : Blk w b cs t) (i : Nat) (u : Value) : Blk (w.setCell ⟨b, i, none⟩ u) b (cs.setIfInBounds i u) t := by
  unfold Blk at h ⊢
  simp [World.setCell, Array.getElem?_modify, h]

/-- From w to w' nothing that was there has turned, but for what stands in the blocks bs. -/
structure Ch (bs : List Nat) (w w' : World) : Prop where
  os : w'.os = w.os
  tape : w'.tape = w.tape
  output : w'.output = w.output
  size : w.heap.size ≤ w'.heap.size
  block : ∀ k, k < w.heap.size → k ∉ bs → w'.heap[k]? = w.heap[k]?
theorem Ch.refl (bs : List Nat) (w : World) : Ch bs w w := ⟨rfl, rfl, rfl, Nat.le_refl _, fun _ _ _ => rfl⟩
theorem Ch.trans' {bs cs : List Nat} {a b c : World} (h : Ch bs a b) (k : Ch cs b c) (hs : ∀ x, x ∈ cs → x ∈ bs ∨ a.heap.size ≤ x) : Ch bs a c :=
  ⟨k.os.trans h.os, k.tape.trans h.tape, k.output.trans h.output, Nat.le_trans h.size k.size, fun i hi hb => (k.block i (Nat.lt_of_lt_of_le hi h.size) (fun hc => by
    rcases hs i hc with h1 | h1
    · exact hb h1
    · omega)).trans (h.block i hi hb)⟩
theorem Ch.trans {bs : List Nat} {a b c : World} (h : Ch bs a b) (k : Ch bs b c) : Ch bs a c := h.trans' k fun _ hx => .inl hx
theorem Ch.trans0 {bs : List Nat} {a b c : World} (h : Ch bs a b) (k : Ch [] b c) : Ch bs a c := h.trans' k fun _ hx => by simp at hx
theorem Ch.mono {bs cs : List Nat} {a b : World} (h : Ch bs a b) (hs : ∀ x, x ∈ bs → x ∈ cs) : Ch cs a b := ⟨h.os, h.tape, h.output, h.size, fun k hk hn => h.block k hk fun hb => hn (hs k hb)⟩
theorem Ch.of0 {cs : List Nat} {a b : World} (h : Ch [] a b) : Ch cs a b := h.mono fun _ hx => by simp at hx
theorem Ch.drew {bs : List Nat} {a w : World} (h : Ch bs a w) : Ch bs a w.drew := ⟨h.os, h.tape, h.output, h.size, h.block⟩
theorem Ch.drewN {bs : List Nat} {a w : World} (h : Ch bs a w) (n : Nat) : Ch bs a (w.drewN n) := ⟨h.os, h.tape, h.output, h.size, h.block⟩
theorem Ch.alloc {bs : List Nat} {a w : World} (h : Ch bs a w) (o : Obj) : Ch bs a (w.alloc o) :=
  h.trans ⟨rfl, rfl, rfl, by simp, fun k hk _ => Below.heap_alloc _ _ _ hk⟩
theorem Ch.setCell {bs : List Nat} {a w : World} (h : Ch bs a w) {p : Addr} (hp : p.block ∈ bs ∨ a.heap.size ≤ p.block) (u : Value) : Ch bs a (w.setCell p u) :=
  h.trans' (cs := [p.block]) ⟨rfl, rfl, rfl, by simp [World.setCell], fun k _ hn => Below.heap_setCell _ _ _ _ (by simpa using hn)⟩ fun x hx => by
    have : x = p.block := by simpa using hx
    subst this; exact hp
theorem Ch.blk {bs : List Nat} {w w' : World} (h : Ch bs w w') {b : Nat} {cs : Array Value} {t : TypeId} (hb : Blk w b cs t) (hn : b ∉ bs) : Blk w' b cs t := (h.block b hb.lt hn).trans hb
theorem Ch.cell {bs : List Nat} {w w' : World} (h : Ch bs w w') {p : Addr} (hp : p.block < w.heap.size) (hn : p.block ∉ bs) : w'.cell? p = w.cell? p := World.cell?_of_block (w := w) (h.block p.block hp hn)
theorem Ch.frozen {bs : List Nat} {w w' : World} (h : Ch bs w w') {p : Addr} (hp : p.block < w.heap.size) (hn : p.block ∉ bs) : w'.frozen? p = w.frozen? p := World.frozen?_of_block (w := w) (h.block p.block hp hn)
theorem Ch.rules {w w' : World} (h : Ch [] w w') : (∀ b o, b < w.heap.size → w'.cell? ⟨b, o, none⟩ = w.cell? ⟨b, o, none⟩) ∧ (∀ b o, b < w.heap.size → w'.frozen? ⟨b, o, none⟩ = w.frozen? ⟨b, o, none⟩) ∧ w.heap.size ≤ w'.heap.size :=
  ⟨fun b o hb => h.cell (p := ⟨b, o, none⟩) hb (by simp), fun b o hb => h.frozen (p := ⟨b, o, none⟩) hb (by simp), h.size⟩
theorem Ch.rules1 {g : Nat} {w w' : World} (h : Ch [g] w w') : (∀ b o, b < w.heap.size → ¬ b = g → w'.cell? ⟨b, o, none⟩ = w.cell? ⟨b, o, none⟩) ∧ (∀ b o, b < w.heap.size → ¬ b = g → w'.frozen? ⟨b, o, none⟩ = w.frozen? ⟨b, o, none⟩) ∧ w.heap.size ≤ w'.heap.size :=
  ⟨fun b o hb hn => h.cell (p := ⟨b, o, none⟩) hb (by simpa using hn), fun b o hb hn => h.frozen (p := ⟨b, o, none⟩) hb (by simpa using hn), h.size⟩
theorem Ch.below {bs : List Nat} {w w' : World} (h : Ch bs w w') {B : Nat} (hB : B ≤ w.heap.size) (hs : ∀ x, x ∈ bs → B ≤ x) : Below B w w' :=
  ⟨h.os, h.tape, h.output, h.size, fun k hk => h.block k (by omega) fun hb => by have := hs k hb; omega⟩
theorem Ch.below0 {w w' : World} (h : Ch [] w w') : Below w.heap.size w w' := h.below (Nat.le_refl _) fun _ hx => by simp at hx
theorem Ch.grown {w w' : World} (h : Ch [] w w') : Below w.heap.size w w' := h.below0

theorem Ch.get {w w' : World} (h : Ch [] w w') {p : Addr} {v : Value} (hc : w.cell? p = some v) : w'.cell? p = some v := (h.cell (World.block_lt_of_cell? w p hc) (by simp)).trans hc

/-! ### A region that draws its order, whose operations read and whose calls make memory: one walk, in the order of the text -/
/-- The worlds in which nothing that was there in W has turned. -/
structure From (W : World) where
  val : World
  property : Ch [] W val
instance {W : World} : Nonempty (From W) := ⟨⟨W, Ch.refl _ _⟩⟩
theorem From.cell {W : World} (x : From W) : ∀ b o, b < W.heap.size → x.val.cell? ⟨b, o, none⟩ = W.cell? ⟨b, o, none⟩ := fun b o h => x.property.cell (p := ⟨b, o, none⟩) h (by simp)
theorem From.get {W : World} {x : From W} {p : Addr} {v : Value} (hc : W.cell? p = some v) : x.val.cell? p = some v := x.property.get hc
theorem class_of {P : Program} {W : World} {f : FuncId} {args : Array Value} {x : From W} {v : Value} (h : Calls P f args x.val fun e w' => e = .returned v ∧ Ch [] x.val w') :
    Calls P f args x.val fun e w' => e = .returned v ∧ ∃ y : From W, w' = y.val :=
  h.mono fun _ w' ⟨he, hc⟩ => ⟨he, ⟨w', x.property.trans hc⟩, rfl⟩
theorem wp_region_from {P : Program} {id : Nat} {Q : Exit → Act → World → Prop} {a : Act} {w : World} {l : List Oper} (hm : P.follows .mixedOrders = true) (hB : Region.lexB .any l.toArray = true)
    (h : wpQuiet P l.toArray (fun w' => ∃ x : From w, w' = x.val) (fun a' => ∀ w', (∃ x : From w, w' = x.val) → Q .normal a' w') l a) : (Code.region id l.toArray true).wp P Q a w :=
  wp_region_quiet (C := fun w' => ∃ x : From w, w' = x.val) hm hB ⟨⟨w.drew, (Ch.refl _ _).drew⟩, rfl⟩ (by simpa using h)

/-- What is told of a slice of whole numbers that came in: it is nil, or leads to a row of cap cells. -/
def IsRow (k : IntKind) (w : World) (a : Option Addr) (len cap : Nat) (zs : List Int) : Prop :=
  (a = none ∧ len = 0 ∧ cap = 0 ∧ zs = []) ∨
  ∃ x, a = some x ∧ len ≤ cap ∧ cap ≤ maxLen ∧ zs.length = cap ∧ (∀ i, i < zs.length → w.cell? (x.add i) = some (.int k (zs.getD i 0))) ∧ ∀ n ∈ zs, (Lit.int k n).wf = true
theorem IsRow.at_ {k : IntKind} {w : World} {a : Option Addr} {len cap : Nat} {zs : List Int} (h : IsRow k w a len cap zs) : len = 0 ∨ ∃ b off, a = some ⟨b, off, none⟩ ∧ b < w.heap.size ∧ ∀ i, i < len → w.cell? ⟨b, off + i, none⟩ = some (.int k (zs.getD i 0)) := by
  rcases h with ⟨_, h, _⟩ | ⟨x, rfl, hl, _, hz, hc, _⟩
  · exact .inl h
  · by_cases h0 : len = 0
    · exact .inl h0
    · right
      have e0 := hc 0 (by omega)
      have hs : x.spot = none := by
        rcases hx : x.spot with _ | s
        · rfl
        · simp [Addr.add, World.cell?, hx] at e0
          split at e0 <;> simp at e0
      refine ⟨x.block, x.off, by cases x; simp_all, World.block_lt_of_cell? w x (by simpa [Addr.add] using e0), fun i hi => ?_⟩
      have ei := hc i (by omega)
      by_cases hi0 : i = 0
      · subst hi0
        cases x; simp_all [Addr.add]
      · cases x; simp_all [Addr.add]
theorem IsRow.bd_i64 {w : World} {a : Option Addr} {len cap : Nat} {zs : List Int} (h : IsRow .i64 w a len cap zs) (i : Nat) (hi : i < len) : -9223372036854775808 ≤ zs.getD i 0 ∧ zs.getD i 0 ≤ 9223372036854775807 := by
  rcases h with ⟨_, h, _⟩ | ⟨x, _, hl, _, hz, _, hw⟩
  · omega
  · have hlt : i < zs.length := by omega
    rw [List.getD_eq_getElem?_getD, List.getElem?_eq_getElem hlt]
    exact bounds_i64 (hw _ (List.getElem_mem hlt))
end Go.Proofs.Ytmoelehhofmhcaa.K
