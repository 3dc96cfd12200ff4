/- What came in, read by kinds: from the row's own reading to the printed contracts' (Kd). -/
import Derived.Test.YtggcpbnlblbpjaaWWords
import Derived.Deep.Slices
import Derived.Deep.Fields
import Derived.ChangeSame
namespace Go.Proofs.Ytggcpbnlblbpjaa.F
open Go Go.RowKit Go.ChangeShapes Go.WideShapes Go.Deep Go.Proofs.YtggcpbnlblbpjaaW.PrintWords
/-- Cells that read at type T are, for the kind d, a value that is good. -/
def Fits {α : Type} (P : Program) (T : TypeId) (d : Kd α) (good : α → Prop) : Prop :=
  ∀ (H : Type) (enc : TypeId × Value → H) (w : World) (base : Nat) (spare : Nat → Bool) (held : Bool) (fuel : Nat) (cs : List Value) (x : DataW H × List MemPlace),
    DataW.trod enc P w base spare held fuel T cs = some x → ∃ v, d.K w v cs ∧ good v
theorem fits_int {P : Program} {T : TypeId} {k : IntKind} (ht : P.underlying T = some (.int k)) : Fits P T (Kd.int k) (fun z => (Lit.int k z).wf = true) := by
  intro H enc w base spare held fuel cs x h
  obtain ⟨z, h1, _, h2⟩ := DataW.trod_int ht h
  exact ⟨z, h1, h2⟩
theorem fits_str {P : Program} {T : TypeId} (ht : P.underlying T = some .string) : Fits P T Kd.string (fun s => s.size ≤ maxLen) := by
  intro H enc w base spare held fuel cs x h
  obtain ⟨s, h1, _, h2⟩ := DataW.trod_string ht h
  exact ⟨s, h1, h2⟩
theorem fits_bool {P : Program} {T : TypeId} (ht : P.underlying T = some .bool) : Fits P T Kd.bool (fun _ => True) := by
  intro H enc w base spare held fuel cs x h
  obtain ⟨s, h1, _⟩ := DataW.trod_bool ht h
  exact ⟨s, h1, trivial⟩
theorem Fits.mono {α : Type} {P : Program} {T : TypeId} {d : Kd α} {g g' : α → Prop} (h : Fits P T d g) (hg : ∀ v, g v → g' v) : Fits P T d g' := by
  intro H enc w base spare held fuel cs x hx
  obtain ⟨v, h1, h2⟩ := h H enc w base spare held fuel cs x hx
  exact ⟨v, h1, hg v h2⟩
/-- A slice. -/
theorem fits_slice {α : Type} {P : Program} {T e : TypeId} {d : Kd α} {g : α → Prop} (hi : α) (ht : P.underlying T = some (.slice e)) (hs : d.sz = P.cellsOf e) (he : Fits P e d g) : Fits P T (Kd.slice e d) (fun l => l.length ≤ maxLen ∧ ∀ v ∈ l, g v) := by
  intro H enc w base spare held fuel cs x h
  rcases open_slice ht h with ⟨hcs, _⟩ | ⟨a, len, cap, m, n, D, Pl, hcs, _, hl, hm, hmm, _, hel⟩
  · exact ⟨[], ⟨none, 0, hcs, Nat.le_refl _, ⟨rfl, by simp, fun h => by simp at h⟩⟩, by simp, by simp⟩
  · have hlm : len ≤ m := by rw [hmm]; split <;> omega
    have hex : ∀ i, ∃ v : α, i < len → ∃ c, c.length = d.sz ∧ d.K w v c ∧ (∀ j u, c[j]? = some u → w.cell? (a.add (i * d.sz + j)) = some u) ∧ g v := by
      intro i
      by_cases hi' : i < len
      · obtain ⟨cs', hc, htr⟩ := hel i (by omega)
        obtain ⟨_, hlen, hat⟩ := World.cells?_some hc
        obtain ⟨v, hk, hg⟩ := he H enc w base spare held n cs' _ htr
        refine ⟨v, fun _ => ⟨cs', by rw [hs]; exact hlen, hk, fun j u hu => ?_, hg⟩⟩
        have hjl : j < cs'.length := (List.getElem?_eq_some_iff.1 hu).1
        rw [hs, ← Go.Deep.add_add, hat j (by omega), hu]
      · exact ⟨hi, fun h => absurd h hi'⟩
    obtain ⟨f, hf⟩ := Classical.axiomOfChoice hex
    refine ⟨(List.range len).map f, ⟨some a, cap, by simpa using hcs, by simpa using hl, ⟨by simp, by unfold maxLen at hm; simp; omega, fun _ => ⟨a, rfl, fun j p hp => ?_⟩⟩⟩, by simp; omega, ?_⟩
    · have hj : j < len := by
        have := (List.getElem?_eq_some_iff.1 hp).1
        simpa using this
      obtain ⟨c, h1, h2, h3, _⟩ := hf j hj
      have : p = f j := by
        rw [List.getElem?_map, List.getElem?_range hj] at hp
        simpa using hp.symm
      subst this
      exact ⟨c, h1, h2, h3⟩
    · intro v hv
      obtain ⟨j, hj, rfl⟩ := List.mem_map.1 hv
      exact (hf j (List.mem_range.1 hj)).choose_spec.2.2.2
/-- The fields from place j on, whose cells begin at o, of N in all. -/
def FitsF {α : Type} (P : Program) (fs : Array Field) (N j o : Nat) (d : Kd α) (good : α → Prop) : Prop :=
  ∀ (H : Type) (enc : TypeId × Value → H) (w : World) (base : Nat) (spare : Nat → Bool) (held : Bool) (cs : List Value) (n : Nat), cs.length = N →
    (∀ (i : Nat) (f : Field), j ≤ i → fs[i]? = some f → ∃ y, DataW.trod enc P w base spare held n f.type ((cs.drop f.offset).take (P.cellsOf f.type)) = some y) → ∃ v, d.K w v (cs.drop o) ∧ good v
theorem fitsF_last {α : Type} {P : Program} {fs : Array Field} {N j o : Nat} {d : Kd α} {good : α → Prop} {f : Field} (hf : fs[j]? = some f) (ho : f.offset = o) (hN : N = o + P.cellsOf f.type) (h : Fits P f.type d good) : FitsF P fs N j o d good := by
  intro H enc w base spare held cs n hl hx
  obtain ⟨y, hy⟩ := hx j f (Nat.le_refl _) hf
  rw [ho, List.take_of_length_le (by rw [List.length_drop]; omega)] at hy
  exact h H enc w base spare held n _ _ hy
theorem fitsF_cons {α β : Type} {P : Program} {fs : Array Field} {N j o n1 : Nat} {d : Kd α} {good : α → Prop} {d' : Kd β} {good' : β → Prop} {f : Field} (hf : fs[j]? = some f) (ho : f.offset = o) (hn : P.cellsOf f.type = n1) (h : Fits P f.type d good) (hr : FitsF P fs N (j + 1) (o + n1) d' good') : FitsF P fs N j o (Kd.pair d d') (fun v => good v.1 ∧ good' v.2) := by
  intro H enc w base spare held cs n hl hx
  obtain ⟨y, hy⟩ := hx j f (Nat.le_refl _) hf
  rw [ho, hn] at hy
  obtain ⟨v, hv, hg⟩ := h H enc w base spare held n _ _ hy
  obtain ⟨v', hv', hg'⟩ := hr H enc w base spare held cs n hl (fun i g hi hg => hx i g (by omega) hg)
  exact ⟨(v, v'), ⟨_, _, by rw [← List.drop_drop]; exact (List.take_append_drop n1 _).symm, hv, hv'⟩, hg, hg'⟩
theorem fits_struct {α : Type} {P : Program} {T : TypeId} {fs : Array Field} {N : Nat} {d : Kd α} {good : α → Prop} (ht : P.underlying T = some (.struct fs)) (hN : P.cellsOf T = N) (h : FitsF P fs N 0 0 d good) : Fits P T d good := by
  intro H enc w base spare held fuel cs x hx
  obtain ⟨xs, n, _, _, hl, hxl, hf⟩ := DataW.trod_struct ht hx
  obtain ⟨v, hv, hg⟩ := h H enc w base spare held cs n (by rw [hl, hN]) (fun i f _ hi => by
    have := hf i f hi
    have hlt : i < fs.size := (Array.getElem?_eq_some_iff.1 hi).1
    rw [List.getElem?_eq_getElem (by omega)] at this
    exact ⟨_, this⟩)
  exact ⟨v, by simpa using hv, hg⟩
theorem fits_iso {α β : Type} {P : Program} {T : TypeId} {d : Kd α} {good : α → Prop} (f : β → α) (g : α → β) (hfg : ∀ x, f (g x) = x) (h : Fits P T d good) : Fits P T (Kd.iso d f) (fun y => good (f y)) := by
  intro H enc w base spare held fuel cs x hx
  obtain ⟨v, hv, hg⟩ := h H enc w base spare held fuel cs x hx
  exact ⟨g v, by show d.K w (f (g v)) cs; rw [hfg]; exact hv, by show good (f (g v)); rw [hfg]; exact hg⟩
/-- A slice that came in as an argument. -/
theorem fits_arg {α : Type} {P : Program} {T e : TypeId} {d : Kd α} {g : List α → Prop} {H : Type} {enc : TypeId × Value → H} {w : World} {base : Nat} {spare : Nat → Bool} {held : Bool} {fuel : Nat} {a : Option Addr} {len cap : Nat} {x : DataW H × List MemPlace} (h : Fits P T (Kd.slice e d) g) (hx : DataW.trod enc P w base spare held fuel T [.slice a len cap] = some x) :
    ∃ l : List α, l.length = len ∧ l.length ≤ cap ∧ Kd.C d w a l.length l ∧ g l := by
  obtain ⟨l, ⟨A, c, he, hl, hc⟩, hg⟩ := h H enc w base spare held fuel _ x hx
  simp at he
  obtain ⟨rfl, rfl, rfl⟩ := he
  exact ⟨l, rfl, hl, hc, hg⟩
end Go.Proofs.Ytggcpbnlblbpjaa.F
