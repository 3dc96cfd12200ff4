/- Rows of bytes that a string became: they bear the mark of such a row behind their cells. -/
import Derived.Test.YtcfkdglaedpnjaaDoorExA
import Derived.Lib.ConvBytes
namespace Go.Proofs.YtcfkdglaedpnjaaDoor.V
open Go Go.RowKit Go.Proofs.YtcfkdglaedpnjaaDoor.K Go.Proofs.YtcfkdglaedpnjaaDoor.R Go.Proofs.YtcfkdglaedpnjaaDoorW.PrintLast
set_option linter.unusedVariables false
set_option linter.unusedSimpArgs false
set_option maxRecDepth 100000
/-- A row of bytes of the call's own, that a string became. -/
def ByR (w : World) (g : Nat) (l : List UInt8) : Prop := ∃ (cs : Array Value) (m : Nat), w.heap[g]? = some (.cells cs 5 (m, m + 1)) ∧ cs.size = m ∧ l.length ≤ m ∧ ∀ (j : Nat) (c : UInt8), l[j]? = some c → cs[j]? = some (Value.int .u8 c.toNat)
theorem ByR.lt {w : World} {g : Nat} {l : List UInt8} (h : ByR w g l) : g < w.heap.size := by
  obtain ⟨cs, m, h, _⟩ := h
  exact (Array.getElem?_eq_some_iff.1 h).1
theorem ByR.ch {w w' : World} {g : Nat} {l : List UInt8} (h : ByR w g l) {bs : List Nat} (cc : Ch bs w w') (hn : g ∉ bs) : ByR w' g l := by
  have hl := h.lt
  obtain ⟨cs, m, h, h2⟩ := h
  exact ⟨cs, m, (cc.block g hl hn).trans h, h2⟩
theorem ByR.cell {w : World} {g : Nat} {l : List UInt8} (h : ByR w g l) {j : Nat} {c : UInt8} (hc : l[j]? = some c) : w.cell? ⟨g, j, none⟩ = some (.int .u8 c.toNat) := by
  obtain ⟨cs, m, h, h2, h3, h4⟩ := h
  simp [World.cell?, h, h4 j c hc]
section
variable {P : Program} {ops : Array Oper} {Q : Exit → Act → World → Prop} {a : Act} {w : World} {oi : Oper} {K : Act → World → Prop} {N : Option Tmp}
theorem e_bytes {x : Operand} {src dst : TypeId} (hw : Region.wanted oi (yielded ops a.tmps) = true) (hN : oi.dst = N) (ho : oi.op = .convert src dst x) {s : ByteArray} (hx : a.eval x = .string s) (hs : P.underlying src = some .string) (hd : P.underlying dst = some (.slice 5)) (he : P.underlying 5 = some (.int .u8))
    (h : ∀ g cap w', Hid (g = w.heap.size) → ByR w' g s.data.toList → Ch [] w w' → K (a.put N (.slice (some ⟨g, 0, none⟩) s.size cap)) w') : if Region.wanted oi (yielded ops a.tmps) = true then Oper.wp P oi a w K Q else K (a.put N undef) w := by
  refine value_ (w1 := Lib.bytesWorld w 5 s) hw hN ?_ (h w.heap.size (grownCap w s.size 0 5) _ (Lib.hid rfl) ⟨_, _, Lib.bytesWorld_at_new w 5 s, rfl, ?_, fun j c hc => ?_⟩ ⟨rfl, rfl, rfl, by rw [Lib.bytesWorld_size]; omega, fun k hk _ => Lib.bytesWorld_at_old w 5 s k hk⟩)
  · have := Lib.run_convert_string_bytes w src dst 5 s hs hd he
    unfold execOp
    simp only [ho, hx]
    simp [go_sem, this]
  · simp [Lib.bytesCells]
  · have hj : j < s.data.toList.length := (List.getElem?_eq_some_iff.1 hc).1
    have hj2 : j < s.data.size := by simpa using hj
    have hc2 : s.data[j]? = some c := by rw [← Array.getElem?_toList]; exact hc
    unfold Lib.bytesCells
    rw [Array.getElem?_append_left (by simpa using hj2), Array.getElem?_map, hc2]
    rfl
theorem e_storeB {x y : Operand} (hw : Region.wanted oi (yielded ops a.tmps) = true) (hN : oi.dst = none) (ho : oi.op = .store 5 x y) {g : Nat} {l : List UInt8} (hr : ByR w g l) (j : Nat) (c : UInt8) (hx : a.eval x = .pointer (some ⟨g, j, none⟩)) (hy : a.eval y = .int .u8 c.toNat)
    (hi : (P.info? 5).map (·.size) = some 1) (hj : j < l.length)
    (h : ∀ w', ByR w' g (l.set j c) → Ch [g] w w' → K a w') : if Region.wanted oi (yielded ops a.tmps) = true then Oper.wp P oi a w K Q else K (a.put none undef) w := by
  have hcell := hr.cell (List.getElem?_eq_getElem hj)
  have hlt := hr.lt
  obtain ⟨cs, m, h1, h2, h3, h4⟩ := hr
  have hf : w.frozen? ⟨g, j, none⟩ = false := by
    simp [World.frozen?, h1]
    omega
  have hh : (w.setCell ⟨g, j, none⟩ (.int .u8 c.toNat)).heap[g]? = some (.cells (cs.setIfInBounds j (Value.int .u8 c.toNat)) 5 (m, m + 1)) := by
    show (w.heap.modify _ _)[g]? = _
    rw [Array.getElem?_modify, if_pos rfl, h1]
    rfl
  refine skip_ hw hN (w1 := w.setCell ⟨g, j, none⟩ (.int .u8 c.toNat)) ?_ (h _ ⟨_, m, hh, by simpa using h2, by rw [List.length_set]; exact h3, fun i d hd => ?_⟩ ((Ch.refl [g] w).setCell (.inl (by simp)) _))
  · unfold execOp
    simp only [ho, hx, hy, Instr.storeAt, Instr.sureAddr, Sem.run_bind, Sem.run_pure, Result.andThen_ok, run_store_one (v := .int .u8 c.toNat) hcell hf hi rfl]
  · by_cases hij : i = j
    · subst hij
      rw [List.getElem?_set_self hj] at hd
      injection hd with hd
      subst hd
      rw [Array.getElem?_setIfInBounds_self_of_lt (by omega)]
    · rw [List.getElem?_set_ne (Ne.symm hij)] at hd
      rw [Array.getElem?_setIfInBounds_ne (Ne.symm hij)]
      exact h4 i d hd
theorem run_back {w : World} {g n cap : Nat} {l : List UInt8} (h : ByR w g l) (hn : l.length = n) {src dst : TypeId} (hs : P.underlying src = some (.slice 5)) (he : P.underlying 5 = some (.int .u8)) (hd : P.underlying dst = some .string) : (convert src dst (.slice (some ⟨g, 0, none⟩) n cap)).run P w = .ok (.string (str l)) w := by
  have := run_convert_bytes_arg (P := P) w src 5 hs he g 0 n cap (nums l) (by simp [nums, hn]) (fun i hi => by
    rw [Nat.zero_add]
    have hl : i < l.length := by omega
    rw [h.cell (List.getElem?_eq_getElem hl), nums_at l i _ (List.getElem?_eq_getElem hl)]) dst hd
  rwa [strOfNums_nums] at this
end
/-- A byte in capital letters. -/
def upB (c : UInt8) : UInt8 := if 97 ≤ c ∧ c ≤ 122 then c - 32 else c
theorem str_self (s : ByteArray) : str s.data.toList = s := by unfold str; rfl
end Go.Proofs.YtcfkdglaedpnjaaDoor.V
