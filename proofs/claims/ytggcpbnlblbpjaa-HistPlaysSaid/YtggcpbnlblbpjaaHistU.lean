/- What comes in, and what is kept, of the law HistPlays. -/
import Derived.Test.YtggcpbnlblbpjaaHistS
namespace Go.Proofs.Ytggcpbnlblbpjaa.L
open Go Go.RowKit Go.Proofs.Ytggcpbnlblbpjaa.K Go.Proofs.Ytggcpbnlblbpjaa.H Go.Proofs.YtggcpbnlblbpjaaW.PrintLast
set_option linter.unusedVariables false
set_option linter.unusedSimpArgs false
set_option maxRecDepth 100000
theorem Rd.intw {w : World} {T : TypeId} {cs : List Value} {k : IntKind} (ht : Try.prog.underlying T = some (.int k)) (h : Rd w T cs) : ∃ n, cs = [.int k n] ∧ (Lit.int k n).wf = true := by
  obtain ⟨H, enc, base, spare, held, fuel, x, h⟩ := h
  obtain ⟨n, h1, _, h2⟩ := DataW.trod_int ht h
  exact ⟨n, h1, h2⟩
/-- An act's cells. -/
def actA (kz cz nz mz : Int) (cl : Cs 16) : Array Value := ((.int .i64 kz) :: (.int .i64 cz) :: (.int .i64 nz) :: (.int .i64 mz) :: cl.1).toArray
theorem actA_size (kz cz nz mz : Int) (cl : Cs 16) : (actA kz cz nz mz cl).size = 20 := by simp [actA, cl.2.1]
theorem sz34 (kz cz nz mz : Int) (cl : Cs 16) : (Try.prog.info? 34).map (·.size) = some (actA kz cz nz mz cl).size := by rw [actA_size]; kernel_rfl
theorem actA_one (kz cz nz mz : Int) (cl : Cs 16) : ∀ u ∈ (actA kz cz nz mz cl).toList, u.oneCell' = true := by
  intro u hu
  simp only [actA, List.mem_cons] at hu
  rcases hu with rfl | rfl | rfl | rfl | h
  · rfl
  · rfl
  · rfl
  · rfl
  · exact cl.2.2 u h
/-- A call's spec. -/
def spc (cl : Cs 16) : List Value := (cl.1.drop 3).take 7
theorem spc_len (cl : Cs 16) : (spc cl).length = 7 := by simp [spc, cl.2.1]
theorem act_spec {w : World} {g : Nat} {kz cz nz mz : Int} {cl : Cs 16} (h : Blk w g (actA kz cz nz mz cl) 34) : CellsAt w ⟨g, 7, none⟩ (spc cl) := cells_part h 7 (by rw [spc_len]; simp [actA, spc])
theorem act_call {w : World} {g : Nat} {kz cz nz mz : Int} {cl : Cs 16} (h : Blk w g (actA kz cz nz mz cl) 34) : CellsAt w ⟨g, 4, none⟩ cl.1 := cells_part h 4 (by rw [cl.2.1]; simp [actA]; exact List.take_of_length_le (by rw [cl.2.1]; exact Nat.le_refl _))
/-- A reply that has but an id. -/
def RM (mz : Int) : Cs 7 := ⟨[.int .i64 0, .int .i64 0, .int .i64 mz, .int .u64 0, .string ⟨#[]⟩, .slice none 0 0, .slice none 0 0], rfl, by simp [Value.oneCell']⟩
/-- The acts that came in. -/
def In22 (W : World) (a : Option Addr) (len cap : Nat) : Prop := Rd W 22 [.slice a len cap]
def ActsR (w : World) (a : Option Addr) (len : Nat) : Prop := ∀ i, i < len → ∃ A kz cz nz mz, ∃ cl : Cs 16, a = some A ∧ CellsAt w (A.add (i * 20)) ((.int .i64 kz) :: (.int .i64 cz) :: (.int .i64 nz) :: (.int .i64 mz) :: cl.1) ∧ okK (cz, nz) ∧ SameC w cl.1 ∧ ∃ r, SpecR w (spc cl) r
theorem actsR_of {W : World} {a : Option Addr} {len cap : Nat} (h : In22 W a len cap) : ActsR W a len := by
  obtain ⟨A, n, c, he, hm, hz, hel⟩ := Rd.slice2 Try.underlying22 h
  have he2 : a = A ∧ len = n ∧ cap = c := by simpa using he
  obtain ⟨rfl, rfl, rfl⟩ := he2
  intro i hi
  obtain ⟨A, cs, rfl, hl, hr, hc⟩ := hel i hi
  rw [show Try.prog.cellsOf 34 = 20 by kernel_rfl] at hl hc
  obtain ⟨_, hf⟩ := hr.struct Try.underlying34
  obtain ⟨v0, e0, w0⟩ := (fld hf 0 3 0 1 rfl z1).intw Try.underlying3
  obtain ⟨v1, e1, w1⟩ := (fld hf 1 3 1 1 rfl z1).intw Try.underlying3
  obtain ⟨v2, e2, w2⟩ := (fld hf 2 3 2 1 rfl z1).intw Try.underlying3
  obtain ⟨v3, e3, w3⟩ := (fld hf 3 3 3 1 rfl z1).intw Try.underlying3
  have h4 := fld hf 4 32 4 16 rfl z6
  obtain ⟨x0, x1, x2, x3, x4, x5, x6, x7, x8, x9, x10, x11, x12, x13, x14, x15, ec, hs, hone⟩ := call_in h4
  have hl16 : ((cs.drop 4).take 16).length = 16 := by rw [ec]; rfl
  have h3 : Rd W 30 ((((cs.drop 4).take 16).drop 3).take 7) := by
    obtain ⟨_, hf2⟩ := h4.struct Try.underlying32
    exact fld hf2 3 30 3 7 rfl z5
  have step : ∀ k, cs.drop k = (cs.drop k).take 1 ++ cs.drop (k + 1) := fun k => by
    rw [← List.drop_drop]
    exact (List.take_append_drop 1 (cs.drop k)).symm
  have hlast : cs.drop 4 = (cs.drop 4).take 16 := (List.take_of_length_le (by rw [List.length_drop, hl]; omega)).symm
  refine ⟨A, v0, v1, v2, v3, ⟨(cs.drop 4).take 16, hl16, hone⟩, rfl, ?_, ⟨w1, w2⟩, sameC_of h4, spec_of (spec_in h3)⟩
  have q0 := step 0
  have q1 := step 1
  have q2 := step 2
  have q3 := step 3
  rw [e0] at q0
  rw [e1] at q1
  rw [e2] at q2
  rw [e3] at q3
  rw [List.drop_zero] at q0
  have h9 := q0.trans (congrArg ([Value.int .i64 v0] ++ ·) (q1.trans (congrArg ([Value.int .i64 v1] ++ ·) (q2.trans (congrArg ([Value.int .i64 v2] ++ ·) (q3.trans (congrArg ([Value.int .i64 v3] ++ ·) hlast)))))))
  rw [h9] at hc
  exact hc
theorem acts_r {w : World} {a : Option Addr} {len : Nat} (h : ActsR w a len) {i : Nat} (hi : i < len) : ∃ A kz cz nz mz, ∃ cl : Cs 16, ∃ r, a = some A ∧ CellsAt w (A.add (i * 20)) ((.int .i64 kz) :: (.int .i64 cz) :: (.int .i64 nz) :: (.int .i64 mz) :: cl.1) ∧ okK (cz, nz) ∧ SameC w cl.1 ∧ SpecR w (spc cl) r := by
  obtain ⟨A, kz, cz, nz, mz, cl, h1, h2, h3, h4, r, h5⟩ := h i hi
  exact ⟨A, kz, cz, nz, mz, cl, r, h1, h2, h3, h4, h5⟩
/-- All of a book's operations are the same as themselves. -/
def AllOk (w : World) (S : HB) : Prop := ∀ o ∈ S.L, OpOk w o
theorem all_new (w : World) : AllOk w ⟨0, [], []⟩ := fun o ho => by simp at ho
theorem all_ask {w : World} {S : HB} (h : AllOk w S) (c n : Int) : AllOk w (askS S c n) := by
  unfold askS
  split
  · intro o ho
    rcases List.mem_append.1 ho with ho | ho
    · exact h o ho
    · rw [List.mem_singleton] at ho
      subst ho
      exact ⟨sameC_zero w, sameP_id w 0 0 0 0 _⟩
  · exact h
theorem all_do {w : World} {S : HB} (h : AllOk w S) (c n : Int) {CA : Cs 16} {RA : Cs 7} (hc : SameC w CA.1) (hr : SameP w RA.1) : AllOk w (doS S c n CA RA) := by
  unfold doS
  split
  · exact h
  · split
    · exact h
    · split
      · exact h
      · intro o ho
        rcases List.mem_or_eq_of_mem_set ho with ho | rfl
        · exact h o ho
        · exact ⟨hc, hr⟩
theorem all_tell {w : World} {S : HB} (h : AllOk w S) (c n : Int) : AllOk w (tellS S c n) := by
  unfold tellS
  split
  · exact h
  · split
    · exact h
    · rename_i o1 ho1
      split
      · exact h
      · intro o ho
        rcases List.mem_or_eq_of_mem_set ho with ho | rfl
        · exact h o ho
        · have := h o1 (List.mem_of_getElem? ho1)
          exact ⟨this.1, this.2⟩
theorem all_inner {w : World} {S : HB} (h : AllOk w S) : AllOk w ⟨S.now + 1, S.L, S.I ++ [((S.now + 1 : Nat) : Int)]⟩ := h
/-- The code and the time that are answered. -/
def Ans (S : HB) (rn : Nat) (rc : Int) : Prop := (rc = 0 ∧ rn = S.now) ∨ (rc ≠ 0 ∧ rn = 0)
theorem ans_ask (S : HB) (c n : Int) : Ans (askS S c n) (askR S c n).1 (askR S c n).2 := by
  unfold askR askS Ans
  split <;> simp
theorem ans_do (S : HB) (c n : Int) (CA : Cs 16) (RA : Cs 7) : Ans (doS S c n CA RA) (doR S c n).1 (doR S c n).2 := by
  unfold doR doS Ans
  split
  · simp
  · split
    · simp
    · split <;> simp
theorem ans_tell (S : HB) (c n : Int) : Ans (tellS S c n) (tellR S c n).1 (tellR S c n).2 := by
  unfold tellR tellS Ans
  split
  · simp
  · split
    · simp
    · split <;> simp
theorem open_up {L : List HOp} {k : Nat} {o : HOp} (h : L[k]? = some o) (hz : (o.t == 0) = true) : openN (L.take (k + 1)) = openN (L.take k) + 1 := by rw [open_succ h, hz]; rfl
theorem open_no {L : List HOp} {k : Nat} {o : HOp} (h : L[k]? = some o) (hz : (o.t == 0) = false) : openN (L.take (k + 1)) = openN (L.take k) := by rw [open_succ h, hz]; rfl
theorem open_le (L : List HOp) : openN L ≤ L.length := List.length_filter_le _ _
theorem kinds4 (k : Int) : k = 0 ∨ k = 1 ∨ k = 2 ∨ (k ≠ 0 ∧ k ≠ 1 ∧ k ≠ 2) := by omega
/-- What is found of an operation. -/
theorem of_ways (S : HB) (c n : Int) : (idx c n 0 S.L = none ∧ ofR S c n = (zO, false)) ∨ ∃ j o, idx c n 0 S.L = some j ∧ S.L[j]? = some o ∧ ofR S c n = (o, true) := by
  unfold ofR
  cases h : idx c n 0 S.L with
  | none => exact .inl ⟨rfl, rfl⟩
  | some j =>
    obtain ⟨o, ho⟩ := idx_at h
    exact .inr ⟨j, o, rfl, ho, by simp only [ho]⟩
theorem zok (w : World) : OpOk w zO := ⟨sameC_zero w, sameP_id w 0 0 0 0 _⟩
theorem op_at59 {L : List HOp} {j : Nat} {o : HOp} (h : L[j]? = some o) {w : World} {base g n c : Nat} (ho : OwnS w base 59 28 (.slice (some ⟨g, 0, none⟩) n c) n (L.flatMap opC)) (i : Nat) {u : Value} (hu : (opC o)[i]? = some u) : w.cell? ⟨g, j * 28 + i, none⟩ = some u := by
  have := op_cells59 h ho i u hu
  rwa [add_plain] at this
end Go.Proofs.Ytggcpbnlblbpjaa.L
