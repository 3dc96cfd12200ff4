/- What package phase's functions answer, as printed: total, and counted. (template: PhaseRuns, YtgpoolcaooiemaaPPhaseRunsx) -/
import Derived.Test.YtgpoolcaooiemaaPPhaseRunsx4
import Derived.Test.YtgpoolcaooiemaaPPhaseRunsx5
import Derived.Test.YtgpoolcaooiemaaPPhaseRunsx6
set_option linter.unusedSimpArgs false
set_option linter.unusedVariables false
namespace Go.Proofs.Ytgpoolcaooiemaa.SemPhaseRuns
open Go.RowKit Go.Proofs.Ytgpoolcaooiemaa.PPhaseRuns Go.Proofs.YtgpoolcaooiemaaW.PrintWords Go.Proofs.YtgpoolcaooiemaaW.PrintLast
theorem wrap_next (n : Nat) (h : n < 9223372036854775807) : wrap64 ((n : Int) + 1) = ((n + 1 : Nat) : Int) := by unfold wrap64; omega
theorem last_loop (name : ByteArray) (l : List S59) (hl : l.length ≤ 9223372036854775807) : ∀ (d n : Nat), n + d = l.length → ∀ f0 f1 f2 f3 f4 f5 f6, ∃ r, Ev (fun k => phase_Last.l0 k name l (l.length : Int) (n : Int) f0 f1 f2 f3 f4 f5 f6) r := by
  intro d
  induction d with
  | zero =>
    intro n hn f0 f1 f2 f3 f4 f5 f6
    refine ⟨_, Ev.step (fun k => ?_) (Ev.now (f0, f1, f2, f3, f4, f5, f6))⟩
    simp only [phase_Last.l0]
    rw [if_neg (by omega)]
  | succ d ih =>
    intro n hn f0 f1 f2 f3 f4 f5 f6
    by_cases h1 : ((rd_T59 l (n : Int)).f1).toList = name.toList
    · by_cases h2 : f3 = 0
      · obtain ⟨r, hr⟩ := ih (n + 1) (by omega) ((rd_T59 l n).f0) ((rd_T59 l n).f1) ((rd_T59 l n).f2) ((rd_T59 l n).f3.f0) ((rd_T59 l n).f3.f1) ((rd_T59 l n).f3.f2) ((rd_T59 l n).f4)
        refine ⟨r, Ev.step (fun k => ?_) hr⟩
        simp only [phase_Last.l0]
        rw [if_pos (by omega), if_pos (by omega), if_pos (by omega), if_pos h1, if_pos h2, wrap_next n (by omega)]
      · by_cases h3 : (rd_T59 l (n : Int)).f0 > f0
        · obtain ⟨r, hr⟩ := ih (n + 1) (by omega) ((rd_T59 l n).f0) ((rd_T59 l n).f1) ((rd_T59 l n).f2) ((rd_T59 l n).f3.f0) ((rd_T59 l n).f3.f1) ((rd_T59 l n).f3.f2) ((rd_T59 l n).f4)
          refine ⟨r, Ev.step (fun k => ?_) hr⟩
          simp only [phase_Last.l0]
          rw [if_pos (by omega), if_pos (by omega), if_pos (by omega), if_pos h1, if_neg h2, if_pos h3, wrap_next n (by omega)]
        · obtain ⟨r, hr⟩ := ih (n + 1) (by omega) f0 f1 f2 f3 f4 f5 f6
          refine ⟨r, Ev.step (fun k => ?_) hr⟩
          simp only [phase_Last.l0]
          rw [if_pos (by omega), if_pos (by omega), if_pos (by omega), if_pos h1, if_neg h2, if_neg h3, wrap_next n (by omega)]
    · obtain ⟨r, hr⟩ := ih (n + 1) (by omega) f0 f1 f2 f3 f4 f5 f6
      refine ⟨r, Ev.step (fun k => ?_) hr⟩
      simp only [phase_Last.l0]
      rw [if_pos (by omega), if_pos (by omega), if_pos (by omega), if_neg h1, wrap_next n (by omega)]
theorem last_all (l : List S59) (hl : l.length ≤ 9223372036854775807) : ∃ L : ByteArray → (Int × ByteArray × ByteArray × Int × Int × Int × Bool), ∀ name, Ev (fun k => phase_Last.f k l name) (L name) := by
  have h : ∀ name, ∃ r, Ev (fun k => phase_Last.f k l name) r := fun name => by
    obtain ⟨r, hr⟩ := last_loop name l hl l.length 0 (by omega) 0 ⟨#[]⟩ ⟨#[]⟩ 0 0 0 false
    exact ⟨r, hr⟩
  exact Classical.axiomOfChoice h
def overB (L : ByteArray → (Int × ByteArray × ByteArray × Int × Int × Int × Bool)) (rs : Int) (c : S67) : Bool :=
  if (L c.f0).2.2.2.1 = 4 then (if (L c.f0).2.2.1.toList = c.f1.toList then !(if rs = 3 then true else if rs = 2 then ((L c.f0).2.2.2.2.1 != 0) else false) else false) else false
def goodB (L : ByteArray → (Int × ByteArray × ByteArray × Int × Int × Int × Bool)) (c : S67) : Bool := (L c.f0).2.2.2.1 == 4 && ((L c.f0).2.2.2.2.1 == 0 && ((L c.f0).2.2.2.2.2.1 == 0))
def upB (L : ByteArray → (Int × ByteArray × ByteArray × Int × Int × Int × Bool)) (c : S67) : Bool := decide ((L c.f0).2.2.2.1 > 1)
theorem done_is (a b c : Int) : ctr_Done.f a b c = some (a == 4 && (b == 0 && (c == 0))) := rfl
theorem again_is (c : Int) (d rs : Int) : ctr_Again.f 4 c d rs = some (if rs = 3 then true else if rs = 2 then (c != 0) else false) := by
  simp only [ctr_Again.f]
  rw [if_pos trivial]
  split
  · rfl
  · split <;> rfl
def cnt (p : S67 → Bool) (xs : List S67) : Nat := (xs.filter p).length
theorem cnt_drop (p : S67 → Bool) (xs : List S67) (n : Nat) (hn : n < xs.length) : cnt p (xs.drop n) = (if p (rd_T67 xs (n : Int)) = true then 1 else 0) + cnt p (xs.drop (n + 1)) := by
  have e : rd_T67 xs (n : Int) = xs[n] := by
    unfold rd_T67
    rw [List.getD_eq_getElem?_getD, show ((n : Int)).toNat = n by omega, List.getElem?_eq_getElem hn]
    rfl
  rw [e, List.drop_eq_getElem_cons hn]
  unfold cnt
  by_cases hp : p xs[n] = true
  · rw [List.filter_cons_of_pos hp, if_pos hp, List.length_cons]
    omega
  · rw [List.filter_cons_of_neg hp, if_neg hp]
    omega
section
variable {l : List S59} {L : ByteArray → (Int × ByteArray × ByteArray × Int × Int × Int × Bool)} (hL : ∀ name, Ev (fun k => phase_Last.f k l name) (L name)) {nm : ByteArray} {lb : List S73} {ini main : List S67} {rs x y : Int}
include hL
theorem over_ev (n : Nat) (hn : n < main.length) : Ev (fun k => phase_Over.f k nm lb ini main rs x y (n : Int) l) (overB L rs (rd_T67 main (n : Int))) := by
  have e : ∀ k, phase_Over.f k nm lb ini main rs x y (n : Int) l = phase_Over.j0 k (n : Int) l false nm lb ini main rs x y := fun k => by
    rw [phase_Over.f, if_neg (by omega), decide_eq_false (by omega)]
  refine Ev.congr e ?_
  obtain ⟨K, hK⟩ := hL (rd_T67 main (n : Int)).f0
  simp only [] at hK
  refine ⟨K + 1, fun k hk => ?_⟩
  obtain ⟨k, rfl⟩ : ∃ m, k = m + 1 := ⟨k - 1, by omega⟩
  simp only [phase_Over.j0]
  rw [if_neg (by simp), if_pos (by omega), if_pos (by omega), hK k (by omega)]
  simp only [overB, Option.bind_some]
  by_cases h4 : (L (rd_T67 main (n : Int)).f0).2.2.2.1 = 4
  · rw [if_pos h4, if_pos h4]
    by_cases h5 : (L (rd_T67 main (n : Int)).f0).2.2.1.toList = (rd_T67 main (n : Int)).f1.toList
    · rw [if_pos h5, if_pos h5, h4, again_is]
      rfl
    · rw [if_neg h5, if_neg h5]
  · rw [if_neg h4, if_neg h4]
theorem mains_loop (hm : main.length ≤ 9223372036854775807) : ∀ (d n a b c : Nat), n + d = main.length → a ≤ n → b ≤ n → c ≤ n →
    Ev (fun k => phase_mains.l0 k l (a : Int) (b : Int) (c : Int) main (main.length : Int) (n : Int) nm lb ini main rs x y)
      (((a + cnt (upB L) (main.drop n) : Nat) : Int), ((b + cnt (overB L rs) (main.drop n) : Nat) : Int), ((c + cnt (goodB L) (main.drop n) : Nat) : Int)) := by
  intro d
  induction d with
  | zero =>
    intro n a b c hn ha hb hc
    have h0 : ∀ p, cnt p (main.drop n) = 0 := fun p => by rw [List.drop_of_length_le (by omega)]; rfl
    refine Ev.step (fun k => ?_) (Ev.now _)
    simp only [phase_mains.l0]
    rw [if_neg (by omega), h0, h0, h0]
    rfl
  | succ d ih =>
    intro n a b c hn ha hb hc
    have hlt : n < main.length := by omega
    rw [cnt_drop _ _ n hlt, cnt_drop _ _ n hlt, cnt_drop _ _ n hlt]
    obtain ⟨K1, h1⟩ := hL (rd_T67 main (n : Int)).f0
    obtain ⟨K2, h2⟩ := over_ev hL (nm := nm) (lb := lb) (ini := ini) (main := main) (rs := rs) (x := x) (y := y) n hlt
    obtain ⟨K3, h3⟩ := ih (n + 1) (a + if upB L (rd_T67 main (n : Int)) = true then 1 else 0) (b + if overB L rs (rd_T67 main (n : Int)) = true then 1 else 0) (c + if goodB L (rd_T67 main (n : Int)) = true then 1 else 0) (by omega) (by split <;> omega) (by split <;> omega) (by split <;> omega)
    simp only [] at h1 h2 h3
    refine ⟨K1 + K2 + K3 + 2, fun k hk => ?_⟩
    obtain ⟨k, rfl⟩ : ∃ m, k = m + 2 := ⟨k - 2, by omega⟩
    have h3' := h3 k (by omega)
    simp only [Nat.add_assoc] at h3' ⊢
    rw [← h3']
    simp only [phase_mains.l0]
    rw [if_pos (by omega), if_pos (by omega), if_pos (by omega), h1 (k + 1) (by omega)]
    simp only [Option.bind_some, phase_mains.j1]
    rw [h2 k (by omega), done_is]
    simp only [Option.bind_some]
    have wa : wrap64 ((a : Int) + 1) = ((a + 1 : Nat) : Int) := wrap_next a (by omega)
    have wb : wrap64 ((b : Int) + 1) = ((b + 1 : Nat) : Int) := wrap_next b (by omega)
    have wc : wrap64 ((c : Int) + 1) = ((c + 1 : Nat) : Int) := wrap_next c (by omega)
    have wn : wrap64 ((n : Int) + 1) = ((n + 1 : Nat) : Int) := wrap_next n (by omega)
    rw [wa, wb, wc, wn]
    have hg : goodB L (rd_T67 main (n : Int)) = ((L (rd_T67 main (n : Int)).f0).2.2.2.1 == 4 && ((L (rd_T67 main (n : Int)).f0).2.2.2.2.1 == 0 && ((L (rd_T67 main (n : Int)).f0).2.2.2.2.2.1 == 0))) := rfl
    rw [← hg]
    by_cases u : (L (rd_T67 main (n : Int)).f0).2.2.2.1 > 1
    · have hu : upB L (rd_T67 main (n : Int)) = true := decide_eq_true u
      rw [if_pos u, hu]
      cases overB L rs (rd_T67 main (n : Int)) <;> cases goodB L (rd_T67 main (n : Int)) <;> rfl
    · have hu : upB L (rd_T67 main (n : Int)) = false := decide_eq_false u
      rw [if_neg u, hu]
      cases overB L rs (rd_T67 main (n : Int)) <;> cases goodB L (rd_T67 main (n : Int)) <;> rfl
theorem mains_ev (hm : main.length ≤ 9223372036854775807) : Ev (fun k => phase_mains.f k nm lb ini main rs x y l) (((cnt (upB L) main : Nat) : Int), ((cnt (overB L rs) main : Nat) : Int), ((cnt (goodB L) main : Nat) : Int)) := by
  show Ev (fun k => phase_mains.l0 k l 0 0 0 main (main.length : Int) 0 nm lb ini main rs x y) _
  have := mains_loop hL (nm := nm) (lb := lb) (ini := ini) (main := main) (rs := rs) (x := x) (y := y) hm main.length 0 0 0 0 (by omega) (by omega) (by omega) (by omega)
  simpa using this
theorem inits_loop (hm : ini.length ≤ 9223372036854775807) : ∀ (d n a : Nat), n + d = ini.length → a ≤ n →
    ∃ r, Ev (fun k => phase_Inits.l0 k l (a : Int) false ini (ini.length : Int) (n : Int) nm lb ini main rs x y) r := by
  intro d
  induction d with
  | zero =>
    intro n a hn ha
    refine ⟨_, Ev.step (fun k => ?_) (Ev.now ((a : Int), false))⟩
    simp only [phase_Inits.l0]
    rw [if_neg (by omega)]
  | succ d ih =>
    intro n a hn ha
    obtain ⟨K1, h1⟩ := hL (rd_T67 ini (n : Int)).f0
    obtain ⟨r, K2, h2⟩ := ih (n + 1) (a + 1) (by omega) (by omega)
    simp only [] at h1 h2
    have wa : wrap64 ((a : Int) + 1) = ((a + 1 : Nat) : Int) := wrap_next a (by omega)
    have wn : wrap64 ((n : Int) + 1) = ((n + 1 : Nat) : Int) := wrap_next n (by omega)
    by_cases hg : ((L (rd_T67 ini (n : Int)).f0).2.2.2.1 == 4 && ((L (rd_T67 ini (n : Int)).f0).2.2.2.2.1 == 0 && ((L (rd_T67 ini (n : Int)).f0).2.2.2.2.2.1 == 0))) = true
    · refine ⟨r, K1 + K2 + 1, fun k hk => ?_⟩
      obtain ⟨k, rfl⟩ : ∃ m, k = m + 1 := ⟨k - 1, by omega⟩
      simp only [phase_Inits.l0]
      rw [if_pos (by omega), if_pos (by omega), if_pos (by omega), h1 k (by omega)]
      simp only [Option.bind_some, done_is]
      rw [if_pos hg, wa, wn]
      exact h2 k (by omega)
    · by_cases h4 : (L (rd_T67 ini (n : Int)).f0).2.2.2.1 = 4
      · refine ⟨((a : Int), rs == 1), K1 + K2 + 1, fun k hk => ?_⟩
        obtain ⟨k, rfl⟩ : ∃ m, k = m + 1 := ⟨k - 1, by omega⟩
        simp only [phase_Inits.l0]
        rw [if_pos (by omega), if_pos (by omega), if_pos (by omega), h1 k (by omega)]
        simp only [Option.bind_some, done_is]
        rw [if_neg hg, if_pos h4]
      · refine ⟨((a : Int), false), K1 + K2 + 1, fun k hk => ?_⟩
        obtain ⟨k, rfl⟩ : ∃ m, k = m + 1 := ⟨k - 1, by omega⟩
        simp only [phase_Inits.l0]
        rw [if_pos (by omega), if_pos (by omega), if_pos (by omega), h1 k (by omega)]
        simp only [Option.bind_some, done_is]
        rw [if_neg hg, if_neg h4]
/-- What Of answers, of any pod whose mains are as counted. -/
theorem of_ev (hm : main.length ≤ 9223372036854775807) (hi : ini.length ≤ 9223372036854775807) : ∃ r, Ev (fun k => phase_Of.f k nm lb ini main rs x y l) r ∧ 1 ≤ r ∧ r ≤ 4 ∧
    (ini = [] → (cnt (upB L) main < main.length ∧ r = 1) ∨ (main.length ≤ cnt (upB L) main ∧ cnt (overB L rs) main < main.length ∧ r = 2) ∨ (main.length ≤ cnt (upB L) main ∧ main.length ≤ cnt (overB L rs) main ∧ (r = 3 ∨ r = 4))) := by
  obtain ⟨K1, h1⟩ := mains_ev hL (nm := nm) (lb := lb) (ini := ini) (main := main) (rs := rs) (x := x) (y := y) hm
  obtain ⟨q, K2, h2⟩ := inits_loop hL (nm := nm) (lb := lb) (ini := ini) (main := main) (rs := rs) (x := x) (y := y) hi ini.length 0 0 (by omega) (by omega)
  simp only [] at h1 h2
  have key : ∀ k, K1 + K2 + 1 ≤ k → phase_Of.f k nm lb ini main rs x y l = (if q.2 = true then some 4 else if q.1 < (ini.length : Int) then phase_Of.j0 k ((cnt (overB L rs) main : Nat) : Int) ((cnt (goodB L) main : Nat) : Int) (main.length : Int) true else phase_Of.j0 k ((cnt (overB L rs) main : Nat) : Int) ((cnt (goodB L) main : Nat) : Int) (main.length : Int) (decide (((cnt (upB L) main : Nat) : Int) < (main.length : Int)))) := by
    intro k hk
    have e2 : phase_Inits.f k nm lb ini main rs x y l = some q := h2 k (by omega)
    rw [phase_Of.f, e2]
    simp only [Option.bind_some]
    rw [h1 k (by omega)]
    rfl
  have hq : ini = [] → q = (0, false) := by
    intro h0
    subst h0
    have e := h2 (K2 + 1) (by omega)
    simp only [phase_Inits.l0] at e
    rw [if_neg (by simp)] at e
    exact (Option.some.inj e).symm
  by_cases f : q.2 = true
  · refine ⟨4, ⟨K1 + K2 + 1, fun k hk => (key k hk).trans (if_pos f)⟩, by omega, by omega, fun h0 => ?_⟩
    rw [hq h0] at f
    cases f
  · by_cases g : q.1 < (ini.length : Int)
    · refine ⟨1, ⟨K1 + K2 + 1, fun k hk => ?_⟩, by omega, by omega, fun h0 => ?_⟩
      · refine (key k hk).trans ?_
        rw [if_neg f, if_pos g]
        obtain ⟨k, rfl⟩ : ∃ m, k = m + 1 := ⟨k - 1, by omega⟩
        rfl
      · rw [hq h0, h0] at g
        simp at g
    · by_cases u : cnt (upB L) main < main.length
      · refine ⟨1, ⟨K1 + K2 + 1, fun k hk => ?_⟩, by omega, by omega, fun _ => .inl ⟨u, rfl⟩⟩
        refine (key k hk).trans ?_
        rw [if_neg f, if_neg g, decide_eq_true (by omega)]
        obtain ⟨k, rfl⟩ : ∃ m, k = m + 1 := ⟨k - 1, by omega⟩
        rfl
      · by_cases o : cnt (overB L rs) main < main.length
        · refine ⟨2, ⟨K1 + K2 + 1, fun k hk => ?_⟩, by omega, by omega, fun _ => .inr (.inl ⟨by omega, o, rfl⟩)⟩
          refine (key k hk).trans ?_
          rw [if_neg f, if_neg g, decide_eq_false (by omega)]
          obtain ⟨k, rfl⟩ : ∃ m, k = m + 1 := ⟨k - 1, by omega⟩
          simp only [phase_Of.j0]
          rw [if_neg (by simp), if_pos (by omega)]
        · by_cases gd : ((cnt (goodB L) main : Nat) : Int) = (main.length : Int)
          · refine ⟨3, ⟨K1 + K2 + 1, fun k hk => ?_⟩, by omega, by omega, fun _ => .inr (.inr ⟨by omega, by omega, .inl rfl⟩)⟩
            refine (key k hk).trans ?_
            rw [if_neg f, if_neg g, decide_eq_false (by omega)]
            obtain ⟨k, rfl⟩ : ∃ m, k = m + 1 := ⟨k - 1, by omega⟩
            simp only [phase_Of.j0]
            rw [if_neg (by simp), if_neg (by omega), if_pos gd]
          · refine ⟨4, ⟨K1 + K2 + 1, fun k hk => ?_⟩, by omega, by omega, fun _ => .inr (.inr ⟨by omega, by omega, .inr rfl⟩)⟩
            refine (key k hk).trans ?_
            rw [if_neg f, if_neg g, decide_eq_false (by omega)]
            obtain ⟨k, rfl⟩ : ∃ m, k = m + 1 := ⟨k - 1, by omega⟩
            simp only [phase_Of.j0]
            rw [if_neg (by simp), if_neg (by omega), if_neg gd]
end
end Go.Proofs.Ytgpoolcaooiemaa.SemPhaseRuns
