/- From the row's reading to the printed contract's, for the law PhaseRuns. -/
import Derived.Test.YtgpoolcaooiemaaPhR
import Derived.Test.YtgpoolcaooiemaaFits
namespace Go.Proofs.Ytgpoolcaooiemaa.phaseRunsWalk
set_option linter.unusedVariables false
open Go Go.RowKit Go.Proofs.Ytgpoolcaooiemaa.K Go.Proofs.Ytgpoolcaooiemaa.SemPhaseRuns Go.Proofs.Ytgpoolcaooiemaa.PPhaseRuns Go.Proofs.YtgpoolcaooiemaaW.PrintWords Go.Proofs.Ytgpoolcaooiemaa.F
theorem fInt : Fits Try.prog 3 (Kd.int .i64) (fun _ => True) := (fits_int Try.underlying3).mono fun _ _ => trivial
theorem fStr : Fits Try.prog 9 Kd.string (fun _ => True) := (fits_str Try.underlying9).mono fun _ _ => trivial
theorem fBool : Fits Try.prog 4 Kd.bool (fun _ => True) := (fits_bool Try.underlying4).mono fun _ _ => trivial
theorem f25 : Fits Try.prog 25 k25 (fun _ => True) :=
  (fits_iso (fun x : S25 => (x.f0, x.f1, x.f2)) (fun p => ⟨p.1, p.2.1, p.2.2⟩) (fun _ => rfl) (fits_struct (N := 3) Try.underlying25 (by kernel_rfl) (fitsF_cons (n1 := 1) rfl rfl (by kernel_rfl) fInt (fitsF_cons (n1 := 1) rfl rfl (by kernel_rfl) fInt (fitsF_last rfl rfl (by kernel_rfl) fInt))))).mono fun _ _ => trivial
theorem f62 : Fits Try.prog 62 k62 (fun _ => True) :=
  (fits_iso (fun x : S62 => (x.f0, x.f1, x.f2)) (fun p => ⟨p.1, p.2.1, p.2.2⟩) (fun _ => rfl) (fits_struct (N := 3) Try.underlying62 (by kernel_rfl) (fitsF_cons (n1 := 1) rfl rfl (by kernel_rfl) fInt (fitsF_cons (n1 := 1) rfl rfl (by kernel_rfl) fInt (fitsF_last rfl rfl (by kernel_rfl) fInt))))).mono fun _ _ => trivial
theorem f65 : Fits Try.prog 65 k65 (fun _ => True) :=
  (fits_iso (fun x : S65 => (x.f0, x.f1)) (fun p => ⟨p.1, p.2⟩) (fun _ => rfl) (fits_struct (N := 2) Try.underlying65 (by kernel_rfl) (fitsF_cons (n1 := 1) rfl rfl (by kernel_rfl) fInt (fitsF_last rfl rfl (by kernel_rfl) fInt)))).mono fun _ _ => trivial
theorem f73 : Fits Try.prog 73 k73 (fun _ => True) :=
  (fits_iso (fun x : S73 => (x.f0, x.f1)) (fun p => ⟨p.1, p.2⟩) (fun _ => rfl) (fits_struct (N := 2) Try.underlying73 (by kernel_rfl) (fitsF_cons (n1 := 1) rfl rfl (by kernel_rfl) fStr (fitsF_last rfl rfl (by kernel_rfl) fStr)))).mono fun _ _ => trivial
theorem f59 : Fits Try.prog 59 k59 (fun _ => True) :=
  (fits_iso (fun x : S59 => (x.f0, x.f1, x.f2, x.f3, x.f4)) (fun p => ⟨p.1, p.2.1, p.2.2.1, p.2.2.2.1, p.2.2.2.2⟩) (fun _ => rfl) (fits_struct (N := 7) Try.underlying59 (by kernel_rfl) (fitsF_cons (n1 := 1) rfl rfl (by kernel_rfl) fInt (fitsF_cons (n1 := 1) rfl rfl (by kernel_rfl) fStr (fitsF_cons (n1 := 1) rfl rfl (by kernel_rfl) fStr (fitsF_cons (n1 := 3) rfl rfl (by kernel_rfl) f25 (fitsF_last rfl rfl (by kernel_rfl) fBool))))))).mono fun _ _ => trivial
theorem f63 : Fits Try.prog 63 (Kd.slice 3 (Kd.int .i64)) (fun _ => True) := (fits_slice 0 Try.underlying63 (by kernel_rfl) fInt).mono fun _ _ => trivial
theorem f67 : Fits Try.prog 67 k67 (fun _ => True) :=
  (fits_iso (fun x : S67 => (x.f0, x.f1, x.f2, x.f3, x.f4, x.f5)) (fun p => ⟨p.1, p.2.1, p.2.2.1, p.2.2.2.1, p.2.2.2.2.1, p.2.2.2.2.2⟩) (fun _ => rfl) (fits_struct (N := 11) Try.underlying67 (by kernel_rfl) (fitsF_cons (n1 := 1) rfl rfl (by kernel_rfl) fStr (fitsF_cons (n1 := 1) rfl rfl (by kernel_rfl) fStr (fitsF_cons (n1 := 3) rfl rfl (by kernel_rfl) f62 (fitsF_cons (n1 := 3) rfl rfl (by kernel_rfl) f62 (fitsF_cons (n1 := 1) rfl rfl (by kernel_rfl) f63 (fitsF_last rfl rfl (by kernel_rfl) f65)))))))).mono fun _ _ => trivial
theorem f48 : Fits Try.prog 48 (Kd.slice 73 k73) (fun l => l.length ≤ maxLen) := (fits_slice z73 Try.underlying48 (by kernel_rfl) f73).mono fun _ h => h.1
theorem f49 : Fits Try.prog 49 (Kd.slice 67 k67) (fun l => l.length ≤ maxLen) := (fits_slice z67 Try.underlying49 (by kernel_rfl) f67).mono fun _ h => h.1
theorem f55 : Fits Try.prog 55 (Kd.slice 59 k59) (fun l => l.length ≤ maxLen) := (fits_slice z59 Try.underlying55 (by kernel_rfl) f59).mono fun _ h => h.1
theorem f52 : Fits Try.prog 52 (Kd.slice 55 (Kd.slice 59 k59)) (fun l => l.length ≤ maxLen ∧ ∀ v ∈ l, v.length ≤ maxLen) := fits_slice [] Try.underlying52 (by kernel_rfl) f55
/-- What is told of a spec that comes in. -/
def InS (w : World) (cs : Array Value) : Prop := ∃ (nm : ByteArray) (A1 : Option Addr) (c1 : Nat) (lb : List S73) (A2 : Option Addr) (c2 : Nat) (ini : List S67) (A3 : Option Addr) (c3 : Nat) (main : List S67) (rs x y : Int),
  cs = #[.string nm, .slice A1 lb.length c1, .slice A2 ini.length c2, .slice A3 main.length c3, .int .i64 rs, .int .i64 x, .int .i64 y] ∧ lb.length ≤ c1 ∧ ini.length ≤ c2 ∧ main.length ≤ c3 ∧
  Kd.C k73 w A1 lb.length lb ∧ Kd.C k67 w A2 ini.length ini ∧ Kd.C k67 w A3 main.length main ∧ lb.length ≤ maxLen ∧ ini.length ≤ maxLen ∧ main.length ≤ maxLen
theorem spec_in {H : Type} {enc : TypeId × Value → H} {w : World} {base : Nat} {spare : Nat → Bool} {held : Bool} {fuel : Nat} {cs : Array Value} {x : DataW H × List MemPlace} (hx : DataW.trod enc Try.prog w base spare held fuel 51 cs.toList = some x) : InS w cs := by
  have h51 := fits_struct (N := 7) Try.underlying51 (by kernel_rfl) (fitsF_cons (n1 := 1) rfl rfl (by kernel_rfl) fStr (fitsF_cons (n1 := 1) rfl rfl (by kernel_rfl) f48 (fitsF_cons (n1 := 1) rfl rfl (by kernel_rfl) f49 (fitsF_cons (n1 := 1) rfl rfl (by kernel_rfl) f49 (fitsF_cons (n1 := 1) rfl rfl (by kernel_rfl) fInt (fitsF_cons (n1 := 1) rfl rfl (by kernel_rfl) fInt (fitsF_last rfl rfl (by kernel_rfl) fInt)))))))
  obtain ⟨⟨nm, lb, ini, main, rs, px, py⟩, hv, hg⟩ := h51 H enc w base spare held fuel _ x hx
  obtain ⟨_, _, e0, rfl, _, _, rfl, ⟨A1, c1, rfl, hl1, hC1⟩, _, _, rfl, ⟨A2, c2, rfl, hl2, hC2⟩, _, _, rfl, ⟨A3, c3, rfl, hl3, hC3⟩, _, _, rfl, rfl, _, _, rfl, rfl, rfl⟩ := hv
  obtain ⟨_, g1, g2, g3, _⟩ := hg
  refine ⟨nm, A1, c1, lb, A2, c2, ini, A3, c3, main, rs, px, py, ?_, hl1, hl2, hl3, hC1, hC2, hC3, g1, g2, g3⟩
  apply Array.ext'
  rw [e0]
  rfl
/-- What is told of the list that comes in. -/
def In (w : World) (a : Option Addr) (len cap : Nat) : Prop := ∃ l : List S59, l.length = len ∧ l.length ≤ cap ∧ Kd.C k59 w a l.length l ∧ l.length ≤ maxLen
theorem chB {w w' : World} (h : Below w.heap.size w w') : Ch [] w w' := ⟨h.os, h.tape, h.output, h.size, fun k hk _ => h.block k hk⟩
theorem term_at (p : Int) (W : World) : Calls Try.prog 26 #[.int .i64 p] W fun e w' => e = .returned (.bool (decide (p = 3 ∨ p = 4))) ∧ Ch [] W w' :=
  (phase_Terminal.calls p _ W (by unfold phase_Terminal.f; by_cases h : p = 3 <;> by_cases h4 : p = 4 <;> simp [h, h4])).mono fun e w' ⟨he, hd⟩ => ⟨he, by obtain ⟨n, rfl⟩ := hd; exact (Ch.refl [] W).drewN n⟩
theorem walk (a0 : Array Value) (a1 : Option Addr) (len1 cap1 : Nat) (w : World) (w0 : InS w a0) (w1 : In w a1 len1 cap1) :
    Calls Try.prog 8 #[.agg a0, .slice a1 len1 cap1] w fun e w' => e = .returned (.bool true) ∧ Below w.heap.size w w' := by
  obtain ⟨nm, A1, c1, lb, A2, c2, ini, A3, c3, main, rs, x, y, rfl, hl1, hl2, hl3, hC1, hC2, hC3, g1, g2, g3⟩ := w0
  obtain ⟨l, rfl, hc, hC, hx⟩ := w1
  have g3' := g3
  unfold maxLen at g1 g2 g3 hx
  obtain ⟨L, hL⟩ := last_all l (by omega)
  obtain ⟨b, hb⟩ := light_ev nm lb ini main rs x y (by omega) (by omega) (by omega)
  obtain ⟨b2, hb2⟩ := right_ev l (by omega)
  obtain ⟨p, hp⟩ : ∃ p, 0 < main.length → Ev (fun k => phase_Of.f k nm lb [] main rs x y l) p ∧ Rend (main.all (exB L)) (main.all (upB L)) p rs := by
    rcases Nat.eq_zero_or_pos main.length with h | h
    · exact ⟨0, fun h' => by omega⟩
    · obtain ⟨p, h1, h2⟩ := ends hL nm lb main rs x y (by omega) h
      exact ⟨p, fun _ => ⟨h1, h2⟩⟩
  obtain ⟨k1, e1⟩ := hb.rounds
  obtain ⟨k2, e2⟩ := hb2.rounds
  refine (H.goes w nm A1 c1 lb A2 c2 ini A3 c3 main rs x y a1 cap1 l L b b2 (decide (p = 3 ∨ p = 4)) p (Lib.hid fun W => ?_) (Lib.hid fun W c => ?_) (Lib.hid fun W c => ?_) (Lib.hid fun W c q => ?_) (Lib.hid fun h0 W c => ?_) (Lib.hid fun W => term_at p W) (Lib.hid hC3) (Lib.hid g3') (Lib.hid fun h0 => ⟨(hp h0).2, rfl⟩)).mono fun _ _ ⟨h, c⟩ => ⟨h, c.below0⟩
  · exact (provostlaw27_works.calls _ true W (works_ok 0)).mono fun _ _ ⟨h, c⟩ => ⟨h, chB c⟩
  · exact (provostbook_LightSpec.calls k1 nm A1 c1 lb A2 c2 ini A3 c3 main rs x y b W (Kd.C_below hC1 c.below0) hl1 (Kd.C_below hC2 c.below0) hl2 (Kd.C_below hC3 c.below0) hl3 e1).mono fun _ _ ⟨h, c⟩ => ⟨h, chB c⟩
  · exact (provostlaw27_Right.calls k2 a1 cap1 l b2 W (Kd.C_below hC c.below0) hc e2).mono fun _ _ ⟨h, c⟩ => ⟨h, chB c⟩
  · obtain ⟨k3, e3⟩ := (hL q).rounds
    exact (phase_Last.calls k3 a1 cap1 l q _ _ _ _ _ _ _ W (Kd.C_below hC c.below0) hc e3).mono fun _ _ ⟨h, c⟩ => ⟨h, chB c⟩
  · obtain ⟨k4, e4⟩ := (hp h0).1.rounds
    exact (phase_Of.calls k4 nm A1 c1 lb none 0 [] A3 c3 main rs x y a1 cap1 l p W (Kd.C_below hC1 c.below0) hl1 ⟨rfl, by simp, fun h => absurd h (by simp)⟩ (by simp) (Kd.C_below hC3 c.below0) hl3 (Kd.C_below hC c.below0) hc e4).mono fun _ _ ⟨h, c⟩ => ⟨h, chB c⟩
end Go.Proofs.Ytgpoolcaooiemaa.phaseRunsWalk
