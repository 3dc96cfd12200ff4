/- The law PlanNames: for every kind the law returns true and its argument reads as it did: the name of any kind, and which kinds act, are as the document has them. Condition: the package's listed variable is laid as the program's text lays it, which the card ties. -/
import Derived.Test.YtgpoolcaooiemaaDoorRows
import Derived.Test.YtgpoolcaooiemaaDoorCards
import Derived.Test.YtgpoolcaooiemaaDoorTie
import Derived.Test.YtgpoolcaooiemaaDoorLaw
import Derived.ProofKit
import Derived.LaidMore
import Derived.OpenShut
import Derived.Stop.Joined
import Derived.SevenTiedAt
namespace Go.Proofs.YtgpoolcaooiemaaDoor
open Go.ChangeShapes Go.WideShapes Go.ChangeAt Go.RowKit
theorem Tryd.own : ownKnob Tryd.prog.godebug = none := by kernel_rfl
theorem gNames : Tryd.prog.globalNamed "provost/plan.names" = some 0 := by kernel_rfl
theorem tNames : (Tryd.prog.globals[0]?).map (·.type) = some 27 := by kernel_rfl
abbrev laidL : List (String × DataW (TypeId × Value)) := [("provost/plan.names", Rows.laid_provost_plan_names)]
theorem door_met (os : Os) (args : Array Value) : laidMetH Tryd.prog [("provost/plan.names", Rows.laid_provost_plan_names)] ((World.doorLaid Tryd.prog 400 os).forCall (fun _ _ => 0) ⟨#[], args, []⟩).memory :=
  laidMetH_of_parts3 (fuel := 8) (laidMet_of_run' 8 (by kernel_rfl) (by kernel_rfl)) (by kernel_rfl) (by kernel_rfl)
theorem str_at {H : Type} {enc : TypeId × Value → H} {W : World} {base : Nat} {sp : Nat → Bool} {held : Bool} {m : Nat} {cs : List Value} {y : DataW H × List MemPlace} {i : Nat} {bs : List UInt8}
    (h : DataW.trod enc Tryd.prog W base sp held m 9 ((cs.drop (i * 1)).take 1) = some y) (hy : y.1 = .lit (.string bs)) : cs[i]? = some (.string ⟨⟨bs⟩⟩) := by
  obtain ⟨s, e1, rfl, _⟩ := DataW.trod_string Tryd.underlying9 h
  have e2 : s.data.toList = bs := by simpa using hy
  have e3 : s = ⟨⟨bs⟩⟩ := by
    subst e2
    rfl
  subst e3
  have := congrArg (fun l : List Value => l[0]?) e1
  simpa [List.getElem?_take, List.getElem?_drop] using this
theorem of_laid {W : World} (h : laidMetH Tryd.prog [("provost/plan.names", Rows.laid_provost_plan_names)] W) : D.Nm W := by
  rw [MakeChecks.laidMetH_plain _ _ _ (by kernel_rfl)] at h
  obtain ⟨ps, ⟨g0, t0, cs0, f0, p0, q0, hg0, ht0, hv0, hd0, _⟩, _, _⟩ := h
  obtain rfl := Option.some.inj (gNames.symm.trans hg0)
  obtain rfl := Option.some.inj (tNames.symm.trans ht0)
  obtain ⟨xs, m1, rfl, hx1, hlen, hn3, hel⟩ := DataW.trod_array Tryd.underlying27 hd0
  have c9 : Tryd.prog.cellsOf 9 = 1 := by kernel_rfl
  rw [c9] at hel
  simp only [Rows.laid_provost_plan_names, Prod.mk.injEq, DataW.agg.injEq] at hx1
  obtain ⟨hx, _⟩ := hx1
  intro i hi
  rw [World.var?_cell hg0 hv0 i]
  have hcs : cs0[i]? = cs0.toList[i]? := by simp
  rw [hcs]
  have hi2 := hel i hi
  clear hel
  match xs, hn3, hx, hi2 with
  | [x0, x1, x2, x3, x4, x5, x6, x7, x8, x9, x10, x11, x12], _, hx, hi2 =>
    simp only [List.map_cons, List.map_nil, List.cons.injEq] at hx
    obtain ⟨e0, e1, e2, e3, e4, e5, e6, e7, e8, e9, e10, e11, e12, _⟩ := hx
    have hc : i = 0 ∨ i = 1 ∨ i = 2 ∨ i = 3 ∨ i = 4 ∨ i = 5 ∨ i = 6 ∨ i = 7 ∨ i = 8 ∨ i = 9 ∨ i = 10 ∨ i = 11 ∨ i = 12 := by omega
    rcases hc with rfl | rfl | rfl | rfl | rfl | rfl | rfl | rfl | rfl | rfl | rfl | rfl | rfl
    · exact str_at hi2 e0.symm
    · exact str_at hi2 e1.symm
    · exact str_at hi2 e2.symm
    · exact str_at hi2 e3.symm
    · exact str_at hi2 e4.symm
    · exact str_at hi2 e5.symm
    · exact str_at hi2 e6.symm
    · exact str_at hi2 e7.symm
    · exact str_at hi2 e8.symm
    · exact str_at hi2 e9.symm
    · exact str_at hi2 e10.symm
    · exact str_at hi2 e11.symm
    · exact str_at hi2 e12.symm
set_option maxRecDepth 100000 in
theorem lifted (os : Os) (started : os.Started) (H : Type) (enc : TypeId × Value → H) :
    ReturnsInHanded {} Tryd.checked os 3 .any (fun w args => (Rows.planNamesSpec.pre enc Tryd.prog Tryd.f3 [] false w args ∧ laidMetH Tryd.prog [("provost/plan.names", Rows.laid_provost_plan_names)] w) ∧ sizedMet enc Tryd.prog Tryd.f3 (OpenSpec.ofChange Rows.planNamesSpec) false w args)
      (Rows.planNamesSpec.post enc Tryd.prog Tryd.f3 false true false false) := by
  refine returnsInHanded_of_change_and (C := Tryd.checked) (X := fun w _ => laidMetH Tryd.prog [("provost/plan.names", Rows.laid_provost_plan_names)] w) (fun _ _ _ hh h => h.of_heap hh) Tryd.own started (by kernel_rfl) Tryd.func3
    (ChangeSpec.witness_shaped (enc := enc) (C := Tryd.checked) (os := os) (X := fun w _ => laidMetH Tryd.prog [("provost/plan.names", Rows.laid_provost_plan_names)] w) false (World.doorLaid Tryd.prog 400 os) #[.int .i64 0] 8 rfl (World.shaped_of_RefB (by kernel_rfl) (by kernel_rfl)) (by kernel_rfl) (by kernel_rfl) (by kernel_rfl) (door_met os _)) ?_
  intro W base args ds gs before hval0 hW _ _ hL _
  have hval : ∀ (j : Nat) t v, Tryd.f3.params[j]? = some t → args[j]? = some v → Value.okWide Tryd.prog W .any base t v := hval0
  have hW' := hW
  obtain ⟨p, q, hA0, hV, rfl, hfz, hnd⟩ := hW
  have hA : DataW.TrodAll enc Tryd.prog W 0 (fun _ => true) true Tryd.f3.params.toList args.toList ds p := hA0
  rw [Tryd.params3] at hA hval
  obtain ⟨v0, d0, rfl, rfl, h0⟩ := trodAll_one hA
  obtain ⟨rfl, rfl⟩ := trodVars_none hV
  obtain ⟨k, rfl, rfl, rfl, wk⟩ := open_int Tryd.underlying3 (hval 0 3 v0 rfl rfl) h0
  have N := of_laid hL
  clear hA0 hval0
  simp only [List.append_nil] at hW'
  refine (D.law_any k W N).mono fun e W' ⟨he, hc⟩ => ?_
  subst he
  have bel := hc.below0
  exact ⟨_, rfl, _, _, _, [], _, [], hW', trodAll_mk1 (shut_bool Tryd.underlying4 _), trodAll_mk1 (shut_int Tryd.underlying3 wk), rfl, bel.frame _, fun h => by cases h⟩
theorem planNames_row : Rows.PlanNamesSaid :=
  OpenClaim.holds_of_wide 3 Tryd.f3 rfl rfl rfl rfl rfl rfl rfl ⟨rfl, rfl, rfl, rfl, rfl⟩ rfl rfl rfl rfl rfl (by kernel_rfl) Tryd.func3 (by kernel_rfl)
    (of_decide_eq_true (by kernel_rfl)) (by unfold Func.isWrapper; first | (rw [if_pos (by decide +kernel)]; kernel_rfl) | (rw [if_neg (by decide +kernel)]; exact ⟨rfl, rfl⟩))
    (fun os started H enc _ => lifted os started H enc)
theorem planNames_holds : Rows.PlanNamesCardSaid :=
  Claim7.holds_tied_plain_at .later [] [.data] true (true, "f29a68c598191196ab67a892b9aef5374c95e25ce9ade4318dc0b9d3065a4119") false
    planNames_row (fun _ h => by cases h) (by kernel_rfl) (fun _ h => by cases h) planNames_row_tie rfl ⟨rfl, rfl⟩ (by kernel_rfl) rfl
    (fun f fn hf hfn => by
      obtain rfl : f = 3 := Option.some.inj ((show Tryd.prog.funcNamed "provost/provostlaw29.PlanNames" = some 3 by kernel_rfl).symm.trans hf) |>.symm
      obtain rfl : fn = Tryd.f3 := (Option.some.inj (Tryd.func3.symm.trans hfn)).symm
      exact ⟨by kernel_rfl, fun j t ht => by
        rw [Tryd.params3] at ht
        have hm : t ∈ [3] := by simpa using Array.mem_of_getElem? ht
        have hall : ([3].all fun u => !Tryd.prog.wantsStandIn u) = true := by kernel_rfl
        exact (show Tryd.prog.wantsStandIn t = false by simpa using List.all_eq_true.1 hall t hm)⟩)
    (by kernel_rfl)
#print axioms planNames_holds
end Go.Proofs.YtgpoolcaooiemaaDoor
