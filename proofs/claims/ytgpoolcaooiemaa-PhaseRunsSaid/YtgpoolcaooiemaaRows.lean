/-
  No cell of these rows narrows 'for every input' (looked for: loops, veiled, ifaces, maps, wideKeys, modest, calm, conditions, laid).
  DERIVED. THE GIVEN ROWS OF THIS SEAT. 6 by the template 'for every input the law returns true; each argument reads behind the call as it read before'; 0 by the template 'total and deterministic' (their statements: YtgpoolcaooiemaaTotals.lean).
  GIVEN WITH THE SEED: the statements are not yours to turn. If you find one false, say at which input.
  Laid BY PROGRAM, IN A SANDBOX (cutbox-rows.mjs): the forced cells as the released guide's own fill.sh prints them over the translation a6a2cd336a8f4761… (all of the seat's roots in one cut). By AI agents, Wed Nov 11 2026. No macro, syntax, notation, axiom, sorry.
-/
import Derived.Test.YtgpoolcaooiemaaChecked
import GoSem.Claim
import GoSem.ClaimJoined
import GoSem.ClaimMapViews
import Derived.JoinedTies
import Derived.KernelRfl
namespace Go.Proofs.Ytgpoolcaooiemaa
/- THE CELL 'sum', in the pinned program and in every row, IS THE sha256 OF THE DUMP (.gsa) THAT YtgpoolcaooiemaaProg.lean LOADS. Nothing in Lean hashes anything: it is a label: what it is worth is what the hold of that sum in a sandbox is worth. -/
noncomputable def Try.pinned : Pinned := { name := "ytgpoolcaooiemaa", sum := "a6a2cd336a8f4761e96350198bad4330b2b106510ecdab474e451b1adcf76f31", checked := Try.checked }
namespace Rows
def none {H : Type} : Left H := { results := [], args := [] }

/-- 'provostlaw19.CtrEnds': WHATEVER THE INPUT: true; the input reads as it did. -/
def ctrEndsSpec : ChangeSpec := { name := "ctrEnds", fn := fun _ => fun
  | [d1, d2] => { results := [.lit (.bool true)], args := [d1, d2] }
  | _ => none }
def ctrEndsRow : OpenClaim := { program := "ytgpoolcaooiemaa", sum := "a6a2cd336a8f4761e96350198bad4330b2b106510ecdab474e451b1adcf76f31", func := "provost/provostlaw19.CtrEnds", spec := "ctrEnds", apart := false }
def CtrEndsSaid : Prop := ctrEndsRow.holds Try.pinned (OpenSpec.ofChange ctrEndsSpec)

/-- ITS FALSE NEIGHBOUR: 'it returns false'. Refute it at one input. -/
def ctrEndsWrong : ChangeSpec := { name := "ctrEnds", fn := fun _ => fun
  | [d1, d2] => { results := [.lit (.bool false)], args := [d1, d2] }
  | _ => none }
def CtrEndsWrongFalsely : Prop := ctrEndsRow.holds Try.pinned (OpenSpec.ofChange ctrEndsWrong)

/-- 'provostlaw19.CtrSteps': WHATEVER THE INPUT: true; the input reads as it did. -/
def ctrStepsSpec : ChangeSpec := { name := "ctrSteps", fn := fun _ => fun
  | [d1, d2, d3] => { results := [.lit (.bool true)], args := [d1, d2, d3] }
  | _ => none }
def ctrStepsRow : OpenClaim := { program := "ytgpoolcaooiemaa", sum := "a6a2cd336a8f4761e96350198bad4330b2b106510ecdab474e451b1adcf76f31", func := "provost/provostlaw19.CtrSteps", spec := "ctrSteps", apart := false }
def CtrStepsSaid : Prop := ctrStepsRow.holds Try.pinned (OpenSpec.ofChange ctrStepsSpec)

/-- ITS FALSE NEIGHBOUR: 'it returns false'. Refute it at one input. -/
def ctrStepsWrong : ChangeSpec := { name := "ctrSteps", fn := fun _ => fun
  | [d1, d2, d3] => { results := [.lit (.bool false)], args := [d1, d2, d3] }
  | _ => none }
def CtrStepsWrongFalsely : Prop := ctrStepsRow.holds Try.pinned (OpenSpec.ofChange ctrStepsWrong)

/-- 'provostlaw19.CtrOnward': WHATEVER THE INPUT: true; the input reads as it did. -/
def ctrOnwardSpec : ChangeSpec := { name := "ctrOnward", fn := fun _ => fun
  | [d] => { results := [.lit (.bool true)], args := [d] }
  | _ => none }
def ctrOnwardRow : OpenClaim := { program := "ytgpoolcaooiemaa", sum := "a6a2cd336a8f4761e96350198bad4330b2b106510ecdab474e451b1adcf76f31", func := "provost/provostlaw19.CtrOnward", spec := "ctrOnward", apart := false }
def CtrOnwardSaid : Prop := ctrOnwardRow.holds Try.pinned (OpenSpec.ofChange ctrOnwardSpec)

/-- ITS FALSE NEIGHBOUR: 'it returns false'. Refute it at one input. -/
def ctrOnwardWrong : ChangeSpec := { name := "ctrOnward", fn := fun _ => fun
  | [d] => { results := [.lit (.bool false)], args := [d] }
  | _ => none }
def CtrOnwardWrongFalsely : Prop := ctrOnwardRow.holds Try.pinned (OpenSpec.ofChange ctrOnwardWrong)

/-- 'provostlaw27.PhaseMerges': WHATEVER THE INPUT: true; the input reads as it did. -/
def phaseMergesSpec : ChangeSpec := { name := "phaseMerges", fn := fun _ => fun
  | [d1, d2] => { results := [.lit (.bool true)], args := [d1, d2] }
  | _ => none }
def phaseMergesRow : OpenClaim := { program := "ytgpoolcaooiemaa", sum := "a6a2cd336a8f4761e96350198bad4330b2b106510ecdab474e451b1adcf76f31", func := "provost/provostlaw27.PhaseMerges", spec := "phaseMerges", apart := false }
def PhaseMergesSaid : Prop := phaseMergesRow.holds Try.pinned (OpenSpec.ofChange phaseMergesSpec)

/-- ITS FALSE NEIGHBOUR: 'it returns false'. Refute it at one input. -/
def phaseMergesWrong : ChangeSpec := { name := "phaseMerges", fn := fun _ => fun
  | [d1, d2] => { results := [.lit (.bool false)], args := [d1, d2] }
  | _ => none }
def PhaseMergesWrongFalsely : Prop := phaseMergesRow.holds Try.pinned (OpenSpec.ofChange phaseMergesWrong)

/-- 'provostlaw27.PhaseOnward': WHATEVER THE INPUT: true; the input reads as it did. -/
def phaseOnwardSpec : ChangeSpec := { name := "phaseOnward", fn := fun _ => fun
  | [d1, d2] => { results := [.lit (.bool true)], args := [d1, d2] }
  | _ => none }
def phaseOnwardRow : OpenClaim := { program := "ytgpoolcaooiemaa", sum := "a6a2cd336a8f4761e96350198bad4330b2b106510ecdab474e451b1adcf76f31", func := "provost/provostlaw27.PhaseOnward", spec := "phaseOnward", apart := false }
def PhaseOnwardSaid : Prop := phaseOnwardRow.holds Try.pinned (OpenSpec.ofChange phaseOnwardSpec)

/-- ITS FALSE NEIGHBOUR: 'it returns false'. Refute it at one input. -/
def phaseOnwardWrong : ChangeSpec := { name := "phaseOnward", fn := fun _ => fun
  | [d1, d2] => { results := [.lit (.bool false)], args := [d1, d2] }
  | _ => none }
def PhaseOnwardWrongFalsely : Prop := phaseOnwardRow.holds Try.pinned (OpenSpec.ofChange phaseOnwardWrong)

/-- 'provostlaw27.PhaseRuns': WHATEVER THE INPUT: true; the input reads as it did. -/
def phaseRunsSpec : ChangeSpec := { name := "phaseRuns", fn := fun _ => fun
  | [d1, d2] => { results := [.lit (.bool true)], args := [d1, d2] }
  | _ => none }
def phaseRunsRow : OpenClaim := { program := "ytgpoolcaooiemaa", sum := "a6a2cd336a8f4761e96350198bad4330b2b106510ecdab474e451b1adcf76f31", func := "provost/provostlaw27.PhaseRuns", spec := "phaseRuns", apart := false }
def PhaseRunsSaid : Prop := phaseRunsRow.holds Try.pinned (OpenSpec.ofChange phaseRunsSpec)

/-- ITS FALSE NEIGHBOUR: 'it returns false'. Refute it at one input. -/
def phaseRunsWrong : ChangeSpec := { name := "phaseRuns", fn := fun _ => fun
  | [d1, d2] => { results := [.lit (.bool false)], args := [d1, d2] }
  | _ => none }
def PhaseRunsWrongFalsely : Prop := phaseRunsRow.holds Try.pinned (OpenSpec.ofChange phaseRunsWrong)

/- THE SECOND FORM. 'bulk': how many values and letters a reading holds, each counted each time it is reached (what is shared counts as often as it is met; a slice's spare places count too). A statement '..UptoSaid' is the law's where the arguments, and the package variables that the reading takes, are together of bulk at most 1048576: NARROWER than '..Said'. Prove '..Said' where nothing that the law and all that it calls make is longer than what came in: it says more and counts as full. Else prove '..UptoSaid'. A law counts once. -/
mutual
def uptoBulk {H : Type} : DataW H → Nat
  | .lit (.string bytes) => bytes.length + 1
  | .lit _ => 1
  | .nil => 1
  | .ptr d => uptoBulk d + 1
  | .slice elems spare => uptoBulkAll elems + uptoBulkAll spare + 1
  | .agg parts => uptoBulkAll parts + 1
  | .iface _ d => uptoBulk d + 1
  | .map entries => uptoBulkEntries entries + 1
  | .held _ => 1
def uptoBulkAll {H : Type} : List (DataW H) → Nat
  | [] => 0
  | d :: r => uptoBulk d + uptoBulkAll r
def uptoBulkEntries {H : Type} : List (Lit × DataW H) → Nat
  | [] => 0
  | x :: r => uptoBulkEntry x + uptoBulkEntries r
def uptoBulkEntry {H : Type} : Lit × DataW H → Nat
  | (.string bytes, d) => bytes.length + uptoBulk d + 1
  | (_, d) => uptoBulk d + 1
 end
def uptoSmall : (H : Type) → List (DataW H) → Bool := fun _ ds => decide (uptoBulkAll ds ≤ 1048576)
def OpenSpec.upto (s : _root_.Go.ChangeSpec) : _root_.Go.OpenSpec := { _root_.Go.OpenSpec.ofChange s with cond := some uptoSmall }

/-- 'provostlaw19.CtrEnds', WHERE WHAT IT READS IS OF BULK AT MOST 1048576: true; the input reads as it did. -/
def ctrEndsUptoRow : OpenClaim := { program := "ytgpoolcaooiemaa", sum := "a6a2cd336a8f4761e96350198bad4330b2b106510ecdab474e451b1adcf76f31", func := "provost/provostlaw19.CtrEnds", spec := "ctrEnds", apart := false, narrowed := true }
def CtrEndsUptoSaid : Prop := ctrEndsUptoRow.holds Try.pinned (OpenSpec.upto ctrEndsSpec)

/-- 'provostlaw19.CtrSteps', WHERE WHAT IT READS IS OF BULK AT MOST 1048576: true; the input reads as it did. -/
def ctrStepsUptoRow : OpenClaim := { program := "ytgpoolcaooiemaa", sum := "a6a2cd336a8f4761e96350198bad4330b2b106510ecdab474e451b1adcf76f31", func := "provost/provostlaw19.CtrSteps", spec := "ctrSteps", apart := false, narrowed := true }
def CtrStepsUptoSaid : Prop := ctrStepsUptoRow.holds Try.pinned (OpenSpec.upto ctrStepsSpec)

/-- 'provostlaw19.CtrOnward', WHERE WHAT IT READS IS OF BULK AT MOST 1048576: true; the input reads as it did. -/
def ctrOnwardUptoRow : OpenClaim := { program := "ytgpoolcaooiemaa", sum := "a6a2cd336a8f4761e96350198bad4330b2b106510ecdab474e451b1adcf76f31", func := "provost/provostlaw19.CtrOnward", spec := "ctrOnward", apart := false, narrowed := true }
def CtrOnwardUptoSaid : Prop := ctrOnwardUptoRow.holds Try.pinned (OpenSpec.upto ctrOnwardSpec)

/-- 'provostlaw27.PhaseMerges', WHERE WHAT IT READS IS OF BULK AT MOST 1048576: true; the input reads as it did. -/
def phaseMergesUptoRow : OpenClaim := { program := "ytgpoolcaooiemaa", sum := "a6a2cd336a8f4761e96350198bad4330b2b106510ecdab474e451b1adcf76f31", func := "provost/provostlaw27.PhaseMerges", spec := "phaseMerges", apart := false, narrowed := true }
def PhaseMergesUptoSaid : Prop := phaseMergesUptoRow.holds Try.pinned (OpenSpec.upto phaseMergesSpec)

/-- 'provostlaw27.PhaseOnward', WHERE WHAT IT READS IS OF BULK AT MOST 1048576: true; the input reads as it did. -/
def phaseOnwardUptoRow : OpenClaim := { program := "ytgpoolcaooiemaa", sum := "a6a2cd336a8f4761e96350198bad4330b2b106510ecdab474e451b1adcf76f31", func := "provost/provostlaw27.PhaseOnward", spec := "phaseOnward", apart := false, narrowed := true }
def PhaseOnwardUptoSaid : Prop := phaseOnwardUptoRow.holds Try.pinned (OpenSpec.upto phaseOnwardSpec)

/-- 'provostlaw27.PhaseRuns', WHERE WHAT IT READS IS OF BULK AT MOST 1048576: true; the input reads as it did. -/
def phaseRunsUptoRow : OpenClaim := { program := "ytgpoolcaooiemaa", sum := "a6a2cd336a8f4761e96350198bad4330b2b106510ecdab474e451b1adcf76f31", func := "provost/provostlaw27.PhaseRuns", spec := "phaseRuns", apart := false, narrowed := true }
def PhaseRunsUptoSaid : Prop := phaseRunsUptoRow.holds Try.pinned (OpenSpec.upto phaseRunsSpec)

end Rows
end Go.Proofs.Ytgpoolcaooiemaa
