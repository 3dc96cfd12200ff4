/-
  NARROWER THAN 'FOR EVERY INPUT', by the rows' own cells (each row's printed sentence says how): PlanNames: laid.
  DERIVED. THE GIVEN ROWS OF THIS SEAT. 1 by the template 'for every input the law returns true; each argument reads behind the call as it read before'; 0 by the template 'total and deterministic' (their statements: YtgpoolcaooiemaaDoorTotals.lean).
  GIVEN WITH THE SEED: the statements are not yours to turn. If you find one false, say at which input.
  Laid BY PROGRAM, IN A SANDBOX (cutbox-rows.mjs): the forced cells as the released guide's own fill.sh prints them over the translation d739b52ca36da55a… (all of the seat's roots in one cut). By AI agents, Wed Nov 11 2026. No macro, syntax, notation, axiom, sorry.
-/
import Derived.Test.YtgpoolcaooiemaaDoorChecked
import GoSem.Claim
import GoSem.ClaimJoined
import GoSem.ClaimMapViews
import Derived.JoinedTies
import Derived.KernelRfl
namespace Go.Proofs.YtgpoolcaooiemaaDoor
/- THE CELL 'sum', in the pinned program and in every row, IS THE sha256 OF THE DUMP (.gsa) THAT YtgpoolcaooiemaaDoorProg.lean LOADS. Nothing in Lean hashes anything: it is a label: what it is worth is what the hold of that sum in a sandbox is worth. -/
noncomputable def Tryd.pinned : Pinned := { name := "ytgpoolcaooiemaadoor", sum := "d739b52ca36da55af0698c57b92dbfaac76af5166002ec21efef7acb4b06b8fe", checked := Tryd.checked }
namespace Rows
def none {H : Type} : Left H := { results := [], args := [] }

/- WHAT THE LISTED PACKAGE-LEVEL VARIABLES READ AS WHEN THE CALL BEGINS. Each datum BY PROGRAM (the guide's laid-datum.mjs) off the statement by which the dump's own 'gosem.cut.vars' lays the variable. In a bare row this is a premise. The card (YtgpoolcaooiemaaDoorCards.lean) ties it to the program's text. -/
def laid_provost_plan_names {H : Type} : DataW H := .agg [.lit (.string [110, 111, 110, 101]), .lit (.string [119, 97, 105, 116]), .lit (.string [114, 101, 116, 105, 114, 101]), .lit (.string [112, 104, 97, 115, 101]), .lit (.string [98, 111, 120]), .lit (.string [112, 117, 108, 108]), .lit (.string [109, 97, 107, 101]), .lit (.string [115, 116, 97, 114, 116]), .lit (.string [115, 116, 111, 112]), .lit (.string [97, 103, 97, 105, 110]), .lit (.string [104, 97, 108, 116]), .lit (.string [99, 108, 101, 97, 114]), .lit (.string [103, 111, 110, 101])]

/-- 'provostlaw29.PlanNames': WHATEVER THE INPUT: true; the input reads as it did. -/
def planNamesSpec : ChangeSpec := { name := "planNames", fn := fun _ => fun
  | [d] => { results := [.lit (.bool true)], args := [d] }
  | _ => none }
def planNamesRow : OpenClaim := { program := "ytgpoolcaooiemaadoor", sum := "d739b52ca36da55af0698c57b92dbfaac76af5166002ec21efef7acb4b06b8fe", func := "provost/provostlaw29.PlanNames", spec := "planNames", named := ["provost/plan.names"], apart := false, laid := [("provost/plan.names", laid_provost_plan_names)] }
def PlanNamesSaid : Prop := planNamesRow.holds Tryd.pinned (OpenSpec.ofChange planNamesSpec)

/-- ITS FALSE NEIGHBOUR: 'it returns false'. Refute it at one input. -/
def planNamesWrong : ChangeSpec := { name := "planNames", fn := fun _ => fun
  | [d] => { results := [.lit (.bool false)], args := [d] }
  | _ => none }
def PlanNamesWrongFalsely : Prop := planNamesRow.holds Tryd.pinned (OpenSpec.ofChange planNamesWrong)

/- THE SECOND FORM. 'bulk': how many values and letters a reading holds, each counted each time it is reached (what is shared counts as often as it is met; a slice's spare places count too). A statement '..UptoSaid' is the law's where the arguments, and the package variables that the reading takes, are together of bulk at most 1048576: NARROWER than '..Said'. Prove '..Said' where nothing that the law and all that it calls make is longer than what came in: it says more and counts as full. Else prove '..UptoSaid'. A law counts once. -/
mutual
def uptoBulk {H : Type} : DataW H → Nat
  | .lit (.string bytes) => bytes.length + 1
  | .lit _ => 1
  | .nil => 1
  | .ptr d => uptoBulk d + 1
  | .slice elems spare => uptoBulkAll elems + uptoBulkAll spare + 1
  | .agg parts => uptoBulkAll parts + 1
  | .iface _ d => uptoBulk d + 1
  | .map entries => uptoBulkEntries entries + 1
  | .held _ => 1
def uptoBulkAll {H : Type} : List (DataW H) → Nat
  | [] => 0
  | d :: r => uptoBulk d + uptoBulkAll r
def uptoBulkEntries {H : Type} : List (Lit × DataW H) → Nat
  | [] => 0
  | x :: r => uptoBulkEntry x + uptoBulkEntries r
def uptoBulkEntry {H : Type} : Lit × DataW H → Nat
  | (.string bytes, d) => bytes.length + uptoBulk d + 1
  | (_, d) => uptoBulk d + 1
 end
def uptoSmall : (H : Type) → List (DataW H) → Bool := fun _ ds => decide (uptoBulkAll ds ≤ 1048576)
def OpenSpec.upto (s : _root_.Go.ChangeSpec) : _root_.Go.OpenSpec := { _root_.Go.OpenSpec.ofChange s with cond := some uptoSmall }

/-- 'provostlaw29.PlanNames', WHERE WHAT IT READS IS OF BULK AT MOST 1048576: true; the input reads as it did. -/
def planNamesUptoRow : OpenClaim := { program := "ytgpoolcaooiemaadoor", sum := "d739b52ca36da55af0698c57b92dbfaac76af5166002ec21efef7acb4b06b8fe", func := "provost/provostlaw29.PlanNames", spec := "planNames", named := ["provost/plan.names"], apart := false, laid := [("provost/plan.names", laid_provost_plan_names)], narrowed := true }
def PlanNamesUptoSaid : Prop := planNamesUptoRow.holds Tryd.pinned (OpenSpec.upto planNamesSpec)

end Rows
end Go.Proofs.YtgpoolcaooiemaaDoor
