/-
  No cell of these rows narrows 'for every input' (looked for: loops, veiled, ifaces, maps, wideKeys, modest, calm, conditions, laid).
  DERIVED. THE GIVEN ROWS OF THIS SEAT. 5 by the template 'for every input the law returns true; each argument reads behind the call as it read before'; 0 by the template 'total and deterministic' (their statements: YtggcpbnlblbpjaaTotals.lean).
  GIVEN WITH THE SEED: the statements are not yours to turn. If you find one false, say at which input.
  Laid BY PROGRAM, IN A SANDBOX (cutbox-rows.mjs): the forced cells as the released guide's own fill.sh prints them over the translation afd6438a36e67dbc… (all of the seat's roots in one cut). By AI agents, Wed Nov 11 2026. No macro, syntax, notation, axiom, sorry.
-/
import Derived.Test.YtggcpbnlblbpjaaChecked
import GoSem.Claim
import GoSem.ClaimJoined
import GoSem.ClaimMapViews
import Derived.JoinedTies
import Derived.KernelRfl
namespace Go.Proofs.Ytggcpbnlblbpjaa
/- THE CELL 'sum', in the pinned program and in every row, IS THE sha256 OF THE DUMP (.gsa) THAT YtggcpbnlblbpjaaProg.lean LOADS. Nothing in Lean hashes anything: it is a label: what it is worth is what the hold of that sum in a sandbox is worth. -/
noncomputable def Try.pinned : Pinned := { name := "ytggcpbnlblbpjaa", sum := "afd6438a36e67dbc7007f5bd79347248c30cca616629b1746e0e236dc28f4f34", checked := Try.checked }
namespace Rows
def none {H : Type} : Left H := { results := [], args := [] }

/-- 'provostlaw40.HistTimes': WHATEVER THE INPUT: true; the input reads as it did. -/
def histTimesSpec : ChangeSpec := { name := "histTimes", fn := fun _ => fun
  | [d] => { results := [.lit (.bool true)], args := [d] }
  | _ => none }
def histTimesRow : OpenClaim := { program := "ytggcpbnlblbpjaa", sum := "afd6438a36e67dbc7007f5bd79347248c30cca616629b1746e0e236dc28f4f34", func := "provost/provostlaw40.HistTimes", spec := "histTimes", plainKeys := false, apart := false }
def HistTimesSaid : Prop := histTimesRow.holds Try.pinned (OpenSpec.ofChange histTimesSpec)

/-- ITS FALSE NEIGHBOUR: 'it returns false'. Refute it at one input. -/
def histTimesWrong : ChangeSpec := { name := "histTimes", fn := fun _ => fun
  | [d] => { results := [.lit (.bool false)], args := [d] }
  | _ => none }
def HistTimesWrongFalsely : Prop := histTimesRow.holds Try.pinned (OpenSpec.ofChange histTimesWrong)

/-- 'provostlaw40.HistPlays': WHATEVER THE INPUT: true; the input reads as it did. -/
def histPlaysSpec : ChangeSpec := { name := "histPlays", fn := fun _ => fun
  | [d1, d2, d3] => { results := [.lit (.bool true)], args := [d1, d2, d3] }
  | _ => none }
def histPlaysRow : OpenClaim := { program := "ytggcpbnlblbpjaa", sum := "afd6438a36e67dbc7007f5bd79347248c30cca616629b1746e0e236dc28f4f34", func := "provost/provostlaw40.HistPlays", spec := "histPlays", plainKeys := false, apart := false }
def HistPlaysSaid : Prop := histPlaysRow.holds Try.pinned (OpenSpec.ofChange histPlaysSpec)

/-- ITS FALSE NEIGHBOUR: 'it returns false'. Refute it at one input. -/
def histPlaysWrong : ChangeSpec := { name := "histPlays", fn := fun _ => fun
  | [d1, d2, d3] => { results := [.lit (.bool false)], args := [d1, d2, d3] }
  | _ => none }
def HistPlaysWrongFalsely : Prop := histPlaysRow.holds Try.pinned (OpenSpec.ofChange histPlaysWrong)

/-- 'provostlaw41.LineOne': WHATEVER THE INPUT: true; the input reads as it did. -/
def lineOneSpec : ChangeSpec := { name := "lineOne", fn := fun _ => fun
  | [d1, d2] => { results := [.lit (.bool true)], args := [d1, d2] }
  | _ => none }
def lineOneRow : OpenClaim := { program := "ytggcpbnlblbpjaa", sum := "afd6438a36e67dbc7007f5bd79347248c30cca616629b1746e0e236dc28f4f34", func := "provost/provostlaw41.LineOne", spec := "lineOne", unfollowed := true, recurses := true, plainKeys := false, apart := false }
def LineOneSaid : Prop := lineOneRow.holds Try.pinned (OpenSpec.ofChange lineOneSpec)

/-- ITS FALSE NEIGHBOUR: 'it returns false'. Refute it at one input. -/
def lineOneWrong : ChangeSpec := { name := "lineOne", fn := fun _ => fun
  | [d1, d2] => { results := [.lit (.bool false)], args := [d1, d2] }
  | _ => none }
def LineOneWrongFalsely : Prop := lineOneRow.holds Try.pinned (OpenSpec.ofChange lineOneWrong)

/-- 'provostlaw41.LineOrders': WHATEVER THE INPUT: true; the input reads as it did. -/
def lineOrdersSpec : ChangeSpec := { name := "lineOrders", fn := fun _ => fun
  | [d1, d2] => { results := [.lit (.bool true)], args := [d1, d2] }
  | _ => none }
def lineOrdersRow : OpenClaim := { program := "ytggcpbnlblbpjaa", sum := "afd6438a36e67dbc7007f5bd79347248c30cca616629b1746e0e236dc28f4f34", func := "provost/provostlaw41.LineOrders", spec := "lineOrders", unfollowed := true, recurses := true, plainKeys := false, apart := false }
def LineOrdersSaid : Prop := lineOrdersRow.holds Try.pinned (OpenSpec.ofChange lineOrdersSpec)

/-- ITS FALSE NEIGHBOUR: 'it returns false'. Refute it at one input. -/
def lineOrdersWrong : ChangeSpec := { name := "lineOrders", fn := fun _ => fun
  | [d1, d2] => { results := [.lit (.bool false)], args := [d1, d2] }
  | _ => none }
def LineOrdersWrongFalsely : Prop := lineOrdersRow.holds Try.pinned (OpenSpec.ofChange lineOrdersWrong)

/-- 'provostlaw41.LineDone': WHATEVER THE INPUT: true; the input reads as it did. -/
def lineDoneSpec : ChangeSpec := { name := "lineDone", fn := fun _ => fun
  | [d1, d2] => { results := [.lit (.bool true)], args := [d1, d2] }
  | _ => none }
def lineDoneRow : OpenClaim := { program := "ytggcpbnlblbpjaa", sum := "afd6438a36e67dbc7007f5bd79347248c30cca616629b1746e0e236dc28f4f34", func := "provost/provostlaw41.LineDone", spec := "lineDone", unfollowed := true, recurses := true, plainKeys := false, apart := false }
def LineDoneSaid : Prop := lineDoneRow.holds Try.pinned (OpenSpec.ofChange lineDoneSpec)

/-- ITS FALSE NEIGHBOUR: 'it returns false'. Refute it at one input. -/
def lineDoneWrong : ChangeSpec := { name := "lineDone", fn := fun _ => fun
  | [d1, d2] => { results := [.lit (.bool false)], args := [d1, d2] }
  | _ => none }
def LineDoneWrongFalsely : Prop := lineDoneRow.holds Try.pinned (OpenSpec.ofChange lineDoneWrong)

/- THE SECOND FORM. 'bulk': how many values and letters a reading holds, each counted each time it is reached (what is shared counts as often as it is met; a slice's spare places count too). A statement '..UptoSaid' is the law's where the arguments, and the package variables that the reading takes, are together of bulk at most 1048576: NARROWER than '..Said'. Prove '..Said' where nothing that the law and all that it calls make is longer than what came in: it says more and counts as full. Else prove '..UptoSaid'. A law counts once. -/
mutual
def uptoBulk {H : Type} : DataW H → Nat
  | .lit (.string bytes) => bytes.length + 1
  | .lit _ => 1
  | .nil => 1
  | .ptr d => uptoBulk d + 1
  | .slice elems spare => uptoBulkAll elems + uptoBulkAll spare + 1
  | .agg parts => uptoBulkAll parts + 1
  | .iface _ d => uptoBulk d + 1
  | .map entries => uptoBulkEntries entries + 1
  | .held _ => 1
def uptoBulkAll {H : Type} : List (DataW H) → Nat
  | [] => 0
  | d :: r => uptoBulk d + uptoBulkAll r
def uptoBulkEntries {H : Type} : List (Lit × DataW H) → Nat
  | [] => 0
  | x :: r => uptoBulkEntry x + uptoBulkEntries r
def uptoBulkEntry {H : Type} : Lit × DataW H → Nat
  | (.string bytes, d) => bytes.length + uptoBulk d + 1
  | (_, d) => uptoBulk d + 1
 end
def uptoSmall : (H : Type) → List (DataW H) → Bool := fun _ ds => decide (uptoBulkAll ds ≤ 1048576)
def OpenSpec.upto (s : _root_.Go.ChangeSpec) : _root_.Go.OpenSpec := { _root_.Go.OpenSpec.ofChange s with cond := some uptoSmall }

/-- 'provostlaw40.HistTimes', WHERE WHAT IT READS IS OF BULK AT MOST 1048576: true; the input reads as it did. -/
def histTimesUptoRow : OpenClaim := { program := "ytggcpbnlblbpjaa", sum := "afd6438a36e67dbc7007f5bd79347248c30cca616629b1746e0e236dc28f4f34", func := "provost/provostlaw40.HistTimes", spec := "histTimes", plainKeys := false, apart := false, narrowed := true }
def HistTimesUptoSaid : Prop := histTimesUptoRow.holds Try.pinned (OpenSpec.upto histTimesSpec)

/-- 'provostlaw40.HistPlays', WHERE WHAT IT READS IS OF BULK AT MOST 1048576: true; the input reads as it did. -/
def histPlaysUptoRow : OpenClaim := { program := "ytggcpbnlblbpjaa", sum := "afd6438a36e67dbc7007f5bd79347248c30cca616629b1746e0e236dc28f4f34", func := "provost/provostlaw40.HistPlays", spec := "histPlays", plainKeys := false, apart := false, narrowed := true }
def HistPlaysUptoSaid : Prop := histPlaysUptoRow.holds Try.pinned (OpenSpec.upto histPlaysSpec)

/-- 'provostlaw41.LineOne', WHERE WHAT IT READS IS OF BULK AT MOST 1048576: true; the input reads as it did. -/
def lineOneUptoRow : OpenClaim := { program := "ytggcpbnlblbpjaa", sum := "afd6438a36e67dbc7007f5bd79347248c30cca616629b1746e0e236dc28f4f34", func := "provost/provostlaw41.LineOne", spec := "lineOne", unfollowed := true, recurses := true, plainKeys := false, apart := false, narrowed := true }
def LineOneUptoSaid : Prop := lineOneUptoRow.holds Try.pinned (OpenSpec.upto lineOneSpec)

/-- 'provostlaw41.LineOrders', WHERE WHAT IT READS IS OF BULK AT MOST 1048576: true; the input reads as it did. -/
def lineOrdersUptoRow : OpenClaim := { program := "ytggcpbnlblbpjaa", sum := "afd6438a36e67dbc7007f5bd79347248c30cca616629b1746e0e236dc28f4f34", func := "provost/provostlaw41.LineOrders", spec := "lineOrders", unfollowed := true, recurses := true, plainKeys := false, apart := false, narrowed := true }
def LineOrdersUptoSaid : Prop := lineOrdersUptoRow.holds Try.pinned (OpenSpec.upto lineOrdersSpec)

/-- 'provostlaw41.LineDone', WHERE WHAT IT READS IS OF BULK AT MOST 1048576: true; the input reads as it did. -/
def lineDoneUptoRow : OpenClaim := { program := "ytggcpbnlblbpjaa", sum := "afd6438a36e67dbc7007f5bd79347248c30cca616629b1746e0e236dc28f4f34", func := "provost/provostlaw41.LineDone", spec := "lineDone", unfollowed := true, recurses := true, plainKeys := false, apart := false, narrowed := true }
def LineDoneUptoSaid : Prop := lineDoneUptoRow.holds Try.pinned (OpenSpec.upto lineDoneSpec)

end Rows
end Go.Proofs.Ytggcpbnlblbpjaa
