/-
  No cell of these rows narrows 'for every input' (looked for: loops, veiled, ifaces, maps, wideKeys, modest, calm, conditions, laid).
  DERIVED. THE GIVEN ROWS OF THIS SEAT. 3 by the template 'for every input the law returns true; each argument reads behind the call as it read before'; 0 by the template 'total and deterministic' (their statements: YtmoelehhofmhcaaTotals.lean).
  GIVEN WITH THE SEED: the statements are not yours to turn. If you find one false, say at which input.
  Laid BY PROGRAM, IN A SANDBOX (cutbox-rows.mjs): the forced cells as the released guide's own fill.sh prints them over the translation d4d3f185474d5e8d… (all of the seat's roots in one cut). By AI agents, Wed Nov 11 2026. No macro, syntax, notation, axiom, sorry.
-/
import Derived.Test.YtmoelehhofmhcaaChecked
import GoSem.Claim
import GoSem.ClaimJoined
import GoSem.ClaimMapViews
import Derived.JoinedTies
import Derived.KernelRfl
namespace Go.Proofs.Ytmoelehhofmhcaa
/- THE CELL 'sum', in the pinned program and in every row, IS THE sha256 OF THE DUMP (.gsa) THAT YtmoelehhofmhcaaProg.lean LOADS. Nothing in Lean hashes anything: it is a label: what it is worth is what the hold of that sum in a sandbox is worth. -/
noncomputable def Try.pinned : Pinned := { name := "ytmoelehhofmhcaa", sum := "d4d3f185474d5e8d9832c57f77d711bf3cfe839a08f005f1ba673019cee1eb47", checked := Try.checked }
namespace Rows
def none {H : Type} : Left H := { results := [], args := [] }

/-- 'provostlaw34.PressLimits': WHATEVER THE INPUT: true; the input reads as it did. -/
def pressLimitsSpec : ChangeSpec := { name := "pressLimits", fn := fun _ => fun
  | [d1, d2, d3] => { results := [.lit (.bool true)], args := [d1, d2, d3] }
  | _ => none }
def pressLimitsRow : OpenClaim := { program := "ytmoelehhofmhcaa", sum := "d4d3f185474d5e8d9832c57f77d711bf3cfe839a08f005f1ba673019cee1eb47", func := "provost/provostlaw34.PressLimits", spec := "pressLimits", unfollowed := true, recurses := true, apart := false }
def PressLimitsSaid : Prop := pressLimitsRow.holds Try.pinned (OpenSpec.ofChange pressLimitsSpec)

/-- ITS FALSE NEIGHBOUR: 'it returns false'. Refute it at one input. -/
def pressLimitsWrong : ChangeSpec := { name := "pressLimits", fn := fun _ => fun
  | [d1, d2, d3] => { results := [.lit (.bool false)], args := [d1, d2, d3] }
  | _ => none }
def PressLimitsWrongFalsely : Prop := pressLimitsRow.holds Try.pinned (OpenSpec.ofChange pressLimitsWrong)

/-- 'provostlaw34.PressVictims': WHATEVER THE INPUT: true; the input reads as it did. -/
def pressVictimsSpec : ChangeSpec := { name := "pressVictims", fn := fun _ => fun
  | [d1, d2, d3] => { results := [.lit (.bool true)], args := [d1, d2, d3] }
  | _ => none }
def pressVictimsRow : OpenClaim := { program := "ytmoelehhofmhcaa", sum := "d4d3f185474d5e8d9832c57f77d711bf3cfe839a08f005f1ba673019cee1eb47", func := "provost/provostlaw34.PressVictims", spec := "pressVictims", unfollowed := true, recurses := true, apart := false }
def PressVictimsSaid : Prop := pressVictimsRow.holds Try.pinned (OpenSpec.ofChange pressVictimsSpec)

/-- ITS FALSE NEIGHBOUR: 'it returns false'. Refute it at one input. -/
def pressVictimsWrong : ChangeSpec := { name := "pressVictims", fn := fun _ => fun
  | [d1, d2, d3] => { results := [.lit (.bool false)], args := [d1, d2, d3] }
  | _ => none }
def PressVictimsWrongFalsely : Prop := pressVictimsRow.holds Try.pinned (OpenSpec.ofChange pressVictimsWrong)

/-- 'provostlaw34.PressCalm': WHATEVER THE INPUT: true; the input reads as it did. -/
def pressCalmSpec : ChangeSpec := { name := "pressCalm", fn := fun _ => fun
  | [d1, d2, d3] => { results := [.lit (.bool true)], args := [d1, d2, d3] }
  | _ => none }
def pressCalmRow : OpenClaim := { program := "ytmoelehhofmhcaa", sum := "d4d3f185474d5e8d9832c57f77d711bf3cfe839a08f005f1ba673019cee1eb47", func := "provost/provostlaw34.PressCalm", spec := "pressCalm", unfollowed := true, recurses := true, apart := false }
def PressCalmSaid : Prop := pressCalmRow.holds Try.pinned (OpenSpec.ofChange pressCalmSpec)

/-- ITS FALSE NEIGHBOUR: 'it returns false'. Refute it at one input. -/
def pressCalmWrong : ChangeSpec := { name := "pressCalm", fn := fun _ => fun
  | [d1, d2, d3] => { results := [.lit (.bool false)], args := [d1, d2, d3] }
  | _ => none }
def PressCalmWrongFalsely : Prop := pressCalmRow.holds Try.pinned (OpenSpec.ofChange pressCalmWrong)

/- THE SECOND FORM. 'bulk': how many values and letters a reading holds, each counted each time it is reached (what is shared counts as often as it is met; a slice's spare places count too). A statement '..UptoSaid' is the law's where the arguments, and the package variables that the reading takes, are together of bulk at most 1048576: NARROWER than '..Said'. Prove '..Said' where nothing that the law and all that it calls make is longer than what came in: it says more and counts as full. Else prove '..UptoSaid'. A law counts once. -/
mutual
def uptoBulk {H : Type} : DataW H → Nat
  | .lit (.string bytes) => bytes.length + 1
  | .lit _ => 1
  | .nil => 1
  | .ptr d => uptoBulk d + 1
  | .slice elems spare => uptoBulkAll elems + uptoBulkAll spare + 1
  | .agg parts => uptoBulkAll parts + 1
  | .iface _ d => uptoBulk d + 1
  | .map entries => uptoBulkEntries entries + 1
  | .held _ => 1
def uptoBulkAll {H : Type} : List (DataW H) → Nat
  | [] => 0
  | d :: r => uptoBulk d + uptoBulkAll r
def uptoBulkEntries {H : Type} : List (Lit × DataW H) → Nat
  | [] => 0
  | x :: r => uptoBulkEntry x + uptoBulkEntries r
def uptoBulkEntry {H : Type} : Lit × DataW H → Nat
  | (.string bytes, d) => bytes.length + uptoBulk d + 1
  | (_, d) => uptoBulk d + 1
 end
def uptoSmall : (H : Type) → List (DataW H) → Bool := fun _ ds => decide (uptoBulkAll ds ≤ 1048576)
def OpenSpec.upto (s : _root_.Go.ChangeSpec) : _root_.Go.OpenSpec := { _root_.Go.OpenSpec.ofChange s with cond := some uptoSmall }

/-- 'provostlaw34.PressLimits', WHERE WHAT IT READS IS OF BULK AT MOST 1048576: true; the input reads as it did. -/
def pressLimitsUptoRow : OpenClaim := { program := "ytmoelehhofmhcaa", sum := "d4d3f185474d5e8d9832c57f77d711bf3cfe839a08f005f1ba673019cee1eb47", func := "provost/provostlaw34.PressLimits", spec := "pressLimits", unfollowed := true, recurses := true, apart := false, narrowed := true }
def PressLimitsUptoSaid : Prop := pressLimitsUptoRow.holds Try.pinned (OpenSpec.upto pressLimitsSpec)

/-- 'provostlaw34.PressVictims', WHERE WHAT IT READS IS OF BULK AT MOST 1048576: true; the input reads as it did. -/
def pressVictimsUptoRow : OpenClaim := { program := "ytmoelehhofmhcaa", sum := "d4d3f185474d5e8d9832c57f77d711bf3cfe839a08f005f1ba673019cee1eb47", func := "provost/provostlaw34.PressVictims", spec := "pressVictims", unfollowed := true, recurses := true, apart := false, narrowed := true }
def PressVictimsUptoSaid : Prop := pressVictimsUptoRow.holds Try.pinned (OpenSpec.upto pressVictimsSpec)

/-- 'provostlaw34.PressCalm', WHERE WHAT IT READS IS OF BULK AT MOST 1048576: true; the input reads as it did. -/
def pressCalmUptoRow : OpenClaim := { program := "ytmoelehhofmhcaa", sum := "d4d3f185474d5e8d9832c57f77d711bf3cfe839a08f005f1ba673019cee1eb47", func := "provost/provostlaw34.PressCalm", spec := "pressCalm", unfollowed := true, recurses := true, apart := false, narrowed := true }
def PressCalmUptoSaid : Prop := pressCalmUptoRow.holds Try.pinned (OpenSpec.upto pressCalmSpec)

end Rows
end Go.Proofs.Ytmoelehhofmhcaa
