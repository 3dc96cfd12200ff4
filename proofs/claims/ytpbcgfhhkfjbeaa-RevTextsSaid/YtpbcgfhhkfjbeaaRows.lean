/-
  No cell of these rows narrows 'for every input' (looked for: loops, veiled, ifaces, maps, wideKeys, modest, calm, conditions, laid).
  DERIVED. THE GIVEN ROWS OF THIS SEAT. 7 by the template 'for every input the law returns true; each argument reads behind the call as it read before'; 0 by the template 'total and deterministic' (their statements: YtpbcgfhhkfjbeaaTotals.lean).
  GIVEN WITH THE SEED: the statements are not yours to turn. If you find one false, say at which input.
  Laid BY PROGRAM, IN A SANDBOX (cutbox-rows.mjs): the forced cells as the released guide's own fill.sh prints them over the translation 4058ac50fce46b48… (all of the seat's roots in one cut). By AI agents, Wed Nov 11 2026. No macro, syntax, notation, axiom, sorry.
-/
import Derived.Test.YtpbcgfhhkfjbeaaChecked
import GoSem.Claim
import GoSem.ClaimJoined
import GoSem.ClaimMapViews
import Derived.JoinedTies
import Derived.KernelRfl
namespace Go.Proofs.Ytpbcgfhhkfjbeaa
/- THE CELL 'sum', in the pinned program and in every row, IS THE sha256 OF THE DUMP (.gsa) THAT YtpbcgfhhkfjbeaaProg.lean LOADS. Nothing in Lean hashes anything: it is a label: what it is worth is what the hold of that sum in a sandbox is worth. -/
noncomputable def Try.pinned : Pinned := { name := "ytpbcgfhhkfjbeaa", sum := "4058ac50fce46b487b79ea24d9ae1a5607f299115b339472e377b049cc6dd3aa", checked := Try.checked }
namespace Rows
def none {H : Type} : Left H := { results := [], args := [] }

/-- 'provostlaw10.RevTakes': WHATEVER THE INPUT: true; the input reads as it did. -/
def revTakesSpec : ChangeSpec := { name := "revTakes", fn := fun _ => fun
  | [d1, d2] => { results := [.lit (.bool true)], args := [d1, d2] }
  | _ => none }
def revTakesRow : OpenClaim := { program := "ytpbcgfhhkfjbeaa", sum := "4058ac50fce46b487b79ea24d9ae1a5607f299115b339472e377b049cc6dd3aa", func := "provost/provostlaw10.RevTakes", spec := "revTakes", apart := false }
def RevTakesSaid : Prop := revTakesRow.holds Try.pinned (OpenSpec.ofChange revTakesSpec)

/-- ITS FALSE NEIGHBOUR: 'it returns false'. Refute it at one input. -/
def revTakesWrong : ChangeSpec := { name := "revTakes", fn := fun _ => fun
  | [d1, d2] => { results := [.lit (.bool false)], args := [d1, d2] }
  | _ => none }
def RevTakesWrongFalsely : Prop := revTakesRow.holds Try.pinned (OpenSpec.ofChange revTakesWrong)

/-- 'provostlaw10.RevRises': WHATEVER THE INPUT: true; the input reads as it did. -/
def revRisesSpec : ChangeSpec := { name := "revRises", fn := fun _ => fun
  | [d1, d2] => { results := [.lit (.bool true)], args := [d1, d2] }
  | _ => none }
def revRisesRow : OpenClaim := { program := "ytpbcgfhhkfjbeaa", sum := "4058ac50fce46b487b79ea24d9ae1a5607f299115b339472e377b049cc6dd3aa", func := "provost/provostlaw10.RevRises", spec := "revRises", apart := false }
def RevRisesSaid : Prop := revRisesRow.holds Try.pinned (OpenSpec.ofChange revRisesSpec)

/-- ITS FALSE NEIGHBOUR: 'it returns false'. Refute it at one input. -/
def revRisesWrong : ChangeSpec := { name := "revRises", fn := fun _ => fun
  | [d1, d2] => { results := [.lit (.bool false)], args := [d1, d2] }
  | _ => none }
def RevRisesWrongFalsely : Prop := revRisesRow.holds Try.pinned (OpenSpec.ofChange revRisesWrong)

/-- 'provostlaw10.RevTexts': WHATEVER THE INPUT: true; the input reads as it did. -/
def revTextsSpec : ChangeSpec := { name := "revTexts", fn := fun _ => fun
  | [d1, d2] => { results := [.lit (.bool true)], args := [d1, d2] }
  | _ => none }
def revTextsRow : OpenClaim := { program := "ytpbcgfhhkfjbeaa", sum := "4058ac50fce46b487b79ea24d9ae1a5607f299115b339472e377b049cc6dd3aa", func := "provost/provostlaw10.RevTexts", spec := "revTexts", recurses := true, apart := false }
def RevTextsSaid : Prop := revTextsRow.holds Try.pinned (OpenSpec.ofChange revTextsSpec)

/-- ITS FALSE NEIGHBOUR: 'it returns false'. Refute it at one input. -/
def revTextsWrong : ChangeSpec := { name := "revTexts", fn := fun _ => fun
  | [d1, d2] => { results := [.lit (.bool false)], args := [d1, d2] }
  | _ => none }
def RevTextsWrongFalsely : Prop := revTextsRow.holds Try.pinned (OpenSpec.ofChange revTextsWrong)

/-- 'provostlaw35.TimerKeeps': WHATEVER THE INPUT: true; the input reads as it did. -/
def timerKeepsSpec : ChangeSpec := { name := "timerKeeps", fn := fun _ => fun
  | [d1, d2, d3] => { results := [.lit (.bool true)], args := [d1, d2, d3] }
  | _ => none }
def timerKeepsRow : OpenClaim := { program := "ytpbcgfhhkfjbeaa", sum := "4058ac50fce46b487b79ea24d9ae1a5607f299115b339472e377b049cc6dd3aa", func := "provost/provostlaw35.TimerKeeps", spec := "timerKeeps", apart := false }
def TimerKeepsSaid : Prop := timerKeepsRow.holds Try.pinned (OpenSpec.ofChange timerKeepsSpec)

/-- ITS FALSE NEIGHBOUR: 'it returns false'. Refute it at one input. -/
def timerKeepsWrong : ChangeSpec := { name := "timerKeeps", fn := fun _ => fun
  | [d1, d2, d3] => { results := [.lit (.bool false)], args := [d1, d2, d3] }
  | _ => none }
def TimerKeepsWrongFalsely : Prop := timerKeepsRow.holds Try.pinned (OpenSpec.ofChange timerKeepsWrong)

/-- 'provostlaw35.TimerLeaves': WHATEVER THE INPUT: true; the input reads as it did. -/
def timerLeavesSpec : ChangeSpec := { name := "timerLeaves", fn := fun _ => fun
  | [d1, d2, d3] => { results := [.lit (.bool true)], args := [d1, d2, d3] }
  | _ => none }
def timerLeavesRow : OpenClaim := { program := "ytpbcgfhhkfjbeaa", sum := "4058ac50fce46b487b79ea24d9ae1a5607f299115b339472e377b049cc6dd3aa", func := "provost/provostlaw35.TimerLeaves", spec := "timerLeaves", apart := false }
def TimerLeavesSaid : Prop := timerLeavesRow.holds Try.pinned (OpenSpec.ofChange timerLeavesSpec)

/-- ITS FALSE NEIGHBOUR: 'it returns false'. Refute it at one input. -/
def timerLeavesWrong : ChangeSpec := { name := "timerLeaves", fn := fun _ => fun
  | [d1, d2, d3] => { results := [.lit (.bool false)], args := [d1, d2, d3] }
  | _ => none }
def TimerLeavesWrongFalsely : Prop := timerLeavesRow.holds Try.pinned (OpenSpec.ofChange timerLeavesWrong)

/-- 'provostlaw35.TimerOnce': WHATEVER THE INPUT: true; the input reads as it did. -/
def timerOnceSpec : ChangeSpec := { name := "timerOnce", fn := fun _ => fun
  | [d1, d2] => { results := [.lit (.bool true)], args := [d1, d2] }
  | _ => none }
def timerOnceRow : OpenClaim := { program := "ytpbcgfhhkfjbeaa", sum := "4058ac50fce46b487b79ea24d9ae1a5607f299115b339472e377b049cc6dd3aa", func := "provost/provostlaw35.TimerOnce", spec := "timerOnce", apart := false }
def TimerOnceSaid : Prop := timerOnceRow.holds Try.pinned (OpenSpec.ofChange timerOnceSpec)

/-- ITS FALSE NEIGHBOUR: 'it returns false'. Refute it at one input. -/
def timerOnceWrong : ChangeSpec := { name := "timerOnce", fn := fun _ => fun
  | [d1, d2] => { results := [.lit (.bool false)], args := [d1, d2] }
  | _ => none }
def TimerOnceWrongFalsely : Prop := timerOnceRow.holds Try.pinned (OpenSpec.ofChange timerOnceWrong)

/-- 'provostlaw35.TimerPlays': WHATEVER THE INPUT: true; the input reads as it did. -/
def timerPlaysSpec : ChangeSpec := { name := "timerPlays", fn := fun _ => fun
  | [d1, d2, d3] => { results := [.lit (.bool true)], args := [d1, d2, d3] }
  | _ => none }
def timerPlaysRow : OpenClaim := { program := "ytpbcgfhhkfjbeaa", sum := "4058ac50fce46b487b79ea24d9ae1a5607f299115b339472e377b049cc6dd3aa", func := "provost/provostlaw35.TimerPlays", spec := "timerPlays", apart := false }
def TimerPlaysSaid : Prop := timerPlaysRow.holds Try.pinned (OpenSpec.ofChange timerPlaysSpec)

/-- ITS FALSE NEIGHBOUR: 'it returns false'. Refute it at one input. -/
def timerPlaysWrong : ChangeSpec := { name := "timerPlays", fn := fun _ => fun
  | [d1, d2, d3] => { results := [.lit (.bool false)], args := [d1, d2, d3] }
  | _ => none }
def TimerPlaysWrongFalsely : Prop := timerPlaysRow.holds Try.pinned (OpenSpec.ofChange timerPlaysWrong)

/- THE SECOND FORM. 'bulk': how many values and letters a reading holds, each counted each time it is reached (what is shared counts as often as it is met; a slice's spare places count too). A statement '..UptoSaid' is the law's where the arguments, and the package variables that the reading takes, are together of bulk at most 1048576: NARROWER than '..Said'. Prove '..Said' where nothing that the law and all that it calls make is longer than what came in: it says more and counts as full. Else prove '..UptoSaid'. A law counts once. -/
mutual
def uptoBulk {H : Type} : DataW H → Nat
  | .lit (.string bytes) => bytes.length + 1
  | .lit _ => 1
  | .nil => 1
  | .ptr d => uptoBulk d + 1
  | .slice elems spare => uptoBulkAll elems + uptoBulkAll spare + 1
  | .agg parts => uptoBulkAll parts + 1
  | .iface _ d => uptoBulk d + 1
  | .map entries => uptoBulkEntries entries + 1
  | .held _ => 1
def uptoBulkAll {H : Type} : List (DataW H) → Nat
  | [] => 0
  | d :: r => uptoBulk d + uptoBulkAll r
def uptoBulkEntries {H : Type} : List (Lit × DataW H) → Nat
  | [] => 0
  | x :: r => uptoBulkEntry x + uptoBulkEntries r
def uptoBulkEntry {H : Type} : Lit × DataW H → Nat
  | (.string bytes, d) => bytes.length + uptoBulk d + 1
  | (_, d) => uptoBulk d + 1
 end
def uptoSmall : (H : Type) → List (DataW H) → Bool := fun _ ds => decide (uptoBulkAll ds ≤ 1048576)
def OpenSpec.upto (s : _root_.Go.ChangeSpec) : _root_.Go.OpenSpec := { _root_.Go.OpenSpec.ofChange s with cond := some uptoSmall }

/-- 'provostlaw10.RevTakes', WHERE WHAT IT READS IS OF BULK AT MOST 1048576: true; the input reads as it did. -/
def revTakesUptoRow : OpenClaim := { program := "ytpbcgfhhkfjbeaa", sum := "4058ac50fce46b487b79ea24d9ae1a5607f299115b339472e377b049cc6dd3aa", func := "provost/provostlaw10.RevTakes", spec := "revTakes", apart := false, narrowed := true }
def RevTakesUptoSaid : Prop := revTakesUptoRow.holds Try.pinned (OpenSpec.upto revTakesSpec)

/-- 'provostlaw10.RevRises', WHERE WHAT IT READS IS OF BULK AT MOST 1048576: true; the input reads as it did. -/
def revRisesUptoRow : OpenClaim := { program := "ytpbcgfhhkfjbeaa", sum := "4058ac50fce46b487b79ea24d9ae1a5607f299115b339472e377b049cc6dd3aa", func := "provost/provostlaw10.RevRises", spec := "revRises", apart := false, narrowed := true }
def RevRisesUptoSaid : Prop := revRisesUptoRow.holds Try.pinned (OpenSpec.upto revRisesSpec)

/-- 'provostlaw10.RevTexts', WHERE WHAT IT READS IS OF BULK AT MOST 1048576: true; the input reads as it did. -/
def revTextsUptoRow : OpenClaim := { program := "ytpbcgfhhkfjbeaa", sum := "4058ac50fce46b487b79ea24d9ae1a5607f299115b339472e377b049cc6dd3aa", func := "provost/provostlaw10.RevTexts", spec := "revTexts", recurses := true, apart := false, narrowed := true }
def RevTextsUptoSaid : Prop := revTextsUptoRow.holds Try.pinned (OpenSpec.upto revTextsSpec)

/-- 'provostlaw35.TimerKeeps', WHERE WHAT IT READS IS OF BULK AT MOST 1048576: true; the input reads as it did. -/
def timerKeepsUptoRow : OpenClaim := { program := "ytpbcgfhhkfjbeaa", sum := "4058ac50fce46b487b79ea24d9ae1a5607f299115b339472e377b049cc6dd3aa", func := "provost/provostlaw35.TimerKeeps", spec := "timerKeeps", apart := false, narrowed := true }
def TimerKeepsUptoSaid : Prop := timerKeepsUptoRow.holds Try.pinned (OpenSpec.upto timerKeepsSpec)

/-- 'provostlaw35.TimerLeaves', WHERE WHAT IT READS IS OF BULK AT MOST 1048576: true; the input reads as it did. -/
def timerLeavesUptoRow : OpenClaim := { program := "ytpbcgfhhkfjbeaa", sum := "4058ac50fce46b487b79ea24d9ae1a5607f299115b339472e377b049cc6dd3aa", func := "provost/provostlaw35.TimerLeaves", spec := "timerLeaves", apart := false, narrowed := true }
def TimerLeavesUptoSaid : Prop := timerLeavesUptoRow.holds Try.pinned (OpenSpec.upto timerLeavesSpec)

/-- 'provostlaw35.TimerOnce', WHERE WHAT IT READS IS OF BULK AT MOST 1048576: true; the input reads as it did. -/
def timerOnceUptoRow : OpenClaim := { program := "ytpbcgfhhkfjbeaa", sum := "4058ac50fce46b487b79ea24d9ae1a5607f299115b339472e377b049cc6dd3aa", func := "provost/provostlaw35.TimerOnce", spec := "timerOnce", apart := false, narrowed := true }
def TimerOnceUptoSaid : Prop := timerOnceUptoRow.holds Try.pinned (OpenSpec.upto timerOnceSpec)

/-- 'provostlaw35.TimerPlays', WHERE WHAT IT READS IS OF BULK AT MOST 1048576: true; the input reads as it did. -/
def timerPlaysUptoRow : OpenClaim := { program := "ytpbcgfhhkfjbeaa", sum := "4058ac50fce46b487b79ea24d9ae1a5607f299115b339472e377b049cc6dd3aa", func := "provost/provostlaw35.TimerPlays", spec := "timerPlays", apart := false, narrowed := true }
def TimerPlaysUptoSaid : Prop := timerPlaysUptoRow.holds Try.pinned (OpenSpec.upto timerPlaysSpec)

end Rows
end Go.Proofs.Ytpbcgfhhkfjbeaa
