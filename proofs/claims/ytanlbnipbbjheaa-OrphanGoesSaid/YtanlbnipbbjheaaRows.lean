/-
  No cell of these rows narrows 'for every input' (looked for: loops, veiled, ifaces, maps, wideKeys, modest, calm, conditions, laid).
  DERIVED. THE GIVEN ROWS OF THIS SEAT. 4 by the template 'for every input the law returns true; each argument reads behind the call as it read before'; 0 by the template 'total and deterministic' (their statements: YtanlbnipbbjheaaTotals.lean).
  GIVEN WITH THE SEED: the statements are not yours to turn. If you find one false, say at which input.
  Laid BY PROGRAM, IN A SANDBOX (cutbox-rows.mjs): the forced cells as the released guide's own fill.sh prints them over the translation a1b5a9f76d2b1d64… (all of the seat's roots in one cut). By AI agents, Wed Nov 11 2026. No macro, syntax, notation, axiom, sorry.
-/
import Derived.Test.YtanlbnipbbjheaaChecked
import GoSem.Claim
import GoSem.ClaimJoined
import GoSem.ClaimMapViews
import Derived.JoinedTies
import Derived.KernelRfl
namespace Go.Proofs.Ytanlbnipbbjheaa
/- THE CELL 'sum', in the pinned program and in every row, IS THE sha256 OF THE DUMP (.gsa) THAT YtanlbnipbbjheaaProg.lean LOADS. Nothing in Lean hashes anything: it is a label: what it is worth is what the hold of that sum in a sandbox is worth. -/
noncomputable def Try.pinned : Pinned := { name := "ytanlbnipbbjheaa", sum := "a1b5a9f76d2b1d6452213953b9463a36d612ac5d8167d777b3bd4222cf61d8a4", checked := Try.checked }
namespace Rows
def none {H : Type} : Left H := { results := [], args := [] }

/-- 'provostlaw32.OrphanFinds': WHATEVER THE INPUT: true; the input reads as it did. -/
def orphanFindsSpec : ChangeSpec := { name := "orphanFinds", fn := fun _ => fun
  | [d1, d2] => { results := [.lit (.bool true)], args := [d1, d2] }
  | _ => none }
def orphanFindsRow : OpenClaim := { program := "ytanlbnipbbjheaa", sum := "a1b5a9f76d2b1d6452213953b9463a36d612ac5d8167d777b3bd4222cf61d8a4", func := "provost/provostlaw32.OrphanFinds", spec := "orphanFinds", apart := false }
def OrphanFindsSaid : Prop := orphanFindsRow.holds Try.pinned (OpenSpec.ofChange orphanFindsSpec)

/-- ITS FALSE NEIGHBOUR: 'it returns false'. Refute it at one input. -/
def orphanFindsWrong : ChangeSpec := { name := "orphanFinds", fn := fun _ => fun
  | [d1, d2] => { results := [.lit (.bool false)], args := [d1, d2] }
  | _ => none }
def OrphanFindsWrongFalsely : Prop := orphanFindsRow.holds Try.pinned (OpenSpec.ofChange orphanFindsWrong)

/-- 'provostlaw32.OrphanGoes': WHATEVER THE INPUT: true; the input reads as it did. -/
def orphanGoesSpec : ChangeSpec := { name := "orphanGoes", fn := fun _ => fun
  | [d1, d2] => { results := [.lit (.bool true)], args := [d1, d2] }
  | _ => none }
def orphanGoesRow : OpenClaim := { program := "ytanlbnipbbjheaa", sum := "a1b5a9f76d2b1d6452213953b9463a36d612ac5d8167d777b3bd4222cf61d8a4", func := "provost/provostlaw32.OrphanGoes", spec := "orphanGoes", apart := false }
def OrphanGoesSaid : Prop := orphanGoesRow.holds Try.pinned (OpenSpec.ofChange orphanGoesSpec)

/-- ITS FALSE NEIGHBOUR: 'it returns false'. Refute it at one input. -/
def orphanGoesWrong : ChangeSpec := { name := "orphanGoes", fn := fun _ => fun
  | [d1, d2] => { results := [.lit (.bool false)], args := [d1, d2] }
  | _ => none }
def OrphanGoesWrongFalsely : Prop := orphanGoesRow.holds Try.pinned (OpenSpec.ofChange orphanGoesWrong)

/-- 'provostlaw36.WindowPlays': WHATEVER THE INPUT: true; the input reads as it did. -/
def windowPlaysSpec : ChangeSpec := { name := "windowPlays", fn := fun _ => fun
  | [d] => { results := [.lit (.bool true)], args := [d] }
  | _ => none }
def windowPlaysRow : OpenClaim := { program := "ytanlbnipbbjheaa", sum := "a1b5a9f76d2b1d6452213953b9463a36d612ac5d8167d777b3bd4222cf61d8a4", func := "provost/provostlaw36.WindowPlays", spec := "windowPlays", apart := false }
def WindowPlaysSaid : Prop := windowPlaysRow.holds Try.pinned (OpenSpec.ofChange windowPlaysSpec)

/-- ITS FALSE NEIGHBOUR: 'it returns false'. Refute it at one input. -/
def windowPlaysWrong : ChangeSpec := { name := "windowPlays", fn := fun _ => fun
  | [d] => { results := [.lit (.bool false)], args := [d] }
  | _ => none }
def WindowPlaysWrongFalsely : Prop := windowPlaysRow.holds Try.pinned (OpenSpec.ofChange windowPlaysWrong)

/-- 'provostlaw36.WindowOrder': WHATEVER THE INPUT: true; the input reads as it did. -/
def windowOrderSpec : ChangeSpec := { name := "windowOrder", fn := fun _ => fun
  | [d] => { results := [.lit (.bool true)], args := [d] }
  | _ => none }
def windowOrderRow : OpenClaim := { program := "ytanlbnipbbjheaa", sum := "a1b5a9f76d2b1d6452213953b9463a36d612ac5d8167d777b3bd4222cf61d8a4", func := "provost/provostlaw36.WindowOrder", spec := "windowOrder", apart := false }
def WindowOrderSaid : Prop := windowOrderRow.holds Try.pinned (OpenSpec.ofChange windowOrderSpec)

/-- ITS FALSE NEIGHBOUR: 'it returns false'. Refute it at one input. -/
def windowOrderWrong : ChangeSpec := { name := "windowOrder", fn := fun _ => fun
  | [d] => { results := [.lit (.bool false)], args := [d] }
  | _ => none }
def WindowOrderWrongFalsely : Prop := windowOrderRow.holds Try.pinned (OpenSpec.ofChange windowOrderWrong)

/- THE SECOND FORM. 'bulk': how many values and letters a reading holds, each counted each time it is reached (what is shared counts as often as it is met; a slice's spare places count too). A statement '..UptoSaid' is the law's where the arguments, and the package variables that the reading takes, are together of bulk at most 1048576: NARROWER than '..Said'. Prove '..Said' where nothing that the law and all that it calls make is longer than what came in: it says more and counts as full. Else prove '..UptoSaid'. A law counts once. -/
mutual
def uptoBulk {H : Type} : DataW H → Nat
  | .lit (.string bytes) => bytes.length + 1
  | .lit _ => 1
  | .nil => 1
  | .ptr d => uptoBulk d + 1
  | .slice elems spare => uptoBulkAll elems + uptoBulkAll spare + 1
  | .agg parts => uptoBulkAll parts + 1
  | .iface _ d => uptoBulk d + 1
  | .map entries => uptoBulkEntries entries + 1
  | .held _ => 1
def uptoBulkAll {H : Type} : List (DataW H) → Nat
  | [] => 0
  | d :: r => uptoBulk d + uptoBulkAll r
def uptoBulkEntries {H : Type} : List (Lit × DataW H) → Nat
  | [] => 0
  | x :: r => uptoBulkEntry x + uptoBulkEntries r
def uptoBulkEntry {H : Type} : Lit × DataW H → Nat
  | (.string bytes, d) => bytes.length + uptoBulk d + 1
  | (_, d) => uptoBulk d + 1
 end
def uptoSmall : (H : Type) → List (DataW H) → Bool := fun _ ds => decide (uptoBulkAll ds ≤ 1048576)
def OpenSpec.upto (s : _root_.Go.ChangeSpec) : _root_.Go.OpenSpec := { _root_.Go.OpenSpec.ofChange s with cond := some uptoSmall }

/-- 'provostlaw32.OrphanFinds', WHERE WHAT IT READS IS OF BULK AT MOST 1048576: true; the input reads as it did. -/
def orphanFindsUptoRow : OpenClaim := { program := "ytanlbnipbbjheaa", sum := "a1b5a9f76d2b1d6452213953b9463a36d612ac5d8167d777b3bd4222cf61d8a4", func := "provost/provostlaw32.OrphanFinds", spec := "orphanFinds", apart := false, narrowed := true }
def OrphanFindsUptoSaid : Prop := orphanFindsUptoRow.holds Try.pinned (OpenSpec.upto orphanFindsSpec)

/-- 'provostlaw32.OrphanGoes', WHERE WHAT IT READS IS OF BULK AT MOST 1048576: true; the input reads as it did. -/
def orphanGoesUptoRow : OpenClaim := { program := "ytanlbnipbbjheaa", sum := "a1b5a9f76d2b1d6452213953b9463a36d612ac5d8167d777b3bd4222cf61d8a4", func := "provost/provostlaw32.OrphanGoes", spec := "orphanGoes", apart := false, narrowed := true }
def OrphanGoesUptoSaid : Prop := orphanGoesUptoRow.holds Try.pinned (OpenSpec.upto orphanGoesSpec)

/-- 'provostlaw36.WindowPlays', WHERE WHAT IT READS IS OF BULK AT MOST 1048576: true; the input reads as it did. -/
def windowPlaysUptoRow : OpenClaim := { program := "ytanlbnipbbjheaa", sum := "a1b5a9f76d2b1d6452213953b9463a36d612ac5d8167d777b3bd4222cf61d8a4", func := "provost/provostlaw36.WindowPlays", spec := "windowPlays", apart := false, narrowed := true }
def WindowPlaysUptoSaid : Prop := windowPlaysUptoRow.holds Try.pinned (OpenSpec.upto windowPlaysSpec)

/-- 'provostlaw36.WindowOrder', WHERE WHAT IT READS IS OF BULK AT MOST 1048576: true; the input reads as it did. -/
def windowOrderUptoRow : OpenClaim := { program := "ytanlbnipbbjheaa", sum := "a1b5a9f76d2b1d6452213953b9463a36d612ac5d8167d777b3bd4222cf61d8a4", func := "provost/provostlaw36.WindowOrder", spec := "windowOrder", apart := false, narrowed := true }
def WindowOrderUptoSaid : Prop := windowOrderUptoRow.holds Try.pinned (OpenSpec.upto windowOrderSpec)

end Rows
end Go.Proofs.Ytanlbnipbbjheaa
