/-
  DERIVED. GIVEN WITH THE SEED: THE CARDS: each row of YtcfkdglaedpnjaaDoorRows.lean that lists a variable, with what it lists TIED to the program's text (the seventh form; the later family's looks); each row that meets fmt, with fmt's text TOLD by the authors' own Lean function (tested against real Go, not proved from fmt's source: count such statements apart). THE CARD IS WHAT COUNTS. Prove the row's statement (the work); the ties are given (YtcfkdglaedpnjaaDoorTie.lean); close each card by the builder's one call (the guide's Derived/Test/ToyasCard.lean, 'card_holds'). Laid BY PROGRAM, IN A SANDBOX (cutbox-door.mjs). By AI agents, Wed Nov 11 2026. No macro, syntax, notation, axiom, sorry.
-/
import Derived.Test.YtcfkdglaedpnjaaDoorRows
import GoSem.ClaimSeven
namespace Go.Proofs.YtcfkdglaedpnjaaDoor
namespace Rows

/-- THE TIED CARD OF 'provostlaw21.ExecPrefix'. -/
def execPrefixCard : Claim7 := { stood := { row := execPrefixRow, standIns := [], harness := (true, "8b10524a91158cd0543566ff054ba0a2ed8281dfbe3ad2bdca74e32818f14866"), looks := false }, kinds := [], alts := [], laidByText := true, laidKinds := [.data, .pinned], laidTests := true, laidLooks := .later }
def ExecPrefixCardSaid : Prop := Claim7.holds Tryd.pinned (.plain (OpenSpec.ofChange execPrefixSpec)) execPrefixCard

/-- THE TIED CARD OF 'provostlaw21.ExecEnds'. -/
def execEndsCard : Claim7 := { stood := { row := execEndsRow, standIns := [], harness := (true, "8b10524a91158cd0543566ff054ba0a2ed8281dfbe3ad2bdca74e32818f14866"), looks := false }, kinds := [], alts := [], laidByText := true, laidKinds := [.data, .pinned], laidTests := true, laidLooks := .later }
def ExecEndsCardSaid : Prop := Claim7.holds Tryd.pinned (.plain (OpenSpec.ofChange execEndsSpec)) execEndsCard

/-- THE TIED CARD OF 'provostlaw21.ExecPlays'. -/
def execPlaysCard : Claim7 := { stood := { row := execPlaysRow, standIns := [], harness := (true, "8b10524a91158cd0543566ff054ba0a2ed8281dfbe3ad2bdca74e32818f14866"), looks := false }, kinds := [], alts := [], laidByText := true, laidKinds := [.data, .pinned], laidTests := true, laidLooks := .later }
def ExecPlaysCardSaid : Prop := Claim7.holds Tryd.pinned (.plain (OpenSpec.ofChange execPlaysSpec)) execPlaysCard

/-- THE SECOND FORM's CARD OF 'provostlaw21.ExecPrefix'. -/
def execPrefixUptoCard : Claim7 := { stood := { row := execPrefixUptoRow, standIns := [], harness := (true, "8b10524a91158cd0543566ff054ba0a2ed8281dfbe3ad2bdca74e32818f14866"), looks := false }, kinds := [], alts := [], laidByText := true, laidKinds := [.data, .pinned], laidTests := true, laidLooks := .later }
def ExecPrefixUptoCardSaid : Prop := Claim7.holds Tryd.pinned (.plain (OpenSpec.upto execPrefixSpec)) execPrefixUptoCard

/-- THE SECOND FORM's CARD OF 'provostlaw21.ExecEnds'. -/
def execEndsUptoCard : Claim7 := { stood := { row := execEndsUptoRow, standIns := [], harness := (true, "8b10524a91158cd0543566ff054ba0a2ed8281dfbe3ad2bdca74e32818f14866"), looks := false }, kinds := [], alts := [], laidByText := true, laidKinds := [.data, .pinned], laidTests := true, laidLooks := .later }
def ExecEndsUptoCardSaid : Prop := Claim7.holds Tryd.pinned (.plain (OpenSpec.upto execEndsSpec)) execEndsUptoCard

/-- THE SECOND FORM's CARD OF 'provostlaw21.ExecPlays'. -/
def execPlaysUptoCard : Claim7 := { stood := { row := execPlaysUptoRow, standIns := [], harness := (true, "8b10524a91158cd0543566ff054ba0a2ed8281dfbe3ad2bdca74e32818f14866"), looks := false }, kinds := [], alts := [], laidByText := true, laidKinds := [.data, .pinned], laidTests := true, laidLooks := .later }
def ExecPlaysUptoCardSaid : Prop := Claim7.holds Tryd.pinned (.plain (OpenSpec.upto execPlaysSpec)) execPlaysUptoCard
end Rows
end Go.Proofs.YtcfkdglaedpnjaaDoor
