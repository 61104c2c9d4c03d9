/-
  DERIVED. GIVEN WITH THE SEED: THE CARDS: each row of YthgmaapebplimaaDoorRows.lean that lists a variable, with what it lists TIED to the program's text (the seventh form; the later family's looks); each row that meets fmt, with fmt's text TOLD by the authors' own Lean function (tested against real Go, not proved from fmt's source: count such statements apart). THE CARD IS WHAT COUNTS. Prove the row's statement (the work); the ties are given (YthgmaapebplimaaDoorTie.lean); close each card by the builder's one call (the guide's Derived/Test/ToyasCard.lean, 'card_holds'). Laid BY PROGRAM, IN A SANDBOX (cutbox-door.mjs). By AI agents, Wed Nov 11 2026. No macro, syntax, notation, axiom, sorry.
-/
import Derived.Test.YthgmaapebplimaaDoorRows
import GoSem.ClaimSeven
namespace Go.Proofs.YthgmaapebplimaaDoor
namespace Rows

/-- THE TIED CARD OF 'posternlaw.IrCodes'. -/
def irCodesCard : Claim7 := { stood := { row := irCodesRow, standIns := [], harness := (true, "3f495533173a81087bcc129fb516133e4fc12e58bf9d3cc01e5f2410ef3c9bca"), looks := false }, kinds := [], alts := [], laidByText := true, laidKinds := [.data, .widerDeep], laidTests := true, laidLooks := .later }
def IrCodesCardSaid : Prop := Claim7.holds Tryd.pinned (.plain (OpenSpec.ofChange irCodesSpec)) irCodesCard

/-- THE TIED CARD OF 'posternlaw.IrChecks'. -/
def irChecksCard : Claim7 := { stood := { row := irChecksRow, standIns := [], harness := (true, "3f495533173a81087bcc129fb516133e4fc12e58bf9d3cc01e5f2410ef3c9bca"), looks := false }, kinds := [], alts := [], laidByText := true, laidKinds := [.data, .widerDeep], laidTests := true, laidLooks := .later }
def IrChecksCardSaid : Prop := Claim7.holds Tryd.pinned (.plain (OpenSpec.ofChange irChecksSpec)) irChecksCard

/-- THE TIED CARD OF 'posternlaw.VmChecks'. -/
def vmChecksCard : Claim7 := { stood := { row := vmChecksRow, standIns := [], harness := (true, "3f495533173a81087bcc129fb516133e4fc12e58bf9d3cc01e5f2410ef3c9bca"), looks := false }, kinds := [], alts := [], laidByText := true, laidKinds := [.widerDeep], laidTests := true, laidLooks := .later }
def VmChecksCardSaid : Prop := Claim7.holds Tryd.pinned (.plain (OpenSpec.ofChange vmChecksSpec)) vmChecksCard

/-- THE SECOND FORM's CARD OF 'posternlaw.IrCodes'. -/
def irCodesUptoCard : Claim7 := { stood := { row := irCodesUptoRow, standIns := [], harness := (true, "3f495533173a81087bcc129fb516133e4fc12e58bf9d3cc01e5f2410ef3c9bca"), looks := false }, kinds := [], alts := [], laidByText := true, laidKinds := [.data, .widerDeep], laidTests := true, laidLooks := .later }
def IrCodesUptoCardSaid : Prop := Claim7.holds Tryd.pinned (.plain (OpenSpec.upto irCodesSpec)) irCodesUptoCard

/-- THE SECOND FORM's CARD OF 'posternlaw.IrChecks'. -/
def irChecksUptoCard : Claim7 := { stood := { row := irChecksUptoRow, standIns := [], harness := (true, "3f495533173a81087bcc129fb516133e4fc12e58bf9d3cc01e5f2410ef3c9bca"), looks := false }, kinds := [], alts := [], laidByText := true, laidKinds := [.data, .widerDeep], laidTests := true, laidLooks := .later }
def IrChecksUptoCardSaid : Prop := Claim7.holds Tryd.pinned (.plain (OpenSpec.upto irChecksSpec)) irChecksUptoCard

/-- THE SECOND FORM's CARD OF 'posternlaw.VmChecks'. -/
def vmChecksUptoCard : Claim7 := { stood := { row := vmChecksUptoRow, standIns := [], harness := (true, "3f495533173a81087bcc129fb516133e4fc12e58bf9d3cc01e5f2410ef3c9bca"), looks := false }, kinds := [], alts := [], laidByText := true, laidKinds := [.widerDeep], laidTests := true, laidLooks := .later }
def VmChecksUptoCardSaid : Prop := Claim7.holds Tryd.pinned (.plain (OpenSpec.upto vmChecksSpec)) vmChecksUptoCard
end Rows
end Go.Proofs.YthgmaapebplimaaDoor
