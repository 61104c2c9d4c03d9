/-
  DERIVED. GIVEN WITH THE SEED: THE CARDS: each row of YtaomlfbcfmmhlaaDoorRows.lean that lists a variable, with what it lists TIED to the program's text (the seventh form; the later family's looks); each row that meets fmt, with fmt's text TOLD by the authors' own Lean function (tested against real Go, not proved from fmt's source: count such statements apart). THE CARD IS WHAT COUNTS. Prove the row's statement (the work); the ties are given (YtaomlfbcfmmhlaaDoorTie.lean); close each card by the builder's one call (the guide's Derived/Test/ToyasCard.lean, 'card_holds'). Laid BY PROGRAM, IN A SANDBOX (cutbox-door.mjs). By AI agents, Wed Nov 11 2026. No macro, syntax, notation, axiom, sorry.
-/
import Derived.Test.YtaomlfbcfmmhlaaDoorRows
import GoSem.ClaimSeven
namespace Go.Proofs.YtaomlfbcfmmhlaaDoor
namespace Rows

/-- THE TIED CARD OF 'posternlaw.SsaChecks'. -/
def ssaChecksCard : Claim7 := { stood := { row := ssaChecksRow, standIns := [], harness := (true, "3849d69d7026fd2f356f4a2944fbe2d82ef5d693eb45e41608ee1879b586f1cc"), looks := true }, kinds := [], alts := [], laidByText := true, laidKinds := [.data, .widerDeep], laidTests := true, laidLooks := .later }
def SsaChecksCardSaid : Prop := Claim7.holds Tryd.pinned (.plain (OpenSpec.ofChange ssaChecksSpec)) ssaChecksCard

/-- THE TIED CARD OF 'posternlaw.TypedChecks'. -/
def typedChecksCard : Claim7 := { stood := { row := typedChecksRow, standIns := [], harness := (true, "3849d69d7026fd2f356f4a2944fbe2d82ef5d693eb45e41608ee1879b586f1cc"), looks := true }, kinds := [], alts := [], laidByText := true, laidKinds := [.data, .data], laidTests := true, laidLooks := .later }
def TypedChecksCardSaid : Prop := Claim7.holds Tryd.pinned (.plain (OpenSpec.ofChange typedChecksSpec)) typedChecksCard

/-- THE TIED CARD OF 'posternlaw.SsaBacks'. -/
def ssaBacksCard : Claim7 := { stood := { row := ssaBacksRow, standIns := [], harness := (true, "3849d69d7026fd2f356f4a2944fbe2d82ef5d693eb45e41608ee1879b586f1cc"), looks := true }, kinds := [], alts := [], laidByText := true, laidKinds := [.data, .widerDeep], laidTests := true, laidLooks := .later }
def SsaBacksCardSaid : Prop := Claim7.holds Tryd.pinned (.plain (OpenSpec.ofChange ssaBacksSpec)) ssaBacksCard

/-- THE TIED CARD OF 'posternlaw.IrRuns'. -/
def irRunsCard : Claim7 := { stood := { row := irRunsRow, standIns := [], harness := (true, "3849d69d7026fd2f356f4a2944fbe2d82ef5d693eb45e41608ee1879b586f1cc"), looks := true }, kinds := [], alts := [], laidByText := true, laidKinds := [.data, .data, .data, .data, .widerDeep], laidTests := true, laidLooks := .later }
def IrRunsCardSaid : Prop := Claim7.holds Tryd.pinned (.plain (OpenSpec.ofChange irRunsSpec)) irRunsCard

/-- THE TIED CARD OF 'posternkeep.CodeMath'. -/
def codeMathCard : Claim7 := { stood := { row := codeMathRow, standIns := [], harness := (true, "3849d69d7026fd2f356f4a2944fbe2d82ef5d693eb45e41608ee1879b586f1cc"), looks := true }, kinds := [], alts := [], laidByText := true, laidKinds := [.data, .data, .data, .data, .widerDeep], laidTests := true, laidLooks := .later }
def CodeMathCardSaid : Prop := Claim7.holds Tryd.pinned (.plain (OpenSpec.ofChange codeMathSpec)) codeMathCard

/-- THE TIED CARD OF 'posternkeep.CodeHeap'. -/
def codeHeapCard : Claim7 := { stood := { row := codeHeapRow, standIns := [], harness := (true, "3849d69d7026fd2f356f4a2944fbe2d82ef5d693eb45e41608ee1879b586f1cc"), looks := true }, kinds := [], alts := [], laidByText := true, laidKinds := [.data, .data, .data, .data, .widerDeep], laidTests := true, laidLooks := .later }
def CodeHeapCardSaid : Prop := Claim7.holds Tryd.pinned (.plain (OpenSpec.ofChange codeHeapSpec)) codeHeapCard

/-- THE TIED CARD OF 'posternlaw.VmRuns'. -/
def vmRunsCard : Claim7 := { stood := { row := vmRunsRow, standIns := [], harness := (true, "3849d69d7026fd2f356f4a2944fbe2d82ef5d693eb45e41608ee1879b586f1cc"), looks := true }, kinds := [], alts := [], laidByText := true, laidKinds := [.data, .data, .data, .widerDeep], laidTests := true, laidLooks := .later }
def VmRunsCardSaid : Prop := Claim7.holds Tryd.pinned (.plain (OpenSpec.ofChange vmRunsSpec)) vmRunsCard

/-- THE TIED CARD OF 'posternkeep.CodeParts'. -/
def codePartsCard : Claim7 := { stood := { row := codePartsRow, standIns := [], harness := (true, "3849d69d7026fd2f356f4a2944fbe2d82ef5d693eb45e41608ee1879b586f1cc"), looks := true }, kinds := [], alts := [], laidByText := true, laidKinds := [.data, .data, .data, .sentinel, .sentinel, .data, .widerDeep], laidTests := true, laidLooks := .later }
def CodePartsCardSaid : Prop := Claim7.holds Tryd.pinned (.plain (OpenSpec.ofChange codePartsSpec)) codePartsCard

/-- THE SECOND FORM's CARD OF 'posternlaw.SsaChecks'. -/
def ssaChecksUptoCard : Claim7 := { stood := { row := ssaChecksUptoRow, standIns := [], harness := (true, "3849d69d7026fd2f356f4a2944fbe2d82ef5d693eb45e41608ee1879b586f1cc"), looks := true }, kinds := [], alts := [], laidByText := true, laidKinds := [.data, .widerDeep], laidTests := true, laidLooks := .later }
def SsaChecksUptoCardSaid : Prop := Claim7.holds Tryd.pinned (.plain (OpenSpec.upto ssaChecksSpec)) ssaChecksUptoCard

/-- THE SECOND FORM's CARD OF 'posternlaw.TypedChecks'. -/
def typedChecksUptoCard : Claim7 := { stood := { row := typedChecksUptoRow, standIns := [], harness := (true, "3849d69d7026fd2f356f4a2944fbe2d82ef5d693eb45e41608ee1879b586f1cc"), looks := true }, kinds := [], alts := [], laidByText := true, laidKinds := [.data, .data], laidTests := true, laidLooks := .later }
def TypedChecksUptoCardSaid : Prop := Claim7.holds Tryd.pinned (.plain (OpenSpec.upto typedChecksSpec)) typedChecksUptoCard

/-- THE SECOND FORM's CARD OF 'posternlaw.SsaBacks'. -/
def ssaBacksUptoCard : Claim7 := { stood := { row := ssaBacksUptoRow, standIns := [], harness := (true, "3849d69d7026fd2f356f4a2944fbe2d82ef5d693eb45e41608ee1879b586f1cc"), looks := true }, kinds := [], alts := [], laidByText := true, laidKinds := [.data, .widerDeep], laidTests := true, laidLooks := .later }
def SsaBacksUptoCardSaid : Prop := Claim7.holds Tryd.pinned (.plain (OpenSpec.upto ssaBacksSpec)) ssaBacksUptoCard

/-- THE SECOND FORM's CARD OF 'posternlaw.IrRuns'. -/
def irRunsUptoCard : Claim7 := { stood := { row := irRunsUptoRow, standIns := [], harness := (true, "3849d69d7026fd2f356f4a2944fbe2d82ef5d693eb45e41608ee1879b586f1cc"), looks := true }, kinds := [], alts := [], laidByText := true, laidKinds := [.data, .data, .data, .data, .widerDeep], laidTests := true, laidLooks := .later }
def IrRunsUptoCardSaid : Prop := Claim7.holds Tryd.pinned (.plain (OpenSpec.upto irRunsSpec)) irRunsUptoCard

/-- THE SECOND FORM's CARD OF 'posternkeep.CodeMath'. -/
def codeMathUptoCard : Claim7 := { stood := { row := codeMathUptoRow, standIns := [], harness := (true, "3849d69d7026fd2f356f4a2944fbe2d82ef5d693eb45e41608ee1879b586f1cc"), looks := true }, kinds := [], alts := [], laidByText := true, laidKinds := [.data, .data, .data, .data, .widerDeep], laidTests := true, laidLooks := .later }
def CodeMathUptoCardSaid : Prop := Claim7.holds Tryd.pinned (.plain (OpenSpec.upto codeMathSpec)) codeMathUptoCard

/-- THE SECOND FORM's CARD OF 'posternkeep.CodeHeap'. -/
def codeHeapUptoCard : Claim7 := { stood := { row := codeHeapUptoRow, standIns := [], harness := (true, "3849d69d7026fd2f356f4a2944fbe2d82ef5d693eb45e41608ee1879b586f1cc"), looks := true }, kinds := [], alts := [], laidByText := true, laidKinds := [.data, .data, .data, .data, .widerDeep], laidTests := true, laidLooks := .later }
def CodeHeapUptoCardSaid : Prop := Claim7.holds Tryd.pinned (.plain (OpenSpec.upto codeHeapSpec)) codeHeapUptoCard

/-- THE SECOND FORM's CARD OF 'posternlaw.VmRuns'. -/
def vmRunsUptoCard : Claim7 := { stood := { row := vmRunsUptoRow, standIns := [], harness := (true, "3849d69d7026fd2f356f4a2944fbe2d82ef5d693eb45e41608ee1879b586f1cc"), looks := true }, kinds := [], alts := [], laidByText := true, laidKinds := [.data, .data, .data, .widerDeep], laidTests := true, laidLooks := .later }
def VmRunsUptoCardSaid : Prop := Claim7.holds Tryd.pinned (.plain (OpenSpec.upto vmRunsSpec)) vmRunsUptoCard

/-- THE SECOND FORM's CARD OF 'posternkeep.CodeParts'. -/
def codePartsUptoCard : Claim7 := { stood := { row := codePartsUptoRow, standIns := [], harness := (true, "3849d69d7026fd2f356f4a2944fbe2d82ef5d693eb45e41608ee1879b586f1cc"), looks := true }, kinds := [], alts := [], laidByText := true, laidKinds := [.data, .data, .data, .sentinel, .sentinel, .data, .widerDeep], laidTests := true, laidLooks := .later }
def CodePartsUptoCardSaid : Prop := Claim7.holds Tryd.pinned (.plain (OpenSpec.upto codePartsSpec)) codePartsUptoCard
end Rows
end Go.Proofs.YtaomlfbcfmmhlaaDoor
