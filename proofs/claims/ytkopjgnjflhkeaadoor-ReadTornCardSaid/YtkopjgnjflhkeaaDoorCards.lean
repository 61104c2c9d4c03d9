/-
  DERIVED. GIVEN WITH THE SEED: THE CARDS: each row of YtkopjgnjflhkeaaDoorRows.lean that lists a variable, with what it lists TIED to the program's text (the seventh form; the later family's looks); each row that meets fmt, with fmt's text TOLD by the authors' own Lean function (tested against real Go, not proved from fmt's source: count such statements apart). THE CARD IS WHAT COUNTS. Prove the row's statement (the work); the ties are given (YtkopjgnjflhkeaaDoorTie.lean); close each card by the builder's one call (the guide's Derived/Test/ToyasCard.lean, 'card_holds'). Laid BY PROGRAM, IN A SANDBOX (cutbox-door.mjs). By AI agents, Wed Nov 11 2026. No macro, syntax, notation, axiom, sorry.
-/
import Derived.Test.YtkopjgnjflhkeaaDoorRows
import GoSem.ClaimSeven
namespace Go.Proofs.YtkopjgnjflhkeaaDoor
namespace Rows

/-- THE TIED CARD OF 'posternkeep.ReadTexts'. -/
def readTextsCard : Claim7 := { stood := { row := readTextsRow, standIns := [], harness := (true, "a82bb3d270c845199d5162dda7a13367d6bee1920aef74228968e16b431b0740"), looks := true }, kinds := [], alts := [], laidByText := true, laidKinds := [.data, .data, .data, .sentinel, .sentinel, .widerDeep, .widerDeep, .widerDeep], laidTests := true, laidLooks := .later }
def ReadTextsCardSaid : Prop := Claim7.holds Tryd.pinned (.plain (OpenSpec.ofChange readTextsSpec)) readTextsCard

/-- THE TIED CARD OF 'posternkeep.ReadBad'. -/
def readBadCard : Claim7 := { stood := { row := readBadRow, standIns := [], harness := (true, "a82bb3d270c845199d5162dda7a13367d6bee1920aef74228968e16b431b0740"), looks := true }, kinds := [], alts := [], laidByText := true, laidKinds := [.data, .data, .data, .sentinel, .sentinel, .widerDeep, .widerDeep, .widerDeep], laidTests := true, laidLooks := .later }
def ReadBadCardSaid : Prop := Claim7.holds Tryd.pinned (.plain (OpenSpec.ofChange readBadSpec)) readBadCard

/-- THE TIED CARD OF 'posternkeep.ReadTorn'. -/
def readTornCard : Claim7 := { stood := { row := readTornRow, standIns := [], harness := (true, "a82bb3d270c845199d5162dda7a13367d6bee1920aef74228968e16b431b0740"), looks := true }, kinds := [], alts := [], laidByText := true, laidKinds := [.data, .data, .data, .sentinel, .sentinel, .widerDeep, .widerDeep, .widerDeep], laidTests := true, laidLooks := .later }
def ReadTornCardSaid : Prop := Claim7.holds Tryd.pinned (.plain (OpenSpec.ofChange readTornSpec)) readTornCard

/-- THE SECOND FORM's CARD OF 'posternkeep.ReadTexts'. -/
def readTextsUptoCard : Claim7 := { stood := { row := readTextsUptoRow, standIns := [], harness := (true, "a82bb3d270c845199d5162dda7a13367d6bee1920aef74228968e16b431b0740"), looks := true }, kinds := [], alts := [], laidByText := true, laidKinds := [.data, .data, .data, .sentinel, .sentinel, .widerDeep, .widerDeep, .widerDeep], laidTests := true, laidLooks := .later }
def ReadTextsUptoCardSaid : Prop := Claim7.holds Tryd.pinned (.plain (OpenSpec.upto readTextsSpec)) readTextsUptoCard

/-- THE SECOND FORM's CARD OF 'posternkeep.ReadBad'. -/
def readBadUptoCard : Claim7 := { stood := { row := readBadUptoRow, standIns := [], harness := (true, "a82bb3d270c845199d5162dda7a13367d6bee1920aef74228968e16b431b0740"), looks := true }, kinds := [], alts := [], laidByText := true, laidKinds := [.data, .data, .data, .sentinel, .sentinel, .widerDeep, .widerDeep, .widerDeep], laidTests := true, laidLooks := .later }
def ReadBadUptoCardSaid : Prop := Claim7.holds Tryd.pinned (.plain (OpenSpec.upto readBadSpec)) readBadUptoCard

/-- THE SECOND FORM's CARD OF 'posternkeep.ReadTorn'. -/
def readTornUptoCard : Claim7 := { stood := { row := readTornUptoRow, standIns := [], harness := (true, "a82bb3d270c845199d5162dda7a13367d6bee1920aef74228968e16b431b0740"), looks := true }, kinds := [], alts := [], laidByText := true, laidKinds := [.data, .data, .data, .sentinel, .sentinel, .widerDeep, .widerDeep, .widerDeep], laidTests := true, laidLooks := .later }
def ReadTornUptoCardSaid : Prop := Claim7.holds Tryd.pinned (.plain (OpenSpec.upto readTornSpec)) readTornUptoCard
end Rows
end Go.Proofs.YtkopjgnjflhkeaaDoor
