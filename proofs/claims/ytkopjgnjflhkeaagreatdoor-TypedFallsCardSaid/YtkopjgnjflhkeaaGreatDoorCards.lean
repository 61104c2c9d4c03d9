/-
  DERIVED. GIVEN WITH THE SEED: THE CARDS: each row of YtkopjgnjflhkeaaGreatDoorRows.lean that lists a variable, with what it lists TIED to the program's text (the seventh form; the later family's looks); each row that meets fmt, with fmt's text TOLD by the authors' own Lean function (tested against real Go, not proved from fmt's source: count such statements apart). THE CARD IS WHAT COUNTS. Prove the row's statement (the work); the ties are given (YtkopjgnjflhkeaaGreatDoorTie.lean); close each card by the builder's one call (the guide's Derived/Test/ToyasCard.lean, 'card_holds'). Laid BY PROGRAM, IN A SANDBOX (cutbox-door.mjs). By AI agents, Wed Nov 11 2026. No macro, syntax, notation, axiom, sorry.
-/
import Derived.Test.YtkopjgnjflhkeaaGreatDoorRows
import GoSem.ClaimSeven
namespace Go.Proofs.YtkopjgnjflhkeaaGreatDoor
namespace Rows

/-- THE TIED CARD OF 'posternlaw.ReadReads'. -/
def readReadsCard : Claim7 := { stood := { row := readReadsRow, standIns := [], harness := (true, "73db7734f10b0251327ac45513d7d94e0af73dda8d879bb6dc909a2c41d5ace6"), looks := true }, kinds := [], alts := [], laidByText := true, laidKinds := [.data, .data, .data, .sentinel, .sentinel, .widerDeep, .widerDeep, .widerDeep], laidTests := true, laidLooks := .later }
def ReadReadsCardSaid : Prop := Claim7.holds Tryz.pinned (.plain (OpenSpec.ofChange readReadsSpec)) readReadsCard

/-- THE TIED CARD OF 'posternkeep.ReadGood'. -/
def readGoodCard : Claim7 := { stood := { row := readGoodRow, standIns := [], harness := (true, "73db7734f10b0251327ac45513d7d94e0af73dda8d879bb6dc909a2c41d5ace6"), looks := true }, kinds := [], alts := [], laidByText := true, laidKinds := [.data, .data, .data, .sentinel, .sentinel, .data, .data, .widerDeep, .widerDeep, .widerDeep], laidTests := true, laidLooks := .later }
def ReadGoodCardSaid : Prop := Claim7.holds Tryz.pinned (.plain (OpenSpec.ofChange readGoodSpec)) readGoodCard

/-- THE TIED CARD OF 'posternkeep.TypedBad'. -/
def typedBadCard : Claim7 := { stood := { row := typedBadRow, standIns := [], harness := (true, "73db7734f10b0251327ac45513d7d94e0af73dda8d879bb6dc909a2c41d5ace6"), looks := true }, kinds := [], alts := [], laidByText := true, laidKinds := [.data, .data, .data, .sentinel, .sentinel, .data, .data, .widerDeep, .widerDeep, .widerDeep], laidTests := true, laidLooks := .later }
def TypedBadCardSaid : Prop := Claim7.holds Tryz.pinned (.plain (OpenSpec.ofChange typedBadSpec)) typedBadCard

/-- THE TIED CARD OF 'posternkeep.TypedFalls'. -/
def typedFallsCard : Claim7 := { stood := { row := typedFallsRow, standIns := [], harness := (true, "73db7734f10b0251327ac45513d7d94e0af73dda8d879bb6dc909a2c41d5ace6"), looks := true }, kinds := [], alts := [], laidByText := true, laidKinds := [.data, .data, .data, .sentinel, .sentinel, .data, .data, .widerDeep, .widerDeep, .widerDeep], laidTests := true, laidLooks := .later }
def TypedFallsCardSaid : Prop := Claim7.holds Tryz.pinned (.plain (OpenSpec.ofChange typedFallsSpec)) typedFallsCard

/-- THE TIED CARD OF 'posternlaw.SsaOpts'. -/
def ssaOptsCard : Claim7 := { stood := { row := ssaOptsRow, standIns := [], harness := (true, "73db7734f10b0251327ac45513d7d94e0af73dda8d879bb6dc909a2c41d5ace6"), looks := true }, kinds := [], alts := [], laidByText := true, laidKinds := [.data, .data, .data, .data, .widerDeep], laidTests := true, laidLooks := .later }
def SsaOptsCardSaid : Prop := Claim7.holds Tryz.pinned (.plain (OpenSpec.ofChange ssaOptsSpec)) ssaOptsCard

/-- THE SECOND FORM's CARD OF 'posternlaw.ReadReads'. -/
def readReadsUptoCard : Claim7 := { stood := { row := readReadsUptoRow, standIns := [], harness := (true, "73db7734f10b0251327ac45513d7d94e0af73dda8d879bb6dc909a2c41d5ace6"), looks := true }, kinds := [], alts := [], laidByText := true, laidKinds := [.data, .data, .data, .sentinel, .sentinel, .widerDeep, .widerDeep, .widerDeep], laidTests := true, laidLooks := .later }
def ReadReadsUptoCardSaid : Prop := Claim7.holds Tryz.pinned (.plain (OpenSpec.upto readReadsSpec)) readReadsUptoCard

/-- THE SECOND FORM's CARD OF 'posternkeep.ReadGood'. -/
def readGoodUptoCard : Claim7 := { stood := { row := readGoodUptoRow, standIns := [], harness := (true, "73db7734f10b0251327ac45513d7d94e0af73dda8d879bb6dc909a2c41d5ace6"), looks := true }, kinds := [], alts := [], laidByText := true, laidKinds := [.data, .data, .data, .sentinel, .sentinel, .data, .data, .widerDeep, .widerDeep, .widerDeep], laidTests := true, laidLooks := .later }
def ReadGoodUptoCardSaid : Prop := Claim7.holds Tryz.pinned (.plain (OpenSpec.upto readGoodSpec)) readGoodUptoCard

/-- THE SECOND FORM's CARD OF 'posternkeep.TypedBad'. -/
def typedBadUptoCard : Claim7 := { stood := { row := typedBadUptoRow, standIns := [], harness := (true, "73db7734f10b0251327ac45513d7d94e0af73dda8d879bb6dc909a2c41d5ace6"), looks := true }, kinds := [], alts := [], laidByText := true, laidKinds := [.data, .data, .data, .sentinel, .sentinel, .data, .data, .widerDeep, .widerDeep, .widerDeep], laidTests := true, laidLooks := .later }
def TypedBadUptoCardSaid : Prop := Claim7.holds Tryz.pinned (.plain (OpenSpec.upto typedBadSpec)) typedBadUptoCard

/-- THE SECOND FORM's CARD OF 'posternkeep.TypedFalls'. -/
def typedFallsUptoCard : Claim7 := { stood := { row := typedFallsUptoRow, standIns := [], harness := (true, "73db7734f10b0251327ac45513d7d94e0af73dda8d879bb6dc909a2c41d5ace6"), looks := true }, kinds := [], alts := [], laidByText := true, laidKinds := [.data, .data, .data, .sentinel, .sentinel, .data, .data, .widerDeep, .widerDeep, .widerDeep], laidTests := true, laidLooks := .later }
def TypedFallsUptoCardSaid : Prop := Claim7.holds Tryz.pinned (.plain (OpenSpec.upto typedFallsSpec)) typedFallsUptoCard

/-- THE SECOND FORM's CARD OF 'posternlaw.SsaOpts'. -/
def ssaOptsUptoCard : Claim7 := { stood := { row := ssaOptsUptoRow, standIns := [], harness := (true, "73db7734f10b0251327ac45513d7d94e0af73dda8d879bb6dc909a2c41d5ace6"), looks := true }, kinds := [], alts := [], laidByText := true, laidKinds := [.data, .data, .data, .data, .widerDeep], laidTests := true, laidLooks := .later }
def SsaOptsUptoCardSaid : Prop := Claim7.holds Tryz.pinned (.plain (OpenSpec.upto ssaOptsSpec)) ssaOptsUptoCard
end Rows
end Go.Proofs.YtkopjgnjflhkeaaGreatDoor
