/-
  DERIVED. GIVEN WITH THE SEED: THE CARDS: each row of YthgfdcoicihpdaaDoorRows.lean that lists a variable, with what it lists TIED to the program's text (the seventh form; the later family's looks); each row that meets fmt, with fmt's text TOLD by the authors' own Lean function (tested against real Go, not proved from fmt's source: count such statements apart). THE CARD IS WHAT COUNTS. Prove the row's statement (the work); the ties are given (YthgfdcoicihpdaaDoorTie.lean); close each card by the builder's one call (the guide's Derived/Test/ToyasCard.lean, 'card_holds'). Laid BY PROGRAM, IN A SANDBOX (cutbox-door.mjs). By AI agents, Wed Nov 11 2026. No macro, syntax, notation, axiom, sorry.
-/
import Derived.Test.YthgfdcoicihpdaaDoorRows
import GoSem.ClaimSeven
namespace Go.Proofs.YthgfdcoicihpdaaDoor
namespace Rows

/-- THE TIED CARD OF 'posternlaw.SsaBacks'. -/
def ssaBacksCard : Claim7 := { stood := { row := ssaBacksRow, standIns := [], harness := (true, "8fd9fce121467a3ff9c88f0e45cb89b56f2e65bf968ab4a4c28d6dd67cad6ae6"), looks := false }, kinds := [], alts := [], laidByText := true, laidKinds := [.data, .widerDeep], laidTests := true, laidLooks := .later }
def SsaBacksCardSaid : Prop := Claim7.holds Tryd.pinned (.plain (OpenSpec.ofChange ssaBacksSpec)) ssaBacksCard

/-- THE SECOND FORM's CARD OF 'posternlaw.SsaBacks'. -/
def ssaBacksUptoCard : Claim7 := { stood := { row := ssaBacksUptoRow, standIns := [], harness := (true, "8fd9fce121467a3ff9c88f0e45cb89b56f2e65bf968ab4a4c28d6dd67cad6ae6"), looks := false }, kinds := [], alts := [], laidByText := true, laidKinds := [.data, .widerDeep], laidTests := true, laidLooks := .later }
def SsaBacksUptoCardSaid : Prop := Claim7.holds Tryd.pinned (.plain (OpenSpec.upto ssaBacksSpec)) ssaBacksUptoCard
end Rows
end Go.Proofs.YthgfdcoicihpdaaDoor
