/-
  DERIVED. GIVEN WITH THE SEED: THE CARDS: each row of YtnlleofnjkeimaaGreatDoorRows.lean that lists a variable, with what it lists TIED to the program's text (the seventh form; the later family's looks); each row that meets fmt, with fmt's text TOLD by the authors' own Lean function (tested against real Go, not proved from fmt's source: count such statements apart). THE CARD IS WHAT COUNTS. Prove the row's statement (the work); the ties are given (YtnlleofnjkeimaaGreatDoorTie.lean); close each card by the builder's one call (the guide's Derived/Test/ToyasCard.lean, 'card_holds'). Laid BY PROGRAM, IN A SANDBOX (cutbox-door.mjs). By AI agents, Wed Nov 11 2026. No macro, syntax, notation, axiom, sorry.
-/
import Derived.Test.YtnlleofnjkeimaaGreatDoorRows
import GoSem.ClaimSeven
namespace Go.Proofs.YtnlleofnjkeimaaGreatDoor
namespace Rows

/-- THE TIED CARD OF 'laws.FnPs'. -/
def fnPsCard : Claim7 := { stood := { row := fnPsRow, standIns := [], harness := (true, "8085526362f24b2bf67fb7735f845da1c68b39da9dde2869e49510c67edbc75a"), looks := false }, kinds := [], alts := [], laidByText := true, laidKinds := [.data, .data, .data], laidTests := true, laidLooks := .later }
def FnPsCardSaid : Prop := Claim7.holds Tryz.pinned (.plain (OpenSpec.ofChange fnPsSpec)) fnPsCard

/-- THE SECOND FORM's CARD OF 'laws.FnPs'. -/
def fnPsUptoCard : Claim7 := { stood := { row := fnPsUptoRow, standIns := [], harness := (true, "8085526362f24b2bf67fb7735f845da1c68b39da9dde2869e49510c67edbc75a"), looks := false }, kinds := [], alts := [], laidByText := true, laidKinds := [.data, .data, .data], laidTests := true, laidLooks := .later }
def FnPsUptoCardSaid : Prop := Claim7.holds Tryz.pinned (.plain (OpenSpec.upto fnPsSpec)) fnPsUptoCard
end Rows
end Go.Proofs.YtnlleofnjkeimaaGreatDoor
