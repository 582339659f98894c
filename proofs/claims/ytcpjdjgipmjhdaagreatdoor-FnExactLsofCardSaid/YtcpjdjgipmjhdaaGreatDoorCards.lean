/-
  DERIVED. GIVEN WITH THE SEED: THE CARDS: each row of YtcpjdjgipmjhdaaGreatDoorRows.lean that lists a variable, with what it lists TIED to the program's text (the seventh form; the later family's looks); each row that meets fmt, with fmt's text TOLD by the authors' own Lean function (tested against real Go, not proved from fmt's source: count such statements apart). THE CARD IS WHAT COUNTS. Prove the row's statement (the work); the ties are given (YtcpjdjgipmjhdaaGreatDoorTie.lean); close each card by the builder's one call (the guide's Derived/Test/ToyasCard.lean, 'card_holds'). Laid BY PROGRAM, IN A SANDBOX (cutbox-door.mjs). By AI agents, Wed Nov 11 2026. No macro, syntax, notation, axiom, sorry.
-/
import Derived.Test.YtcpjdjgipmjhdaaGreatDoorRows
import GoSem.ClaimSeven
namespace Go.Proofs.YtcpjdjgipmjhdaaGreatDoor
namespace Rows

/-- THE TIED CARD OF 'laws.FnExactLsof'. -/
def fnExactLsofCard : Claim7 := { stood := { row := fnExactLsofRow, standIns := [], harness := (true, "3beab2df882e5d0dc92ef637e2006a91d4b0f15a2177210b464fa71bcc243d4c"), looks := false }, kinds := [], alts := [], laidByText := true, laidKinds := [.data, .data, .data], laidTests := true, laidLooks := .later }
def FnExactLsofCardSaid : Prop := Claim7.holds Tryz.pinned (.plain (OpenSpec.ofChange fnExactLsofSpec)) fnExactLsofCard

/-- THE TIED CARD OF 'laws.FnExactPs'. -/
def fnExactPsCard : Claim7 := { stood := { row := fnExactPsRow, standIns := [], harness := (true, "3beab2df882e5d0dc92ef637e2006a91d4b0f15a2177210b464fa71bcc243d4c"), looks := false }, kinds := [], alts := [], laidByText := true, laidKinds := [.data, .data, .data], laidTests := true, laidLooks := .later }
def FnExactPsCardSaid : Prop := Claim7.holds Tryz.pinned (.plain (OpenSpec.ofChange fnExactPsSpec)) fnExactPsCard

/-- THE SECOND FORM's CARD OF 'laws.FnExactLsof'. -/
def fnExactLsofUptoCard : Claim7 := { stood := { row := fnExactLsofUptoRow, standIns := [], harness := (true, "3beab2df882e5d0dc92ef637e2006a91d4b0f15a2177210b464fa71bcc243d4c"), looks := false }, kinds := [], alts := [], laidByText := true, laidKinds := [.data, .data, .data], laidTests := true, laidLooks := .later }
def FnExactLsofUptoCardSaid : Prop := Claim7.holds Tryz.pinned (.plain (OpenSpec.upto fnExactLsofSpec)) fnExactLsofUptoCard

/-- THE SECOND FORM's CARD OF 'laws.FnExactPs'. -/
def fnExactPsUptoCard : Claim7 := { stood := { row := fnExactPsUptoRow, standIns := [], harness := (true, "3beab2df882e5d0dc92ef637e2006a91d4b0f15a2177210b464fa71bcc243d4c"), looks := false }, kinds := [], alts := [], laidByText := true, laidKinds := [.data, .data, .data], laidTests := true, laidLooks := .later }
def FnExactPsUptoCardSaid : Prop := Claim7.holds Tryz.pinned (.plain (OpenSpec.upto fnExactPsSpec)) fnExactPsUptoCard
end Rows
end Go.Proofs.YtcpjdjgipmjhdaaGreatDoor
