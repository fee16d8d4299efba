/-
  DERIVED. GIVEN WITH THE SEED: THE CARDS: each row of YtbkhlcbnnjgdpaaGreatDoorRows.lean that lists a variable, with what it lists TIED to the program's text (the seventh form; the later family's looks); each row that meets fmt, with fmt's text TOLD by the authors' own Lean function (tested against real Go, not proved from fmt's source: count such statements apart). THE CARD IS WHAT COUNTS. Prove the row's statement (the work); the ties are given (YtbkhlcbnnjgdpaaGreatDoorTie.lean); close each card by the builder's one call (the guide's Derived/Test/ToyasCard.lean, 'card_holds'). Laid BY PROGRAM, IN A SANDBOX (cutbox-door.mjs). By AI agents, Wed Nov 11 2026. No macro, syntax, notation, axiom, sorry.
-/
import Derived.Test.YtbkhlcbnnjgdpaaGreatDoorRows
import GoSem.ClaimSeven
namespace Go.Proofs.YtbkhlcbnnjgdpaaGreatDoor
namespace Rows

/-- THE TIED CARD OF 'laws.FnFleeces'. -/
def fnFleecesCard : Claim7 := { stood := { row := fnFleecesRow, standIns := [], harness := (true, "58dea0b313c6a6b54767fb1d5dfa92101cb4700dbeccb0d36c6018795f7d37e3"), looks := true }, kinds := [], alts := [], laidByText := true, laidKinds := [.data, .data, .data, .data, .sentinel, .sentinel, .pinned], laidTests := true, laidLooks := .later }
def FnFleecesCardSaid : Prop := Claim7.holds Tryz.pinned (.plain (OpenSpec.ofChange fnFleecesSpec)) fnFleecesCard

/-- THE SECOND FORM's CARD OF 'laws.FnFleeces'. -/
def fnFleecesUptoCard : Claim7 := { stood := { row := fnFleecesUptoRow, standIns := [], harness := (true, "58dea0b313c6a6b54767fb1d5dfa92101cb4700dbeccb0d36c6018795f7d37e3"), looks := true }, kinds := [], alts := [], laidByText := true, laidKinds := [.data, .data, .data, .data, .sentinel, .sentinel, .pinned], laidTests := true, laidLooks := .later }
def FnFleecesUptoCardSaid : Prop := Claim7.holds Tryz.pinned (.plain (OpenSpec.upto fnFleecesSpec)) fnFleecesUptoCard
end Rows
end Go.Proofs.YtbkhlcbnnjgdpaaGreatDoor
