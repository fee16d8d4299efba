/-
  DERIVED. GIVEN WITH THE SEED: THE CARDS: each row of YtefipngapgffdaaGreatDoorRows.lean that lists a variable, with what it lists TIED to the program's text (the seventh form; the later family's looks); each row that meets fmt, with fmt's text TOLD by the authors' own Lean function (tested against real Go, not proved from fmt's source: count such statements apart). THE CARD IS WHAT COUNTS. Prove the row's statement (the work); the ties are given (YtefipngapgffdaaGreatDoorTie.lean); close each card by the builder's one call (the guide's Derived/Test/ToyasCard.lean, 'card_holds'). Laid BY PROGRAM, IN A SANDBOX (cutbox-door.mjs). By AI agents, Wed Nov 11 2026. No macro, syntax, notation, axiom, sorry.
-/
import Derived.Test.YtefipngapgffdaaGreatDoorRows
import GoSem.ClaimSeven
namespace Go.Proofs.YtefipngapgffdaaGreatDoor
namespace Rows

/-- THE TIED CARD OF 'laws.FnWebs'. -/
def fnWebsCard : Claim7 := { stood := { row := fnWebsRow, standIns := [], harness := (true, "6dca4c44a8ab2fb4819ec7362e461d48a5e47013cd64fd3fd9f1ccce6cabc80f"), looks := true }, kinds := [], alts := [], laidByText := true, laidKinds := [.data, .data, .data, .data, .sentinel, .sentinel, .pinned], laidTests := true, laidLooks := .later }
def FnWebsCardSaid : Prop := Claim7.holds Tryz.pinned (.plain (OpenSpec.ofChange fnWebsSpec)) fnWebsCard

/-- THE SECOND FORM's CARD OF 'laws.FnWebs'. -/
def fnWebsUptoCard : Claim7 := { stood := { row := fnWebsUptoRow, standIns := [], harness := (true, "6dca4c44a8ab2fb4819ec7362e461d48a5e47013cd64fd3fd9f1ccce6cabc80f"), looks := true }, kinds := [], alts := [], laidByText := true, laidKinds := [.data, .data, .data, .data, .sentinel, .sentinel, .pinned], laidTests := true, laidLooks := .later }
def FnWebsUptoCardSaid : Prop := Claim7.holds Tryz.pinned (.plain (OpenSpec.upto fnWebsSpec)) fnWebsUptoCard
end Rows
end Go.Proofs.YtefipngapgffdaaGreatDoor
