/-
  DERIVED. GIVEN WITH THE SEED: THE CARDS: each row of YtjjdmabhmpkijaaDoorRows.lean that lists a variable, with what it lists TIED to the program's text (the seventh form; the later family's looks); each row that meets fmt, with fmt's text TOLD by the authors' own Lean function (tested against real Go, not proved from fmt's source: count such statements apart). THE CARD IS WHAT COUNTS. Prove the row's statement (the work); the ties are given (YtjjdmabhmpkijaaDoorTie.lean); close each card by the builder's one call (the guide's Derived/Test/ToyasCard.lean, 'card_holds'). Laid BY PROGRAM, IN A SANDBOX (cutbox-door.mjs). By AI agents, Wed Nov 11 2026. No macro, syntax, notation, axiom, sorry.
-/
import Derived.Test.YtjjdmabhmpkijaaDoorRows
import GoSem.ClaimSeven
namespace Go.Proofs.YtjjdmabhmpkijaaDoor
namespace Rows

/-- THE TIED CARD OF 'laws.FnExactFleecesText'. -/
def fnExactFleecesTextCard : Claim7 := { stood := { row := fnExactFleecesTextRow, standIns := [], harness := (true, "af336e30bfdd3dc507f94b60940f782deae949add9bf2b93cdde2a9260f5e7c3"), looks := true }, kinds := [], alts := [], laidByText := true, laidKinds := [.data, .data, .data], laidTests := true, laidLooks := .later }
def FnExactFleecesTextCardSaid : Prop := Claim7.holds Tryd.pinned (.plain (OpenSpec.ofChange fnExactFleecesTextSpec)) fnExactFleecesTextCard

/-- THE TIED CARD OF 'laws.FnExactReadFleeces'. -/
def fnExactReadFleecesCard : Claim7 := { stood := { row := fnExactReadFleecesRow, standIns := [], harness := (true, "af336e30bfdd3dc507f94b60940f782deae949add9bf2b93cdde2a9260f5e7c3"), looks := true }, kinds := [], alts := [], laidByText := true, laidKinds := [.data, .data, .data, .data, .sentinel, .sentinel, .pinned], laidTests := true, laidLooks := .later }
def FnExactReadFleecesCardSaid : Prop := Claim7.holds Tryd.pinned (.plain (OpenSpec.ofChange fnExactReadFleecesSpec)) fnExactReadFleecesCard

/-- THE SECOND FORM's CARD OF 'laws.FnExactFleecesText'. -/
def fnExactFleecesTextUptoCard : Claim7 := { stood := { row := fnExactFleecesTextUptoRow, standIns := [], harness := (true, "af336e30bfdd3dc507f94b60940f782deae949add9bf2b93cdde2a9260f5e7c3"), looks := true }, kinds := [], alts := [], laidByText := true, laidKinds := [.data, .data, .data], laidTests := true, laidLooks := .later }
def FnExactFleecesTextUptoCardSaid : Prop := Claim7.holds Tryd.pinned (.plain (OpenSpec.upto fnExactFleecesTextSpec)) fnExactFleecesTextUptoCard

/-- THE SECOND FORM's CARD OF 'laws.FnExactReadFleeces'. -/
def fnExactReadFleecesUptoCard : Claim7 := { stood := { row := fnExactReadFleecesUptoRow, standIns := [], harness := (true, "af336e30bfdd3dc507f94b60940f782deae949add9bf2b93cdde2a9260f5e7c3"), looks := true }, kinds := [], alts := [], laidByText := true, laidKinds := [.data, .data, .data, .data, .sentinel, .sentinel, .pinned], laidTests := true, laidLooks := .later }
def FnExactReadFleecesUptoCardSaid : Prop := Claim7.holds Tryd.pinned (.plain (OpenSpec.upto fnExactReadFleecesSpec)) fnExactReadFleecesUptoCard
end Rows
end Go.Proofs.YtjjdmabhmpkijaaDoor
