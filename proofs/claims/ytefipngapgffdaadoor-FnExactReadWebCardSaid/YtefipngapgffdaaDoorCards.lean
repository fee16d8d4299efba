/-
  DERIVED. GIVEN WITH THE SEED: THE CARDS: each row of YtefipngapgffdaaDoorRows.lean that lists a variable, with what it lists TIED to the program's text (the seventh form; the later family's looks); each row that meets fmt, with fmt's text TOLD by the authors' own Lean function (tested against real Go, not proved from fmt's source: count such statements apart). THE CARD IS WHAT COUNTS. Prove the row's statement (the work); the ties are given (YtefipngapgffdaaDoorTie.lean); close each card by the builder's one call (the guide's Derived/Test/ToyasCard.lean, 'card_holds'). Laid BY PROGRAM, IN A SANDBOX (cutbox-door.mjs). By AI agents, Wed Nov 11 2026. No macro, syntax, notation, axiom, sorry.
-/
import Derived.Test.YtefipngapgffdaaDoorRows
import GoSem.ClaimSeven
namespace Go.Proofs.YtefipngapgffdaaDoor
namespace Rows

/-- THE TIED CARD OF 'laws.FnExactWebText'. -/
def fnExactWebTextCard : Claim7 := { stood := { row := fnExactWebTextRow, standIns := [], harness := (true, "d47955f7295b4daa49af9a64300e2f514c7da889433d6ae54c8175c348017729"), looks := true }, kinds := [], alts := [], laidByText := true, laidKinds := [.data, .data, .data], laidTests := true, laidLooks := .later }
def FnExactWebTextCardSaid : Prop := Claim7.holds Tryd.pinned (.plain (OpenSpec.ofChange fnExactWebTextSpec)) fnExactWebTextCard

/-- THE TIED CARD OF 'laws.FnExactReadWeb'. -/
def fnExactReadWebCard : Claim7 := { stood := { row := fnExactReadWebRow, standIns := [], harness := (true, "d47955f7295b4daa49af9a64300e2f514c7da889433d6ae54c8175c348017729"), looks := true }, kinds := [], alts := [], laidByText := true, laidKinds := [.data, .data, .data, .data, .sentinel, .sentinel, .pinned], laidTests := true, laidLooks := .later }
def FnExactReadWebCardSaid : Prop := Claim7.holds Tryd.pinned (.plain (OpenSpec.ofChange fnExactReadWebSpec)) fnExactReadWebCard

/-- THE SECOND FORM's CARD OF 'laws.FnExactWebText'. -/
def fnExactWebTextUptoCard : Claim7 := { stood := { row := fnExactWebTextUptoRow, standIns := [], harness := (true, "d47955f7295b4daa49af9a64300e2f514c7da889433d6ae54c8175c348017729"), looks := true }, kinds := [], alts := [], laidByText := true, laidKinds := [.data, .data, .data], laidTests := true, laidLooks := .later }
def FnExactWebTextUptoCardSaid : Prop := Claim7.holds Tryd.pinned (.plain (OpenSpec.upto fnExactWebTextSpec)) fnExactWebTextUptoCard

/-- THE SECOND FORM's CARD OF 'laws.FnExactReadWeb'. -/
def fnExactReadWebUptoCard : Claim7 := { stood := { row := fnExactReadWebUptoRow, standIns := [], harness := (true, "d47955f7295b4daa49af9a64300e2f514c7da889433d6ae54c8175c348017729"), looks := true }, kinds := [], alts := [], laidByText := true, laidKinds := [.data, .data, .data, .data, .sentinel, .sentinel, .pinned], laidTests := true, laidLooks := .later }
def FnExactReadWebUptoCardSaid : Prop := Claim7.holds Tryd.pinned (.plain (OpenSpec.upto fnExactReadWebSpec)) fnExactReadWebUptoCard
end Rows
end Go.Proofs.YtefipngapgffdaaDoor
