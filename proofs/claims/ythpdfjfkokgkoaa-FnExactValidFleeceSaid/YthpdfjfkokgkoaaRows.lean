/-
  No cell of these rows narrows 'for every input' (looked for: loops, veiled, ifaces, maps, wideKeys, modest, calm, conditions, laid).
  DERIVED. THE GIVEN ROWS OF THIS SEAT. 6 by the template 'for every input the law returns true; each argument reads behind the call as it read before'; 0 by the template 'total and deterministic' (their statements: YthpdfjfkokgkoaaTotals.lean).
  GIVEN WITH THE SEED: the statements are not yours to turn. If you find one false, say at which input.
  Laid BY PROGRAM, IN A SANDBOX (cutbox-rows.mjs): the forced cells as the released guide's own fill.sh prints them over the translation 7a8be1a874a30375… (all of the seat's roots in one cut). By AI agents, Wed Nov 11 2026. No macro, syntax, notation, axiom, sorry.
-/
import Derived.Test.YthpdfjfkokgkoaaChecked
import GoSem.Claim
import GoSem.ClaimJoined
import GoSem.ClaimMapViews
import Derived.JoinedTies
import Derived.KernelRfl
namespace Go.Proofs.Ythpdfjfkokgkoaa
/- THE CELL 'sum', in the pinned program and in every row, IS THE sha256 OF THE DUMP (.gsa) THAT YthpdfjfkokgkoaaProg.lean LOADS. Nothing in Lean hashes anything: it is a label: what it is worth is what the hold of that sum in a sandbox is worth. -/
noncomputable def Try.pinned : Pinned := { name := "ythpdfjfkokgkoaa", sum := "7a8be1a874a303755189e651ed063ffb24c86d946239c96f145da17a1f6f3e79", checked := Try.checked }
namespace Rows
def none {H : Type} : Left H := { results := [], args := [] }

/-- 'laws.FnExactConstants': WHATEVER THE INPUT: true; the input reads as it did. -/
def fnExactConstantsSpec : ChangeSpec := { name := "fnExactConstants", fn := fun _ => fun
  | [] => { results := [.lit (.bool true)], args := [] }
  | _ => none }
def fnExactConstantsRow : OpenClaim := { program := "ythpdfjfkokgkoaa", sum := "7a8be1a874a303755189e651ed063ffb24c86d946239c96f145da17a1f6f3e79", func := "loop.example/g01384/laws.FnExactConstants", spec := "fnExactConstants", apart := false }
def FnExactConstantsSaid : Prop := fnExactConstantsRow.holds Try.pinned (OpenSpec.ofChange fnExactConstantsSpec)

/-- ITS FALSE NEIGHBOUR: 'it returns false'. Refute it at one input. -/
def fnExactConstantsWrong : ChangeSpec := { name := "fnExactConstants", fn := fun _ => fun
  | [] => { results := [.lit (.bool false)], args := [] }
  | _ => none }
def FnExactConstantsWrongFalsely : Prop := fnExactConstantsRow.holds Try.pinned (OpenSpec.ofChange fnExactConstantsWrong)

/-- 'laws.FnExactCodeName': WHATEVER THE INPUT: true; the input reads as it did. -/
def fnExactCodeNameSpec : ChangeSpec := { name := "fnExactCodeName", fn := fun _ => fun
  | [d] => { results := [.lit (.bool true)], args := [d] }
  | _ => none }
def fnExactCodeNameRow : OpenClaim := { program := "ythpdfjfkokgkoaa", sum := "7a8be1a874a303755189e651ed063ffb24c86d946239c96f145da17a1f6f3e79", func := "loop.example/g01384/laws.FnExactCodeName", spec := "fnExactCodeName", apart := false }
def FnExactCodeNameSaid : Prop := fnExactCodeNameRow.holds Try.pinned (OpenSpec.ofChange fnExactCodeNameSpec)

/-- ITS FALSE NEIGHBOUR: 'it returns false'. Refute it at one input. -/
def fnExactCodeNameWrong : ChangeSpec := { name := "fnExactCodeName", fn := fun _ => fun
  | [d] => { results := [.lit (.bool false)], args := [d] }
  | _ => none }
def FnExactCodeNameWrongFalsely : Prop := fnExactCodeNameRow.holds Try.pinned (OpenSpec.ofChange fnExactCodeNameWrong)

/-- 'laws.FnExactValidYarn': WHATEVER THE INPUT: true; the input reads as it did. -/
def fnExactValidYarnSpec : ChangeSpec := { name := "fnExactValidYarn", fn := fun _ => fun
  | [d] => { results := [.lit (.bool true)], args := [d] }
  | _ => none }
def fnExactValidYarnRow : OpenClaim := { program := "ythpdfjfkokgkoaa", sum := "7a8be1a874a303755189e651ed063ffb24c86d946239c96f145da17a1f6f3e79", func := "loop.example/g01384/laws.FnExactValidYarn", spec := "fnExactValidYarn", apart := false }
def FnExactValidYarnSaid : Prop := fnExactValidYarnRow.holds Try.pinned (OpenSpec.ofChange fnExactValidYarnSpec)

/-- ITS FALSE NEIGHBOUR: 'it returns false'. Refute it at one input. -/
def fnExactValidYarnWrong : ChangeSpec := { name := "fnExactValidYarn", fn := fun _ => fun
  | [d] => { results := [.lit (.bool false)], args := [d] }
  | _ => none }
def FnExactValidYarnWrongFalsely : Prop := fnExactValidYarnRow.holds Try.pinned (OpenSpec.ofChange fnExactValidYarnWrong)

/-- 'laws.FnExactValidHeap': WHATEVER THE INPUT: true; the input reads as it did. -/
def fnExactValidHeapSpec : ChangeSpec := { name := "fnExactValidHeap", fn := fun _ => fun
  | [d] => { results := [.lit (.bool true)], args := [d] }
  | _ => none }
def fnExactValidHeapRow : OpenClaim := { program := "ythpdfjfkokgkoaa", sum := "7a8be1a874a303755189e651ed063ffb24c86d946239c96f145da17a1f6f3e79", func := "loop.example/g01384/laws.FnExactValidHeap", spec := "fnExactValidHeap", unfollowed := true, recurses := true, apart := false }
def FnExactValidHeapSaid : Prop := fnExactValidHeapRow.holds Try.pinned (OpenSpec.ofChange fnExactValidHeapSpec)

/-- ITS FALSE NEIGHBOUR: 'it returns false'. Refute it at one input. -/
def fnExactValidHeapWrong : ChangeSpec := { name := "fnExactValidHeap", fn := fun _ => fun
  | [d] => { results := [.lit (.bool false)], args := [d] }
  | _ => none }
def FnExactValidHeapWrongFalsely : Prop := fnExactValidHeapRow.holds Try.pinned (OpenSpec.ofChange fnExactValidHeapWrong)

/-- 'laws.FnExactValidFleece': WHATEVER THE INPUT: true; the input reads as it did. -/
def fnExactValidFleeceSpec : ChangeSpec := { name := "fnExactValidFleece", fn := fun _ => fun
  | [d] => { results := [.lit (.bool true)], args := [d] }
  | _ => none }
def fnExactValidFleeceRow : OpenClaim := { program := "ythpdfjfkokgkoaa", sum := "7a8be1a874a303755189e651ed063ffb24c86d946239c96f145da17a1f6f3e79", func := "loop.example/g01384/laws.FnExactValidFleece", spec := "fnExactValidFleece", unfollowed := true, recurses := true, apart := false }
def FnExactValidFleeceSaid : Prop := fnExactValidFleeceRow.holds Try.pinned (OpenSpec.ofChange fnExactValidFleeceSpec)

/-- ITS FALSE NEIGHBOUR: 'it returns false'. Refute it at one input. -/
def fnExactValidFleeceWrong : ChangeSpec := { name := "fnExactValidFleece", fn := fun _ => fun
  | [d] => { results := [.lit (.bool false)], args := [d] }
  | _ => none }
def FnExactValidFleeceWrongFalsely : Prop := fnExactValidFleeceRow.holds Try.pinned (OpenSpec.ofChange fnExactValidFleeceWrong)

/-- 'laws.FnExactValidWeb': WHATEVER THE INPUT: true; the input reads as it did. -/
def fnExactValidWebSpec : ChangeSpec := { name := "fnExactValidWeb", fn := fun _ => fun
  | [d] => { results := [.lit (.bool true)], args := [d] }
  | _ => none }
def fnExactValidWebRow : OpenClaim := { program := "ythpdfjfkokgkoaa", sum := "7a8be1a874a303755189e651ed063ffb24c86d946239c96f145da17a1f6f3e79", func := "loop.example/g01384/laws.FnExactValidWeb", spec := "fnExactValidWeb", unfollowed := true, recurses := true, apart := false }
def FnExactValidWebSaid : Prop := fnExactValidWebRow.holds Try.pinned (OpenSpec.ofChange fnExactValidWebSpec)

/-- ITS FALSE NEIGHBOUR: 'it returns false'. Refute it at one input. -/
def fnExactValidWebWrong : ChangeSpec := { name := "fnExactValidWeb", fn := fun _ => fun
  | [d] => { results := [.lit (.bool false)], args := [d] }
  | _ => none }
def FnExactValidWebWrongFalsely : Prop := fnExactValidWebRow.holds Try.pinned (OpenSpec.ofChange fnExactValidWebWrong)

/- THE SECOND FORM. 'bulk': how many values and letters a reading holds, each counted each time it is reached (what is shared counts as often as it is met; a slice's spare places count too). A statement '..UptoSaid' is the law's where the arguments, and the package variables that the reading takes, are together of bulk at most 1048576: NARROWER than '..Said'. Prove '..Said' where nothing that the law and all that it calls make is longer than what came in: it says more and counts as full. Else prove '..UptoSaid'. A law counts once. -/
mutual
def uptoBulk {H : Type} : DataW H → Nat
  | .lit (.string bytes) => bytes.length + 1
  | .lit _ => 1
  | .nil => 1
  | .ptr d => uptoBulk d + 1
  | .slice elems spare => uptoBulkAll elems + uptoBulkAll spare + 1
  | .agg parts => uptoBulkAll parts + 1
  | .iface _ d => uptoBulk d + 1
  | .map entries => uptoBulkEntries entries + 1
  | .held _ => 1
def uptoBulkAll {H : Type} : List (DataW H) → Nat
  | [] => 0
  | d :: r => uptoBulk d + uptoBulkAll r
def uptoBulkEntries {H : Type} : List (Lit × DataW H) → Nat
  | [] => 0
  | x :: r => uptoBulkEntry x + uptoBulkEntries r
def uptoBulkEntry {H : Type} : Lit × DataW H → Nat
  | (.string bytes, d) => bytes.length + uptoBulk d + 1
  | (_, d) => uptoBulk d + 1
 end
def uptoSmall : (H : Type) → List (DataW H) → Bool := fun _ ds => decide (uptoBulkAll ds ≤ 1048576)
def OpenSpec.upto (s : _root_.Go.ChangeSpec) : _root_.Go.OpenSpec := { _root_.Go.OpenSpec.ofChange s with cond := some uptoSmall }

/-- 'laws.FnExactConstants', WHERE WHAT IT READS IS OF BULK AT MOST 1048576: true; the input reads as it did. -/
def fnExactConstantsUptoRow : OpenClaim := { program := "ythpdfjfkokgkoaa", sum := "7a8be1a874a303755189e651ed063ffb24c86d946239c96f145da17a1f6f3e79", func := "loop.example/g01384/laws.FnExactConstants", spec := "fnExactConstants", apart := false, narrowed := true }
def FnExactConstantsUptoSaid : Prop := fnExactConstantsUptoRow.holds Try.pinned (OpenSpec.upto fnExactConstantsSpec)

/-- 'laws.FnExactCodeName', WHERE WHAT IT READS IS OF BULK AT MOST 1048576: true; the input reads as it did. -/
def fnExactCodeNameUptoRow : OpenClaim := { program := "ythpdfjfkokgkoaa", sum := "7a8be1a874a303755189e651ed063ffb24c86d946239c96f145da17a1f6f3e79", func := "loop.example/g01384/laws.FnExactCodeName", spec := "fnExactCodeName", apart := false, narrowed := true }
def FnExactCodeNameUptoSaid : Prop := fnExactCodeNameUptoRow.holds Try.pinned (OpenSpec.upto fnExactCodeNameSpec)

/-- 'laws.FnExactValidYarn', WHERE WHAT IT READS IS OF BULK AT MOST 1048576: true; the input reads as it did. -/
def fnExactValidYarnUptoRow : OpenClaim := { program := "ythpdfjfkokgkoaa", sum := "7a8be1a874a303755189e651ed063ffb24c86d946239c96f145da17a1f6f3e79", func := "loop.example/g01384/laws.FnExactValidYarn", spec := "fnExactValidYarn", apart := false, narrowed := true }
def FnExactValidYarnUptoSaid : Prop := fnExactValidYarnUptoRow.holds Try.pinned (OpenSpec.upto fnExactValidYarnSpec)

/-- 'laws.FnExactValidHeap', WHERE WHAT IT READS IS OF BULK AT MOST 1048576: true; the input reads as it did. -/
def fnExactValidHeapUptoRow : OpenClaim := { program := "ythpdfjfkokgkoaa", sum := "7a8be1a874a303755189e651ed063ffb24c86d946239c96f145da17a1f6f3e79", func := "loop.example/g01384/laws.FnExactValidHeap", spec := "fnExactValidHeap", unfollowed := true, recurses := true, apart := false, narrowed := true }
def FnExactValidHeapUptoSaid : Prop := fnExactValidHeapUptoRow.holds Try.pinned (OpenSpec.upto fnExactValidHeapSpec)

/-- 'laws.FnExactValidFleece', WHERE WHAT IT READS IS OF BULK AT MOST 1048576: true; the input reads as it did. -/
def fnExactValidFleeceUptoRow : OpenClaim := { program := "ythpdfjfkokgkoaa", sum := "7a8be1a874a303755189e651ed063ffb24c86d946239c96f145da17a1f6f3e79", func := "loop.example/g01384/laws.FnExactValidFleece", spec := "fnExactValidFleece", unfollowed := true, recurses := true, apart := false, narrowed := true }
def FnExactValidFleeceUptoSaid : Prop := fnExactValidFleeceUptoRow.holds Try.pinned (OpenSpec.upto fnExactValidFleeceSpec)

/-- 'laws.FnExactValidWeb', WHERE WHAT IT READS IS OF BULK AT MOST 1048576: true; the input reads as it did. -/
def fnExactValidWebUptoRow : OpenClaim := { program := "ythpdfjfkokgkoaa", sum := "7a8be1a874a303755189e651ed063ffb24c86d946239c96f145da17a1f6f3e79", func := "loop.example/g01384/laws.FnExactValidWeb", spec := "fnExactValidWeb", unfollowed := true, recurses := true, apart := false, narrowed := true }
def FnExactValidWebUptoSaid : Prop := fnExactValidWebUptoRow.holds Try.pinned (OpenSpec.upto fnExactValidWebSpec)

end Rows
end Go.Proofs.Ythpdfjfkokgkoaa
