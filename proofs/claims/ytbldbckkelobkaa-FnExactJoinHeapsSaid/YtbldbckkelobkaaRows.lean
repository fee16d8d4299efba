/-
  No cell of these rows narrows 'for every input' (looked for: loops, veiled, ifaces, maps, wideKeys, modest, calm, conditions, laid).
  DERIVED. THE GIVEN ROWS OF THIS SEAT. 6 by the template 'for every input the law returns true; each argument reads behind the call as it read before'; 0 by the template 'total and deterministic' (their statements: YtbldbckkelobkaaTotals.lean).
  GIVEN WITH THE SEED: the statements are not yours to turn. If you find one false, say at which input.
  Laid BY PROGRAM, IN A SANDBOX (cutbox-rows.mjs): the forced cells as the released guide's own fill.sh prints them over the translation 8c800fe4f4e2ca0b… (all of the seat's roots in one cut). By AI agents, Wed Nov 11 2026. No macro, syntax, notation, axiom, sorry.
-/
import Derived.Test.YtbldbckkelobkaaChecked
import GoSem.Claim
import GoSem.ClaimJoined
import GoSem.ClaimMapViews
import Derived.JoinedTies
import Derived.KernelRfl
namespace Go.Proofs.Ytbldbckkelobkaa
/- THE CELL 'sum', in the pinned program and in every row, IS THE sha256 OF THE DUMP (.gsa) THAT YtbldbckkelobkaaProg.lean LOADS. Nothing in Lean hashes anything: it is a label: what it is worth is what the hold of that sum in a sandbox is worth. -/
noncomputable def Try.pinned : Pinned := { name := "ytbldbckkelobkaa", sum := "8c800fe4f4e2ca0bdaf60239b37e1b4061be94bbb9a08e1552003054505f112d", checked := Try.checked }
namespace Rows
def none {H : Type} : Left H := { results := [], args := [] }

/-- 'laws.FnExactGramsOf': WHATEVER THE INPUT: true; the input reads as it did. -/
def fnExactGramsOfSpec : ChangeSpec := { name := "fnExactGramsOf", fn := fun _ => fun
  | [d] => { results := [.lit (.bool true)], args := [d] }
  | _ => none }
def fnExactGramsOfRow : OpenClaim := { program := "ytbldbckkelobkaa", sum := "8c800fe4f4e2ca0bdaf60239b37e1b4061be94bbb9a08e1552003054505f112d", func := "loop.example/g01384/laws.FnExactGramsOf", spec := "fnExactGramsOf", unfollowed := true, recurses := true, apart := false }
def FnExactGramsOfSaid : Prop := fnExactGramsOfRow.holds Try.pinned (OpenSpec.ofChange fnExactGramsOfSpec)

/-- ITS FALSE NEIGHBOUR: 'it returns false'. Refute it at one input. -/
def fnExactGramsOfWrong : ChangeSpec := { name := "fnExactGramsOf", fn := fun _ => fun
  | [d] => { results := [.lit (.bool false)], args := [d] }
  | _ => none }
def FnExactGramsOfWrongFalsely : Prop := fnExactGramsOfRow.holds Try.pinned (OpenSpec.ofChange fnExactGramsOfWrong)

/-- 'laws.FnExactMakeFraction': WHATEVER THE INPUT: true; the input reads as it did. -/
def fnExactMakeFractionSpec : ChangeSpec := { name := "fnExactMakeFraction", fn := fun _ => fun
  | [d1, d2] => { results := [.lit (.bool true)], args := [d1, d2] }
  | _ => none }
def fnExactMakeFractionRow : OpenClaim := { program := "ytbldbckkelobkaa", sum := "8c800fe4f4e2ca0bdaf60239b37e1b4061be94bbb9a08e1552003054505f112d", func := "loop.example/g01384/laws.FnExactMakeFraction", spec := "fnExactMakeFraction", apart := false }
def FnExactMakeFractionSaid : Prop := fnExactMakeFractionRow.holds Try.pinned (OpenSpec.ofChange fnExactMakeFractionSpec)

/-- ITS FALSE NEIGHBOUR: 'it returns false'. Refute it at one input. -/
def fnExactMakeFractionWrong : ChangeSpec := { name := "fnExactMakeFraction", fn := fun _ => fun
  | [d1, d2] => { results := [.lit (.bool false)], args := [d1, d2] }
  | _ => none }
def FnExactMakeFractionWrongFalsely : Prop := fnExactMakeFractionRow.holds Try.pinned (OpenSpec.ofChange fnExactMakeFractionWrong)

/-- 'laws.FnExactJoinHeaps': WHATEVER THE INPUT: true; the input reads as it did. -/
def fnExactJoinHeapsSpec : ChangeSpec := { name := "fnExactJoinHeaps", fn := fun _ => fun
  | [d1, d2] => { results := [.lit (.bool true)], args := [d1, d2] }
  | _ => none }
def fnExactJoinHeapsRow : OpenClaim := { program := "ytbldbckkelobkaa", sum := "8c800fe4f4e2ca0bdaf60239b37e1b4061be94bbb9a08e1552003054505f112d", func := "loop.example/g01384/laws.FnExactJoinHeaps", spec := "fnExactJoinHeaps", unfollowed := true, recurses := true, apart := false }
def FnExactJoinHeapsSaid : Prop := fnExactJoinHeapsRow.holds Try.pinned (OpenSpec.ofChange fnExactJoinHeapsSpec)

/-- ITS FALSE NEIGHBOUR: 'it returns false'. Refute it at one input. -/
def fnExactJoinHeapsWrong : ChangeSpec := { name := "fnExactJoinHeaps", fn := fun _ => fun
  | [d1, d2] => { results := [.lit (.bool false)], args := [d1, d2] }
  | _ => none }
def FnExactJoinHeapsWrongFalsely : Prop := fnExactJoinHeapsRow.holds Try.pinned (OpenSpec.ofChange fnExactJoinHeapsWrong)

/-- 'laws.FnExactWashedHeap': WHATEVER THE INPUT: true; the input reads as it did. -/
def fnExactWashedHeapSpec : ChangeSpec := { name := "fnExactWashedHeap", fn := fun _ => fun
  | [d1, d2] => { results := [.lit (.bool true)], args := [d1, d2] }
  | _ => none }
def fnExactWashedHeapRow : OpenClaim := { program := "ytbldbckkelobkaa", sum := "8c800fe4f4e2ca0bdaf60239b37e1b4061be94bbb9a08e1552003054505f112d", func := "loop.example/g01384/laws.FnExactWashedHeap", spec := "fnExactWashedHeap", unfollowed := true, recurses := true, apart := false }
def FnExactWashedHeapSaid : Prop := fnExactWashedHeapRow.holds Try.pinned (OpenSpec.ofChange fnExactWashedHeapSpec)

/-- ITS FALSE NEIGHBOUR: 'it returns false'. Refute it at one input. -/
def fnExactWashedHeapWrong : ChangeSpec := { name := "fnExactWashedHeap", fn := fun _ => fun
  | [d1, d2] => { results := [.lit (.bool false)], args := [d1, d2] }
  | _ => none }
def FnExactWashedHeapWrongFalsely : Prop := fnExactWashedHeapRow.holds Try.pinned (OpenSpec.ofChange fnExactWashedHeapWrong)

/-- 'laws.FnExactSortOut': WHATEVER THE INPUT: true; the input reads as it did. -/
def fnExactSortOutSpec : ChangeSpec := { name := "fnExactSortOut", fn := fun _ => fun
  | [d1, d2, d3] => { results := [.lit (.bool true)], args := [d1, d2, d3] }
  | _ => none }
def fnExactSortOutRow : OpenClaim := { program := "ytbldbckkelobkaa", sum := "8c800fe4f4e2ca0bdaf60239b37e1b4061be94bbb9a08e1552003054505f112d", func := "loop.example/g01384/laws.FnExactSortOut", spec := "fnExactSortOut", unfollowed := true, recurses := true, apart := false }
def FnExactSortOutSaid : Prop := fnExactSortOutRow.holds Try.pinned (OpenSpec.ofChange fnExactSortOutSpec)

/-- ITS FALSE NEIGHBOUR: 'it returns false'. Refute it at one input. -/
def fnExactSortOutWrong : ChangeSpec := { name := "fnExactSortOut", fn := fun _ => fun
  | [d1, d2, d3] => { results := [.lit (.bool false)], args := [d1, d2, d3] }
  | _ => none }
def FnExactSortOutWrongFalsely : Prop := fnExactSortOutRow.holds Try.pinned (OpenSpec.ofChange fnExactSortOutWrong)

/-- 'laws.FnExactCompareFractions': WHATEVER THE INPUT: true; the input reads as it did. -/
def fnExactCompareFractionsSpec : ChangeSpec := { name := "fnExactCompareFractions", fn := fun _ => fun
  | [d1, d2] => { results := [.lit (.bool true)], args := [d1, d2] }
  | _ => none }
def fnExactCompareFractionsRow : OpenClaim := { program := "ytbldbckkelobkaa", sum := "8c800fe4f4e2ca0bdaf60239b37e1b4061be94bbb9a08e1552003054505f112d", func := "loop.example/g01384/laws.FnExactCompareFractions", spec := "fnExactCompareFractions", apart := false }
def FnExactCompareFractionsSaid : Prop := fnExactCompareFractionsRow.holds Try.pinned (OpenSpec.ofChange fnExactCompareFractionsSpec)

/-- ITS FALSE NEIGHBOUR: 'it returns false'. Refute it at one input. -/
def fnExactCompareFractionsWrong : ChangeSpec := { name := "fnExactCompareFractions", fn := fun _ => fun
  | [d1, d2] => { results := [.lit (.bool false)], args := [d1, d2] }
  | _ => none }
def FnExactCompareFractionsWrongFalsely : Prop := fnExactCompareFractionsRow.holds Try.pinned (OpenSpec.ofChange fnExactCompareFractionsWrong)

/- THE SECOND FORM. 'bulk': how many values and letters a reading holds, each counted each time it is reached (what is shared counts as often as it is met; a slice's spare places count too). A statement '..UptoSaid' is the law's where the arguments, and the package variables that the reading takes, are together of bulk at most 1048576: NARROWER than '..Said'. Prove '..Said' where nothing that the law and all that it calls make is longer than what came in: it says more and counts as full. Else prove '..UptoSaid'. A law counts once. -/
mutual
def uptoBulk {H : Type} : DataW H → Nat
  | .lit (.string bytes) => bytes.length + 1
  | .lit _ => 1
  | .nil => 1
  | .ptr d => uptoBulk d + 1
  | .slice elems spare => uptoBulkAll elems + uptoBulkAll spare + 1
  | .agg parts => uptoBulkAll parts + 1
  | .iface _ d => uptoBulk d + 1
  | .map entries => uptoBulkEntries entries + 1
  | .held _ => 1
def uptoBulkAll {H : Type} : List (DataW H) → Nat
  | [] => 0
  | d :: r => uptoBulk d + uptoBulkAll r
def uptoBulkEntries {H : Type} : List (Lit × DataW H) → Nat
  | [] => 0
  | x :: r => uptoBulkEntry x + uptoBulkEntries r
def uptoBulkEntry {H : Type} : Lit × DataW H → Nat
  | (.string bytes, d) => bytes.length + uptoBulk d + 1
  | (_, d) => uptoBulk d + 1
 end
def uptoSmall : (H : Type) → List (DataW H) → Bool := fun _ ds => decide (uptoBulkAll ds ≤ 1048576)
def OpenSpec.upto (s : _root_.Go.ChangeSpec) : _root_.Go.OpenSpec := { _root_.Go.OpenSpec.ofChange s with cond := some uptoSmall }

/-- 'laws.FnExactGramsOf', WHERE WHAT IT READS IS OF BULK AT MOST 1048576: true; the input reads as it did. -/
def fnExactGramsOfUptoRow : OpenClaim := { program := "ytbldbckkelobkaa", sum := "8c800fe4f4e2ca0bdaf60239b37e1b4061be94bbb9a08e1552003054505f112d", func := "loop.example/g01384/laws.FnExactGramsOf", spec := "fnExactGramsOf", unfollowed := true, recurses := true, apart := false, narrowed := true }
def FnExactGramsOfUptoSaid : Prop := fnExactGramsOfUptoRow.holds Try.pinned (OpenSpec.upto fnExactGramsOfSpec)

/-- 'laws.FnExactMakeFraction', WHERE WHAT IT READS IS OF BULK AT MOST 1048576: true; the input reads as it did. -/
def fnExactMakeFractionUptoRow : OpenClaim := { program := "ytbldbckkelobkaa", sum := "8c800fe4f4e2ca0bdaf60239b37e1b4061be94bbb9a08e1552003054505f112d", func := "loop.example/g01384/laws.FnExactMakeFraction", spec := "fnExactMakeFraction", apart := false, narrowed := true }
def FnExactMakeFractionUptoSaid : Prop := fnExactMakeFractionUptoRow.holds Try.pinned (OpenSpec.upto fnExactMakeFractionSpec)

/-- 'laws.FnExactJoinHeaps', WHERE WHAT IT READS IS OF BULK AT MOST 1048576: true; the input reads as it did. -/
def fnExactJoinHeapsUptoRow : OpenClaim := { program := "ytbldbckkelobkaa", sum := "8c800fe4f4e2ca0bdaf60239b37e1b4061be94bbb9a08e1552003054505f112d", func := "loop.example/g01384/laws.FnExactJoinHeaps", spec := "fnExactJoinHeaps", unfollowed := true, recurses := true, apart := false, narrowed := true }
def FnExactJoinHeapsUptoSaid : Prop := fnExactJoinHeapsUptoRow.holds Try.pinned (OpenSpec.upto fnExactJoinHeapsSpec)

/-- 'laws.FnExactWashedHeap', WHERE WHAT IT READS IS OF BULK AT MOST 1048576: true; the input reads as it did. -/
def fnExactWashedHeapUptoRow : OpenClaim := { program := "ytbldbckkelobkaa", sum := "8c800fe4f4e2ca0bdaf60239b37e1b4061be94bbb9a08e1552003054505f112d", func := "loop.example/g01384/laws.FnExactWashedHeap", spec := "fnExactWashedHeap", unfollowed := true, recurses := true, apart := false, narrowed := true }
def FnExactWashedHeapUptoSaid : Prop := fnExactWashedHeapUptoRow.holds Try.pinned (OpenSpec.upto fnExactWashedHeapSpec)

/-- 'laws.FnExactSortOut', WHERE WHAT IT READS IS OF BULK AT MOST 1048576: true; the input reads as it did. -/
def fnExactSortOutUptoRow : OpenClaim := { program := "ytbldbckkelobkaa", sum := "8c800fe4f4e2ca0bdaf60239b37e1b4061be94bbb9a08e1552003054505f112d", func := "loop.example/g01384/laws.FnExactSortOut", spec := "fnExactSortOut", unfollowed := true, recurses := true, apart := false, narrowed := true }
def FnExactSortOutUptoSaid : Prop := fnExactSortOutUptoRow.holds Try.pinned (OpenSpec.upto fnExactSortOutSpec)

/-- 'laws.FnExactCompareFractions', WHERE WHAT IT READS IS OF BULK AT MOST 1048576: true; the input reads as it did. -/
def fnExactCompareFractionsUptoRow : OpenClaim := { program := "ytbldbckkelobkaa", sum := "8c800fe4f4e2ca0bdaf60239b37e1b4061be94bbb9a08e1552003054505f112d", func := "loop.example/g01384/laws.FnExactCompareFractions", spec := "fnExactCompareFractions", apart := false, narrowed := true }
def FnExactCompareFractionsUptoSaid : Prop := fnExactCompareFractionsUptoRow.holds Try.pinned (OpenSpec.upto fnExactCompareFractionsSpec)

end Rows
end Go.Proofs.Ytbldbckkelobkaa
