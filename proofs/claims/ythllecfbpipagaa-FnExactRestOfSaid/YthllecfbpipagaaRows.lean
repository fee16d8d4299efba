/-
  No cell of these rows narrows 'for every input' (looked for: loops, veiled, ifaces, maps, wideKeys, modest, calm, conditions, laid).
  DERIVED. THE GIVEN ROWS OF THIS SEAT. 6 by the template 'for every input the law returns true; each argument reads behind the call as it read before'; 0 by the template 'total and deterministic' (their statements: YthllecfbpipagaaTotals.lean).
  GIVEN WITH THE SEED: the statements are not yours to turn. If you find one false, say at which input.
  Laid BY PROGRAM, IN A SANDBOX (cutbox-rows.mjs): the forced cells as the released guide's own fill.sh prints them over the translation ed593f9cd0dacf1f… (all of the seat's roots in one cut). By AI agents, Wed Nov 11 2026. No macro, syntax, notation, axiom, sorry.
-/
import Derived.Test.YthllecfbpipagaaChecked
import GoSem.Claim
import GoSem.ClaimJoined
import GoSem.ClaimMapViews
import Derived.JoinedTies
import Derived.KernelRfl
namespace Go.Proofs.Ythllecfbpipagaa
/- THE CELL 'sum', in the pinned program and in every row, IS THE sha256 OF THE DUMP (.gsa) THAT YthllecfbpipagaaProg.lean LOADS. Nothing in Lean hashes anything: it is a label: what it is worth is what the hold of that sum in a sandbox is worth. -/
noncomputable def Try.pinned : Pinned := { name := "ythllecfbpipagaa", sum := "ed593f9cd0dacf1f48b76546edeb4764fe8bb4ad392e18dafc9555fb6244f3d0", checked := Try.checked }
namespace Rows
def none {H : Type} : Left H := { results := [], args := [] }

/-- 'laws.FnExactSameYarns': WHATEVER THE INPUT: true; the input reads as it did. -/
def fnExactSameYarnsSpec : ChangeSpec := { name := "fnExactSameYarns", fn := fun _ => fun
  | [d1, d2] => { results := [.lit (.bool true)], args := [d1, d2] }
  | _ => none }
def fnExactSameYarnsRow : OpenClaim := { program := "ythllecfbpipagaa", sum := "ed593f9cd0dacf1f48b76546edeb4764fe8bb4ad392e18dafc9555fb6244f3d0", func := "loop.example/g01384/laws.FnExactSameYarns", spec := "fnExactSameYarns", apart := false }
def FnExactSameYarnsSaid : Prop := fnExactSameYarnsRow.holds Try.pinned (OpenSpec.ofChange fnExactSameYarnsSpec)

/-- ITS FALSE NEIGHBOUR: 'it returns false'. Refute it at one input. -/
def fnExactSameYarnsWrong : ChangeSpec := { name := "fnExactSameYarns", fn := fun _ => fun
  | [d1, d2] => { results := [.lit (.bool false)], args := [d1, d2] }
  | _ => none }
def FnExactSameYarnsWrongFalsely : Prop := fnExactSameYarnsRow.holds Try.pinned (OpenSpec.ofChange fnExactSameYarnsWrong)

/-- 'laws.FnExactTwistRate': WHATEVER THE INPUT: true; the input reads as it did. -/
def fnExactTwistRateSpec : ChangeSpec := { name := "fnExactTwistRate", fn := fun _ => fun
  | [d] => { results := [.lit (.bool true)], args := [d] }
  | _ => none }
def fnExactTwistRateRow : OpenClaim := { program := "ythllecfbpipagaa", sum := "ed593f9cd0dacf1f48b76546edeb4764fe8bb4ad392e18dafc9555fb6244f3d0", func := "loop.example/g01384/laws.FnExactTwistRate", spec := "fnExactTwistRate", apart := false }
def FnExactTwistRateSaid : Prop := fnExactTwistRateRow.holds Try.pinned (OpenSpec.ofChange fnExactTwistRateSpec)

/-- ITS FALSE NEIGHBOUR: 'it returns false'. Refute it at one input. -/
def fnExactTwistRateWrong : ChangeSpec := { name := "fnExactTwistRate", fn := fun _ => fun
  | [d] => { results := [.lit (.bool false)], args := [d] }
  | _ => none }
def FnExactTwistRateWrongFalsely : Prop := fnExactTwistRateRow.holds Try.pinned (OpenSpec.ofChange fnExactTwistRateWrong)

/-- 'laws.FnExactCountOf': WHATEVER THE INPUT: true; the input reads as it did. -/
def fnExactCountOfSpec : ChangeSpec := { name := "fnExactCountOf", fn := fun _ => fun
  | [d] => { results := [.lit (.bool true)], args := [d] }
  | _ => none }
def fnExactCountOfRow : OpenClaim := { program := "ythllecfbpipagaa", sum := "ed593f9cd0dacf1f48b76546edeb4764fe8bb4ad392e18dafc9555fb6244f3d0", func := "loop.example/g01384/laws.FnExactCountOf", spec := "fnExactCountOf", apart := false }
def FnExactCountOfSaid : Prop := fnExactCountOfRow.holds Try.pinned (OpenSpec.ofChange fnExactCountOfSpec)

/-- ITS FALSE NEIGHBOUR: 'it returns false'. Refute it at one input. -/
def fnExactCountOfWrong : ChangeSpec := { name := "fnExactCountOf", fn := fun _ => fun
  | [d] => { results := [.lit (.bool false)], args := [d] }
  | _ => none }
def FnExactCountOfWrongFalsely : Prop := fnExactCountOfRow.holds Try.pinned (OpenSpec.ofChange fnExactCountOfWrong)

/-- 'laws.FnExactCutYarn': WHATEVER THE INPUT: true; the input reads as it did. -/
def fnExactCutYarnSpec : ChangeSpec := { name := "fnExactCutYarn", fn := fun _ => fun
  | [d1, d2] => { results := [.lit (.bool true)], args := [d1, d2] }
  | _ => none }
def fnExactCutYarnRow : OpenClaim := { program := "ythllecfbpipagaa", sum := "ed593f9cd0dacf1f48b76546edeb4764fe8bb4ad392e18dafc9555fb6244f3d0", func := "loop.example/g01384/laws.FnExactCutYarn", spec := "fnExactCutYarn", apart := false }
def FnExactCutYarnSaid : Prop := fnExactCutYarnRow.holds Try.pinned (OpenSpec.ofChange fnExactCutYarnSpec)

/-- ITS FALSE NEIGHBOUR: 'it returns false'. Refute it at one input. -/
def fnExactCutYarnWrong : ChangeSpec := { name := "fnExactCutYarn", fn := fun _ => fun
  | [d1, d2] => { results := [.lit (.bool false)], args := [d1, d2] }
  | _ => none }
def FnExactCutYarnWrongFalsely : Prop := fnExactCutYarnRow.holds Try.pinned (OpenSpec.ofChange fnExactCutYarnWrong)

/-- 'laws.FnExactSpinHeap': WHATEVER THE INPUT: true; the input reads as it did. -/
def fnExactSpinHeapSpec : ChangeSpec := { name := "fnExactSpinHeap", fn := fun _ => fun
  | [d1, d2, d3] => { results := [.lit (.bool true)], args := [d1, d2, d3] }
  | _ => none }
def fnExactSpinHeapRow : OpenClaim := { program := "ythllecfbpipagaa", sum := "ed593f9cd0dacf1f48b76546edeb4764fe8bb4ad392e18dafc9555fb6244f3d0", func := "loop.example/g01384/laws.FnExactSpinHeap", spec := "fnExactSpinHeap", unfollowed := true, recurses := true, apart := false }
def FnExactSpinHeapSaid : Prop := fnExactSpinHeapRow.holds Try.pinned (OpenSpec.ofChange fnExactSpinHeapSpec)

/-- ITS FALSE NEIGHBOUR: 'it returns false'. Refute it at one input. -/
def fnExactSpinHeapWrong : ChangeSpec := { name := "fnExactSpinHeap", fn := fun _ => fun
  | [d1, d2, d3] => { results := [.lit (.bool false)], args := [d1, d2, d3] }
  | _ => none }
def FnExactSpinHeapWrongFalsely : Prop := fnExactSpinHeapRow.holds Try.pinned (OpenSpec.ofChange fnExactSpinHeapWrong)

/-- 'laws.FnExactRestOf': WHATEVER THE INPUT: true; the input reads as it did. -/
def fnExactRestOfSpec : ChangeSpec := { name := "fnExactRestOf", fn := fun _ => fun
  | [d1, d2] => { results := [.lit (.bool true)], args := [d1, d2] }
  | _ => none }
def fnExactRestOfRow : OpenClaim := { program := "ythllecfbpipagaa", sum := "ed593f9cd0dacf1f48b76546edeb4764fe8bb4ad392e18dafc9555fb6244f3d0", func := "loop.example/g01384/laws.FnExactRestOf", spec := "fnExactRestOf", unfollowed := true, recurses := true, apart := false }
def FnExactRestOfSaid : Prop := fnExactRestOfRow.holds Try.pinned (OpenSpec.ofChange fnExactRestOfSpec)

/-- ITS FALSE NEIGHBOUR: 'it returns false'. Refute it at one input. -/
def fnExactRestOfWrong : ChangeSpec := { name := "fnExactRestOf", fn := fun _ => fun
  | [d1, d2] => { results := [.lit (.bool false)], args := [d1, d2] }
  | _ => none }
def FnExactRestOfWrongFalsely : Prop := fnExactRestOfRow.holds Try.pinned (OpenSpec.ofChange fnExactRestOfWrong)

/- THE SECOND FORM. 'bulk': how many values and letters a reading holds, each counted each time it is reached (what is shared counts as often as it is met; a slice's spare places count too). A statement '..UptoSaid' is the law's where the arguments, and the package variables that the reading takes, are together of bulk at most 1048576: NARROWER than '..Said'. Prove '..Said' where nothing that the law and all that it calls make is longer than what came in: it says more and counts as full. Else prove '..UptoSaid'. A law counts once. -/
mutual
def uptoBulk {H : Type} : DataW H → Nat
  | .lit (.string bytes) => bytes.length + 1
  | .lit _ => 1
  | .nil => 1
  | .ptr d => uptoBulk d + 1
  | .slice elems spare => uptoBulkAll elems + uptoBulkAll spare + 1
  | .agg parts => uptoBulkAll parts + 1
  | .iface _ d => uptoBulk d + 1
  | .map entries => uptoBulkEntries entries + 1
  | .held _ => 1
def uptoBulkAll {H : Type} : List (DataW H) → Nat
  | [] => 0
  | d :: r => uptoBulk d + uptoBulkAll r
def uptoBulkEntries {H : Type} : List (Lit × DataW H) → Nat
  | [] => 0
  | x :: r => uptoBulkEntry x + uptoBulkEntries r
def uptoBulkEntry {H : Type} : Lit × DataW H → Nat
  | (.string bytes, d) => bytes.length + uptoBulk d + 1
  | (_, d) => uptoBulk d + 1
 end
def uptoSmall : (H : Type) → List (DataW H) → Bool := fun _ ds => decide (uptoBulkAll ds ≤ 1048576)
def OpenSpec.upto (s : _root_.Go.ChangeSpec) : _root_.Go.OpenSpec := { _root_.Go.OpenSpec.ofChange s with cond := some uptoSmall }

/-- 'laws.FnExactSameYarns', WHERE WHAT IT READS IS OF BULK AT MOST 1048576: true; the input reads as it did. -/
def fnExactSameYarnsUptoRow : OpenClaim := { program := "ythllecfbpipagaa", sum := "ed593f9cd0dacf1f48b76546edeb4764fe8bb4ad392e18dafc9555fb6244f3d0", func := "loop.example/g01384/laws.FnExactSameYarns", spec := "fnExactSameYarns", apart := false, narrowed := true }
def FnExactSameYarnsUptoSaid : Prop := fnExactSameYarnsUptoRow.holds Try.pinned (OpenSpec.upto fnExactSameYarnsSpec)

/-- 'laws.FnExactTwistRate', WHERE WHAT IT READS IS OF BULK AT MOST 1048576: true; the input reads as it did. -/
def fnExactTwistRateUptoRow : OpenClaim := { program := "ythllecfbpipagaa", sum := "ed593f9cd0dacf1f48b76546edeb4764fe8bb4ad392e18dafc9555fb6244f3d0", func := "loop.example/g01384/laws.FnExactTwistRate", spec := "fnExactTwistRate", apart := false, narrowed := true }
def FnExactTwistRateUptoSaid : Prop := fnExactTwistRateUptoRow.holds Try.pinned (OpenSpec.upto fnExactTwistRateSpec)

/-- 'laws.FnExactCountOf', WHERE WHAT IT READS IS OF BULK AT MOST 1048576: true; the input reads as it did. -/
def fnExactCountOfUptoRow : OpenClaim := { program := "ythllecfbpipagaa", sum := "ed593f9cd0dacf1f48b76546edeb4764fe8bb4ad392e18dafc9555fb6244f3d0", func := "loop.example/g01384/laws.FnExactCountOf", spec := "fnExactCountOf", apart := false, narrowed := true }
def FnExactCountOfUptoSaid : Prop := fnExactCountOfUptoRow.holds Try.pinned (OpenSpec.upto fnExactCountOfSpec)

/-- 'laws.FnExactCutYarn', WHERE WHAT IT READS IS OF BULK AT MOST 1048576: true; the input reads as it did. -/
def fnExactCutYarnUptoRow : OpenClaim := { program := "ythllecfbpipagaa", sum := "ed593f9cd0dacf1f48b76546edeb4764fe8bb4ad392e18dafc9555fb6244f3d0", func := "loop.example/g01384/laws.FnExactCutYarn", spec := "fnExactCutYarn", apart := false, narrowed := true }
def FnExactCutYarnUptoSaid : Prop := fnExactCutYarnUptoRow.holds Try.pinned (OpenSpec.upto fnExactCutYarnSpec)

/-- 'laws.FnExactSpinHeap', WHERE WHAT IT READS IS OF BULK AT MOST 1048576: true; the input reads as it did. -/
def fnExactSpinHeapUptoRow : OpenClaim := { program := "ythllecfbpipagaa", sum := "ed593f9cd0dacf1f48b76546edeb4764fe8bb4ad392e18dafc9555fb6244f3d0", func := "loop.example/g01384/laws.FnExactSpinHeap", spec := "fnExactSpinHeap", unfollowed := true, recurses := true, apart := false, narrowed := true }
def FnExactSpinHeapUptoSaid : Prop := fnExactSpinHeapUptoRow.holds Try.pinned (OpenSpec.upto fnExactSpinHeapSpec)

/-- 'laws.FnExactRestOf', WHERE WHAT IT READS IS OF BULK AT MOST 1048576: true; the input reads as it did. -/
def fnExactRestOfUptoRow : OpenClaim := { program := "ythllecfbpipagaa", sum := "ed593f9cd0dacf1f48b76546edeb4764fe8bb4ad392e18dafc9555fb6244f3d0", func := "loop.example/g01384/laws.FnExactRestOf", spec := "fnExactRestOf", unfollowed := true, recurses := true, apart := false, narrowed := true }
def FnExactRestOfUptoSaid : Prop := fnExactRestOfUptoRow.holds Try.pinned (OpenSpec.upto fnExactRestOfSpec)

end Rows
end Go.Proofs.Ythllecfbpipagaa
