/-
  No cell of these rows narrows 'for every input' (looked for: loops, veiled, ifaces, maps, wideKeys, modest, calm, conditions, laid).
  DERIVED. THE GIVEN ROWS OF THIS SEAT. 4 by the template 'for every input the law returns true; each argument reads behind the call as it read before'; 0 by the template 'total and deterministic' (their statements: YtppkcihdgedgoaaTotals.lean).
  GIVEN WITH THE SEED: the statements are not yours to turn. If you find one false, say at which input.
  Laid BY PROGRAM, IN A SANDBOX (cutbox-rows.mjs): the forced cells as the released guide's own fill.sh prints them over the translation 256346642b80ce7f… (all of the seat's roots in one cut). By AI agents, Wed Nov 11 2026. No macro, syntax, notation, axiom, sorry.
-/
import Derived.Test.YtppkcihdgedgoaaChecked
import GoSem.Claim
import GoSem.ClaimJoined
import GoSem.ClaimMapViews
import Derived.JoinedTies
import Derived.KernelRfl
namespace Go.Proofs.Ytppkcihdgedgoaa
/- THE CELL 'sum', in the pinned program and in every row, IS THE sha256 OF THE DUMP (.gsa) THAT YtppkcihdgedgoaaProg.lean LOADS. Nothing in Lean hashes anything: it is a label: what it is worth is what the hold of that sum in a sandbox is worth. -/
noncomputable def Try.pinned : Pinned := { name := "ytppkcihdgedgoaa", sum := "256346642b80ce7f3ea748f232bb9c2a9791a4aa6e678ec8ef66ff01ac96c177", checked := Try.checked }
namespace Rows
def none {H : Type} : Left H := { results := [], args := [] }

/-- 'laws.FnExactGradesOf': WHATEVER THE INPUT: true; the input reads as it did. -/
def fnExactGradesOfSpec : ChangeSpec := { name := "fnExactGradesOf", fn := fun _ => fun
  | [d1, d2] => { results := [.lit (.bool true)], args := [d1, d2] }
  | _ => none }
def fnExactGradesOfRow : OpenClaim := { program := "ytppkcihdgedgoaa", sum := "256346642b80ce7f3ea748f232bb9c2a9791a4aa6e678ec8ef66ff01ac96c177", func := "loop.example/g01384/laws.FnExactGradesOf", spec := "fnExactGradesOf", unfollowed := true, recurses := true, apart := false }
def FnExactGradesOfSaid : Prop := fnExactGradesOfRow.holds Try.pinned (OpenSpec.ofChange fnExactGradesOfSpec)

/-- ITS FALSE NEIGHBOUR: 'it returns false'. Refute it at one input. -/
def fnExactGradesOfWrong : ChangeSpec := { name := "fnExactGradesOf", fn := fun _ => fun
  | [d1, d2] => { results := [.lit (.bool false)], args := [d1, d2] }
  | _ => none }
def FnExactGradesOfWrongFalsely : Prop := fnExactGradesOfRow.holds Try.pinned (OpenSpec.ofChange fnExactGradesOfWrong)

/-- 'laws.FnExactGradeHeaps': WHATEVER THE INPUT: true; the input reads as it did. -/
def fnExactGradeHeapsSpec : ChangeSpec := { name := "fnExactGradeHeaps", fn := fun _ => fun
  | [d1, d2] => { results := [.lit (.bool true)], args := [d1, d2] }
  | _ => none }
def fnExactGradeHeapsRow : OpenClaim := { program := "ytppkcihdgedgoaa", sum := "256346642b80ce7f3ea748f232bb9c2a9791a4aa6e678ec8ef66ff01ac96c177", func := "loop.example/g01384/laws.FnExactGradeHeaps", spec := "fnExactGradeHeaps", unfollowed := true, recurses := true, apart := false }
def FnExactGradeHeapsSaid : Prop := fnExactGradeHeapsRow.holds Try.pinned (OpenSpec.ofChange fnExactGradeHeapsSpec)

/-- ITS FALSE NEIGHBOUR: 'it returns false'. Refute it at one input. -/
def fnExactGradeHeapsWrong : ChangeSpec := { name := "fnExactGradeHeaps", fn := fun _ => fun
  | [d1, d2] => { results := [.lit (.bool false)], args := [d1, d2] }
  | _ => none }
def FnExactGradeHeapsWrongFalsely : Prop := fnExactGradeHeapsRow.holds Try.pinned (OpenSpec.ofChange fnExactGradeHeapsWrong)

/-- 'laws.FnExactBlendOf': WHATEVER THE INPUT: true; the input reads as it did. -/
def fnExactBlendOfSpec : ChangeSpec := { name := "fnExactBlendOf", fn := fun _ => fun
  | [d1, d2] => { results := [.lit (.bool true)], args := [d1, d2] }
  | _ => none }
def fnExactBlendOfRow : OpenClaim := { program := "ytppkcihdgedgoaa", sum := "256346642b80ce7f3ea748f232bb9c2a9791a4aa6e678ec8ef66ff01ac96c177", func := "loop.example/g01384/laws.FnExactBlendOf", spec := "fnExactBlendOf", unfollowed := true, recurses := true, apart := false }
def FnExactBlendOfSaid : Prop := fnExactBlendOfRow.holds Try.pinned (OpenSpec.ofChange fnExactBlendOfSpec)

/-- ITS FALSE NEIGHBOUR: 'it returns false'. Refute it at one input. -/
def fnExactBlendOfWrong : ChangeSpec := { name := "fnExactBlendOf", fn := fun _ => fun
  | [d1, d2] => { results := [.lit (.bool false)], args := [d1, d2] }
  | _ => none }
def FnExactBlendOfWrongFalsely : Prop := fnExactBlendOfRow.holds Try.pinned (OpenSpec.ofChange fnExactBlendOfWrong)

/-- 'laws.FnExactNearestBlend': WHATEVER THE INPUT: true; the input reads as it did. -/
def fnExactNearestBlendSpec : ChangeSpec := { name := "fnExactNearestBlend", fn := fun _ => fun
  | [d1, d2, d3] => { results := [.lit (.bool true)], args := [d1, d2, d3] }
  | _ => none }
def fnExactNearestBlendRow : OpenClaim := { program := "ytppkcihdgedgoaa", sum := "256346642b80ce7f3ea748f232bb9c2a9791a4aa6e678ec8ef66ff01ac96c177", func := "loop.example/g01384/laws.FnExactNearestBlend", spec := "fnExactNearestBlend", unfollowed := true, recurses := true, apart := false }
def FnExactNearestBlendSaid : Prop := fnExactNearestBlendRow.holds Try.pinned (OpenSpec.ofChange fnExactNearestBlendSpec)

/-- ITS FALSE NEIGHBOUR: 'it returns false'. Refute it at one input. -/
def fnExactNearestBlendWrong : ChangeSpec := { name := "fnExactNearestBlend", fn := fun _ => fun
  | [d1, d2, d3] => { results := [.lit (.bool false)], args := [d1, d2, d3] }
  | _ => none }
def FnExactNearestBlendWrongFalsely : Prop := fnExactNearestBlendRow.holds Try.pinned (OpenSpec.ofChange fnExactNearestBlendWrong)

/- THE SECOND FORM. 'bulk': how many values and letters a reading holds, each counted each time it is reached (what is shared counts as often as it is met; a slice's spare places count too). A statement '..UptoSaid' is the law's where the arguments, and the package variables that the reading takes, are together of bulk at most 1048576: NARROWER than '..Said'. Prove '..Said' where nothing that the law and all that it calls make is longer than what came in: it says more and counts as full. Else prove '..UptoSaid'. A law counts once. -/
mutual
def uptoBulk {H : Type} : DataW H → Nat
  | .lit (.string bytes) => bytes.length + 1
  | .lit _ => 1
  | .nil => 1
  | .ptr d => uptoBulk d + 1
  | .slice elems spare => uptoBulkAll elems + uptoBulkAll spare + 1
  | .agg parts => uptoBulkAll parts + 1
  | .iface _ d => uptoBulk d + 1
  | .map entries => uptoBulkEntries entries + 1
  | .held _ => 1
def uptoBulkAll {H : Type} : List (DataW H) → Nat
  | [] => 0
  | d :: r => uptoBulk d + uptoBulkAll r
def uptoBulkEntries {H : Type} : List (Lit × DataW H) → Nat
  | [] => 0
  | x :: r => uptoBulkEntry x + uptoBulkEntries r
def uptoBulkEntry {H : Type} : Lit × DataW H → Nat
  | (.string bytes, d) => bytes.length + uptoBulk d + 1
  | (_, d) => uptoBulk d + 1
 end
def uptoSmall : (H : Type) → List (DataW H) → Bool := fun _ ds => decide (uptoBulkAll ds ≤ 1048576)
def OpenSpec.upto (s : _root_.Go.ChangeSpec) : _root_.Go.OpenSpec := { _root_.Go.OpenSpec.ofChange s with cond := some uptoSmall }

/-- 'laws.FnExactGradesOf', WHERE WHAT IT READS IS OF BULK AT MOST 1048576: true; the input reads as it did. -/
def fnExactGradesOfUptoRow : OpenClaim := { program := "ytppkcihdgedgoaa", sum := "256346642b80ce7f3ea748f232bb9c2a9791a4aa6e678ec8ef66ff01ac96c177", func := "loop.example/g01384/laws.FnExactGradesOf", spec := "fnExactGradesOf", unfollowed := true, recurses := true, apart := false, narrowed := true }
def FnExactGradesOfUptoSaid : Prop := fnExactGradesOfUptoRow.holds Try.pinned (OpenSpec.upto fnExactGradesOfSpec)

/-- 'laws.FnExactGradeHeaps', WHERE WHAT IT READS IS OF BULK AT MOST 1048576: true; the input reads as it did. -/
def fnExactGradeHeapsUptoRow : OpenClaim := { program := "ytppkcihdgedgoaa", sum := "256346642b80ce7f3ea748f232bb9c2a9791a4aa6e678ec8ef66ff01ac96c177", func := "loop.example/g01384/laws.FnExactGradeHeaps", spec := "fnExactGradeHeaps", unfollowed := true, recurses := true, apart := false, narrowed := true }
def FnExactGradeHeapsUptoSaid : Prop := fnExactGradeHeapsUptoRow.holds Try.pinned (OpenSpec.upto fnExactGradeHeapsSpec)

/-- 'laws.FnExactBlendOf', WHERE WHAT IT READS IS OF BULK AT MOST 1048576: true; the input reads as it did. -/
def fnExactBlendOfUptoRow : OpenClaim := { program := "ytppkcihdgedgoaa", sum := "256346642b80ce7f3ea748f232bb9c2a9791a4aa6e678ec8ef66ff01ac96c177", func := "loop.example/g01384/laws.FnExactBlendOf", spec := "fnExactBlendOf", unfollowed := true, recurses := true, apart := false, narrowed := true }
def FnExactBlendOfUptoSaid : Prop := fnExactBlendOfUptoRow.holds Try.pinned (OpenSpec.upto fnExactBlendOfSpec)

/-- 'laws.FnExactNearestBlend', WHERE WHAT IT READS IS OF BULK AT MOST 1048576: true; the input reads as it did. -/
def fnExactNearestBlendUptoRow : OpenClaim := { program := "ytppkcihdgedgoaa", sum := "256346642b80ce7f3ea748f232bb9c2a9791a4aa6e678ec8ef66ff01ac96c177", func := "loop.example/g01384/laws.FnExactNearestBlend", spec := "fnExactNearestBlend", unfollowed := true, recurses := true, apart := false, narrowed := true }
def FnExactNearestBlendUptoSaid : Prop := fnExactNearestBlendUptoRow.holds Try.pinned (OpenSpec.upto fnExactNearestBlendSpec)

end Rows
end Go.Proofs.Ytppkcihdgedgoaa
