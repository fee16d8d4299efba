/-
  No cell of these rows narrows 'for every input' (looked for: loops, veiled, ifaces, maps, wideKeys, modest, calm, conditions, laid).
  DERIVED. THE GIVEN ROWS OF THIS SEAT. 17 by the template 'for every input the law returns true; each argument reads behind the call as it read before'; 0 by the template 'total and deterministic' (their statements: YtnladfckhfkefaaTotals.lean).
  GIVEN WITH THE SEED: the statements are not yours to turn. If you find one false, say at which input.
  Laid BY PROGRAM, IN A SANDBOX (cutbox-rows.mjs): the forced cells as the released guide's own fill.sh prints them over the translation 8e6e20a6957eee79… (all of the seat's roots in one cut). By AI agents, Wed Nov 11 2026. No macro, syntax, notation, axiom, sorry.
-/
import Derived.Test.YtnladfckhfkefaaChecked
import GoSem.Claim
import GoSem.ClaimJoined
import GoSem.ClaimMapViews
import Derived.JoinedTies
import Derived.KernelRfl
namespace Go.Proofs.Ytnladfckhfkefaa
/- THE CELL 'sum', in the pinned program and in every row, IS THE sha256 OF THE DUMP (.gsa) THAT YtnladfckhfkefaaProg.lean LOADS. Nothing in Lean hashes anything: it is a label: what it is worth is what the hold of that sum in a sandbox is worth. -/
noncomputable def Try.pinned : Pinned := { name := "ytnladfckhfkefaa", sum := "8e6e20a6957eee791e4b60d82fdb9082083ebf129a667240be280d6d0b27f783", checked := Try.checked }
namespace Rows
def none {H : Type} : Left H := { results := [], args := [] }

/-- 'laws.FnExactTotalOf': WHATEVER THE INPUT: true; the input reads as it did. -/
def fnExactTotalOfSpec : ChangeSpec := { name := "fnExactTotalOf", fn := fun _ => fun
  | [d] => { results := [.lit (.bool true)], args := [d] }
  | _ => none }
def fnExactTotalOfRow : OpenClaim := { program := "ytnladfckhfkefaa", sum := "8e6e20a6957eee791e4b60d82fdb9082083ebf129a667240be280d6d0b27f783", func := "loop.example/g01384/laws.FnExactTotalOf", spec := "fnExactTotalOf", unfollowed := true, recurses := true, apart := false }
def FnExactTotalOfSaid : Prop := fnExactTotalOfRow.holds Try.pinned (OpenSpec.ofChange fnExactTotalOfSpec)

/-- ITS FALSE NEIGHBOUR: 'it returns false'. Refute it at one input. -/
def fnExactTotalOfWrong : ChangeSpec := { name := "fnExactTotalOf", fn := fun _ => fun
  | [d] => { results := [.lit (.bool false)], args := [d] }
  | _ => none }
def FnExactTotalOfWrongFalsely : Prop := fnExactTotalOfRow.holds Try.pinned (OpenSpec.ofChange fnExactTotalOfWrong)

/-- 'laws.FnExactDrawOut': WHATEVER THE INPUT: true; the input reads as it did. -/
def fnExactDrawOutSpec : ChangeSpec := { name := "fnExactDrawOut", fn := fun _ => fun
  | [d1, d2] => { results := [.lit (.bool true)], args := [d1, d2] }
  | _ => none }
def fnExactDrawOutRow : OpenClaim := { program := "ytnladfckhfkefaa", sum := "8e6e20a6957eee791e4b60d82fdb9082083ebf129a667240be280d6d0b27f783", func := "loop.example/g01384/laws.FnExactDrawOut", spec := "fnExactDrawOut", unfollowed := true, recurses := true, apart := false }
def FnExactDrawOutSaid : Prop := fnExactDrawOutRow.holds Try.pinned (OpenSpec.ofChange fnExactDrawOutSpec)

/-- ITS FALSE NEIGHBOUR: 'it returns false'. Refute it at one input. -/
def fnExactDrawOutWrong : ChangeSpec := { name := "fnExactDrawOut", fn := fun _ => fun
  | [d1, d2] => { results := [.lit (.bool false)], args := [d1, d2] }
  | _ => none }
def FnExactDrawOutWrongFalsely : Prop := fnExactDrawOutRow.holds Try.pinned (OpenSpec.ofChange fnExactDrawOutWrong)

/-- 'laws.FnExactCrossWeb': WHATEVER THE INPUT: true; the input reads as it did. -/
def fnExactCrossWebSpec : ChangeSpec := { name := "fnExactCrossWeb", fn := fun _ => fun
  | [d] => { results := [.lit (.bool true)], args := [d] }
  | _ => none }
def fnExactCrossWebRow : OpenClaim := { program := "ytnladfckhfkefaa", sum := "8e6e20a6957eee791e4b60d82fdb9082083ebf129a667240be280d6d0b27f783", func := "loop.example/g01384/laws.FnExactCrossWeb", spec := "fnExactCrossWeb", unfollowed := true, recurses := true, apart := false }
def FnExactCrossWebSaid : Prop := fnExactCrossWebRow.holds Try.pinned (OpenSpec.ofChange fnExactCrossWebSpec)

/-- ITS FALSE NEIGHBOUR: 'it returns false'. Refute it at one input. -/
def fnExactCrossWebWrong : ChangeSpec := { name := "fnExactCrossWeb", fn := fun _ => fun
  | [d] => { results := [.lit (.bool false)], args := [d] }
  | _ => none }
def FnExactCrossWebWrongFalsely : Prop := fnExactCrossWebRow.holds Try.pinned (OpenSpec.ofChange fnExactCrossWebWrong)

/-- 'laws.FnExactFoldWeb': WHATEVER THE INPUT: true; the input reads as it did. -/
def fnExactFoldWebSpec : ChangeSpec := { name := "fnExactFoldWeb", fn := fun _ => fun
  | [d] => { results := [.lit (.bool true)], args := [d] }
  | _ => none }
def fnExactFoldWebRow : OpenClaim := { program := "ytnladfckhfkefaa", sum := "8e6e20a6957eee791e4b60d82fdb9082083ebf129a667240be280d6d0b27f783", func := "loop.example/g01384/laws.FnExactFoldWeb", spec := "fnExactFoldWeb", unfollowed := true, recurses := true, apart := false }
def FnExactFoldWebSaid : Prop := fnExactFoldWebRow.holds Try.pinned (OpenSpec.ofChange fnExactFoldWebSpec)

/-- ITS FALSE NEIGHBOUR: 'it returns false'. Refute it at one input. -/
def fnExactFoldWebWrong : ChangeSpec := { name := "fnExactFoldWeb", fn := fun _ => fun
  | [d] => { results := [.lit (.bool false)], args := [d] }
  | _ => none }
def FnExactFoldWebWrongFalsely : Prop := fnExactFoldWebRow.holds Try.pinned (OpenSpec.ofChange fnExactFoldWebWrong)

/-- 'laws.FnExactMirrorWeb': WHATEVER THE INPUT: true; the input reads as it did. -/
def fnExactMirrorWebSpec : ChangeSpec := { name := "fnExactMirrorWeb", fn := fun _ => fun
  | [d] => { results := [.lit (.bool true)], args := [d] }
  | _ => none }
def fnExactMirrorWebRow : OpenClaim := { program := "ytnladfckhfkefaa", sum := "8e6e20a6957eee791e4b60d82fdb9082083ebf129a667240be280d6d0b27f783", func := "loop.example/g01384/laws.FnExactMirrorWeb", spec := "fnExactMirrorWeb", unfollowed := true, recurses := true, apart := false }
def FnExactMirrorWebSaid : Prop := fnExactMirrorWebRow.holds Try.pinned (OpenSpec.ofChange fnExactMirrorWebSpec)

/-- ITS FALSE NEIGHBOUR: 'it returns false'. Refute it at one input. -/
def fnExactMirrorWebWrong : ChangeSpec := { name := "fnExactMirrorWeb", fn := fun _ => fun
  | [d] => { results := [.lit (.bool false)], args := [d] }
  | _ => none }
def FnExactMirrorWebWrongFalsely : Prop := fnExactMirrorWebRow.holds Try.pinned (OpenSpec.ofChange fnExactMirrorWebWrong)

/-- 'laws.FnExactSpreadOf': WHATEVER THE INPUT: true; the input reads as it did. -/
def fnExactSpreadOfSpec : ChangeSpec := { name := "fnExactSpreadOf", fn := fun _ => fun
  | [d] => { results := [.lit (.bool true)], args := [d] }
  | _ => none }
def fnExactSpreadOfRow : OpenClaim := { program := "ytnladfckhfkefaa", sum := "8e6e20a6957eee791e4b60d82fdb9082083ebf129a667240be280d6d0b27f783", func := "loop.example/g01384/laws.FnExactSpreadOf", spec := "fnExactSpreadOf", unfollowed := true, recurses := true, apart := false }
def FnExactSpreadOfSaid : Prop := fnExactSpreadOfRow.holds Try.pinned (OpenSpec.ofChange fnExactSpreadOfSpec)

/-- ITS FALSE NEIGHBOUR: 'it returns false'. Refute it at one input. -/
def fnExactSpreadOfWrong : ChangeSpec := { name := "fnExactSpreadOf", fn := fun _ => fun
  | [d] => { results := [.lit (.bool false)], args := [d] }
  | _ => none }
def FnExactSpreadOfWrongFalsely : Prop := fnExactSpreadOfRow.holds Try.pinned (OpenSpec.ofChange fnExactSpreadOfWrong)

/-- 'laws.FnExactRollWeb': WHATEVER THE INPUT: true; the input reads as it did. -/
def fnExactRollWebSpec : ChangeSpec := { name := "fnExactRollWeb", fn := fun _ => fun
  | [d1, d2] => { results := [.lit (.bool true)], args := [d1, d2] }
  | _ => none }
def fnExactRollWebRow : OpenClaim := { program := "ytnladfckhfkefaa", sum := "8e6e20a6957eee791e4b60d82fdb9082083ebf129a667240be280d6d0b27f783", func := "loop.example/g01384/laws.FnExactRollWeb", spec := "fnExactRollWeb", unfollowed := true, recurses := true, apart := false }
def FnExactRollWebSaid : Prop := fnExactRollWebRow.holds Try.pinned (OpenSpec.ofChange fnExactRollWebSpec)

/-- ITS FALSE NEIGHBOUR: 'it returns false'. Refute it at one input. -/
def fnExactRollWebWrong : ChangeSpec := { name := "fnExactRollWeb", fn := fun _ => fun
  | [d1, d2] => { results := [.lit (.bool false)], args := [d1, d2] }
  | _ => none }
def FnExactRollWebWrongFalsely : Prop := fnExactRollWebRow.holds Try.pinned (OpenSpec.ofChange fnExactRollWebWrong)

/-- 'laws.FnExactLumpsIn': WHATEVER THE INPUT: true; the input reads as it did. -/
def fnExactLumpsInSpec : ChangeSpec := { name := "fnExactLumpsIn", fn := fun _ => fun
  | [d1, d2] => { results := [.lit (.bool true)], args := [d1, d2] }
  | _ => none }
def fnExactLumpsInRow : OpenClaim := { program := "ytnladfckhfkefaa", sum := "8e6e20a6957eee791e4b60d82fdb9082083ebf129a667240be280d6d0b27f783", func := "loop.example/g01384/laws.FnExactLumpsIn", spec := "fnExactLumpsIn", unfollowed := true, recurses := true, apart := false }
def FnExactLumpsInSaid : Prop := fnExactLumpsInRow.holds Try.pinned (OpenSpec.ofChange fnExactLumpsInSpec)

/-- ITS FALSE NEIGHBOUR: 'it returns false'. Refute it at one input. -/
def fnExactLumpsInWrong : ChangeSpec := { name := "fnExactLumpsIn", fn := fun _ => fun
  | [d1, d2] => { results := [.lit (.bool false)], args := [d1, d2] }
  | _ => none }
def FnExactLumpsInWrongFalsely : Prop := fnExactLumpsInRow.holds Try.pinned (OpenSpec.ofChange fnExactLumpsInWrong)

/-- 'laws.FnExactUnevenness': WHATEVER THE INPUT: true; the input reads as it did. -/
def fnExactUnevennessSpec : ChangeSpec := { name := "fnExactUnevenness", fn := fun _ => fun
  | [d] => { results := [.lit (.bool true)], args := [d] }
  | _ => none }
def fnExactUnevennessRow : OpenClaim := { program := "ytnladfckhfkefaa", sum := "8e6e20a6957eee791e4b60d82fdb9082083ebf129a667240be280d6d0b27f783", func := "loop.example/g01384/laws.FnExactUnevenness", spec := "fnExactUnevenness", unfollowed := true, recurses := true, apart := false }
def FnExactUnevennessSaid : Prop := fnExactUnevennessRow.holds Try.pinned (OpenSpec.ofChange fnExactUnevennessSpec)

/-- ITS FALSE NEIGHBOUR: 'it returns false'. Refute it at one input. -/
def fnExactUnevennessWrong : ChangeSpec := { name := "fnExactUnevenness", fn := fun _ => fun
  | [d] => { results := [.lit (.bool false)], args := [d] }
  | _ => none }
def FnExactUnevennessWrongFalsely : Prop := fnExactUnevennessRow.holds Try.pinned (OpenSpec.ofChange fnExactUnevennessWrong)

/-- 'laws.FnExactPartLump': WHATEVER THE INPUT: true; the input reads as it did. -/
def fnExactPartLumpSpec : ChangeSpec := { name := "fnExactPartLump", fn := fun _ => fun
  | [d1, d2] => { results := [.lit (.bool true)], args := [d1, d2] }
  | _ => none }
def fnExactPartLumpRow : OpenClaim := { program := "ytnladfckhfkefaa", sum := "8e6e20a6957eee791e4b60d82fdb9082083ebf129a667240be280d6d0b27f783", func := "loop.example/g01384/laws.FnExactPartLump", spec := "fnExactPartLump", unfollowed := true, recurses := true, apart := false }
def FnExactPartLumpSaid : Prop := fnExactPartLumpRow.holds Try.pinned (OpenSpec.ofChange fnExactPartLumpSpec)

/-- ITS FALSE NEIGHBOUR: 'it returns false'. Refute it at one input. -/
def fnExactPartLumpWrong : ChangeSpec := { name := "fnExactPartLump", fn := fun _ => fun
  | [d1, d2] => { results := [.lit (.bool false)], args := [d1, d2] }
  | _ => none }
def FnExactPartLumpWrongFalsely : Prop := fnExactPartLumpRow.holds Try.pinned (OpenSpec.ofChange fnExactPartLumpWrong)

/-- 'laws.FnExactPartAll': WHATEVER THE INPUT: true; the input reads as it did. -/
def fnExactPartAllSpec : ChangeSpec := { name := "fnExactPartAll", fn := fun _ => fun
  | [d1, d2, d3] => { results := [.lit (.bool true)], args := [d1, d2, d3] }
  | _ => none }
def fnExactPartAllRow : OpenClaim := { program := "ytnladfckhfkefaa", sum := "8e6e20a6957eee791e4b60d82fdb9082083ebf129a667240be280d6d0b27f783", func := "loop.example/g01384/laws.FnExactPartAll", spec := "fnExactPartAll", unfollowed := true, recurses := true, apart := false }
def FnExactPartAllSaid : Prop := fnExactPartAllRow.holds Try.pinned (OpenSpec.ofChange fnExactPartAllSpec)

/-- ITS FALSE NEIGHBOUR: 'it returns false'. Refute it at one input. -/
def fnExactPartAllWrong : ChangeSpec := { name := "fnExactPartAll", fn := fun _ => fun
  | [d1, d2, d3] => { results := [.lit (.bool false)], args := [d1, d2, d3] }
  | _ => none }
def FnExactPartAllWrongFalsely : Prop := fnExactPartAllRow.holds Try.pinned (OpenSpec.ofChange fnExactPartAllWrong)

/-- 'laws.FnExactCardOnce': WHATEVER THE INPUT: true; the input reads as it did. -/
def fnExactCardOnceSpec : ChangeSpec := { name := "fnExactCardOnce", fn := fun _ => fun
  | [d1, d2, d3] => { results := [.lit (.bool true)], args := [d1, d2, d3] }
  | _ => none }
def fnExactCardOnceRow : OpenClaim := { program := "ytnladfckhfkefaa", sum := "8e6e20a6957eee791e4b60d82fdb9082083ebf129a667240be280d6d0b27f783", func := "loop.example/g01384/laws.FnExactCardOnce", spec := "fnExactCardOnce", unfollowed := true, recurses := true, apart := false }
def FnExactCardOnceSaid : Prop := fnExactCardOnceRow.holds Try.pinned (OpenSpec.ofChange fnExactCardOnceSpec)

/-- ITS FALSE NEIGHBOUR: 'it returns false'. Refute it at one input. -/
def fnExactCardOnceWrong : ChangeSpec := { name := "fnExactCardOnce", fn := fun _ => fun
  | [d1, d2, d3] => { results := [.lit (.bool false)], args := [d1, d2, d3] }
  | _ => none }
def FnExactCardOnceWrongFalsely : Prop := fnExactCardOnceRow.holds Try.pinned (OpenSpec.ofChange fnExactCardOnceWrong)

/-- 'laws.FnExactCardAll': WHATEVER THE INPUT: true; the input reads as it did. -/
def fnExactCardAllSpec : ChangeSpec := { name := "fnExactCardAll", fn := fun _ => fun
  | [d1, d2, d3] => { results := [.lit (.bool true)], args := [d1, d2, d3] }
  | _ => none }
def fnExactCardAllRow : OpenClaim := { program := "ytnladfckhfkefaa", sum := "8e6e20a6957eee791e4b60d82fdb9082083ebf129a667240be280d6d0b27f783", func := "loop.example/g01384/laws.FnExactCardAll", spec := "fnExactCardAll", unfollowed := true, recurses := true, apart := false }
def FnExactCardAllSaid : Prop := fnExactCardAllRow.holds Try.pinned (OpenSpec.ofChange fnExactCardAllSpec)

/-- ITS FALSE NEIGHBOUR: 'it returns false'. Refute it at one input. -/
def fnExactCardAllWrong : ChangeSpec := { name := "fnExactCardAll", fn := fun _ => fun
  | [d1, d2, d3] => { results := [.lit (.bool false)], args := [d1, d2, d3] }
  | _ => none }
def FnExactCardAllWrongFalsely : Prop := fnExactCardAllRow.holds Try.pinned (OpenSpec.ofChange fnExactCardAllWrong)

/-- 'laws.FnExactEvenestPasses': WHATEVER THE INPUT: true; the input reads as it did. -/
def fnExactEvenestPassesSpec : ChangeSpec := { name := "fnExactEvenestPasses", fn := fun _ => fun
  | [d1, d2] => { results := [.lit (.bool true)], args := [d1, d2] }
  | _ => none }
def fnExactEvenestPassesRow : OpenClaim := { program := "ytnladfckhfkefaa", sum := "8e6e20a6957eee791e4b60d82fdb9082083ebf129a667240be280d6d0b27f783", func := "loop.example/g01384/laws.FnExactEvenestPasses", spec := "fnExactEvenestPasses", unfollowed := true, recurses := true, apart := false }
def FnExactEvenestPassesSaid : Prop := fnExactEvenestPassesRow.holds Try.pinned (OpenSpec.ofChange fnExactEvenestPassesSpec)

/-- ITS FALSE NEIGHBOUR: 'it returns false'. Refute it at one input. -/
def fnExactEvenestPassesWrong : ChangeSpec := { name := "fnExactEvenestPasses", fn := fun _ => fun
  | [d1, d2] => { results := [.lit (.bool false)], args := [d1, d2] }
  | _ => none }
def FnExactEvenestPassesWrongFalsely : Prop := fnExactEvenestPassesRow.holds Try.pinned (OpenSpec.ofChange fnExactEvenestPassesWrong)

/-- 'laws.FnExactFewestPasses': WHATEVER THE INPUT: true; the input reads as it did. -/
def fnExactFewestPassesSpec : ChangeSpec := { name := "fnExactFewestPasses", fn := fun _ => fun
  | [d1, d2, d3] => { results := [.lit (.bool true)], args := [d1, d2, d3] }
  | _ => none }
def fnExactFewestPassesRow : OpenClaim := { program := "ytnladfckhfkefaa", sum := "8e6e20a6957eee791e4b60d82fdb9082083ebf129a667240be280d6d0b27f783", func := "loop.example/g01384/laws.FnExactFewestPasses", spec := "fnExactFewestPasses", unfollowed := true, recurses := true, apart := false }
def FnExactFewestPassesSaid : Prop := fnExactFewestPassesRow.holds Try.pinned (OpenSpec.ofChange fnExactFewestPassesSpec)

/-- ITS FALSE NEIGHBOUR: 'it returns false'. Refute it at one input. -/
def fnExactFewestPassesWrong : ChangeSpec := { name := "fnExactFewestPasses", fn := fun _ => fun
  | [d1, d2, d3] => { results := [.lit (.bool false)], args := [d1, d2, d3] }
  | _ => none }
def FnExactFewestPassesWrongFalsely : Prop := fnExactFewestPassesRow.holds Try.pinned (OpenSpec.ofChange fnExactFewestPassesWrong)

/-- 'laws.FnLumps': WHATEVER THE INPUT: true; the input reads as it did. -/
def fnLumpsSpec : ChangeSpec := { name := "fnLumps", fn := fun _ => fun
  | [d1, d2] => { results := [.lit (.bool true)], args := [d1, d2] }
  | _ => none }
def fnLumpsRow : OpenClaim := { program := "ytnladfckhfkefaa", sum := "8e6e20a6957eee791e4b60d82fdb9082083ebf129a667240be280d6d0b27f783", func := "loop.example/g01384/laws.FnLumps", spec := "fnLumps", unfollowed := true, recurses := true, apart := false }
def FnLumpsSaid : Prop := fnLumpsRow.holds Try.pinned (OpenSpec.ofChange fnLumpsSpec)

/-- ITS FALSE NEIGHBOUR: 'it returns false'. Refute it at one input. -/
def fnLumpsWrong : ChangeSpec := { name := "fnLumps", fn := fun _ => fun
  | [d1, d2] => { results := [.lit (.bool false)], args := [d1, d2] }
  | _ => none }
def FnLumpsWrongFalsely : Prop := fnLumpsRow.holds Try.pinned (OpenSpec.ofChange fnLumpsWrong)

/-- 'laws.FnPasses': WHATEVER THE INPUT: true; the input reads as it did. -/
def fnPassesSpec : ChangeSpec := { name := "fnPasses", fn := fun _ => fun
  | [d1, d2] => { results := [.lit (.bool true)], args := [d1, d2] }
  | _ => none }
def fnPassesRow : OpenClaim := { program := "ytnladfckhfkefaa", sum := "8e6e20a6957eee791e4b60d82fdb9082083ebf129a667240be280d6d0b27f783", func := "loop.example/g01384/laws.FnPasses", spec := "fnPasses", unfollowed := true, recurses := true, apart := false }
def FnPassesSaid : Prop := fnPassesRow.holds Try.pinned (OpenSpec.ofChange fnPassesSpec)

/-- ITS FALSE NEIGHBOUR: 'it returns false'. Refute it at one input. -/
def fnPassesWrong : ChangeSpec := { name := "fnPasses", fn := fun _ => fun
  | [d1, d2] => { results := [.lit (.bool false)], args := [d1, d2] }
  | _ => none }
def FnPassesWrongFalsely : Prop := fnPassesRow.holds Try.pinned (OpenSpec.ofChange fnPassesWrong)

/- THE SECOND FORM. 'bulk': how many values and letters a reading holds, each counted each time it is reached (what is shared counts as often as it is met; a slice's spare places count too). A statement '..UptoSaid' is the law's where the arguments, and the package variables that the reading takes, are together of bulk at most 1048576: NARROWER than '..Said'. Prove '..Said' where nothing that the law and all that it calls make is longer than what came in: it says more and counts as full. Else prove '..UptoSaid'. A law counts once. -/
mutual
def uptoBulk {H : Type} : DataW H → Nat
  | .lit (.string bytes) => bytes.length + 1
  | .lit _ => 1
  | .nil => 1
  | .ptr d => uptoBulk d + 1
  | .slice elems spare => uptoBulkAll elems + uptoBulkAll spare + 1
  | .agg parts => uptoBulkAll parts + 1
  | .iface _ d => uptoBulk d + 1
  | .map entries => uptoBulkEntries entries + 1
  | .held _ => 1
def uptoBulkAll {H : Type} : List (DataW H) → Nat
  | [] => 0
  | d :: r => uptoBulk d + uptoBulkAll r
def uptoBulkEntries {H : Type} : List (Lit × DataW H) → Nat
  | [] => 0
  | x :: r => uptoBulkEntry x + uptoBulkEntries r
def uptoBulkEntry {H : Type} : Lit × DataW H → Nat
  | (.string bytes, d) => bytes.length + uptoBulk d + 1
  | (_, d) => uptoBulk d + 1
 end
def uptoSmall : (H : Type) → List (DataW H) → Bool := fun _ ds => decide (uptoBulkAll ds ≤ 1048576)
def OpenSpec.upto (s : _root_.Go.ChangeSpec) : _root_.Go.OpenSpec := { _root_.Go.OpenSpec.ofChange s with cond := some uptoSmall }

/-- 'laws.FnExactTotalOf', WHERE WHAT IT READS IS OF BULK AT MOST 1048576: true; the input reads as it did. -/
def fnExactTotalOfUptoRow : OpenClaim := { program := "ytnladfckhfkefaa", sum := "8e6e20a6957eee791e4b60d82fdb9082083ebf129a667240be280d6d0b27f783", func := "loop.example/g01384/laws.FnExactTotalOf", spec := "fnExactTotalOf", unfollowed := true, recurses := true, apart := false, narrowed := true }
def FnExactTotalOfUptoSaid : Prop := fnExactTotalOfUptoRow.holds Try.pinned (OpenSpec.upto fnExactTotalOfSpec)

/-- 'laws.FnExactDrawOut', WHERE WHAT IT READS IS OF BULK AT MOST 1048576: true; the input reads as it did. -/
def fnExactDrawOutUptoRow : OpenClaim := { program := "ytnladfckhfkefaa", sum := "8e6e20a6957eee791e4b60d82fdb9082083ebf129a667240be280d6d0b27f783", func := "loop.example/g01384/laws.FnExactDrawOut", spec := "fnExactDrawOut", unfollowed := true, recurses := true, apart := false, narrowed := true }
def FnExactDrawOutUptoSaid : Prop := fnExactDrawOutUptoRow.holds Try.pinned (OpenSpec.upto fnExactDrawOutSpec)

/-- 'laws.FnExactCrossWeb', WHERE WHAT IT READS IS OF BULK AT MOST 1048576: true; the input reads as it did. -/
def fnExactCrossWebUptoRow : OpenClaim := { program := "ytnladfckhfkefaa", sum := "8e6e20a6957eee791e4b60d82fdb9082083ebf129a667240be280d6d0b27f783", func := "loop.example/g01384/laws.FnExactCrossWeb", spec := "fnExactCrossWeb", unfollowed := true, recurses := true, apart := false, narrowed := true }
def FnExactCrossWebUptoSaid : Prop := fnExactCrossWebUptoRow.holds Try.pinned (OpenSpec.upto fnExactCrossWebSpec)

/-- 'laws.FnExactFoldWeb', WHERE WHAT IT READS IS OF BULK AT MOST 1048576: true; the input reads as it did. -/
def fnExactFoldWebUptoRow : OpenClaim := { program := "ytnladfckhfkefaa", sum := "8e6e20a6957eee791e4b60d82fdb9082083ebf129a667240be280d6d0b27f783", func := "loop.example/g01384/laws.FnExactFoldWeb", spec := "fnExactFoldWeb", unfollowed := true, recurses := true, apart := false, narrowed := true }
def FnExactFoldWebUptoSaid : Prop := fnExactFoldWebUptoRow.holds Try.pinned (OpenSpec.upto fnExactFoldWebSpec)

/-- 'laws.FnExactMirrorWeb', WHERE WHAT IT READS IS OF BULK AT MOST 1048576: true; the input reads as it did. -/
def fnExactMirrorWebUptoRow : OpenClaim := { program := "ytnladfckhfkefaa", sum := "8e6e20a6957eee791e4b60d82fdb9082083ebf129a667240be280d6d0b27f783", func := "loop.example/g01384/laws.FnExactMirrorWeb", spec := "fnExactMirrorWeb", unfollowed := true, recurses := true, apart := false, narrowed := true }
def FnExactMirrorWebUptoSaid : Prop := fnExactMirrorWebUptoRow.holds Try.pinned (OpenSpec.upto fnExactMirrorWebSpec)

/-- 'laws.FnExactSpreadOf', WHERE WHAT IT READS IS OF BULK AT MOST 1048576: true; the input reads as it did. -/
def fnExactSpreadOfUptoRow : OpenClaim := { program := "ytnladfckhfkefaa", sum := "8e6e20a6957eee791e4b60d82fdb9082083ebf129a667240be280d6d0b27f783", func := "loop.example/g01384/laws.FnExactSpreadOf", spec := "fnExactSpreadOf", unfollowed := true, recurses := true, apart := false, narrowed := true }
def FnExactSpreadOfUptoSaid : Prop := fnExactSpreadOfUptoRow.holds Try.pinned (OpenSpec.upto fnExactSpreadOfSpec)

/-- 'laws.FnExactRollWeb', WHERE WHAT IT READS IS OF BULK AT MOST 1048576: true; the input reads as it did. -/
def fnExactRollWebUptoRow : OpenClaim := { program := "ytnladfckhfkefaa", sum := "8e6e20a6957eee791e4b60d82fdb9082083ebf129a667240be280d6d0b27f783", func := "loop.example/g01384/laws.FnExactRollWeb", spec := "fnExactRollWeb", unfollowed := true, recurses := true, apart := false, narrowed := true }
def FnExactRollWebUptoSaid : Prop := fnExactRollWebUptoRow.holds Try.pinned (OpenSpec.upto fnExactRollWebSpec)

/-- 'laws.FnExactLumpsIn', WHERE WHAT IT READS IS OF BULK AT MOST 1048576: true; the input reads as it did. -/
def fnExactLumpsInUptoRow : OpenClaim := { program := "ytnladfckhfkefaa", sum := "8e6e20a6957eee791e4b60d82fdb9082083ebf129a667240be280d6d0b27f783", func := "loop.example/g01384/laws.FnExactLumpsIn", spec := "fnExactLumpsIn", unfollowed := true, recurses := true, apart := false, narrowed := true }
def FnExactLumpsInUptoSaid : Prop := fnExactLumpsInUptoRow.holds Try.pinned (OpenSpec.upto fnExactLumpsInSpec)

/-- 'laws.FnExactUnevenness', WHERE WHAT IT READS IS OF BULK AT MOST 1048576: true; the input reads as it did. -/
def fnExactUnevennessUptoRow : OpenClaim := { program := "ytnladfckhfkefaa", sum := "8e6e20a6957eee791e4b60d82fdb9082083ebf129a667240be280d6d0b27f783", func := "loop.example/g01384/laws.FnExactUnevenness", spec := "fnExactUnevenness", unfollowed := true, recurses := true, apart := false, narrowed := true }
def FnExactUnevennessUptoSaid : Prop := fnExactUnevennessUptoRow.holds Try.pinned (OpenSpec.upto fnExactUnevennessSpec)

/-- 'laws.FnExactPartLump', WHERE WHAT IT READS IS OF BULK AT MOST 1048576: true; the input reads as it did. -/
def fnExactPartLumpUptoRow : OpenClaim := { program := "ytnladfckhfkefaa", sum := "8e6e20a6957eee791e4b60d82fdb9082083ebf129a667240be280d6d0b27f783", func := "loop.example/g01384/laws.FnExactPartLump", spec := "fnExactPartLump", unfollowed := true, recurses := true, apart := false, narrowed := true }
def FnExactPartLumpUptoSaid : Prop := fnExactPartLumpUptoRow.holds Try.pinned (OpenSpec.upto fnExactPartLumpSpec)

/-- 'laws.FnExactPartAll', WHERE WHAT IT READS IS OF BULK AT MOST 1048576: true; the input reads as it did. -/
def fnExactPartAllUptoRow : OpenClaim := { program := "ytnladfckhfkefaa", sum := "8e6e20a6957eee791e4b60d82fdb9082083ebf129a667240be280d6d0b27f783", func := "loop.example/g01384/laws.FnExactPartAll", spec := "fnExactPartAll", unfollowed := true, recurses := true, apart := false, narrowed := true }
def FnExactPartAllUptoSaid : Prop := fnExactPartAllUptoRow.holds Try.pinned (OpenSpec.upto fnExactPartAllSpec)

/-- 'laws.FnExactCardOnce', WHERE WHAT IT READS IS OF BULK AT MOST 1048576: true; the input reads as it did. -/
def fnExactCardOnceUptoRow : OpenClaim := { program := "ytnladfckhfkefaa", sum := "8e6e20a6957eee791e4b60d82fdb9082083ebf129a667240be280d6d0b27f783", func := "loop.example/g01384/laws.FnExactCardOnce", spec := "fnExactCardOnce", unfollowed := true, recurses := true, apart := false, narrowed := true }
def FnExactCardOnceUptoSaid : Prop := fnExactCardOnceUptoRow.holds Try.pinned (OpenSpec.upto fnExactCardOnceSpec)

/-- 'laws.FnExactCardAll', WHERE WHAT IT READS IS OF BULK AT MOST 1048576: true; the input reads as it did. -/
def fnExactCardAllUptoRow : OpenClaim := { program := "ytnladfckhfkefaa", sum := "8e6e20a6957eee791e4b60d82fdb9082083ebf129a667240be280d6d0b27f783", func := "loop.example/g01384/laws.FnExactCardAll", spec := "fnExactCardAll", unfollowed := true, recurses := true, apart := false, narrowed := true }
def FnExactCardAllUptoSaid : Prop := fnExactCardAllUptoRow.holds Try.pinned (OpenSpec.upto fnExactCardAllSpec)

/-- 'laws.FnExactEvenestPasses', WHERE WHAT IT READS IS OF BULK AT MOST 1048576: true; the input reads as it did. -/
def fnExactEvenestPassesUptoRow : OpenClaim := { program := "ytnladfckhfkefaa", sum := "8e6e20a6957eee791e4b60d82fdb9082083ebf129a667240be280d6d0b27f783", func := "loop.example/g01384/laws.FnExactEvenestPasses", spec := "fnExactEvenestPasses", unfollowed := true, recurses := true, apart := false, narrowed := true }
def FnExactEvenestPassesUptoSaid : Prop := fnExactEvenestPassesUptoRow.holds Try.pinned (OpenSpec.upto fnExactEvenestPassesSpec)

/-- 'laws.FnExactFewestPasses', WHERE WHAT IT READS IS OF BULK AT MOST 1048576: true; the input reads as it did. -/
def fnExactFewestPassesUptoRow : OpenClaim := { program := "ytnladfckhfkefaa", sum := "8e6e20a6957eee791e4b60d82fdb9082083ebf129a667240be280d6d0b27f783", func := "loop.example/g01384/laws.FnExactFewestPasses", spec := "fnExactFewestPasses", unfollowed := true, recurses := true, apart := false, narrowed := true }
def FnExactFewestPassesUptoSaid : Prop := fnExactFewestPassesUptoRow.holds Try.pinned (OpenSpec.upto fnExactFewestPassesSpec)

/-- 'laws.FnLumps', WHERE WHAT IT READS IS OF BULK AT MOST 1048576: true; the input reads as it did. -/
def fnLumpsUptoRow : OpenClaim := { program := "ytnladfckhfkefaa", sum := "8e6e20a6957eee791e4b60d82fdb9082083ebf129a667240be280d6d0b27f783", func := "loop.example/g01384/laws.FnLumps", spec := "fnLumps", unfollowed := true, recurses := true, apart := false, narrowed := true }
def FnLumpsUptoSaid : Prop := fnLumpsUptoRow.holds Try.pinned (OpenSpec.upto fnLumpsSpec)

/-- 'laws.FnPasses', WHERE WHAT IT READS IS OF BULK AT MOST 1048576: true; the input reads as it did. -/
def fnPassesUptoRow : OpenClaim := { program := "ytnladfckhfkefaa", sum := "8e6e20a6957eee791e4b60d82fdb9082083ebf129a667240be280d6d0b27f783", func := "loop.example/g01384/laws.FnPasses", spec := "fnPasses", unfollowed := true, recurses := true, apart := false, narrowed := true }
def FnPassesUptoSaid : Prop := fnPassesUptoRow.holds Try.pinned (OpenSpec.upto fnPassesSpec)

end Rows
end Go.Proofs.Ytnladfckhfkefaa
