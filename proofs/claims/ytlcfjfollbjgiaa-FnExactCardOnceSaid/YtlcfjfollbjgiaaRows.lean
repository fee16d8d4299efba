/-
  No cell of these rows narrows 'for every input' (looked for: loops, veiled, ifaces, maps, wideKeys, modest, calm, conditions, laid).
  DERIVED. THE GIVEN ROWS OF THIS SEAT. 3 by the template 'for every input the law returns true; each argument reads behind the call as it read before'; 0 by the template 'total and deterministic' (their statements: YtlcfjfollbjgiaaTotals.lean).
  GIVEN WITH THE SEED: the statements are not yours to turn. If you find one false, say at which input.
  Laid BY PROGRAM, IN A SANDBOX (cutbox-rows.mjs): the forced cells as the released guide's own fill.sh prints them over the translation fe4b29c0b7ea7317… (all of the seat's roots in one cut). By AI agents, Wed Nov 11 2026. No macro, syntax, notation, axiom, sorry.
-/
import Derived.Test.YtlcfjfollbjgiaaChecked
import GoSem.Claim
import GoSem.ClaimJoined
import GoSem.ClaimMapViews
import Derived.JoinedTies
import Derived.KernelRfl
namespace Go.Proofs.Ytlcfjfollbjgiaa
/- THE CELL 'sum', in the pinned program and in every row, IS THE sha256 OF THE DUMP (.gsa) THAT YtlcfjfollbjgiaaProg.lean LOADS. Nothing in Lean hashes anything: it is a label: what it is worth is what the hold of that sum in a sandbox is worth. -/
noncomputable def Try.pinned : Pinned := { name := "ytlcfjfollbjgiaa", sum := "fe4b29c0b7ea7317a67981e13b49dfcdef7f26e1a254ffab054d14a577354916", checked := Try.checked }
namespace Rows
def none {H : Type} : Left H := { results := [], args := [] }

/-- 'laws.FnExactRollWeb': WHATEVER THE INPUT: true; the input reads as it did. -/
def fnExactRollWebSpec : ChangeSpec := { name := "fnExactRollWeb", fn := fun _ => fun
  | [d1, d2] => { results := [.lit (.bool true)], args := [d1, d2] }
  | _ => none }
def fnExactRollWebRow : OpenClaim := { program := "ytlcfjfollbjgiaa", sum := "fe4b29c0b7ea7317a67981e13b49dfcdef7f26e1a254ffab054d14a577354916", func := "loop.example/g01384/laws.FnExactRollWeb", spec := "fnExactRollWeb", unfollowed := true, recurses := true, apart := false }
def FnExactRollWebSaid : Prop := fnExactRollWebRow.holds Try.pinned (OpenSpec.ofChange fnExactRollWebSpec)

/-- ITS FALSE NEIGHBOUR: 'it returns false'. Refute it at one input. -/
def fnExactRollWebWrong : ChangeSpec := { name := "fnExactRollWeb", fn := fun _ => fun
  | [d1, d2] => { results := [.lit (.bool false)], args := [d1, d2] }
  | _ => none }
def FnExactRollWebWrongFalsely : Prop := fnExactRollWebRow.holds Try.pinned (OpenSpec.ofChange fnExactRollWebWrong)

/-- 'laws.FnExactCardOnce': WHATEVER THE INPUT: true; the input reads as it did. -/
def fnExactCardOnceSpec : ChangeSpec := { name := "fnExactCardOnce", fn := fun _ => fun
  | [d1, d2, d3] => { results := [.lit (.bool true)], args := [d1, d2, d3] }
  | _ => none }
def fnExactCardOnceRow : OpenClaim := { program := "ytlcfjfollbjgiaa", sum := "fe4b29c0b7ea7317a67981e13b49dfcdef7f26e1a254ffab054d14a577354916", func := "loop.example/g01384/laws.FnExactCardOnce", spec := "fnExactCardOnce", unfollowed := true, recurses := true, apart := false }
def FnExactCardOnceSaid : Prop := fnExactCardOnceRow.holds Try.pinned (OpenSpec.ofChange fnExactCardOnceSpec)

/-- ITS FALSE NEIGHBOUR: 'it returns false'. Refute it at one input. -/
def fnExactCardOnceWrong : ChangeSpec := { name := "fnExactCardOnce", fn := fun _ => fun
  | [d1, d2, d3] => { results := [.lit (.bool false)], args := [d1, d2, d3] }
  | _ => none }
def FnExactCardOnceWrongFalsely : Prop := fnExactCardOnceRow.holds Try.pinned (OpenSpec.ofChange fnExactCardOnceWrong)

/-- 'laws.FnExactCardAll': WHATEVER THE INPUT: true; the input reads as it did. -/
def fnExactCardAllSpec : ChangeSpec := { name := "fnExactCardAll", fn := fun _ => fun
  | [d1, d2, d3] => { results := [.lit (.bool true)], args := [d1, d2, d3] }
  | _ => none }
def fnExactCardAllRow : OpenClaim := { program := "ytlcfjfollbjgiaa", sum := "fe4b29c0b7ea7317a67981e13b49dfcdef7f26e1a254ffab054d14a577354916", func := "loop.example/g01384/laws.FnExactCardAll", spec := "fnExactCardAll", unfollowed := true, recurses := true, apart := false }
def FnExactCardAllSaid : Prop := fnExactCardAllRow.holds Try.pinned (OpenSpec.ofChange fnExactCardAllSpec)

/-- ITS FALSE NEIGHBOUR: 'it returns false'. Refute it at one input. -/
def fnExactCardAllWrong : ChangeSpec := { name := "fnExactCardAll", fn := fun _ => fun
  | [d1, d2, d3] => { results := [.lit (.bool false)], args := [d1, d2, d3] }
  | _ => none }
def FnExactCardAllWrongFalsely : Prop := fnExactCardAllRow.holds Try.pinned (OpenSpec.ofChange fnExactCardAllWrong)

/- THE SECOND FORM. 'bulk': how many values and letters a reading holds, each counted each time it is reached (what is shared counts as often as it is met; a slice's spare places count too). A statement '..UptoSaid' is the law's where the arguments, and the package variables that the reading takes, are together of bulk at most 1048576: NARROWER than '..Said'. Prove '..Said' where nothing that the law and all that it calls make is longer than what came in: it says more and counts as full. Else prove '..UptoSaid'. A law counts once. -/
mutual
def uptoBulk {H : Type} : DataW H → Nat
  | .lit (.string bytes) => bytes.length + 1
  | .lit _ => 1
  | .nil => 1
  | .ptr d => uptoBulk d + 1
  | .slice elems spare => uptoBulkAll elems + uptoBulkAll spare + 1
  | .agg parts => uptoBulkAll parts + 1
  | .iface _ d => uptoBulk d + 1
  | .map entries => uptoBulkEntries entries + 1
  | .held _ => 1
def uptoBulkAll {H : Type} : List (DataW H) → Nat
  | [] => 0
  | d :: r => uptoBulk d + uptoBulkAll r
def uptoBulkEntries {H : Type} : List (Lit × DataW H) → Nat
  | [] => 0
  | x :: r => uptoBulkEntry x + uptoBulkEntries r
def uptoBulkEntry {H : Type} : Lit × DataW H → Nat
  | (.string bytes, d) => bytes.length + uptoBulk d + 1
  | (_, d) => uptoBulk d + 1
 end
def uptoSmall : (H : Type) → List (DataW H) → Bool := fun _ ds => decide (uptoBulkAll ds ≤ 1048576)
def OpenSpec.upto (s : _root_.Go.ChangeSpec) : _root_.Go.OpenSpec := { _root_.Go.OpenSpec.ofChange s with cond := some uptoSmall }

/-- 'laws.FnExactRollWeb', WHERE WHAT IT READS IS OF BULK AT MOST 1048576: true; the input reads as it did. -/
def fnExactRollWebUptoRow : OpenClaim := { program := "ytlcfjfollbjgiaa", sum := "fe4b29c0b7ea7317a67981e13b49dfcdef7f26e1a254ffab054d14a577354916", func := "loop.example/g01384/laws.FnExactRollWeb", spec := "fnExactRollWeb", unfollowed := true, recurses := true, apart := false, narrowed := true }
def FnExactRollWebUptoSaid : Prop := fnExactRollWebUptoRow.holds Try.pinned (OpenSpec.upto fnExactRollWebSpec)

/-- 'laws.FnExactCardOnce', WHERE WHAT IT READS IS OF BULK AT MOST 1048576: true; the input reads as it did. -/
def fnExactCardOnceUptoRow : OpenClaim := { program := "ytlcfjfollbjgiaa", sum := "fe4b29c0b7ea7317a67981e13b49dfcdef7f26e1a254ffab054d14a577354916", func := "loop.example/g01384/laws.FnExactCardOnce", spec := "fnExactCardOnce", unfollowed := true, recurses := true, apart := false, narrowed := true }
def FnExactCardOnceUptoSaid : Prop := fnExactCardOnceUptoRow.holds Try.pinned (OpenSpec.upto fnExactCardOnceSpec)

/-- 'laws.FnExactCardAll', WHERE WHAT IT READS IS OF BULK AT MOST 1048576: true; the input reads as it did. -/
def fnExactCardAllUptoRow : OpenClaim := { program := "ytlcfjfollbjgiaa", sum := "fe4b29c0b7ea7317a67981e13b49dfcdef7f26e1a254ffab054d14a577354916", func := "loop.example/g01384/laws.FnExactCardAll", spec := "fnExactCardAll", unfollowed := true, recurses := true, apart := false, narrowed := true }
def FnExactCardAllUptoSaid : Prop := fnExactCardAllUptoRow.holds Try.pinned (OpenSpec.upto fnExactCardAllSpec)

end Rows
end Go.Proofs.Ytlcfjfollbjgiaa
