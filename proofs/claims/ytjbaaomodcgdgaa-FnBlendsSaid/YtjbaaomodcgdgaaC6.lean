/- Contracts: the mirrored web. -/
import Derived.Test.YtjbaaomodcgdgaaC3
namespace Go.Proofs.Ytjbaaomodcgdgaa
open Go.RowKit
set_option linter.unusedVariables false
set_option linter.unusedSimpArgs false
def mirrorR (xs : List Int) : List Int := if webOk xs then xs.reverse else []
theorem mirrorR_len (xs : List Int) : (mirrorR xs).length ≤ 1048576 := by
  unfold mirrorR
  split
  · have := (webOk_bd ‹_›).2.1
    simp; omega
  · simp
theorem rev_succ {xs : List Int} {k : Nat} {x : Int} (hk : k < xs.length) (h : xs[xs.length - 1 - k]? = some x) : xs.reverse.take (k + 1) = xs.reverse.take k ++ [x] := by
  rw [List.take_add_one, List.getElem?_reverse (by omega), h]
  rfl
end Go.Proofs.Ytjbaaomodcgdgaa
