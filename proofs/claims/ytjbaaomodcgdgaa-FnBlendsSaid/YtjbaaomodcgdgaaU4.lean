/- Contracts: GradesOf, on both sides. -/
import Derived.Test.YtjbaaomodcgdgaaU3
import Derived.Deep.AppendLies
namespace Go.Proofs.Ytjbaaomodcgdgaa
open Go.RowKit
set_option linter.unusedVariables false
set_option linter.unusedSimpArgs false
def gfC (xs : List (Int × List Int)) (bs : List Int) : Int := flC xs (risOk bs)
def gfTo (xs : List (Int × List Int)) (bs : List Int) (k : Nat) : List Int := (xs.take k).map fun x => cntL bs x.1
def gfR (xs : List (Int × List Int)) (bs : List Int) : List Int := if gfC xs bs = 0 then gfTo xs bs xs.length else []
theorem gfTo_succ {xs : List (Int × List Int)} {bs : List Int} {k : Nat} {x : Int × List Int} (h : xs[k]? = some x) : gfTo xs bs (k + 1) = gfTo xs bs k ++ [cntL bs x.1] := by
  unfold gfTo
  rw [List.take_add_one, h]
  simp
theorem gfTo_len {xs : List (Int × List Int)} {bs : List Int} {k : Nat} (h : k ≤ xs.length) : (gfTo xs bs k).length = k := by
  unfold gfTo
  rw [List.length_map, List.length_take]
  omega
theorem flC_0 {xs : List (Int × List Int)} {b : Bool} (h : flC xs b = 0) : flB xs = true ∧ b = true ∧ xs.length ≤ 6 := by
  unfold flC at h
  cases h1 : flB xs
  · simp [h1] at h
  · cases b
    · simp [h1] at h
    · by_cases h6 : xs.length ≤ 6
      · exact ⟨rfl, rfl, h6⟩
      · simp [h1, h6] at h
theorem gfR_len (xs : List (Int × List Int)) (bs : List Int) : (gfR xs bs).length ≤ 6 := by
  unfold gfR
  split
  · rename_i h
    rw [gfTo_len (Nat.le_refl _)]
    exact (flC_0 h).2.2
  · simp
end Go.Proofs.Ytjbaaomodcgdgaa
