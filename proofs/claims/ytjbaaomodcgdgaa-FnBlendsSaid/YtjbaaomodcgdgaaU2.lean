/- Contracts: the grades of fleeces: their codes, their bounds, a grade. -/
import Derived.Test.YtjbaaomodcgdgaaB4
import Derived.Test.YtjbaaomodcgdgaaC3
import Derived.Test.YtjbaaomodcgdgaaA0
namespace Go.Proofs.Ytjbaaomodcgdgaa
open Go.RowKit
set_option linter.unusedVariables false
set_option linter.unusedSimpArgs false
/-- Number j of a list is out of its bounds, or no greater than the one before. -/
def badAt (xs : List Int) (j : Nat) : Bool := !inB (gd xs j) 1 9 || (decide (0 < j) && decide (gd xs j ≤ gd xs (j - 1)))
def risOk (xs : List Int) : Bool := (List.range xs.length).all fun j => !badAt xs j
theorem ris_no {xs : List Int} {j : Nat} (hj : j < xs.length) (h : badAt xs j = true) : risOk xs = false := by
  unfold risOk
  rw [List.all_eq_false]
  exact ⟨j, List.mem_range.2 hj, by simp [h]⟩
theorem ris_yes {xs : List Int} (h : ∀ j, j < xs.length → badAt xs j = false) : risOk xs = true := by
  unfold risOk
  rw [List.all_eq_true]
  intro j hj
  simp [h j (List.mem_range.1 hj)]
theorem bad_in {xs : List Int} {j : Nat} {x : Int} (hx : xs[j]? = some x) (h : inB x 1 9 = false) : badAt xs j = true := by
  unfold badAt
  rw [gd_of hx, h]
  rfl
theorem bad_first {xs : List Int} {x : Int} {j : Nat} (hj : j ≤ 0) (hx : xs[j]? = some x) (h : inB x 1 9 = true) : badAt xs j = false := by
  obtain rfl : j = 0 := by omega
  unfold badAt
  rw [gd_of hx, h]
  rfl
theorem bad_next {xs : List Int} {j q : Nat} {x y : Int} (hq : j = q + 1) (hx : xs[j]? = some x) (hy : xs[q]? = some y) (h : inB x 1 9 = true) : badAt xs j = decide (x ≤ y) := by
  subst hq
  unfold badAt
  rw [gd_of hx, h, show q + 1 - 1 = q from rfl, gd_of hy]
  simp
theorem upto_succ {P : Nat → Prop} {k : Nat} (h : ∀ j, j < k → P j) (hk : P k) : ∀ j, j < k + 1 → P j := by
  intro j hj
  by_cases h1 : j < k
  · exact h j h1
  · obtain rfl : j = k := by omega
    exact hk
/-- How many numbers are at most f. -/
def cntTo (xs : List Int) (f : Int) : Nat → Int
  | 0 => 0
  | k + 1 => cntTo xs f k + if gd xs k ≤ f then 1 else 0
def cntL (xs : List Int) (f : Int) : Int := cntTo xs f xs.length
theorem cntTo_bd (xs : List Int) (f : Int) : ∀ k, 0 ≤ cntTo xs f k ∧ cntTo xs f k ≤ k
  | 0 => ⟨Int.le_refl _, Int.le_refl _⟩
  | k + 1 => by
    have := cntTo_bd xs f k
    unfold cntTo
    split <;> omega
theorem cnt_yes {xs : List Int} {f x : Int} {k : Nat} (hx : xs[k]? = some x) (h : x ≤ f) : cntTo xs f (k + 1) = cntTo xs f k + 1 := by
  rw [cntTo, gd_of hx, if_pos h]
theorem cnt_no {xs : List Int} {f x : Int} {k : Nat} (hx : xs[k]? = some x) (h : ¬ x ≤ f) : cntTo xs f (k + 1) = cntTo xs f k := by
  rw [cntTo, gd_of hx, if_neg h, Int.add_zero]
end Go.Proofs.Ytjbaaomodcgdgaa
