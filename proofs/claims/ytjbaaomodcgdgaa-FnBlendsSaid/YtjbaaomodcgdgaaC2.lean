/- Contracts over webs: validity and total. -/
import Derived.Test.YtjbaaomodcgdgaaProg
import Derived.Test.YtjbaaomodcgdgaaK
import Derived.Test.YtjbaaomodcgdgaaA0
import Derived.Test.YtjbaaomodcgdgaaB1
import Derived.Test.YtjbaaomodcgdgaaC1
namespace Go.Proofs.Ytjbaaomodcgdgaa
open Go.RowKit
set_option linter.unusedVariables false
set_option linter.unusedSimpArgs false

def webOk (xs : List Int) : Bool := inB (xs.length : Int) 2 12 && (((xs.length : Int) % 2 == 0) && xs.all fun x => inB x 0 10000)
theorem inB_iff {n lo hi : Int} : inB n lo hi = true ↔ lo ≤ n ∧ n ≤ hi := by simp [inB]
theorem webOk_bd {xs : List Int} (h : webOk xs = true) : 2 ≤ xs.length ∧ xs.length ≤ 12 ∧ xs.length % 2 = 0 ∧ ∀ x ∈ xs, 0 ≤ x ∧ x ≤ 10000 := by
  simp only [webOk, Bool.and_eq_true, inB_iff, beq_iff_eq, List.all_eq_true] at h
  obtain ⟨h1, h2, h3⟩ := h
  exact ⟨by omega, by omega, by omega, h3⟩
theorem SumB.of {xs : List Int} {n : Nat} {M : Int} (hl : xs.length = n) (hM : 0 ≤ M) (hM2 : M ≤ 1000000000) (hn : n ≤ 1000000) (h : ∀ x ∈ xs, 0 ≤ x ∧ x ≤ M) : SumB xs n := by
  refine ⟨hl, fun k hk => ?_⟩
  obtain ⟨h1, h2⟩ := sumTo_bound hM h k
  have : (k : Int) * M ≤ 1000000 * 1000000000 := Int.mul_le_mul (by omega) hM2 hM (by omega)
  omega
theorem webOk_sum {xs : List Int} {n : Nat} (hl : xs.length = n) (h : webOk xs = true) : SumB xs n := by
  obtain ⟨h1, h2, h3, h4⟩ := webOk_bd h
  exact SumB.of hl (by omega) (by omega) (by omega) h4
def totV (xs : List Int) : Int := if webOk xs then xs.sum else 0
/-- The code of a web: 0, or 1 if it is not valid. -/
def okC (xs : List Int) : Int := if webOk xs then 0 else 1
end Go.Proofs.Ytjbaaomodcgdgaa
