/- Contracts: lists of whole numbers: made anew, compared, marked, held, summed up. -/
import Derived.Test.YtjjdmabhmpkijaaDoorProg
import Derived.Test.YtjjdmabhmpkijaaDoorK
import Derived.BigQuiet
import Derived.Deep.QuietTactic
namespace Go.Proofs.YtjjdmabhmpkijaaDoor
open Go.RowKit
set_option linter.unusedVariables false
set_option linter.unusedSimpArgs false

def sumTo (xs : List Int) (k : Nat) : Int := (xs.take k).sum
theorem sumTo_step {xs : List Int} {k : Nat} {x : Int} (h : xs[k]? = some x) : sumTo xs (k + 1) = sumTo xs k + x := by
  unfold sumTo
  rw [List.take_add_one, h, List.sum_append]
  simp
theorem sumTo_bound {xs : List Int} {M : Int} (hM : 0 ≤ M) (h : ∀ x ∈ xs, 0 ≤ x ∧ x ≤ M) (k : Nat) : 0 ≤ sumTo xs k ∧ sumTo xs k ≤ k * M := by
  induction k with
  | zero => simp [sumTo]
  | succ k ih =>
    cases hx : xs[k]? with
    | none =>
      have : sumTo xs (k + 1) = sumTo xs k := by unfold sumTo; rw [List.take_add_one, hx]; simp
      rw [this]
      refine ⟨ih.1, Int.le_trans ih.2 ?_⟩
      exact Int.mul_le_mul_of_nonneg_right (by omega) hM
    | some x =>
      rw [sumTo_step hx]
      have := h x (List.mem_of_getElem? hx)
      have h2 : ((k + 1 : Nat) : Int) * M = k * M + M := by rw [Int.natCast_succ, Int.add_mul, Int.one_mul]
      omega
theorem sumTo_all (xs : List Int) : sumTo xs xs.length = xs.sum := by simp [sumTo]
abbrev IC (x : Int) : List Value := [.int .i64 x]
def SumB (xs : List Int) (n : Nat) : Prop := xs.length = n ∧ ∀ k, k ≤ n → -1000000000000000 ≤ sumTo xs k ∧ sumTo xs k ≤ 1000000000000000
theorem ret_int {k : IntKind} {a b : Int} (h : a = b) : Ending.returned (.int k a) = .returned (.int k b) := by rw [h]

end Go.Proofs.YtjjdmabhmpkijaaDoor
