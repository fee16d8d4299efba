/- Contracts: JoinHeaps. -/
import Derived.Test.YtjbaaomodcgdgaaH4
import Derived.Test.YtjbaaomodcgdgaaC1
namespace Go.Proofs.Ytjbaaomodcgdgaa
open Go.RowKit
set_option linter.unusedVariables false
set_option linter.unusedSimpArgs false
theorem heapOk_bounds {a0 a1 a2 a3 a4 a5 a6 a7 : Int} (h : heapOk [a0, a1, a2, a3, a4, a5, a6, a7] = true) : (0 ≤ a0 ∧ a0 ≤ 1000) ∧ (0 ≤ a1 ∧ a1 ≤ 1000) ∧ (0 ≤ a2 ∧ a2 ≤ 1000) ∧ (0 ≤ a3 ∧ a3 ≤ 1000) ∧ (0 ≤ a4 ∧ a4 ≤ 1000) ∧ (0 ≤ a5 ∧ a5 ≤ 1000) ∧ (0 ≤ a6 ∧ a6 ≤ 1000) ∧ (0 ≤ a7 ∧ a7 ≤ 1000) := by
  simpa [heapOk, inB] using h
theorem wf_i32 {n : Int} (h : -2147483648 ≤ n ∧ n ≤ 2147483647) : (Lit.int .i32 n).wf = true := by
  simp [Lit.wf, IntKind.min, IntKind.max, IntKind.signed, IntKind.bits]
  omega
theorem hid_wf8 {a0 a1 a2 a3 a4 a5 a6 a7 : Int} (h : (-2147483648 ≤ a0 ∧ a0 ≤ 2147483647) ∧ (-2147483648 ≤ a1 ∧ a1 ≤ 2147483647) ∧ (-2147483648 ≤ a2 ∧ a2 ≤ 2147483647) ∧ (-2147483648 ≤ a3 ∧ a3 ≤ 2147483647) ∧ (-2147483648 ≤ a4 ∧ a4 ≤ 2147483647) ∧ (-2147483648 ≤ a5 ∧ a5 ≤ 2147483647) ∧ (-2147483648 ≤ a6 ∧ a6 ≤ 2147483647) ∧ (-2147483648 ≤ a7 ∧ a7 ≤ 2147483647)) : Hid (∀ x ∈ [a0, a1, a2, a3, a4, a5, a6, a7], (Lit.int .i32 x).wf = true) := by
  obtain ⟨h0, h1, h2, h3, h4, h5, h6, h7⟩ := h
  refine Lib.hid fun x hx => ?_
  simp only [List.mem_cons, List.not_mem_nil, or_false] at hx
  rcases hx with rfl | rfl | rfl | rfl | rfl | rfl | rfl | rfl
  all_goals exact wf_i32 (by assumption)
def joC (A B : List Int) : Int := if heapOk A = false then 1 else if heapOk B = false then 1 else if heapOk (List.zipWith (· + ·) A B) = false then 3 else 0
end Go.Proofs.Ytjbaaomodcgdgaa
