/- Contracts: JoinHeaps. -/
import Derived.Test.YtppkcihdgedgoaaH4
import Derived.Test.YtppkcihdgedgoaaC1
namespace Go.Proofs.Ytppkcihdgedgoaa
open Go.RowKit
set_option linter.unusedVariables false
set_option linter.unusedSimpArgs false
theorem heapOk_bounds {a0 a1 a2 a3 a4 a5 a6 a7 : Int} (h : heapOk [a0, a1, a2, a3, a4, a5, a6, a7] = true) : (0 ≤ a0 ∧ a0 ≤ 1000) ∧ (0 ≤ a1 ∧ a1 ≤ 1000) ∧ (0 ≤ a2 ∧ a2 ≤ 1000) ∧ (0 ≤ a3 ∧ a3 ≤ 1000) ∧ (0 ≤ a4 ∧ a4 ≤ 1000) ∧ (0 ≤ a5 ∧ a5 ≤ 1000) ∧ (0 ≤ a6 ∧ a6 ≤ 1000) ∧ (0 ≤ a7 ∧ a7 ≤ 1000) := by
  simpa [heapOk, inB] using h
theorem wf_i32 {n : Int} (h : -2147483648 ≤ n ∧ n ≤ 2147483647) : (Lit.int .i32 n).wf = true := by
  simp [Lit.wf, IntKind.min, IntKind.max, IntKind.signed, IntKind.bits]
  omega
theorem hid_wf8 {a0 a1 a2 a3 a4 a5 a6 a7 : Int} (h : (-2147483648 ≤ a0 ∧ a0 ≤ 2147483647) ∧ (-2147483648 ≤ a1 ∧ a1 ≤ 2147483647) ∧ (-2147483648 ≤ a2 ∧ a2 ≤ 2147483647) ∧ (-2147483648 ≤ a3 ∧ a3 ≤ 2147483647) ∧ (-2147483648 ≤ a4 ∧ a4 ≤ 2147483647) ∧ (-2147483648 ≤ a5 ∧ a5 ≤ 2147483647) ∧ (-2147483648 ≤ a6 ∧ a6 ≤ 2147483647) ∧ (-2147483648 ≤ a7 ∧ a7 ≤ 2147483647)) : Hid (∀ x ∈ [a0, a1, a2, a3, a4, a5, a6, a7], (Lit.int .i32 x).wf = true) := by
  obtain ⟨h0, h1, h2, h3, h4, h5, h6, h7⟩ := h
  refine Lib.hid fun x hx => ?_
  simp only [List.mem_cons, List.not_mem_nil, or_false] at hx
  rcases hx with rfl | rfl | rfl | rfl | rfl | rfl | rfl | rfl
  all_goals exact wf_i32 (by assumption)
def joC (A B : List Int) : Int := if heapOk A = false then 1 else if heapOk B = false then 1 else if heapOk (List.zipWith (· + ·) A B) = false then 3 else 0
set_option maxHeartbeats 4000000 in
theorem sumOf_any (a0 a1 a2 a3 a4 a5 a6 a7 b0 b1 b2 b3 b4 b5 b6 b7 : Int) (w : World) (d0 : 0 ≤ a0 ∧ a0 ≤ 1000000) (e0 : 0 ≤ b0 ∧ b0 ≤ 1000) (d1 : 0 ≤ a1 ∧ a1 ≤ 1000000) (e1 : 0 ≤ b1 ∧ b1 ≤ 1000) (d2 : 0 ≤ a2 ∧ a2 ≤ 1000000) (e2 : 0 ≤ b2 ∧ b2 ≤ 1000) (d3 : 0 ≤ a3 ∧ a3 ≤ 1000000) (e3 : 0 ≤ b3 ∧ b3 ≤ 1000) (d4 : 0 ≤ a4 ∧ a4 ≤ 1000000) (e4 : 0 ≤ b4 ∧ b4 ≤ 1000) (d5 : 0 ≤ a5 ∧ a5 ≤ 1000000) (e5 : 0 ≤ b5 ∧ b5 ≤ 1000) (d6 : 0 ≤ a6 ∧ a6 ≤ 1000000) (e6 : 0 ≤ b6 ∧ b6 ≤ 1000) (d7 : 0 ≤ a7 ∧ a7 ≤ 1000000) (e7 : 0 ≤ b7 ∧ b7 ≤ 1000) :
    Calls Try.prog 39 #[.agg #[.int .i32 a0, .int .i32 a1, .int .i32 a2, .int .i32 a3, .int .i32 a4, .int .i32 a5, .int .i32 a6, .int .i32 a7], .agg #[.int .i32 b0, .int .i32 b1, .int .i32 b2, .int .i32 b3, .int .i32 b4, .int .i32 b5, .int .i32 b6, .int .i32 b7]] w fun e w' => e = .returned (.agg #[.int .i32 (a0 + b0), .int .i32 (a1 + b1), .int .i32 (a2 + b2), .int .i32 (a3 + b3), .int .i32 (a4 + b4), .int .i32 (a5 + b5), .int .i32 (a6 + b6), .int .i32 (a7 + b7)]) ∧ Below w.heap.size w w' := by
  obtain ⟨i0, i1, i2, i3, i4, i5, i6, i7⟩ := idxH b0 b1 b2 b3 b4 b5 b6 b7
  go_enter Try.func39, Try.ntmps39
  go_wp2_with fail
  go_rounds 9
  go_returns
  exact ⟨rfl, by go_grown⟩
end Go.Proofs.Ytppkcihdgedgoaa
