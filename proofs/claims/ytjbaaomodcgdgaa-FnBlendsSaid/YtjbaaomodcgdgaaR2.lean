/- Contracts: MeanLength. -/
import Derived.Test.YtjbaaomodcgdgaaR1
namespace Go.Proofs.Ytjbaaomodcgdgaa
open Go.RowKit
set_option linter.unusedVariables false
set_option linter.unusedSimpArgs false
theorem heapOk_at2 {L : List Int} (h : heapOk L = true) (k : Nat) : 0 ≤ L.getD k 0 ∧ L.getD k 0 ≤ 1000 := by
  by_cases hk : k < L.length
  · have := (List.all_eq_true.1 h) L[k] (List.getElem_mem hk)
    simp only [inB, decide_eq_true_eq] at this
    simpa [List.getElem?_eq_getElem hk] using this
  · simp [List.getElem?_eq_none (by omega : L.length ≤ k)]
theorem list_at2 {L : List Int} (hl : L.length = 8) {k : Nat} (h : k < 8) : (nums .i32 L)[k]? = some (.int .i32 (L.getD k 0)) := by
  have : k < L.length := by omega
  simp [nums, List.getElem?_eq_getElem this]
def wsum (L : List Int) : Nat → Int
  | 0 => 0
  | k + 1 => wsum L k + (k : Int) * L.getD k 0
theorem wsum_rng {L : List Int} (h : heapOk L = true) : ∀ k : Nat, k ≤ 8 → 0 ≤ wsum L k ∧ wsum L k ≤ 7000 * k
  | 0, _ => by simp [wsum]
  | k + 1, hk => by
    have ih := wsum_rng h k (by omega)
    have hb := heapOk_at2 h k
    have h1 : 0 ≤ (k : Int) * L.getD k 0 := Int.mul_nonneg (by omega) hb.1
    have h2 : (k : Int) * L.getD k 0 ≤ 7 * 1000 := Int.mul_le_mul (by omega) hb.2 hb.1 (by omega)
    simp only [wsum]
    omega
theorem idxB (a0 a1 a2 a3 a4 a5 a6 a7 : Int) : ∀ k : Nat, k < 8 → ∀ w : World, (Instr.index 27 (.agg #[.int .i32 a0, .int .i32 a1, .int .i32 a2, .int .i32 a3, .int .i32 a4, .int .i32 a5, .int .i32 a6, .int .i32 a7]) (.int .i64 k)).run Try.prog w = .ok (.int .i32 ([a0, a1, a2, a3, a4, a5, a6, a7].getD k 0)) w := by
  obtain ⟨i0, i1, i2, i3, i4, i5, i6, i7⟩ := idxH a0 a1 a2 a3 a4 a5 a6 a7
  intro k hk w
  match k, hk with
  | 0, _ => exact i0 w
  | 1, _ => exact i1 w
  | 2, _ => exact i2 w
  | 3, _ => exact i3 w
  | 4, _ => exact i4 w
  | 5, _ => exact i5 w
  | 6, _ => exact i6 w
  | 7, _ => exact i7 w
end Go.Proofs.Ytjbaaomodcgdgaa
