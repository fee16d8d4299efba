/- The plain law of OffBy. -/
import Derived.Test.YtjbaaomodcgdgaaR2
namespace Go.Proofs.Ytjbaaomodcgdgaa
open Go.RowKit
set_option linter.unusedVariables false
set_option linter.unusedSimpArgs false
def offS (L M : List Int) (X Y : Int) : Nat → Int
  | 0 => 0
  | k + 1 => offS L M X Y k + ((L.getD k 0 * Y - M.getD k 0 * X).natAbs : Int)
theorem prod_rng {x S : Int} (hx : 0 ≤ x ∧ x ≤ 1000) (hs : 0 ≤ S ∧ S ≤ 8000) : 0 ≤ x * S ∧ x * S ≤ 8000000 := by
  have h1 := Int.mul_nonneg hx.1 hs.1
  have h2 : x * S ≤ 1000 * 8000 := Int.mul_le_mul hx.2 hs.2 hs.1 (by omega)
  omega
theorem offS_rng {L M : List Int} {X Y : Int} (hl : heapOk L = true) (hm : heapOk M = true) (hx : 0 ≤ X ∧ X ≤ 8000) (hy : 0 ≤ Y ∧ Y ≤ 8000) : ∀ k : Nat, 0 ≤ offS L M X Y k ∧ offS L M X Y k ≤ 8000000 * k
  | 0 => by simp [offS]
  | k + 1 => by
    have ih := offS_rng hl hm hx hy k
    have p1 := prod_rng (heapOk_at2 hl k) hy
    have p2 := prod_rng (heapOk_at2 hm k) hx
    simp only [offS]
    omega
theorem woC_two_0 {L M : List Int} (h : woC [L, M] = 0) : heapOk L = true ∧ heapOk M = true ∧ 0 < hsL L ∧ 0 < hsL M := by
  cases h1 : heapOk L
  · simp [woC, h1] at h
  · cases h2 : heapOk M
    · simp [woC, h1, h2] at h
    · by_cases h3 : 0 < hsL L
      · by_cases h4 : 0 < hsL M
        · exact ⟨rfl, rfl, h3, h4⟩
        · simp [woC, h1, h2, h3, h4] at h
      · simp [woC, h1, h2, h3] at h
theorem woC_cases (xs : List (List Int)) : woC xs = 0 ∨ woC xs = 1 ∨ woC xs = 6 := by
  unfold woC
  split
  · simp
  · split <;> simp
end Go.Proofs.Ytjbaaomodcgdgaa
