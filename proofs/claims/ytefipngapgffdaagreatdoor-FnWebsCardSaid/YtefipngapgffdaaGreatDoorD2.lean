/- Contracts: lumps, on both sides. -/
import Derived.Test.YtefipngapgffdaaGreatDoorC3
namespace Go.Proofs.YtefipngapgffdaaGreatDoor
open Go.RowKit
set_option linter.unusedVariables false
set_option linter.unusedSimpArgs false
def lumpAt (xs : List Int) (t : Int) (k : Nat) : Bool := decide (t * xs.sum < gd xs k * (xs.length : Int))
def lumpsTo (xs : List Int) (t : Int) : Nat → List Int
  | 0 => []
  | k + 1 => lumpsTo xs t k ++ (if lumpAt xs t k then [(k : Int)] else [])
def lumpsL (xs : List Int) (t : Int) : List Int := lumpsTo xs t xs.length
theorem lumpsTo_yes {xs : List Int} {t : Int} {k : Nat} (h : lumpAt xs t k = true) : lumpsTo xs t (k + 1) = lumpsTo xs t k ++ [(k : Int)] := by simp [lumpsTo, h]
theorem lumpsTo_no {xs : List Int} {t : Int} {k : Nat} (h : lumpAt xs t k = false) : lumpsTo xs t (k + 1) = lumpsTo xs t k := by simp [lumpsTo, h]
theorem lumpsTo_len (xs : List Int) (t : Int) (k : Nat) : (lumpsTo xs t k).length ≤ k := by
  induction k with
  | zero => simp [lumpsTo]
  | succ k ih => simp only [lumpsTo, List.length_append]; split <;> simp <;> omega
def lumpC (xs : List Int) (t : Int) : Int := if webOk xs then (if inB t 1 12 then 0 else 2) else 1
def lumpR (xs : List Int) (t : Int) : List Int := if webOk xs then (if inB t 1 12 then lumpsL xs t else []) else []
theorem lumpR_len (xs : List Int) (t : Int) : (lumpR xs t).length ≤ 1048576 := by
  unfold lumpR
  split
  · have := (webOk_bd ‹_›).2.1
    have h2 := lumpsTo_len xs t xs.length
    split
    · unfold lumpsL; omega
    · simp
  · simp
theorem mul_bd {a b A B : Int} (h1 : 0 ≤ a) (h2 : a ≤ A) (h3 : 0 ≤ b) (h4 : b ≤ B) : 0 ≤ a * b ∧ a * b ≤ A * B :=
  ⟨Int.mul_nonneg h1 h3, Int.mul_le_mul h2 h4 h3 (by omega)⟩
theorem sum_bd {xs : List Int} (hS : Small xs) (n : Nat) (hl : xs.length = n) (hn : n ≤ 1000) : 0 ≤ xs.sum ∧ xs.sum ≤ 20000000 := by
  obtain ⟨h1, h2⟩ := sumTo_bound (M := 20000) (by omega) hS n
  rw [← hl, sumTo_all] at h1 h2
  omega
end Go.Proofs.YtefipngapgffdaaGreatDoor
