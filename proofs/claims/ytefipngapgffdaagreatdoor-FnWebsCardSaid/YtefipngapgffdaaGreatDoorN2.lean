/- Contracts: impl.texts, with any function that is called with each text. -/
import Derived.Test.YtefipngapgffdaaGreatDoorN1
import Derived.Test.YtefipngapgffdaaGreatDoorKp
import Derived.Test.YtefipngapgffdaaGreatDoorSt
namespace Go.Proofs.YtefipngapgffdaaGreatDoor
open Go.RowKit
set_option linter.unusedVariables false
set_option linter.unusedSimpArgs false
/-- The texts of ranks a, a + 1, .., k of them. -/
def lvl (a k : Nat) : List ByteArray := (List.range k).map fun i => rkS (a + i)
theorem lvl_length (a k : Nat) : (lvl a k).length = k := by simp [lvl]
theorem lvl_get {a k i : Nat} (h : i < k) : (lvl a k)[i]? = some (rkS (a + i)) := by simp [lvl, h]
theorem lvl_three (a r j : Nat) (h : 3 * r + 1 = a + 3 * j) : strs (lvl a (3 * j)) ++ [.string ((rkS r).push 99), .string ((rkS r).push 102), .string ((rkS r).push 114)] = strs (lvl a (3 * (j + 1))) := by
  have e0 := rkS_child r 0 (by omega)
  have e1 := rkS_child r 1 (by omega)
  have e2 := rkS_child r 2 (by omega)
  have f0 : psB 0 = 99 := rfl
  have f1 : psB 1 = 102 := rfl
  have f2 : psB 2 = 114 := rfl
  rw [f0] at e0; rw [f1] at e1; rw [f2] at e2
  rw [← e0, ← e1, ← e2]
  unfold lvl
  rw [show 3 * (j + 1) = ((3 * j + 1) + 1) + 1 by omega, List.range_succ, List.range_succ, List.range_succ]
  simp only [strs, List.map_append, List.map_cons, List.map_nil, List.append_assoc, List.singleton_append]
  rw [show a + 3 * j = 3 * r + 1 + 0 by omega, show a + (3 * j + 1) = 3 * r + 1 + 1 by omega, show a + (3 * j + 1 + 1) = 3 * r + 1 + 2 by omega]
  rfl
def lo : Nat → Nat
  | 0 => 0
  | k + 1 => 3 * lo k + 1
theorem lo_tot (k : Nat) : lo (k + 1) = tot k := by
  induction k with
  | zero => rfl
  | succ k ih => rw [lo, ih]; rfl
theorem lo_lt (k : Nat) : lo k < lo (k + 1) := by rw [lo]; omega
/-- Where the texts up to rank R have been tried. -/
def TxEnd (I : Nat → World → Prop) (stop : Nat → Bool) (T : Nat) (w : World) : Prop :=
  (I T w ∧ ∀ q, q < T → stop q = false) ∨ ∃ r, r < T ∧ I (r + 1) w ∧ stop r = true ∧ ∀ q, q < r → stop q = false
end Go.Proofs.YtefipngapgffdaaGreatDoor
