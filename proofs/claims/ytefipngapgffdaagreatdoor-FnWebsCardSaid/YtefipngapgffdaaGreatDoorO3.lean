/- Contracts: spec.l01Number and spec.l01Split. -/
import Derived.Test.YtefipngapgffdaaGreatDoorO1
import Derived.Test.YtefipngapgffdaaGreatDoorSt
namespace Go.Proofs.YtefipngapgffdaaGreatDoor
open Go.RowKit
set_option linter.unusedVariables false
set_option linter.unusedSimpArgs false
def nok (w : List UInt8) : Bool := (num w).isSome
def nvv (w : List UInt8) : Int := (((num w).getD 0 : Nat) : Int)
theorem nok_some {w : List UInt8} {n : Nat} (h : num w = some n) : nok w = true ∧ nvv w = n := by unfold nok nvv; rw [h]; exact ⟨rfl, rfl⟩
theorem nok_none {w : List UInt8} (h : num w = none) : nok w = false ∧ nvv w = 0 := by unfold nok nvv; rw [h]; exact ⟨rfl, rfl⟩
theorem nvv_bd (w : List UInt8) : 0 ≤ nvv w ∧ nvv w < 1000000000 := by
  unfold nvv
  cases h : num w with
  | none => simp
  | some n => have := (num_some h).2; simp; omega
theorem str_len (s : ByteArray) : s.data.toList.length = s.size := by rw [Array.length_toList]; rfl
theorem str_drop (s : ByteArray) {k : Nat} (h : k < s.size) : s.data.toList.drop k = (s[k]'h) :: s.data.toList.drop (k + 1) := by
  rw [List.drop_eq_getElem_cons (by rw [str_len]; exact h)]
  rfl
theorem str_nil {s : ByteArray} (h : s.size = 0) : s = ⟨#[]⟩ := by
  apply ByteArray.ext
  have : s.data.size = 0 := h
  exact Array.eq_empty_of_size_eq_zero this
end Go.Proofs.YtefipngapgffdaaGreatDoor
