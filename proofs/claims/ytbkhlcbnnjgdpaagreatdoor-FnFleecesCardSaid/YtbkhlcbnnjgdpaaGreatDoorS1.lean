/- Contracts: lists of fractions: compared, marked, held. -/
import Derived.Test.YtbkhlcbnnjgdpaaGreatDoorR2
import Derived.Deep.RegionHeld3
namespace Go.Proofs.YtbkhlcbnnjgdpaaGreatDoor
open Go.RowKit
set_option linter.unusedVariables false
set_option linter.unusedSimpArgs false
abbrev FrC (y : Int × Int) : List Value := [.int .i64 y.1, .int .i64 y.2]
theorem FrC_len (xs : List (Int × Int)) : (xs.flatMap FrC).length = xs.length * 2 := by
  induction xs with
  | nil => rfl
  | cons x xs ih => simp only [List.flatMap_cons, List.length_append, ih, List.length_cons, List.length_nil]; omega
theorem Rds.frac {w : World} {A : Option Addr} {n : Nat} {xs : List (Int × Int)} (R : Rds w A n 2 FrC xs) {k : Nat} (hk : k < n) :
    ∃ ad x, A = some ad ∧ xs[k]? = some x ∧ w.cell? (ad.add (k * 2)) = some (.int .i64 x.1) ∧ w.cell? ⟨(ad.add (k * 2)).block, (ad.add (k * 2)).off + 1, none⟩ = some (.int .i64 x.2) := by
  obtain ⟨ad, h1, h2⟩ := R.2.2 (by omega)
  have hx : xs[k]? = some (xs[k]'(by rw [R.1]; exact hk)) := List.getElem?_eq_getElem _
  refine ⟨ad, _, h1, hx, h2 k _ hx 0 _ rfl, ?_⟩
  have h := h2 k _ hx 1 _ rfl
  rw [← Addr.add_add] at h
  exact h
theorem own_rdsF {w : World} {base n c : Nat} {E : TypeId} {A : Option Addr} {xs : List (Int × Int)} (O : w.ownsRow base E 2 (.slice A n c) n (xs.flatMap FrC)) (hn : n ≤ 1048576) : Rds w A n 2 FrC xs :=
  own_rds O (fun x _ => rfl) (by omega) (by omega)
def fmarks (k0 : Int) : Nat → List (Int × Int)
  | 0 => []
  | j + 1 => fmarks k0 j ++ [(k0 + 2 * (j : Int), k0 + 2 * (j : Int) + 1)]
theorem fmarks_len (k0 : Int) : ∀ j, (fmarks k0 j).length = j
  | 0 => rfl
  | j + 1 => by simp [fmarks, fmarks_len k0 j]
theorem fmarks_get (k0 : Int) {n j : Nat} (h : j < n) : (fmarks k0 n)[j]? = some (k0 + 2 * (j : Int), k0 + 2 * (j : Int) + 1) := by
  induction n with
  | zero => omega
  | succ n ih =>
    simp only [fmarks]
    by_cases hj : j < n
    · rw [List.getElem?_append_left (by rw [fmarks_len]; exact hj)]; exact ih hj
    · obtain rfl : j = n := by omega
      rw [List.getElem?_append_right (by rw [fmarks_len]; exact Nat.le_refl _), fmarks_len, Nat.sub_self]
      rfl
end Go.Proofs.YtbkhlcbnnjgdpaaGreatDoor
