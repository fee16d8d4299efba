/- Contracts: spec.l00Same of any two lists of one length. -/
import Derived.Test.YtkiocmbiahbboaaN1
import Derived.Test.YtkiocmbiahbboaaC15
namespace Go.Proofs.Ytkiocmbiahbboaa
open Go.RowKit
set_option linter.unusedVariables false
set_option linter.unusedSimpArgs false
theorem take_step {xs ys : List Int} {k : Nat} {x y : Int} (h : xs.take k = ys.take k) (hx : xs[k]? = some x) (hy : ys[k]? = some y) (e : x = y) : xs.take (k + 1) = ys.take (k + 1) := by
  rw [List.take_add_one, List.take_add_one, h, hx, hy, e]
theorem list_ne {xs ys : List Int} {k : Nat} {x y : Int} (hx : xs[k]? = some x) (hy : ys[k]? = some y) (e : x ≠ y) : (xs == ys) = false := by
  rw [beq_eq_false_iff_ne]
  rintro rfl
  rw [hx] at hy
  exact e (by simpa using hy)
theorem l00Same_any (A A' : Option Addr) (n c c' : Nat) (xs ys : List Int) (w : World) (R : Rds w A n 1 (fun x : Int => [.int .i64 x]) xs) (R' : Rds w A' n 1 (fun x : Int => [.int .i64 x]) ys) :
    Calls Try.prog 40 #[.slice A n c, .slice A' n c'] w fun e w' => e = .returned (.bool (xs == ys)) ∧ Below w.heap.size w w' := by
  have hn := R.2.1
  have HX := Lib.hid R.1
  have HY := Lib.hid R'.1
  go_enter Try.func40, Try.ntmps40
  go_wp2_with fail
  go_loopw [5] (fun v wr => ∃ k : Nat, k ≤ n ∧ v = .int .i64 k ∧ Hid (xs.take k = ys.take k) ∧ Below w.heap.size w wr) (fun v _ => n - (intOf v).toNat)
  case atStart => exact ⟨0, by omega, rfl, Lib.hid rfl, Below.refl _ _⟩
  case round =>
    obtain ⟨j, hj, rfl, HT, hB⟩ := hrel
    by_cases hlt : j < n
    · obtain ⟨ad, x, rfl, hx, e0⟩ := (R.below hB).at1 hlt
      obtain ⟨ad_, y, rfl, hy, d0⟩ := (R'.below hB).at1 hlt
      by_cases hxy : x = y
      · have HN := Lib.hid (take_step HT.out hx hy hxy)
        subst hxy
        clear hx hy
        go_wp2_with fail
        go_region
        all_goals go_wp2_with fail
        all_goals go_roundw
        case rel => exact ⟨j + 1, by omega, by go_num, HN, hB.drew⟩
        case measure => simp [intOf]; omega
      · have HN := Lib.hid (list_ne hx hy hxy)
        clear hx hy
        have hb : (x == y) = false := by simpa using hxy
        have hb2 : (x != y) = true := by simpa using hxy
        go_wp2_with fail
        go_region
        all_goals go_wp2_with fail
        all_goals go_ret
        exact ⟨by rw [HN.out]; rfl, hB.drew⟩
    · have e : (xs == ys) = true := by
        have h1 := HT.out
        rw [List.take_of_length_le (by rw [HX.out]; omega), List.take_of_length_le (by rw [HY.out]; omega)] at h1
        rw [h1]; simp
      have HN := Lib.hid e; clear e
      go_wp2_with fail
      go_ret
      exact ⟨by rw [HN.out]; rfl, hB⟩
end Go.Proofs.Ytkiocmbiahbboaa
