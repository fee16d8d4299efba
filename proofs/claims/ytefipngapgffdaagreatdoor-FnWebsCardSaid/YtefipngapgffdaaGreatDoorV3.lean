/- Contracts: a2Long, a2At, A2Same, A2Has. -/
import Derived.Test.YtefipngapgffdaaGreatDoorV2
namespace Go.Proofs.YtefipngapgffdaaGreatDoor
open Go.RowKit
set_option linter.unusedVariables false
set_option linter.unusedSimpArgs false
theorem a2Long_any (A B : Option Addr) (n c m d : Nat) (w : World) (hn : n ≤ 140737488351232) (hm : m ≤ 140737488351232) :
    Calls Tryz.prog 4 #[.slice A n c, .slice B m d] w fun e w' => e = .returned (.bool (decide (3000 < n ∨ 3000 < m))) ∧ w = w' := by
  by_cases h1 : (3000 : Int) < n
  · go_enter Tryz.func4, Tryz.ntmps4
    go_wp2_with fail
    go_ret
    exact ⟨ret_bool (by simp; omega), rfl⟩
  · by_cases h2 : (3000 : Int) < m
    · go_enter Tryz.func4, Tryz.ntmps4
      go_wp2_with fail
      go_ret
      exact ⟨ret_bool (by simp; omega), rfl⟩
    · go_enter Tryz.func4, Tryz.ntmps4
      go_wp2_with fail
      go_ret
      exact ⟨ret_bool (by simp; omega), rfl⟩
theorem a2At_any (A : Option Addr) (n c : Nat) (xs : List Int) (at_ : Nat) (m : Int) (w : World) (R : Rds w A n 1 (fun x : Int => [.int .u8 x]) xs) (hx : ∀ x ∈ xs, (Lit.int .u8 x).wf = true) (hm : 1 ≤ m) (hm2 : m ≤ 1000000) (hat : at_ ≤ 1000000) :
    Calls Tryz.prog 7 #[.slice A n c, .int .i64 at_, .int .i64 m] w fun e w' => ∃ x : Int, e = .returned (.int .i64 x) ∧ 0 ≤ x ∧ x < m ∧ w = w' := by
  have hn := R.2.1
  by_cases h1 : at_ < n
  · obtain ⟨ad, x, rfl, hx1, e0⟩ := R.at1 h1
    have hb := u8_rng (hx x (List.mem_of_getElem? hx1))
    have hm0 : ¬ m = 0 := by omega
    have v3 := Int.emod_nonneg x hm0
    have v4 := Int.emod_lt_of_pos x (show 0 < m by omega)
    clear hx1
    have h2 : ¬ (n : Int) ≤ at_ := by omega
    have h3 : ¬ m < 1 := by omega
    go_enter Tryz.func7, Tryz.ntmps7
    go_wp2_with fail
    go_ret
    exact ⟨x % m, by rfl, v3, v4, rfl⟩
  · have h2 : (n : Int) ≤ at_ := by omega
    go_enter Tryz.func7, Tryz.ntmps7
    go_wp2_with fail
    go_ret
    exact ⟨0, rfl, by omega, by omega, rfl⟩
theorem l00Same_true (A A' : Option Addr) (n c c' : Nat) (xs : List Int) (w : World) (R : Rds w A n 1 (fun x : Int => [.int .i64 x]) xs) (R' : Rds w A' n 1 (fun x : Int => [.int .i64 x]) xs) :
    Calls Tryz.prog 49 #[.slice A n c, .slice A' n c'] w fun e w' => e = .returned (.bool true) ∧ Below w.heap.size w w' := by
  have hn := R.2.1
  go_enter Tryz.func49, Tryz.ntmps49
  go_wp2_with fail
  go_loopw [5] (fun v wr => ∃ k : Nat, k ≤ n ∧ v = .int .i64 k ∧ Below w.heap.size w wr) (fun v _ => n - (intOf v).toNat)
  case atStart => exact ⟨0, by omega, rfl, Below.refl _ _⟩
  case round =>
    obtain ⟨j, hj, rfl, hB⟩ := hrel
    by_cases hlt : j < n
    · obtain ⟨ad, x, rfl, hx, e0⟩ := (R.below hB).at1 hlt
      obtain ⟨ad_, y, rfl, hy, d0⟩ := (R'.below hB).at1 hlt
      rw [hx] at hy; cases hy
      clear hx
      go_wp2_with fail
      go_region
      all_goals go_wp2_with fail
      all_goals go_roundw
      case rel => exact ⟨j + 1, by omega, by go_num, hB.drew⟩
      case measure => simp [intOf]; omega
    · go_wp2_with fail
      go_ret
      exact ⟨rfl, hB⟩
theorem a2Same_true (A A' : Option Addr) (n c c' : Nat) (xs : List Int) (w : World) (R : Rds w A n 1 (fun x : Int => [.int .i64 x]) xs) (R' : Rds w A' n 1 (fun x : Int => [.int .i64 x]) xs) :
    Calls Tryz.prog 18 #[.slice A n c, .slice A' n c'] w fun e w' => e = .returned (.bool true) ∧ Below w.heap.size w w' := by
  go_enter Tryz.func18, Tryz.ntmps18
  go_wp2_with fail
  refine (l00Same_true A A' n c c' xs w R R').mono ?_
  rintro e w1 ⟨rfl, hb⟩
  go_wp2_with fail
  go_ret
  exact ⟨rfl, hb⟩
end Go.Proofs.YtefipngapgffdaaGreatDoor
