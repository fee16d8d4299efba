/- Contracts: the spread of a web, on both sides. -/
import Derived.Test.YtefipngapgffdaaGreatDoorC3
namespace Go.Proofs.YtefipngapgffdaaGreatDoor
open Go.RowKit
set_option linter.unusedVariables false
set_option linter.unusedSimpArgs false
def maxTo (xs : List Int) : Nat → Int
  | 0 => gd xs 0
  | k + 1 => max (maxTo xs k) (gd xs (k + 1))
def minTo (xs : List Int) : Nat → Int
  | 0 => gd xs 0
  | k + 1 => min (minTo xs k) (gd xs (k + 1))
def maxL (xs : List Int) : Int := maxTo xs (xs.length - 1)
def minL (xs : List Int) : Int := minTo xs (xs.length - 1)
def spreadL (xs : List Int) : Int := maxL xs - minL xs
theorem maxTo_bd {xs : List Int} (hS : Small xs) (k : Nat) : 0 ≤ maxTo xs k ∧ maxTo xs k ≤ 20000 := by
  induction k with
  | zero => exact gd_small hS 0
  | succ k ih => have := gd_small hS (k + 1); simp only [maxTo]; omega
theorem minTo_bd {xs : List Int} (hS : Small xs) (k : Nat) : 0 ≤ minTo xs k ∧ minTo xs k ≤ 20000 := by
  induction k with
  | zero => exact gd_small hS 0
  | succ k ih => have := gd_small hS (k + 1); simp only [minTo]; omega
def spreadV (xs : List Int) : Int := if webOk xs then spreadL xs else 0
theorem max_i64 (A : Option Addr) (n c : Nat) (xs : List Int) (w : World) (R : Rds w A n 1 (fun x : Int => [.int .i64 x]) xs) (h0 : 0 < n) (hn : n ≤ 1000) :
    Calls Tryz.prog 77 #[.slice A n c] w fun e w' => e = .returned (.int .i64 (maxL xs)) ∧ w = w' := by
  have HXL := Lib.hid R.1
  obtain ⟨ad, x0, rfl, hx0, hc0⟩ := R.at1 h0
  have HX0 := Lib.hid (gd_of hx0); clear hx0
  have hc00 : w.cell? ad = some (.int .i64 x0) := by simpa [Addr.add] using hc0
  go_enter Tryz.func77, Tryz.ntmps77
  go_wp2_with fail
  go_loop [3, 4] (fun m v => ∃ k : Nat, k + 1 ≤ n ∧ v = .int .i64 ((k : Int) + 1) ∧ m = .int .i64 (maxTo xs k)) (fun _ v => n - (intOf v).toNat)
  case atStart => exact ⟨0, by omega, rfl, by rw [maxTo, HX0.out]⟩
  case round =>
    obtain ⟨k, hk, rfl, rfl⟩ := hrel
    by_cases hlt : k + 1 < n
    · obtain ⟨ad', x, h', hx, hc⟩ := R.at1 hlt
      cases h'
      have HX := Lib.hid (gd_of hx); clear hx
      have hc2 : w.cell? ⟨ad.block, ad.off + (k + 1), none⟩ = some (.int .i64 x) := by simpa [Addr.add] using hc
      go_wp2_with fail
      go_round
      case rel => exact ⟨k + 1, by omega, by go_num, by rw [maxTo, HX.out]; congr 1; omega⟩
      case measure => simp [intOf]; omega
    · go_wp2_with fail
      go_ret
      have hk2 : k = xs.length - 1 := by rw [HXL.out]; omega
      exact ⟨by rw [maxL, ← hk2]; rfl, rfl⟩
theorem min_i64 (A : Option Addr) (n c : Nat) (xs : List Int) (w : World) (R : Rds w A n 1 (fun x : Int => [.int .i64 x]) xs) (h0 : 0 < n) (hn : n ≤ 1000) :
    Calls Tryz.prog 78 #[.slice A n c] w fun e w' => e = .returned (.int .i64 (minL xs)) ∧ w = w' := by
  have HXL := Lib.hid R.1
  obtain ⟨ad, x0, rfl, hx0, hc0⟩ := R.at1 h0
  have HX0 := Lib.hid (gd_of hx0); clear hx0
  have hc00 : w.cell? ad = some (.int .i64 x0) := by simpa [Addr.add] using hc0
  go_enter Tryz.func78, Tryz.ntmps78
  go_wp2_with fail
  go_loop [3, 4] (fun m v => ∃ k : Nat, k + 1 ≤ n ∧ v = .int .i64 ((k : Int) + 1) ∧ m = .int .i64 (minTo xs k)) (fun _ v => n - (intOf v).toNat)
  case atStart => exact ⟨0, by omega, rfl, by rw [minTo, HX0.out]⟩
  case round =>
    obtain ⟨k, hk, rfl, rfl⟩ := hrel
    by_cases hlt : k + 1 < n
    · obtain ⟨ad', x, h', hx, hc⟩ := R.at1 hlt
      cases h'
      have HX := Lib.hid (gd_of hx); clear hx
      have hc2 : w.cell? ⟨ad.block, ad.off + (k + 1), none⟩ = some (.int .i64 x) := by simpa [Addr.add] using hc
      go_wp2_with fail
      go_round
      case rel => exact ⟨k + 1, by omega, by go_num, by rw [minTo, HX.out]; congr 1; omega⟩
      case measure => simp [intOf]; omega
    · go_wp2_with fail
      go_ret
      have hk2 : k = xs.length - 1 := by rw [HXL.out]; omega
      exact ⟨by rw [minL, ← hk2]; rfl, rfl⟩
theorem spreadOf_any (A : Option Addr) (n c : Nat) (xs : List Int) (w : World) (R : Rds w A n 1 (fun x : Int => [.int .i64 x]) xs) (hS : Small xs) (h0 : 0 < n) (hn : n ≤ 1000) :
    Calls Tryz.prog 48 #[.slice A n c] w fun e w' => e = .returned (.int .i64 (spreadL xs)) ∧ w = w' := by
  have q1 := maxTo_bd hS (xs.length - 1)
  have q2 := minTo_bd hS (xs.length - 1)
  change 0 ≤ maxL xs ∧ maxL xs ≤ 20000 at q1
  change 0 ≤ minL xs ∧ minL xs ≤ 20000 at q2
  go_enter Tryz.func48, Tryz.ntmps48
  go_wp2_with (first
    | (go_at_call 77; (refine (max_i64 A n c xs _ R h0 hn).mono ?_); rintro e w' ⟨rfl, rfl⟩)
    | (go_at_call 78; (refine (min_i64 A n c xs _ R h0 hn).mono ?_); rintro e w' ⟨rfl, rfl⟩))
  go_ret
  exact ⟨rfl, rfl⟩
theorem iSpreadOf (A : Option Addr) (n c : Nat) (xs : List Int) (w : World) (R : Rds w A n 1 (fun x : Int => [.int .i64 x]) xs) :
    Calls Tryz.prog 17 #[.slice A n c] w fun e w' => e = .returned (.tuple #[.int .i64 (spreadV xs), .int .i64 (okC xs)]) ∧ Below w.heap.size w w' := by
  have HXL := Lib.hid R.1
  cases h : webOk xs
  · go_enter Tryz.func17, Tryz.ntmps17
    go_wp2_with (go_at_call 19; (refine (validWeb_any A n c xs _ R).mono ?_); rintro e w1 ⟨rfl, hb⟩)
    go_ret2
    exact ⟨by simp [spreadV, okC, h], hb⟩
  · have hbd := webOk_bd h
    rw [HXL.out] at hbd
    obtain ⟨hb1, hb2, _, _⟩ := hbd
    go_enter Tryz.func17, Tryz.ntmps17
    go_wp2_with (first
      | (go_at_call 19; (refine (validWeb_any A n c xs _ R).mono ?_); rintro e w1 ⟨rfl, hb⟩)
      | (go_at_call 48; (refine (spreadOf_any A n c xs _ (R.below (by assumption)) (webOk_small h) (by omega) (by omega)).mono ?_); rintro e w1 ⟨rfl, rfl⟩))
    go_ret2
    exact ⟨by simp [spreadV, okC, h], hb⟩
end Go.Proofs.YtefipngapgffdaaGreatDoor
