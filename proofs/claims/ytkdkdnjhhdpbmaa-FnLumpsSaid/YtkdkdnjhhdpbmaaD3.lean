/- Contracts: the spread of a web, on both sides. -/
import Derived.Test.YtkdkdnjhhdpbmaaC3
namespace Go.Proofs.Ytkdkdnjhhdpbmaa
open Go.RowKit
set_option linter.unusedVariables false
set_option linter.unusedSimpArgs false
def maxTo (xs : List Int) : Nat → Int
  | 0 => gd xs 0
  | k + 1 => max (maxTo xs k) (gd xs (k + 1))
def minTo (xs : List Int) : Nat → Int
  | 0 => gd xs 0
  | k + 1 => min (minTo xs k) (gd xs (k + 1))
def maxL (xs : List Int) : Int := maxTo xs (xs.length - 1)
def minL (xs : List Int) : Int := minTo xs (xs.length - 1)
def spreadL (xs : List Int) : Int := maxL xs - minL xs
theorem maxTo_bd {xs : List Int} (hS : Small xs) (k : Nat) : 0 ≤ maxTo xs k ∧ maxTo xs k ≤ 20000 := by
  induction k with
  | zero => exact gd_small hS 0
  | succ k ih => have := gd_small hS (k + 1); simp only [maxTo]; omega
theorem minTo_bd {xs : List Int} (hS : Small xs) (k : Nat) : 0 ≤ minTo xs k ∧ minTo xs k ≤ 20000 := by
  induction k with
  | zero => exact gd_small hS 0
  | succ k ih => have := gd_small hS (k + 1); simp only [minTo]; omega
def spreadV (xs : List Int) : Int := if webOk xs then spreadL xs else 0
theorem max_i64 (A : Option Addr) (n c : Nat) (xs : List Int) (w : World) (R : Rds w A n 1 (fun x : Int => [.int .i64 x]) xs) (h0 : 0 < n) (hn : n ≤ 1000) :
    Calls Try.prog 40 #[.slice A n c] w fun e w' => e = .returned (.int .i64 (maxL xs)) ∧ w = w' := by
  have HXL := Lib.hid R.1
  obtain ⟨ad, x0, rfl, hx0, hc0⟩ := R.at1 h0
  have HX0 := Lib.hid (gd_of hx0); clear hx0
  have hc00 : w.cell? ad = some (.int .i64 x0) := by simpa [Addr.add] using hc0
  go_enter Try.func40, Try.ntmps40
  go_wp2_with fail
  go_loop [3, 4] (fun m v => ∃ k : Nat, k + 1 ≤ n ∧ v = .int .i64 ((k : Int) + 1) ∧ m = .int .i64 (maxTo xs k)) (fun _ v => n - (intOf v).toNat)
  case atStart => exact ⟨0, by omega, rfl, by rw [maxTo, HX0.out]⟩
  case round =>
    obtain ⟨k, hk, rfl, rfl⟩ := hrel
    by_cases hlt : k + 1 < n
    · obtain ⟨ad', x, h', hx, hc⟩ := R.at1 hlt
      cases h'
      have HX := Lib.hid (gd_of hx); clear hx
      have hc2 : w.cell? ⟨ad.block, ad.off + (k + 1), none⟩ = some (.int .i64 x) := by simpa [Addr.add] using hc
      go_wp2_with fail
      go_round
      case rel => exact ⟨k + 1, by omega, by go_num, by rw [maxTo, HX.out]; congr 1; omega⟩
      case measure => simp [intOf]; omega
    · go_wp2_with fail
      go_ret
      have hk2 : k = xs.length - 1 := by rw [HXL.out]; omega
      exact ⟨by rw [maxL, ← hk2]; rfl, rfl⟩
end Go.Proofs.Ytkdkdnjhhdpbmaa
