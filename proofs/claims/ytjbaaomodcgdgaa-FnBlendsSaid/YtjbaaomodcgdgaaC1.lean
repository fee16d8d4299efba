/- Contracts: lists of whole numbers: made anew, compared, marked, held, summed up. -/
import Derived.Test.YtjbaaomodcgdgaaProg
import Derived.Test.YtjbaaomodcgdgaaK
import Derived.BigQuiet
import Derived.Deep.QuietTactic
namespace Go.Proofs.Ytjbaaomodcgdgaa
open Go.RowKit
set_option linter.unusedVariables false
set_option linter.unusedSimpArgs false

def sumTo (xs : List Int) (k : Nat) : Int := (xs.take k).sum
theorem sumTo_step {xs : List Int} {k : Nat} {x : Int} (h : xs[k]? = some x) : sumTo xs (k + 1) = sumTo xs k + x := by
  unfold sumTo
  rw [List.take_add_one, h, List.sum_append]
  simp
theorem sumTo_bound {xs : List Int} {M : Int} (hM : 0 ≤ M) (h : ∀ x ∈ xs, 0 ≤ x ∧ x ≤ M) (k : Nat) : 0 ≤ sumTo xs k ∧ sumTo xs k ≤ k * M := by
  induction k with
  | zero => simp [sumTo]
  | succ k ih =>
    cases hx : xs[k]? with
    | none =>
      have : sumTo xs (k + 1) = sumTo xs k := by unfold sumTo; rw [List.take_add_one, hx]; simp
      rw [this]
      refine ⟨ih.1, Int.le_trans ih.2 ?_⟩
      exact Int.mul_le_mul_of_nonneg_right (by omega) hM
    | some x =>
      rw [sumTo_step hx]
      have := h x (List.mem_of_getElem? hx)
      have h2 : ((k + 1 : Nat) : Int) * M = k * M + M := by rw [Int.natCast_succ, Int.add_mul, Int.one_mul]
      omega
theorem sumTo_all (xs : List Int) : sumTo xs xs.length = xs.sum := by simp [sumTo]
abbrev IC (x : Int) : List Value := [.int .i64 x]
def SumB (xs : List Int) (n : Nat) : Prop := xs.length = n ∧ ∀ k, k ≤ n → -1000000000000000 ≤ sumTo xs k ∧ sumTo xs k ≤ 1000000000000000
theorem ret_int {k : IntKind} {a b : Int} (h : a = b) : Ending.returned (.int k a) = .returned (.int k b) := by rw [h]

theorem sumAll_any (A : Option Addr) (n c : Nat) (xs : List Int) (w : World) (R : Rds w A n 1 (fun x : Int => [.int .i64 x]) xs) (HB : SumB xs n) :
    Calls Try.prog 54 #[.slice A n c] w fun e w' => e = .returned (.int .i64 xs.sum) ∧ w = w' := by
  have hn := R.2.1
  go_enter Try.func54, Try.ntmps54
  go_wp2_with fail
  go_loop [3, 8] (fun s v => ∃ k : Nat, k ≤ n ∧ v = .int .i64 k ∧ s = .int .i64 (sumTo xs k)) (fun _ v => n - (intOf v).toNat)
  case atStart => exact ⟨0, by omega, rfl, by simp [sumTo]⟩
  case round =>
    obtain ⟨j, hj, rfl, rfl⟩ := hrel
    have hs := HB.2 j hj
    by_cases hlt : j < n
    · obtain ⟨ad, x, rfl, hx, hc⟩ := R.at1 hlt
      have hs1 := HB.2 (j + 1) hlt
      rw [sumTo_step hx] at hs1
      have HX := Lib.hid hx; clear hx
      go_wp2_with fail
      go_round
      case rel => exact ⟨j + 1, by omega, by go_num, by rw [sumTo_step HX.out]⟩
      case measure => simp [intOf]; omega
    · go_wp2_with fail
      go_ret
      have hjn : j = xs.length := by rw [HB.1]; omega
      exact ⟨by rw [← sumTo_all, ← hjn]; rfl, rfl⟩
end Go.Proofs.Ytjbaaomodcgdgaa
