/- Contracts: drawing out. -/
import Derived.Test.YtefipngapgffdaaGreatDoorC3
namespace Go.Proofs.YtefipngapgffdaaGreatDoor
open Go.RowKit
set_option linter.unusedVariables false
set_option linter.unusedSimpArgs false
def two (x : Int) : List Int := [(x + 1) / 2, x / 2]
def outL (xs : List Int) : List Int := xs.flatMap two
def outTo (xs : List Int) (k : Nat) : List Int := outL (xs.take k)
theorem outTo_succ {xs : List Int} {k : Nat} {x : Int} (h : xs[k]? = some x) : outTo xs (k + 1) = outTo xs k ++ [(x + 1) / 2, x / 2] := by
  unfold outTo outL
  rw [List.take_add_one, h, List.flatMap_append]
  simp [two]
theorem outL_length (xs : List Int) : (outL xs).length = 2 * xs.length := by
  induction xs with
  | nil => rfl
  | cons x xs ih => simp only [outL, List.flatMap_cons, List.length_append, List.length_cons] at *; rw [ih]; simp [two]; omega
theorem nums_two (xs : List Int) (x y : Int) : nums .i64 (xs ++ [x, y]) = nums .i64 xs ++ [.int .i64 x, .int .i64 y] := by simp [nums]
theorem two_mul_succ (j : Nat) : 2 * j + 2 = 2 * (j + 1) := by omega
theorem drawn_any (A : Option Addr) (n c : Nat) (xs : List Int) (w : World) (R : Rds w A n 1 (fun x : Int => [.int .i64 x]) xs) (hS : Small xs) (hn : n ≤ 1000) :
    Calls Tryz.prog 58 #[.slice A n c] w (RetOwn 2 1 (2 * n) (nums .i64 (outL xs)) w) := by
  have HXL := Lib.hid R.1
  go_enter Tryz.func58, Tryz.ntmps58
  go_wp2_with fail
  go_loopw [3, 8] (fun s v wr => ∃ (k : Nat) (A' : Option Addr) (c' : Nat), k ≤ n ∧ v = .int .i64 k ∧ s = .slice A' (2 * k) c' ∧ wr.ownsRow w.heap.size 2 1 (.slice A' (2 * k) c') (2 * k) (nums .i64 (outTo xs k)) ∧ Below w.heap.size w wr) (fun _ v _ => n - (intOf v).toNat)
  case atStart => exact ⟨0, none, 0, by omega, rfl, rfl, by simpa [outTo, outL, nums] using own_nil w w.heap.size 2 1, Below.refl _ _⟩
  case round =>
    obtain ⟨j, A', c', hj, rfl, rfl, O, hB⟩ := hrel
    by_cases hlt : j < n
    · obtain ⟨ad, x, rfl, hx, hc⟩ := (R.below hB).at1 hlt
      have hx0 := hS.at hx
      have HV := Lib.hid (outTo_succ hx)
      clear hx
      go_wp2_with ((at_builtin; refine app_any (w0 := w) w.heap.size (by rfl) _ _ 24 2 (.int .i64 0) 1 8 (by rfl) Tryz.underlying24 info_i64 rfl (by omega) (by omega) _ (by rfl) 2 2 [.int .i64 ((x + 1) / 2), .int .i64 (x / 2)] (by rfl) (by rfl) (by simp [Value.oneCell']) O hB hB.size (by omega) ?_; intro A2 c2 w2 O2 HBn hg2))
      rw [← nums_two, ← HV.out, two_mul_succ] at O2
      go_roundw
      case rel => exact ⟨j + 1, A2, c2, by omega, by go_num, by rw [two_mul_succ], O2, HBn⟩
      case measure => simp [intOf]; omega
    · go_wp2_with fail
      go_ret
      obtain rfl : j = n := by omega
      refine ⟨A', c', rfl, ?_, hB⟩
      have e1 : outTo xs j = outL xs := by rw [outTo, List.take_of_length_le (by rw [HXL.out]; exact Nat.le_refl _)]
      rw [← e1]
      exact O
theorem l02Out_any (A : Option Addr) (n c : Nat) (xs : List Int) (w : World) (R : Rds w A n 1 (fun x : Int => [.int .i64 x]) xs) (hS : Small xs) (hn : n ≤ 1000) :
    Calls Tryz.prog 75 #[.slice A n c] w (RetOwn 2 1 (2 * n) (nums .i64 (outL xs)) w) := by
  have HXL := Lib.hid R.1
  go_enter Tryz.func75, Tryz.ntmps75
  go_wp2_with fail
  go_loopw [3, 4] (fun s v wr => ∃ (k : Nat) (A' : Option Addr) (c' : Nat), k ≤ n ∧ v = .int .i64 k ∧ s = .slice A' (2 * k) c' ∧ wr.ownsRow w.heap.size 2 1 (.slice A' (2 * k) c') (2 * k) (nums .i64 (outTo xs k)) ∧ Below w.heap.size w wr) (fun _ v _ => n - (intOf v).toNat)
  case atStart => exact ⟨0, _, _, by omega, rfl, rfl, by simpa [outTo, outL, nums] using own_empty w 2 1, by go_grown⟩
  case round =>
    obtain ⟨j, A', c', hj, rfl, rfl, O, hB⟩ := hrel
    by_cases hlt : j < n
    · obtain ⟨ad, x, rfl, hx, hc⟩ := (R.below hB).at1 hlt
      have hx0 := hS.at hx
      have HV := Lib.hid (outTo_succ hx)
      have hc1 := Lib.hid (fun (w2 : World) (hb : Below w.heap.size w w2) => (R.below hb).cellOf hx)
      clear hx
      go_wp2_with fail
      have v0 : IntKind.i64.wrap (x + 1) = x + 1 := IntWalk.i64_in _ (by omega)
      have v1 : (x + 1).tdiv 2 = (x + 1) / 2 := Int.tdiv_eq_ediv_of_nonneg (by omega)
      have v2 : IntKind.i64.wrap ((x + 1) / 2) = (x + 1) / 2 := IntWalk.i64_in _ (by omega)
      have v3 : x.tdiv 2 = x / 2 := Int.tdiv_eq_ediv_of_nonneg (by omega)
      have v4 : IntKind.i64.wrap (x / 2) = x / 2 := IntWalk.i64_in _ (by omega)
      go_region_held3 (fun w' => w'.cell? (ad.add j) = some (.int .i64 x))
        (first
          | go_keep
          | exact hc1.out _ HBn)
        ((refine step_app (w0 := w) (W := wr) w.heap.size (by rfl) _ _ 24 2 (.int .i64 0) 1 8 (by rfl) Tryz.underlying24 info_i64 rfl (by omega) (by omega) _ (by rfl) 2 2 [.int .i64 ((x + 1) / 2), .int .i64 (x / 2)] (by rfl) (by rfl) (by simp [Value.oneCell']) ⟨(Below.refl _ _).drew, by simp⟩ O hB hB.size (by omega) (by clear v0 v1 v2 v3 v4; omega) ?_; intro A2 c2 w2 O2 HBn))
      clear v0 v1 v2 v3 v4
      rw [← nums_two, ← HV.out, two_mul_succ] at O2
      go_wp2_with fail
      go_roundw
      case rel => exact ⟨j + 1, A2, c2, by omega, by go_num, by rw [two_mul_succ], O2, HBn⟩
      case measure => simp [intOf]; omega
    · go_wp2_with fail
      go_ret
      obtain rfl : j = n := by omega
      refine ⟨A', c', rfl, ?_, hB⟩
      have e1 : outTo xs j = outL xs := by rw [outTo, List.take_of_length_le (by rw [HXL.out]; exact Nat.le_refl _)]
      rw [← e1]
      exact O
end Go.Proofs.YtefipngapgffdaaGreatDoor
