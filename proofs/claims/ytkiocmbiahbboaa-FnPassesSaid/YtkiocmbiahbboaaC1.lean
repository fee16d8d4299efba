/- Contracts: lists of whole numbers: made anew, compared, marked, held, summed up. -/
import Derived.Test.YtkiocmbiahbboaaProg
import Derived.Test.YtkiocmbiahbboaaK
import Derived.BigQuiet
import Derived.Deep.QuietTactic
namespace Go.Proofs.Ytkiocmbiahbboaa
open Go.RowKit
set_option linter.unusedVariables false
set_option linter.unusedSimpArgs false

def sumTo (xs : List Int) (k : Nat) : Int := (xs.take k).sum
theorem sumTo_step {xs : List Int} {k : Nat} {x : Int} (h : xs[k]? = some x) : sumTo xs (k + 1) = sumTo xs k + x := by
  unfold sumTo
  rw [List.take_add_one, h, List.sum_append]
  simp
theorem sumTo_bound {xs : List Int} {M : Int} (hM : 0 ≤ M) (h : ∀ x ∈ xs, 0 ≤ x ∧ x ≤ M) (k : Nat) : 0 ≤ sumTo xs k ∧ sumTo xs k ≤ k * M := by
  induction k with
  | zero => simp [sumTo]
  | succ k ih =>
    cases hx : xs[k]? with
    | none =>
      have : sumTo xs (k + 1) = sumTo xs k := by unfold sumTo; rw [List.take_add_one, hx]; simp
      rw [this]
      refine ⟨ih.1, Int.le_trans ih.2 ?_⟩
      exact Int.mul_le_mul_of_nonneg_right (by omega) hM
    | some x =>
      rw [sumTo_step hx]
      have := h x (List.mem_of_getElem? hx)
      have h2 : ((k + 1 : Nat) : Int) * M = k * M + M := by rw [Int.natCast_succ, Int.add_mul, Int.one_mul]
      omega
theorem sumTo_all (xs : List Int) : sumTo xs xs.length = xs.sum := by simp [sumTo]
abbrev IC (x : Int) : List Value := [.int .i64 x]
def SumB (xs : List Int) (n : Nat) : Prop := xs.length = n ∧ ∀ k, k ≤ n → -1000000000000000 ≤ sumTo xs k ∧ sumTo xs k ≤ 1000000000000000
theorem ret_int {k : IntKind} {a b : Int} (h : a = b) : Ending.returned (.int k a) = .returned (.int k b) := by rw [h]

theorem eqInt64S_true (A A' : Option Addr) (n c c' : Nat) (xs : List Int) (w : World) (R : Rds w A n 1 (fun x : Int => [.int .i64 x]) xs) (R' : Rds w A' n 1 (fun x : Int => [.int .i64 x]) xs) :
    Calls Try.prog 9 #[.slice A n c, .slice A' n c'] w fun e w' => e = .returned (.bool true) ∧ Below w.heap.size w w' := by
  have hn := R.2.1
  go_enter Try.func9, Try.ntmps9
  go_wp2_with fail
  go_loopw [5] (fun v wr => ∃ k : Nat, k ≤ n ∧ v = .int .i64 k ∧ Below w.heap.size w wr) (fun v _ => n - (intOf v).toNat)
  case atStart => exact ⟨0, by omega, rfl, Below.refl _ _⟩
  case round =>
    obtain ⟨j, hj, rfl, hB⟩ := hrel
    by_cases hlt : j < n
    · obtain ⟨ad, x, rfl, hx, hc⟩ := (R.below hB).at1 hlt
      obtain ⟨ad', x', rfl, hx', hc'⟩ := (R'.below hB).at1 hlt
      rw [hx] at hx'; cases hx'
      clear hx
      go_wp2_with fail
      go_quiet (fail)
      go_wp2_with fail
      go_roundw
      case rel => exact ⟨j + 1, by omega, by go_num, Joins.below_draws _ _ _ |> hB.trans⟩
      case measure => simp [intOf]; omega
    · go_wp2_with fail
      go_ret
      exact ⟨rfl, hB⟩
theorem filled_set {xs : List Int} {j : Nat} {x : Int} (hx : xs[j]? = some x) : (nums .i64 (xs.take j ++ List.replicate (xs.length - j) 0)).set j (.int .i64 x) = nums .i64 (xs.take (j + 1) ++ List.replicate (xs.length - (j + 1)) 0) := by
  have hj : j < xs.length := (List.getElem?_eq_some_iff.1 hx).1
  rw [List.take_add_one, hx, show xs.length - j = xs.length - (j + 1) + 1 by omega, List.replicate_succ]
  simp only [nums, List.map_append, List.map_cons]
  rw [set_app _ _ _ _ _ (by simp; omega)]
  simp
theorem toInt64S_any (A : Option Addr) (n c : Nat) (xs : List Int) (w : World) (R : Rds w A n 1 (fun x : Int => [.int .i64 x]) xs) (hn : n ≤ 1048576) :
    Calls Try.prog 7 #[.slice A n c] w (RetOwn 2 1 n (nums .i64 xs) w) := by
  have hxl := R.1
  have HXL := Lib.hid hxl
  have hmk := run_make_n (P := Try.prog) 22 2 (z := .int .i64 0) (sz := 1) (by_ := 8) Try.underlying22 (by kernel_rfl) n (by omega) (by omega)
  rw [Nat.mul_one, madeCells_int] at hmk
  have h0 : Row (w.alloc (.cells (nums .i64 (List.replicate n 0)).toArray 2)) w.heap.size 2 (nums .i64 (xs.take 0 ++ List.replicate (xs.length - 0) 0)) := by
    rw [Nat.sub_zero, hxl]; exact Row.alloc w _ _
  have hb0 := below_alloc1 w (.cells (nums .i64 (List.replicate n 0)).toArray 2)
  have H0 := Lib.hid h0; clear h0 hxl
  go_enter Try.func7, Try.ntmps7
  go_wp2_with fail
  go_loopw [4] (fun v wr => ∃ k : Nat, k ≤ n ∧ v = .int .i64 k ∧ Row wr w.heap.size 2 (nums .i64 (xs.take k ++ List.replicate (xs.length - k) 0)) ∧ Below w.heap.size w wr) (fun v _ => n - (intOf v).toNat)
  case atStart => exact ⟨0, by omega, rfl, H0.out, hb0⟩
  case round =>
    obtain ⟨j, hj, rfl, hr, hB⟩ := hrel
    clear hmk
    by_cases hlt : j < n
    · obtain ⟨ad, x, rfl, hx, hc⟩ := (R.below hB).at1 hlt
      have hset := hr.set j (.int .i64 x)
      rw [filled_set hx] at hset
      obtain ⟨u, hc2⟩ : ∃ u, wr.cell? ⟨w.heap.size, j, none⟩ = some u := by
        rw [hr.cell]
        exact ⟨_, List.getElem?_eq_getElem (by rw [nums_length, List.length_append, List.length_take, List.length_replicate, HXL.out]; omega)⟩
      have hf := hr.frozen j
      clear hx
      have hB' : Below w.heap.size w (wr.setCell ⟨w.heap.size, j, none⟩ (.int .i64 x)) := hB.setCell (Nat.le_refl _) _
      go_wp2_with fail
      go_roundw
      case rel => exact ⟨j + 1, by omega, by go_num, hset, hB'⟩
      case measure => simp [intOf]; omega
    · go_wp2_with fail
      go_ret
      obtain rfl : j = n := by omega
      have e1 : xs.take j ++ List.replicate (xs.length - j) 0 = xs := by rw [HXL.out, Nat.sub_self, List.replicate_zero, List.append_nil, List.take_of_length_le (by rw [HXL.out]; exact Nat.le_refl _)]
      rw [e1] at hr
      exact ⟨_, _, rfl, hr.own (Nat.le_refl _) (by unfold maxLen; omega) (by rw [nums_length, HXL.out, Nat.mul_one]), hB⟩
end Go.Proofs.Ytkiocmbiahbboaa
