/- Contracts: lists of whole numbers: made anew, compared, marked, held, summed up. -/
import Derived.Test.YtefipngapgffdaaDoorProg
import Derived.Test.YtefipngapgffdaaDoorK
import Derived.BigQuiet
import Derived.Deep.QuietTactic
namespace Go.Proofs.YtefipngapgffdaaDoor
open Go.RowKit
set_option linter.unusedVariables false
set_option linter.unusedSimpArgs false

def sumTo (xs : List Int) (k : Nat) : Int := (xs.take k).sum
theorem sumTo_step {xs : List Int} {k : Nat} {x : Int} (h : xs[k]? = some x) : sumTo xs (k + 1) = sumTo xs k + x := by
  unfold sumTo
  rw [List.take_add_one, h, List.sum_append]
  simp
theorem sumTo_bound {xs : List Int} {M : Int} (hM : 0 ≤ M) (h : ∀ x ∈ xs, 0 ≤ x ∧ x ≤ M) (k : Nat) : 0 ≤ sumTo xs k ∧ sumTo xs k ≤ k * M := by
  induction k with
  | zero => simp [sumTo]
  | succ k ih =>
    cases hx : xs[k]? with
    | none =>
      have : sumTo xs (k + 1) = sumTo xs k := by unfold sumTo; rw [List.take_add_one, hx]; simp
      rw [this]
      refine ⟨ih.1, Int.le_trans ih.2 ?_⟩
      exact Int.mul_le_mul_of_nonneg_right (by omega) hM
    | some x =>
      rw [sumTo_step hx]
      have := h x (List.mem_of_getElem? hx)
      have h2 : ((k + 1 : Nat) : Int) * M = k * M + M := by rw [Int.natCast_succ, Int.add_mul, Int.one_mul]
      omega
theorem sumTo_all (xs : List Int) : sumTo xs xs.length = xs.sum := by simp [sumTo]
abbrev IC (x : Int) : List Value := [.int .i64 x]
def SumB (xs : List Int) (n : Nat) : Prop := xs.length = n ∧ ∀ k, k ≤ n → -1000000000000000 ≤ sumTo xs k ∧ sumTo xs k ≤ 1000000000000000
theorem ret_int {k : IntKind} {a b : Int} (h : a = b) : Ending.returned (.int k a) = .returned (.int k b) := by rw [h]

theorem eqInt64S_true (A A' : Option Addr) (n c c' : Nat) (xs : List Int) (w : World) (R : Rds w A n 1 (fun x : Int => [.int .i64 x]) xs) (R' : Rds w A' n 1 (fun x : Int => [.int .i64 x]) xs) :
    Calls Tryd.prog 8 #[.slice A n c, .slice A' n c'] w fun e w' => e = .returned (.bool true) ∧ Below w.heap.size w w' := by
  have hn := R.2.1
  go_enter Tryd.func8, Tryd.ntmps8
  go_wp2_with fail
  go_loopw [5] (fun v wr => ∃ k : Nat, k ≤ n ∧ v = .int .i64 k ∧ Below w.heap.size w wr) (fun v _ => n - (intOf v).toNat)
  case atStart => exact ⟨0, by omega, rfl, Below.refl _ _⟩
  case round =>
    obtain ⟨j, hj, rfl, hB⟩ := hrel
    by_cases hlt : j < n
    · obtain ⟨ad, x, rfl, hx, hc⟩ := (R.below hB).at1 hlt
      obtain ⟨ad', x', rfl, hx', hc'⟩ := (R'.below hB).at1 hlt
      rw [hx] at hx'; cases hx'
      clear hx
      go_wp2_with fail
      go_quiet (fail)
      go_wp2_with fail
      go_roundw
      case rel => exact ⟨j + 1, by omega, by go_num, Joins.below_draws _ _ _ |> hB.trans⟩
      case measure => simp [intOf]; omega
    · go_wp2_with fail
      go_ret
      exact ⟨rfl, hB⟩
def marks (k0 : Int) (j : Nat) : List Int := (List.range j).map fun i : Nat => k0 + (i : Int)
theorem marks_succ (k0 : Int) (j : Nat) : marks k0 (j + 1) = marks k0 j ++ [k0 + j] := by simp [marks, List.range_succ]
theorem marks_length (k0 : Int) (j : Nat) : (marks k0 j).length = j := by simp [marks]
theorem marks_get {k0 : Int} {n j : Nat} (h : j < n) : (marks k0 n)[j]? = some (k0 + j) := by simp [marks, h]
theorem marked_set {k0 : Int} {j : Nat} {cs : List Value} (h : j < cs.length) : (nums .i64 (marks k0 j) ++ cs.drop j).set j (.int .i64 (k0 + j)) = nums .i64 (marks k0 (j + 1)) ++ cs.drop (j + 1) := by
  rw [List.drop_eq_getElem_cons h, set_app _ _ _ _ _ (by rw [nums_length, marks_length]), marks_succ]
  simp [nums]
theorem markInt64S_any (b E : Nat) (A : Option Addr) (n c : Nat) (xs : List Int) (k0 : Int) (w : World) (O : w.ownsRow b E 1 (.slice A n c) n (nums .i64 xs)) (hn : n ≤ 1048576) (h0 : 0 ≤ k0) (h1 : k0 ≤ 100000000) :
    Calls Tryd.prog 11 #[.slice A n c, .int .i64 k0] w fun e w' => e = .returned (.int .i64 (k0 + n)) ∧ w'.ownsRow b E 1 (.slice A n c) n (nums .i64 (marks k0 n)) ∧ w.grownBy w' (Value.ownBlock (.slice A n c)) := by
  rcases Nat.eq_zero_or_pos n with rfl | hpos
  · go_enter Tryd.func11, Tryd.ntmps11
    go_wp2_with fail
    go_loop [1, 5] (fun kk v => kk = .int .i64 k0 ∧ v = .int .i64 0) (fun _ _ => 0)
    case atStart => exact ⟨rfl, rfl⟩
    case round =>
      obtain ⟨rfl, rfl⟩ := hrel
      go_wp2_with fail
      go_ret
      exact ⟨by simp, by simpa [marks, nums] using (show w.ownsRow b E 1 (.slice A 0 c) 0 [] from by have := O.1; have hx : nums IntKind.i64 xs = [] := List.eq_nil_of_length_eq_zero (by simpa using this); rw [hx] at O; exact O), ⟨rfl, rfl, rfl, Nat.le_refl _, fun _ _ _ => rfl⟩⟩
  · obtain ⟨g, L, rfl, hbg, hrow, hnc, hcm, hlen⟩ := own_row O hpos (by omega)
    have hxl : (nums .i64 xs).length = n := by have := O.1; simpa using this
    generalize hcs : nums .i64 xs ++ L = cs at hrow
    have hcl : cs.length = c := by rw [← hcs, List.length_append]; simpa using hlen
    clear hcs hlen O
    have HXL := Lib.hid hxl; clear hxl
    have HCL := Lib.hid hcl; clear hcl
    go_enter Tryd.func11, Tryd.ntmps11
    go_wp2_with fail
    go_loopw [1, 5] (fun kk v wr => ∃ k : Nat, k ≤ n ∧ v = .int .i64 k ∧ kk = .int .i64 (k0 + k) ∧ Row wr g E (nums .i64 (marks k0 k) ++ cs.drop k) ∧ w.grownBy wr (some g)) (fun _ v _ => n - (intOf v).toNat)
    case atStart => exact ⟨0, by omega, rfl, by go_num, by simpa [marks, nums] using hrow, ⟨rfl, rfl, rfl, Nat.le_refl _, fun _ _ _ => rfl⟩⟩
    case round =>
      obtain ⟨j, hj, rfl, rfl, hr, hg⟩ := hrel
      by_cases hlt : j < n
      · have hset := hr.set j (.int .i64 (k0 + j))
        rw [marked_set (by rw [HCL.out]; omega)] at hset
        obtain ⟨u, hc⟩ : ∃ u, wr.cell? ⟨g, j, none⟩ = some u := by
          rw [hr.cell]
          exact ⟨_, List.getElem?_eq_getElem (by rw [List.length_append, nums_length, marks_length, List.length_drop, HCL.out]; omega)⟩
        have hf := hr.frozen j
        have hg' : w.grownBy (wr.setCell ⟨g, j, none⟩ (.int .i64 (k0 + j))) (some g) := ⟨hg.os, hg.tape, hg.output, by simpa [World.setCell] using hg.size, fun i hi hne => by
          rw [heap_setCell_other _ _ _ _ (by intro e; exact hne (by rw [e]))]; exact hg.block i hi hne⟩
        go_wp2_with fail
        go_roundw
        case rel => exact ⟨j + 1, by omega, by go_num, by go_num, hset, hg'⟩
        case measure => simp [intOf]; omega
      · go_wp2_with fail
        go_ret
        obtain rfl : j = n := by omega
        exact ⟨rfl, own_of_row hr hbg hnc hcm (by simp [nums, marks]) (by rw [nums_length, marks_length, List.length_drop, HCL.out]; omega), by simpa [Value.ownBlock] using hg⟩
theorem heldInt64S_any (A : Option Addr) (n c : Nat) (k0 : Int) (w : World) (R : Rds w A n 1 (fun x : Int => [.int .i64 x]) (marks k0 n)) (hn : n ≤ 1048576) (h0 : 0 ≤ k0) (h1 : k0 ≤ 100000000) :
    Calls Tryd.prog 12 #[.slice A n c, .int .i64 k0] w fun e w' => e = .returned (.int .i64 (k0 + n)) ∧ w = w' := by
  go_enter Tryd.func12, Tryd.ntmps12
  go_wp2_with fail
  go_loop [1, 5] (fun kk v => ∃ k : Nat, k ≤ n ∧ v = .int .i64 k ∧ kk = .int .i64 (k0 + k)) (fun _ v => n - (intOf v).toNat)
  case atStart => exact ⟨0, by omega, rfl, by go_num⟩
  case round =>
    obtain ⟨j, hj, rfl, rfl⟩ := hrel
    by_cases hlt : j < n
    · obtain ⟨ad, x, rfl, hx, hc⟩ := R.at1 hlt
      rw [marks_get hlt] at hx
      cases hx
      go_wp2_with fail
      go_round
      case rel => exact ⟨j + 1, by omega, by go_num, by go_num⟩
      case measure => simp [intOf]; omega
    · go_wp2_with fail
      go_ret
      obtain rfl : j = n := by omega
      exact ⟨rfl, rfl⟩
theorem filled_set {xs : List Int} {j : Nat} {x : Int} (hx : xs[j]? = some x) : (nums .i64 (xs.take j ++ List.replicate (xs.length - j) 0)).set j (.int .i64 x) = nums .i64 (xs.take (j + 1) ++ List.replicate (xs.length - (j + 1)) 0) := by
  have hj : j < xs.length := (List.getElem?_eq_some_iff.1 hx).1
  rw [List.take_add_one, hx, show xs.length - j = xs.length - (j + 1) + 1 by omega, List.replicate_succ]
  simp only [nums, List.map_append, List.map_cons]
  rw [set_app _ _ _ _ _ (by simp; omega)]
  simp
theorem toInt64S_any (A : Option Addr) (n c : Nat) (xs : List Int) (w : World) (R : Rds w A n 1 (fun x : Int => [.int .i64 x]) xs) (hn : n ≤ 1048576) :
    Calls Tryd.prog 6 #[.slice A n c] w (RetOwn 2 1 n (nums .i64 xs) w) := by
  have hxl := R.1
  have HXL := Lib.hid hxl
  have hmk := run_make_n (P := Tryd.prog) 22 2 (z := .int .i64 0) (sz := 1) (by_ := 8) Tryd.underlying22 (by kernel_rfl) n (by omega) (by omega)
  rw [Nat.mul_one, madeCells_int] at hmk
  have h0 : Row (w.alloc (.cells (nums .i64 (List.replicate n 0)).toArray 2)) w.heap.size 2 (nums .i64 (xs.take 0 ++ List.replicate (xs.length - 0) 0)) := by
    rw [Nat.sub_zero, hxl]; exact Row.alloc w _ _
  have hb0 := below_alloc1 w (.cells (nums .i64 (List.replicate n 0)).toArray 2)
  have H0 := Lib.hid h0; clear h0 hxl
  go_enter Tryd.func6, Tryd.ntmps6
  go_wp2_with fail
  go_loopw [4] (fun v wr => ∃ k : Nat, k ≤ n ∧ v = .int .i64 k ∧ Row wr w.heap.size 2 (nums .i64 (xs.take k ++ List.replicate (xs.length - k) 0)) ∧ Below w.heap.size w wr) (fun v _ => n - (intOf v).toNat)
  case atStart => exact ⟨0, by omega, rfl, H0.out, hb0⟩
  case round =>
    obtain ⟨j, hj, rfl, hr, hB⟩ := hrel
    clear hmk
    by_cases hlt : j < n
    · obtain ⟨ad, x, rfl, hx, hc⟩ := (R.below hB).at1 hlt
      have hset := hr.set j (.int .i64 x)
      rw [filled_set hx] at hset
      obtain ⟨u, hc2⟩ : ∃ u, wr.cell? ⟨w.heap.size, j, none⟩ = some u := by
        rw [hr.cell]
        exact ⟨_, List.getElem?_eq_getElem (by rw [nums_length, List.length_append, List.length_take, List.length_replicate, HXL.out]; omega)⟩
      have hf := hr.frozen j
      clear hx
      have hB' : Below w.heap.size w (wr.setCell ⟨w.heap.size, j, none⟩ (.int .i64 x)) := hB.setCell (Nat.le_refl _) _
      go_wp2_with fail
      go_roundw
      case rel => exact ⟨j + 1, by omega, by go_num, hset, hB'⟩
      case measure => simp [intOf]; omega
    · go_wp2_with fail
      go_ret
      obtain rfl : j = n := by omega
      have e1 : xs.take j ++ List.replicate (xs.length - j) 0 = xs := by rw [HXL.out, Nat.sub_self, List.replicate_zero, List.append_nil, List.take_of_length_le (by rw [HXL.out]; exact Nat.le_refl _)]
      rw [e1] at hr
      exact ⟨_, _, rfl, hr.own (Nat.le_refl _) (by unfold maxLen; omega) (by rw [nums_length, HXL.out, Nat.mul_one]), hB⟩
end Go.Proofs.YtefipngapgffdaaDoor
