/- Contracts: sums of heaps; equal heaps; GramsOf. -/
import Derived.Test.YtjbaaomodcgdgaaH1
import Derived.Test.YtjbaaomodcgdgaaC1
namespace Go.Proofs.Ytjbaaomodcgdgaa
open Go.RowKit
set_option linter.unusedVariables false
set_option linter.unusedSimpArgs false
def hS (a0 a1 a2 a3 a4 a5 a6 a7 : Int) : Int := a0 + a1 + a2 + a3 + a4 + a5 + a6 + a7
def grC (a0 a1 a2 a3 a4 a5 a6 a7 : Int) : Int := if heapOk [a0, a1, a2, a3, a4, a5, a6, a7] then 0 else 1
def grV (a0 a1 a2 a3 a4 a5 a6 a7 : Int) : Int := if heapOk [a0, a1, a2, a3, a4, a5, a6, a7] then hS a0 a1 a2 a3 a4 a5 a6 a7 else 0
theorem heap8 {L : List Int} (h : L.length = 8) : ∃ a0 a1 a2 a3 a4 a5 a6 a7, L = [a0, a1, a2, a3, a4, a5, a6, a7] := by
  match L, h with
  | [a0, a1, a2, a3, a4, a5, a6, a7], _ => exact ⟨a0, a1, a2, a3, a4, a5, a6, a7, rfl⟩
theorem heap_bounds {a0 a1 a2 a3 a4 a5 a6 a7 : Int} (hw : Hid (∀ x ∈ [a0, a1, a2, a3, a4, a5, a6, a7], (Lit.int .i32 x).wf = true)) :
    (-2147483648 ≤ a0 ∧ a0 ≤ 2147483647) ∧ (-2147483648 ≤ a1 ∧ a1 ≤ 2147483647) ∧ (-2147483648 ≤ a2 ∧ a2 ≤ 2147483647) ∧ (-2147483648 ≤ a3 ∧ a3 ≤ 2147483647) ∧ (-2147483648 ≤ a4 ∧ a4 ≤ 2147483647) ∧ (-2147483648 ≤ a5 ∧ a5 ≤ 2147483647) ∧ (-2147483648 ≤ a6 ∧ a6 ≤ 2147483647) ∧ (-2147483648 ≤ a7 ∧ a7 ≤ 2147483647) := by
  have h := hw.out
  exact ⟨bounds_i32 (h a0 (by simp)), bounds_i32 (h a1 (by simp)), bounds_i32 (h a2 (by simp)), bounds_i32 (h a3 (by simp)), bounds_i32 (h a4 (by simp)), bounds_i32 (h a5 (by simp)), bounds_i32 (h a6 (by simp)), bounds_i32 (h a7 (by simp))⟩
/-- Element k of a heap by value. -/
theorem idxH (a0 a1 a2 a3 a4 a5 a6 a7 : Int) :
    (∀ w : World, (Instr.index 27 (.agg #[.int .i32 a0, .int .i32 a1, .int .i32 a2, .int .i32 a3, .int .i32 a4, .int .i32 a5, .int .i32 a6, .int .i32 a7]) (.int .i64 0)).run Try.prog w = .ok (.int .i32 a0) w) ∧ (∀ w : World, (Instr.index 27 (.agg #[.int .i32 a0, .int .i32 a1, .int .i32 a2, .int .i32 a3, .int .i32 a4, .int .i32 a5, .int .i32 a6, .int .i32 a7]) (.int .i64 1)).run Try.prog w = .ok (.int .i32 a1) w) ∧ (∀ w : World, (Instr.index 27 (.agg #[.int .i32 a0, .int .i32 a1, .int .i32 a2, .int .i32 a3, .int .i32 a4, .int .i32 a5, .int .i32 a6, .int .i32 a7]) (.int .i64 2)).run Try.prog w = .ok (.int .i32 a2) w) ∧ (∀ w : World, (Instr.index 27 (.agg #[.int .i32 a0, .int .i32 a1, .int .i32 a2, .int .i32 a3, .int .i32 a4, .int .i32 a5, .int .i32 a6, .int .i32 a7]) (.int .i64 3)).run Try.prog w = .ok (.int .i32 a3) w) ∧ (∀ w : World, (Instr.index 27 (.agg #[.int .i32 a0, .int .i32 a1, .int .i32 a2, .int .i32 a3, .int .i32 a4, .int .i32 a5, .int .i32 a6, .int .i32 a7]) (.int .i64 4)).run Try.prog w = .ok (.int .i32 a4) w) ∧ (∀ w : World, (Instr.index 27 (.agg #[.int .i32 a0, .int .i32 a1, .int .i32 a2, .int .i32 a3, .int .i32 a4, .int .i32 a5, .int .i32 a6, .int .i32 a7]) (.int .i64 5)).run Try.prog w = .ok (.int .i32 a5) w) ∧ (∀ w : World, (Instr.index 27 (.agg #[.int .i32 a0, .int .i32 a1, .int .i32 a2, .int .i32 a3, .int .i32 a4, .int .i32 a5, .int .i32 a6, .int .i32 a7]) (.int .i64 6)).run Try.prog w = .ok (.int .i32 a6) w) ∧ (∀ w : World, (Instr.index 27 (.agg #[.int .i32 a0, .int .i32 a1, .int .i32 a2, .int .i32 a3, .int .i32 a4, .int .i32 a5, .int .i32 a6, .int .i32 a7]) (.int .i64 7)).run Try.prog w = .ok (.int .i32 a7) w) :=
  ⟨fun _ => by kernel_rfl, fun _ => by kernel_rfl, fun _ => by kernel_rfl, fun _ => by kernel_rfl, fun _ => by kernel_rfl, fun _ => by kernel_rfl, fun _ => by kernel_rfl, fun _ => by kernel_rfl⟩
set_option maxHeartbeats 2000000 in
theorem l01Grams_any (g E : Nat) (a0 a1 a2 a3 a4 a5 a6 a7 : Int) (w : World) (r : Row w g E (nums .i32 [a0, a1, a2, a3, a4, a5, a6, a7])) (hw : Hid (∀ x ∈ [a0, a1, a2, a3, a4, a5, a6, a7], (Lit.int .i32 x).wf = true)) :
    Calls Try.prog 32 #[.pointer (some ⟨g, 0, none⟩)] w fun e w' => e = .returned (.int .i64 (hS a0 a1 a2 a3 a4 a5 a6 a7)) ∧ w = w' := by
  obtain ⟨b0, b1, b2, b3, b4, b5, b6, b7⟩ := heap_bounds hw
  clear hw
  have e0 := r.cell 0
  have e1 := r.cell 1
  have e2 := r.cell 2
  have e3 := r.cell 3
  have e4 := r.cell 4
  have e5 := r.cell 5
  have e6 := r.cell 6
  have e7 := r.cell 7
  simp only [nums, List.map_cons, List.getElem?_cons_zero, List.getElem?_cons_succ] at e0 e1 e2 e3 e4 e5 e6 e7
  clear r
  go_enter Try.func32, Try.ntmps32
  go_wp2_with fail
  go_rounds 9
  go_ret
  exact ⟨ret_int (by unfold hS; omega), rfl⟩
set_option maxHeartbeats 2000000 in
theorem all_any (a0 a1 a2 a3 a4 a5 a6 a7 : Int) (w : World) (hw : Hid (∀ x ∈ [a0, a1, a2, a3, a4, a5, a6, a7], (Lit.int .i32 x).wf = true)) :
    Calls Try.prog 29 #[.agg #[.int .i32 a0, .int .i32 a1, .int .i32 a2, .int .i32 a3, .int .i32 a4, .int .i32 a5, .int .i32 a6, .int .i32 a7]] w fun e w' => e = .returned (.int .i64 (hS a0 a1 a2 a3 a4 a5 a6 a7)) ∧ Below w.heap.size w w' := by
  obtain ⟨b0, b1, b2, b3, b4, b5, b6, b7⟩ := heap_bounds hw
  clear hw
  obtain ⟨i0, i1, i2, i3, i4, i5, i6, i7⟩ := idxH a0 a1 a2 a3 a4 a5 a6 a7
  go_enter Try.func29, Try.ntmps29
  go_wp2_with fail
  go_rounds 9
  go_ret
  exact ⟨ret_int (by unfold hS; omega), by go_grown⟩
end Go.Proofs.Ytjbaaomodcgdgaa
