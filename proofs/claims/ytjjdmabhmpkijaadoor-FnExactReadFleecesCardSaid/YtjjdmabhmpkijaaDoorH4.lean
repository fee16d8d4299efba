/- Contracts: sums of heaps; equal heaps; GramsOf. -/
import Derived.Test.YtjjdmabhmpkijaaDoorH1
import Derived.Test.YtjjdmabhmpkijaaDoorC1
namespace Go.Proofs.YtjjdmabhmpkijaaDoor
open Go.RowKit
set_option linter.unusedVariables false
set_option linter.unusedSimpArgs false
def hS (a0 a1 a2 a3 a4 a5 a6 a7 : Int) : Int := a0 + a1 + a2 + a3 + a4 + a5 + a6 + a7
def grC (a0 a1 a2 a3 a4 a5 a6 a7 : Int) : Int := if heapOk [a0, a1, a2, a3, a4, a5, a6, a7] then 0 else 1
def grV (a0 a1 a2 a3 a4 a5 a6 a7 : Int) : Int := if heapOk [a0, a1, a2, a3, a4, a5, a6, a7] then hS a0 a1 a2 a3 a4 a5 a6 a7 else 0
theorem heap8 {L : List Int} (h : L.length = 8) : ∃ a0 a1 a2 a3 a4 a5 a6 a7, L = [a0, a1, a2, a3, a4, a5, a6, a7] := by
  match L, h with
  | [a0, a1, a2, a3, a4, a5, a6, a7], _ => exact ⟨a0, a1, a2, a3, a4, a5, a6, a7, rfl⟩
theorem heap_bounds {a0 a1 a2 a3 a4 a5 a6 a7 : Int} (hw : Hid (∀ x ∈ [a0, a1, a2, a3, a4, a5, a6, a7], (Lit.int .i32 x).wf = true)) :
    (-2147483648 ≤ a0 ∧ a0 ≤ 2147483647) ∧ (-2147483648 ≤ a1 ∧ a1 ≤ 2147483647) ∧ (-2147483648 ≤ a2 ∧ a2 ≤ 2147483647) ∧ (-2147483648 ≤ a3 ∧ a3 ≤ 2147483647) ∧ (-2147483648 ≤ a4 ∧ a4 ≤ 2147483647) ∧ (-2147483648 ≤ a5 ∧ a5 ≤ 2147483647) ∧ (-2147483648 ≤ a6 ∧ a6 ≤ 2147483647) ∧ (-2147483648 ≤ a7 ∧ a7 ≤ 2147483647) := by
  have h := hw.out
  exact ⟨bounds_i32 (h a0 (by simp)), bounds_i32 (h a1 (by simp)), bounds_i32 (h a2 (by simp)), bounds_i32 (h a3 (by simp)), bounds_i32 (h a4 (by simp)), bounds_i32 (h a5 (by simp)), bounds_i32 (h a6 (by simp)), bounds_i32 (h a7 (by simp))⟩
/-- Element k of a heap by value. -/
theorem idxH (a0 a1 a2 a3 a4 a5 a6 a7 : Int) :
    (∀ w : World, (Instr.index 36 (.agg #[.int .i32 a0, .int .i32 a1, .int .i32 a2, .int .i32 a3, .int .i32 a4, .int .i32 a5, .int .i32 a6, .int .i32 a7]) (.int .i64 0)).run Tryd.prog w = .ok (.int .i32 a0) w) ∧ (∀ w : World, (Instr.index 36 (.agg #[.int .i32 a0, .int .i32 a1, .int .i32 a2, .int .i32 a3, .int .i32 a4, .int .i32 a5, .int .i32 a6, .int .i32 a7]) (.int .i64 1)).run Tryd.prog w = .ok (.int .i32 a1) w) ∧ (∀ w : World, (Instr.index 36 (.agg #[.int .i32 a0, .int .i32 a1, .int .i32 a2, .int .i32 a3, .int .i32 a4, .int .i32 a5, .int .i32 a6, .int .i32 a7]) (.int .i64 2)).run Tryd.prog w = .ok (.int .i32 a2) w) ∧ (∀ w : World, (Instr.index 36 (.agg #[.int .i32 a0, .int .i32 a1, .int .i32 a2, .int .i32 a3, .int .i32 a4, .int .i32 a5, .int .i32 a6, .int .i32 a7]) (.int .i64 3)).run Tryd.prog w = .ok (.int .i32 a3) w) ∧ (∀ w : World, (Instr.index 36 (.agg #[.int .i32 a0, .int .i32 a1, .int .i32 a2, .int .i32 a3, .int .i32 a4, .int .i32 a5, .int .i32 a6, .int .i32 a7]) (.int .i64 4)).run Tryd.prog w = .ok (.int .i32 a4) w) ∧ (∀ w : World, (Instr.index 36 (.agg #[.int .i32 a0, .int .i32 a1, .int .i32 a2, .int .i32 a3, .int .i32 a4, .int .i32 a5, .int .i32 a6, .int .i32 a7]) (.int .i64 5)).run Tryd.prog w = .ok (.int .i32 a5) w) ∧ (∀ w : World, (Instr.index 36 (.agg #[.int .i32 a0, .int .i32 a1, .int .i32 a2, .int .i32 a3, .int .i32 a4, .int .i32 a5, .int .i32 a6, .int .i32 a7]) (.int .i64 6)).run Tryd.prog w = .ok (.int .i32 a6) w) ∧ (∀ w : World, (Instr.index 36 (.agg #[.int .i32 a0, .int .i32 a1, .int .i32 a2, .int .i32 a3, .int .i32 a4, .int .i32 a5, .int .i32 a6, .int .i32 a7]) (.int .i64 7)).run Tryd.prog w = .ok (.int .i32 a7) w) :=
  ⟨fun _ => by kernel_rfl, fun _ => by kernel_rfl, fun _ => by kernel_rfl, fun _ => by kernel_rfl, fun _ => by kernel_rfl, fun _ => by kernel_rfl, fun _ => by kernel_rfl, fun _ => by kernel_rfl⟩
set_option maxHeartbeats 2000000 in
theorem eqHeap_true (a0 a1 a2 a3 a4 a5 a6 a7 : Int) (w : World) :
    Calls Tryd.prog 32 #[.agg #[.int .i32 a0, .int .i32 a1, .int .i32 a2, .int .i32 a3, .int .i32 a4, .int .i32 a5, .int .i32 a6, .int .i32 a7], .agg #[.int .i32 a0, .int .i32 a1, .int .i32 a2, .int .i32 a3, .int .i32 a4, .int .i32 a5, .int .i32 a6, .int .i32 a7]] w fun e w' => e = .returned (.bool true) ∧ Below w.heap.size w w' := by
  have X0 : Hid (Row ((w.alloc (.cells #[.int .i32 a0, .int .i32 a1, .int .i32 a2, .int .i32 a3, .int .i32 a4, .int .i32 a5, .int .i32 a6, .int .i32 a7] 36)).alloc (.cells #[.int .i32 a0, .int .i32 a1, .int .i32 a2, .int .i32 a3, .int .i32 a4, .int .i32 a5, .int .i32 a6, .int .i32 a7] 36)) w.heap.size 36 (nums .i32 [a0, a1, a2, a3, a4, a5, a6, a7])) := Lib.hid ((Row.alloc w [.int .i32 a0, .int .i32 a1, .int .i32 a2, .int .i32 a3, .int .i32 a4, .int .i32 a5, .int .i32 a6, .int .i32 a7] 36).below (below_alloc1 _ (.cells #[.int .i32 a0, .int .i32 a1, .int .i32 a2, .int .i32 a3, .int .i32 a4, .int .i32 a5, .int .i32 a6, .int .i32 a7] 36)))
  have X1 : Hid (Row ((w.alloc (.cells #[.int .i32 a0, .int .i32 a1, .int .i32 a2, .int .i32 a3, .int .i32 a4, .int .i32 a5, .int .i32 a6, .int .i32 a7] 36)).alloc (.cells #[.int .i32 a0, .int .i32 a1, .int .i32 a2, .int .i32 a3, .int .i32 a4, .int .i32 a5, .int .i32 a6, .int .i32 a7] 36)) (w.heap.size + 1) 36 (nums .i32 [a0, a1, a2, a3, a4, a5, a6, a7])) := Lib.hid (by have := Row.alloc (w.alloc (.cells #[.int .i32 a0, .int .i32 a1, .int .i32 a2, .int .i32 a3, .int .i32 a4, .int .i32 a5, .int .i32 a6, .int .i32 a7] 36)) [.int .i32 a0, .int .i32 a1, .int .i32 a2, .int .i32 a3, .int .i32 a4, .int .i32 a5, .int .i32 a6, .int .i32 a7] 36; rw [World.size_alloc] at this; exact this)
  go_enter Tryd.func32, Tryd.ntmps32
  go_wp2_with fail
  generalize hL : [a0, a1, a2, a3, a4, a5, a6, a7] = L at X0 X1
  have HL : L.length = 8 := by rw [← hL]; rfl
  clear hL
  go_loopw [5] (fun v wr => ∃ k : Nat, k ≤ 8 ∧ v = .int .i64 k ∧ Hid (Row wr w.heap.size 36 (nums .i32 L)) ∧ Hid (Row wr (w.heap.size + 1) 36 (nums .i32 L)) ∧ Below w.heap.size w wr) (fun v _ => 8 - (intOf v).toNat)
  case atStart => exact ⟨0, by omega, rfl, X0, X1, by go_grown⟩
  case round =>
    obtain ⟨k, hk, rfl, Y0, Y1, hB⟩ := hrel
    clear X0 X1
    by_cases hlt : k < 8
    · obtain ⟨x, hx⟩ : ∃ x, L[k]? = some x := ⟨_, List.getElem?_eq_getElem (by omega)⟩
      have c0 := Y0.out.cell k
      have c1 := Y1.out.cell k
      rw [nums_get, hx] at c0 c1
      simp only [Option.map_some] at c0 c1
      clear hx
      go_wp2_with fail
      go_quiet (fail)
      go_wp2_with fail
      go_roundw
      case rel => exact ⟨k + 1, by omega, by go_num, Lib.hid (Y0.out.below (Joins.below_draws _ _ _)), Lib.hid (Y1.out.below (Joins.below_draws _ _ _)), Joins.below_draws _ _ _ |> hB.trans⟩
      case measure => simp [intOf]; omega
    · have q1 : ¬ (k : Int) < 8 := by omega
      go_wp2_with fail
      go_ret
      exact ⟨rfl, hB⟩
end Go.Proofs.YtjjdmabhmpkijaaDoor
