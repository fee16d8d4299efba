/- The walk of the law FnExactValidFleece. -/
import Derived.Test.YthpdfjfkokgkoaaH3
namespace Go.Proofs.Ythpdfjfkokgkoaa
open Go.RowKit
set_option linter.unusedVariables false
set_option linter.unusedSimpArgs false
theorem heap8f {L : List Int} (h : L.length = 8) : ∃ a0 a1 a2 a3 a4 a5 a6 a7, L = [a0, a1, a2, a3, a4, a5, a6, a7] := by
  match L, h with
  | [a0, a1, a2, a3, a4, a5, a6, a7], _ => exact ⟨a0, a1, a2, a3, a4, a5, a6, a7, rfl⟩
set_option maxHeartbeats 1000000 in
theorem walk_ValidFleece (w : World) (x0 : Int × List Int) (g0 : (Lit.int .i8 x0.1).wf = true ∧ x0.2.length = 8 ∧ ∀ x ∈ x0.2, (Lit.int .i32 x).wf = true) :
    Calls Try.prog 7 #[.agg (Value.int .i8 x0.1 :: nums .i32 x0.2).toArray] w fun e w' => e = .returned (.bool true) ∧ Below w.heap.size w w' := by
  obtain ⟨f, l⟩ := x0
  obtain ⟨hf0, hl, hw⟩ := g0
  simp only [] at hf0 hl hw
  have hf := bounds_i8 hf0
  clear hf0
  obtain ⟨a0, a1, a2, a3, a4, a5, a6, a7, rfl⟩ := heap8f hl
  have HW := Lib.hid hw; clear hw hl
  have HB := Below.refl w.heap.size w
  change Calls Try.prog 7 #[.agg #[.int .i8 f, .int .i32 a0, .int .i32 a1, .int .i32 a2, .int .i32 a3, .int .i32 a4, .int .i32 a5, .int .i32 a6, .int .i32 a7]] w _
  have X0 := Row.alloc w [.int .i8 f, .int .i32 a0, .int .i32 a1, .int .i32 a2, .int .i32 a3, .int .i32 a4, .int .i32 a5, .int .i32 a6, .int .i32 a7] 39
  go_enter Try.func7, Try.ntmps7
  go_wp2_with fail
  refine (toFleece_any f a0 a1 a2 a3 a4 a5 a6 a7 _).mono ?_
  rintro e w1 ⟨rfl, hb1⟩
  replace X0 := X0.below hb1
  have e0 := X0.cell 0
  have e1 := X0.cell 1
  have e2 := X0.cell 2
  have e3 := X0.cell 3
  have e4 := X0.cell 4
  have e5 := X0.cell 5
  have e6 := X0.cell 6
  have e7 := X0.cell 7
  have e8 := X0.cell 8
  simp only [List.getElem?_cons_zero, List.getElem?_cons_succ] at e0 e1 e2 e3 e4 e5 e6 e7 e8
  have h1 := below_then (by go_grown : Below w.heap.size w _) (by go_size) hb1
  clear hb1
  go_wp2_with fail
  refine (sValidFleece f a0 a1 a2 a3 a4 a5 a6 a7 _ hf HW).mono ?_
  rintro e w2 ⟨rfl, hb2⟩
  clear e0 e1 e2 e3 e4 e5 e6 e7 e8
  replace X0 := X0.below hb2
  have e0 := X0.cell 0
  have e1 := X0.cell 1
  have e2 := X0.cell 2
  have e3 := X0.cell 3
  have e4 := X0.cell 4
  have e5 := X0.cell 5
  have e6 := X0.cell 6
  have e7 := X0.cell 7
  have e8 := X0.cell 8
  simp only [List.getElem?_cons_zero, List.getElem?_cons_succ] at e0 e1 e2 e3 e4 e5 e6 e7 e8
  have h2 := below_then h1 h1.size hb2
  clear h1 hb2
  go_wp2_with fail
  refine (toFleece_any f a0 a1 a2 a3 a4 a5 a6 a7 _).mono ?_
  rintro e w3 ⟨rfl, hb3⟩
  clear e0 e1 e2 e3 e4 e5 e6 e7 e8
  replace X0 := X0.below hb3
  have e0 := X0.cell 0
  have e1 := X0.cell 1
  have e2 := X0.cell 2
  have e3 := X0.cell 3
  have e4 := X0.cell 4
  have e5 := X0.cell 5
  have e6 := X0.cell 6
  have e7 := X0.cell 7
  have e8 := X0.cell 8
  simp only [List.getElem?_cons_zero, List.getElem?_cons_succ] at e0 e1 e2 e3 e4 e5 e6 e7 e8
  have h3 := below_then h2 h2.size hb3
  clear h2 hb3
  go_wp2_with fail
  refine (iValidFleece f a0 a1 a2 a3 a4 a5 a6 a7 _ hf HW).mono ?_
  rintro e w4 ⟨rfl, hb4⟩
  clear e0 e1 e2 e3 e4 e5 e6 e7 e8
  replace X0 := X0.below hb4
  have e0 := X0.cell 0
  have e1 := X0.cell 1
  have e2 := X0.cell 2
  have e3 := X0.cell 3
  have e4 := X0.cell 4
  have e5 := X0.cell 5
  have e6 := X0.cell 6
  have e7 := X0.cell 7
  have e8 := X0.cell 8
  simp only [List.getElem?_cons_zero, List.getElem?_cons_succ] at e0 e1 e2 e3 e4 e5 e6 e7 e8
  have h4 := below_then h3 h3.size hb4
  clear h3 hb4
  go_wp2_with fail
  go_ret
  exact ⟨rfl, h4⟩
end Go.Proofs.Ythpdfjfkokgkoaa
