/- The walk of the law FnExactCompareFractions: its calls one after the other, each by its contract. -/
import Derived.Test.YtbldbckkelobkaaM2
namespace Go.Proofs.Ytbldbckkelobkaa
open Go.RowKit
set_option linter.unusedVariables false
set_option linter.unusedSimpArgs false
set_option maxHeartbeats 2000000 in
theorem walk_CompareFractions (w : World) (x0 : Int × Int) (g0 : (Lit.int .i64 x0.1).wf = true ∧ (Lit.int .i64 x0.2).wf = true) (x1 : Int × Int) (g1 : (Lit.int .i64 x1.1).wf = true ∧ (Lit.int .i64 x1.2).wf = true) :
    Calls Try.prog 8 #[.agg #[.int .i64 x0.1, .int .i64 x0.2], .agg #[.int .i64 x1.1, .int .i64 x1.2]] w fun e w' => e = .returned (.bool true) ∧ Below w.heap.size w w' := by
  obtain ⟨a0, a1⟩ := x0
  obtain ⟨q0_0, q0_1⟩ := g0
  have B0_0 := bounds_i64 q0_0; clear q0_0; simp only [] at B0_0
  have B0_1 := bounds_i64 q0_1; clear q0_1; simp only [] at B0_1
  obtain ⟨a0_1, a1_1⟩ := x1
  obtain ⟨q1_0, q1_1⟩ := g1
  have B1_0 := bounds_i64 q1_0; clear q1_0; simp only [] at B1_0
  have B1_1 := bounds_i64 q1_1; clear q1_1; simp only [] at B1_1
  have CS := Lib.hid (fun w0 : World => sCompareFractions a0 a1 a0_1 a1_1 w0 B0_0 B0_1 B1_0 B1_1)
  have CI := Lib.hid (fun w0 : World => iCompareFractions a0 a1 a0_1 a1_1 w0 B0_0 B0_1 B1_0 B1_1)
  generalize hr0 : (cfV a0 a1 a0_1 a1_1) = r0 at CS CI
  clear hr0
  generalize hr1 : (cfC a0 a1 a0_1 a1_1) = r1 at CS CI
  clear hr1
  clear B0_0 B0_1 B1_0 B1_1
  have HB := Below.refl w.heap.size w
  change Calls Try.prog 8 #[.agg #[.int .i64 a0, .int .i64 a1], .agg #[.int .i64 a0_1, .int .i64 a1_1]] w _
  go_enter Try.func8, Try.ntmps8
  go_wp2_with fail
  replace HB := HB.alloc HB.size (.cells #[.int .i64 a0, .int .i64 a1] 43)
  have X0 := Row.alloc w [.int .i64 a0, .int .i64 a1] 43
  (try simp only [World.size_alloc] at X0)
  replace HB := HB.alloc HB.size (.cells #[.int .i64 a0_1, .int .i64 a1_1] 43)
  replace X0 := X0.below (below_alloc1 _ (.cells #[.int .i64 a0_1, .int .i64 a1_1] 43))
  have X1 := Row.alloc (w.alloc (.cells #[.int .i64 a0, .int .i64 a1] 43)) [.int .i64 a0_1, .int .i64 a1_1] 43
  (try simp only [World.size_alloc] at X1)
  replace HB := HB.drew
  replace X0 := X0.drew
  replace X1 := X1.drew
  have e0_0 := X0.cell 0
  have e0_1 := X0.cell 1
  have e1_0 := X1.cell 0
  have e1_1 := X1.cell 1
  simp only [List.getElem?_cons_zero, List.getElem?_cons_succ, Nat.add_zero] at e0_0 e0_1 e1_0 e1_1
  have hl_0 := X0.lt
  have hl_1 := X1.lt
  go_region_held3 (fun w' => w'.cell? ⟨w.heap.size, 0, none⟩ = some (.int .i64 a0) ∧ w'.cell? ⟨w.heap.size, 1, none⟩ = some (.int .i64 a1) ∧ w'.cell? ⟨w.heap.size + 1, 0, none⟩ = some (.int .i64 a0_1) ∧ w'.cell? ⟨w.heap.size + 1, 1, none⟩ = some (.int .i64 a1_1))
    (first | exact ⟨e0_0, e0_1, e1_0, e1_1⟩ | go_keep)
    ((first | (go_at_call 23; refine (toFraction _ _ _).mono ?_; rintro e w1 ⟨rfl, hb⟩; replace HB := below_then HB HB.size hb; replace X0 := X0.below hb; replace X1 := X1.below hb; clear e0_0 e0_1 e1_0 e1_1; have e0_0 := X0.cell 0; have e0_1 := X0.cell 1; have e1_0 := X1.cell 0; have e1_1 := X1.cell 1; simp only [List.getElem?_cons_zero, List.getElem?_cons_succ, Nat.add_zero] at e0_0 e0_1 e1_0 e1_1; have hl_0 := X0.lt; have hl_1 := X1.lt; have hz1 := hb.size; clear hb) | (go_at_call 22; refine (CS.out _).mono ?_; rintro e w2 ⟨rfl, hb⟩; replace HB := below_then HB HB.size hb; replace X0 := X0.below hb; replace X1 := X1.below hb; clear e0_0 e0_1 e1_0 e1_1; have e0_0 := X0.cell 0; have e0_1 := X0.cell 1; have e1_0 := X1.cell 0; have e1_1 := X1.cell 1; simp only [List.getElem?_cons_zero, List.getElem?_cons_succ, Nat.add_zero] at e0_0 e0_1 e1_0 e1_1; have hl_0 := X0.lt; have hl_1 := X1.lt; have hz2 := hb.size; clear hb)))
  go_wp2_with fail
  clear e0_0 e0_1 e1_0 e1_1
  replace HB := HB.drew
  replace X0 := X0.drew
  replace X1 := X1.drew
  have e0_0 := X0.cell 0
  have e0_1 := X0.cell 1
  have e1_0 := X1.cell 0
  have e1_1 := X1.cell 1
  simp only [List.getElem?_cons_zero, List.getElem?_cons_succ, Nat.add_zero] at e0_0 e0_1 e1_0 e1_1
  have hl_0 := X0.lt
  have hl_1 := X1.lt
  go_region_held3 (fun w' => w'.cell? ⟨w.heap.size, 0, none⟩ = some (.int .i64 a0) ∧ w'.cell? ⟨w.heap.size, 1, none⟩ = some (.int .i64 a1) ∧ w'.cell? ⟨w.heap.size + 1, 0, none⟩ = some (.int .i64 a0_1) ∧ w'.cell? ⟨w.heap.size + 1, 1, none⟩ = some (.int .i64 a1_1))
    (first | exact ⟨e0_0, e0_1, e1_0, e1_1⟩ | go_keep)
    ((first | (go_at_call 23; refine (toFraction _ _ _).mono ?_; rintro e w3 ⟨rfl, hb⟩; replace HB := below_then HB HB.size hb; replace X0 := X0.below hb; replace X1 := X1.below hb; clear e0_0 e0_1 e1_0 e1_1; have e0_0 := X0.cell 0; have e0_1 := X0.cell 1; have e1_0 := X1.cell 0; have e1_1 := X1.cell 1; simp only [List.getElem?_cons_zero, List.getElem?_cons_succ, Nat.add_zero] at e0_0 e0_1 e1_0 e1_1; have hl_0 := X0.lt; have hl_1 := X1.lt; have hz3 := hb.size; clear hb) | (go_at_call 24; refine (CI.out _).mono ?_; rintro e w4 ⟨rfl, hb⟩; replace HB := below_then HB HB.size hb; replace X0 := X0.below hb; replace X1 := X1.below hb; clear e0_0 e0_1 e1_0 e1_1; have e0_0 := X0.cell 0; have e0_1 := X0.cell 1; have e1_0 := X1.cell 0; have e1_1 := X1.cell 1; simp only [List.getElem?_cons_zero, List.getElem?_cons_succ, Nat.add_zero] at e0_0 e0_1 e1_0 e1_1; have hl_0 := X0.lt; have hl_1 := X1.lt; have hz4 := hb.size; clear hb)))
  go_wp2_with fail
  go_ret
  exact ⟨rfl, HB⟩
end Go.Proofs.Ytbldbckkelobkaa
