/- The walk of the law FnExactWashedHeap: its calls one after the other, each by its contract. -/
import Derived.Test.YtbldbckkelobkaaH6
namespace Go.Proofs.Ytbldbckkelobkaa
open Go.RowKit
set_option linter.unusedVariables false
set_option linter.unusedSimpArgs false
set_option maxHeartbeats 2000000 in
theorem walk_WashedHeap (w : World) (x0 : List Int) (g0 : x0.length = 8 ∧ ∀ x ∈ x0, (Lit.int .i32 x).wf = true) (x1 : Int) (g1 : (Lit.int .i64 x1).wf = true) :
    Calls Try.prog 6 #[.agg (nums .i32 x0).toArray, .int .i64 x1] w fun e w' => e = .returned (.bool true) ∧ Below w.heap.size w w' := by
  obtain ⟨hl0, hw0⟩ := g0
  obtain ⟨a0, a1, a2, a3, a4, a5, a6, a7, rfl⟩ := heap8 hl0
  have HW0 := Lib.hid hw0; clear hw0 hl0
  have B1 := bounds_i64 g1
  clear g1
  have CS := Lib.hid (fun w0 : World => sWashedHeap a0 a1 a2 a3 a4 a5 a6 a7 x1 w0 HW0 B1)
  have CI := Lib.hid (fun w0 : World => iWashedHeap a0 a1 a2 a3 a4 a5 a6 a7 x1 w0 HW0 B1)
  generalize hr0 : (jn (waC [a0, a1, a2, a3, a4, a5, a6, a7] x1) (wsh a0 x1)) = r0 at CS CI
  clear hr0
  generalize hr1 : (jn (waC [a0, a1, a2, a3, a4, a5, a6, a7] x1) (wsh a1 x1)) = r1 at CS CI
  clear hr1
  generalize hr2 : (jn (waC [a0, a1, a2, a3, a4, a5, a6, a7] x1) (wsh a2 x1)) = r2 at CS CI
  clear hr2
  generalize hr3 : (jn (waC [a0, a1, a2, a3, a4, a5, a6, a7] x1) (wsh a3 x1)) = r3 at CS CI
  clear hr3
  generalize hr4 : (jn (waC [a0, a1, a2, a3, a4, a5, a6, a7] x1) (wsh a4 x1)) = r4 at CS CI
  clear hr4
  generalize hr5 : (jn (waC [a0, a1, a2, a3, a4, a5, a6, a7] x1) (wsh a5 x1)) = r5 at CS CI
  clear hr5
  generalize hr6 : (jn (waC [a0, a1, a2, a3, a4, a5, a6, a7] x1) (wsh a6 x1)) = r6 at CS CI
  clear hr6
  generalize hr7 : (jn (waC [a0, a1, a2, a3, a4, a5, a6, a7] x1) (wsh a7 x1)) = r7 at CS CI
  clear hr7
  generalize hr8 : (waC [a0, a1, a2, a3, a4, a5, a6, a7] x1) = r8 at CS CI
  clear hr8
  clear HW0 B1
  have HB := Below.refl w.heap.size w
  change Calls Try.prog 6 #[.agg #[.int .i32 a0, .int .i32 a1, .int .i32 a2, .int .i32 a3, .int .i32 a4, .int .i32 a5, .int .i32 a6, .int .i32 a7], .int .i64 x1] w _
  go_enter Try.func6, Try.ntmps6
  go_wp2_with fail
  replace HB := HB.alloc HB.size (.cells #[.int .i32 a0, .int .i32 a1, .int .i32 a2, .int .i32 a3, .int .i32 a4, .int .i32 a5, .int .i32 a6, .int .i32 a7] 22)
  have X0 := Row.alloc w [.int .i32 a0, .int .i32 a1, .int .i32 a2, .int .i32 a3, .int .i32 a4, .int .i32 a5, .int .i32 a6, .int .i32 a7] 22
  (try simp only [World.size_alloc] at X0)
  refine (toHeap_any a0 a1 a2 a3 a4 a5 a6 a7 _).mono ?_
  rintro e w1 ⟨rfl, hb⟩
  have hz1 := hb.size
  (try simp only [World.size_alloc] at hz1)
  replace HB := below_then HB HB.size hb
  replace X0 := X0.below hb
  have hl_0 := X0.lt
  have e0_0 := X0.cell 0
  have e0_1 := X0.cell 1
  have e0_2 := X0.cell 2
  have e0_3 := X0.cell 3
  have e0_4 := X0.cell 4
  have e0_5 := X0.cell 5
  have e0_6 := X0.cell 6
  have e0_7 := X0.cell 7
  simp only [List.getElem?_cons_zero, List.getElem?_cons_succ, Nat.add_zero] at e0_0 e0_1 e0_2 e0_3 e0_4 e0_5 e0_6 e0_7
  clear hb
  go_wp2_with fail
  refine (CS.out _).mono ?_
  rintro e w2 ⟨rfl, hb⟩
  clear e0_0 e0_1 e0_2 e0_3 e0_4 e0_5 e0_6 e0_7
  have hz2 := hb.size
  (try simp only [World.size_alloc] at hz2)
  replace HB := below_then HB HB.size hb
  replace X0 := X0.below hb
  have hl_0 := X0.lt
  have e0_0 := X0.cell 0
  have e0_1 := X0.cell 1
  have e0_2 := X0.cell 2
  have e0_3 := X0.cell 3
  have e0_4 := X0.cell 4
  have e0_5 := X0.cell 5
  have e0_6 := X0.cell 6
  have e0_7 := X0.cell 7
  simp only [List.getElem?_cons_zero, List.getElem?_cons_succ, Nat.add_zero] at e0_0 e0_1 e0_2 e0_3 e0_4 e0_5 e0_6 e0_7
  clear hb
  go_wp2_with fail
  replace HB := HB.alloc HB.size (.cells #[.int .i32 r0, .int .i32 r1, .int .i32 r2, .int .i32 r3, .int .i32 r4, .int .i32 r5, .int .i32 r6, .int .i32 r7] 25)
  replace X0 := X0.below (below_alloc1 _ (.cells #[.int .i32 r0, .int .i32 r1, .int .i32 r2, .int .i32 r3, .int .i32 r4, .int .i32 r5, .int .i32 r6, .int .i32 r7] 25))
  have X1 := Row.alloc w2 [.int .i32 r0, .int .i32 r1, .int .i32 r2, .int .i32 r3, .int .i32 r4, .int .i32 r5, .int .i32 r6, .int .i32 r7] 25
  (try simp only [World.size_alloc] at X1)
  refine (toHeap_any a0 a1 a2 a3 a4 a5 a6 a7 _).mono ?_
  rintro e w3 ⟨rfl, hb⟩
  clear e0_0 e0_1 e0_2 e0_3 e0_4 e0_5 e0_6 e0_7
  skip
  have hz3 := hb.size
  (try simp only [World.size_alloc] at hz3)
  replace HB := below_then HB HB.size hb
  replace X0 := X0.below hb
  have hl_0 := X0.lt
  have e0_0 := X0.cell 0
  have e0_1 := X0.cell 1
  have e0_2 := X0.cell 2
  have e0_3 := X0.cell 3
  have e0_4 := X0.cell 4
  have e0_5 := X0.cell 5
  have e0_6 := X0.cell 6
  have e0_7 := X0.cell 7
  simp only [List.getElem?_cons_zero, List.getElem?_cons_succ, Nat.add_zero] at e0_0 e0_1 e0_2 e0_3 e0_4 e0_5 e0_6 e0_7
  replace X1 := X1.below hb
  have hl_1 := X1.lt
  have e1_0 := X1.cell 0
  have e1_1 := X1.cell 1
  have e1_2 := X1.cell 2
  have e1_3 := X1.cell 3
  have e1_4 := X1.cell 4
  have e1_5 := X1.cell 5
  have e1_6 := X1.cell 6
  have e1_7 := X1.cell 7
  simp only [List.getElem?_cons_zero, List.getElem?_cons_succ, Nat.add_zero] at e1_0 e1_1 e1_2 e1_3 e1_4 e1_5 e1_6 e1_7
  clear hb
  go_wp2_with fail
  refine (CI.out _).mono ?_
  rintro e w4 ⟨rfl, hb⟩
  clear e0_0 e0_1 e0_2 e0_3 e0_4 e0_5 e0_6 e0_7
  clear e1_0 e1_1 e1_2 e1_3 e1_4 e1_5 e1_6 e1_7
  have hz4 := hb.size
  (try simp only [World.size_alloc] at hz4)
  replace HB := below_then HB HB.size hb
  replace X0 := X0.below hb
  have hl_0 := X0.lt
  have e0_0 := X0.cell 0
  have e0_1 := X0.cell 1
  have e0_2 := X0.cell 2
  have e0_3 := X0.cell 3
  have e0_4 := X0.cell 4
  have e0_5 := X0.cell 5
  have e0_6 := X0.cell 6
  have e0_7 := X0.cell 7
  simp only [List.getElem?_cons_zero, List.getElem?_cons_succ, Nat.add_zero] at e0_0 e0_1 e0_2 e0_3 e0_4 e0_5 e0_6 e0_7
  replace X1 := X1.below hb
  have hl_1 := X1.lt
  have e1_0 := X1.cell 0
  have e1_1 := X1.cell 1
  have e1_2 := X1.cell 2
  have e1_3 := X1.cell 3
  have e1_4 := X1.cell 4
  have e1_5 := X1.cell 5
  have e1_6 := X1.cell 6
  have e1_7 := X1.cell 7
  simp only [List.getElem?_cons_zero, List.getElem?_cons_succ, Nat.add_zero] at e1_0 e1_1 e1_2 e1_3 e1_4 e1_5 e1_6 e1_7
  clear hb
  go_wp2_with fail
  replace HB := HB.alloc HB.size (.cells #[.int .i32 r0, .int .i32 r1, .int .i32 r2, .int .i32 r3, .int .i32 r4, .int .i32 r5, .int .i32 r6, .int .i32 r7] 25)
  replace X0 := X0.below (below_alloc1 _ (.cells #[.int .i32 r0, .int .i32 r1, .int .i32 r2, .int .i32 r3, .int .i32 r4, .int .i32 r5, .int .i32 r6, .int .i32 r7] 25))
  replace X1 := X1.below (below_alloc1 _ (.cells #[.int .i32 r0, .int .i32 r1, .int .i32 r2, .int .i32 r3, .int .i32 r4, .int .i32 r5, .int .i32 r6, .int .i32 r7] 25))
  have X2 := Row.alloc w4 [.int .i32 r0, .int .i32 r1, .int .i32 r2, .int .i32 r3, .int .i32 r4, .int .i32 r5, .int .i32 r6, .int .i32 r7] 25
  (try simp only [World.size_alloc] at X2)
  refine (eqHeap_true r0 r1 r2 r3 r4 r5 r6 r7 _).mono ?_
  rintro e w5 ⟨rfl, hb⟩
  clear e0_0 e0_1 e0_2 e0_3 e0_4 e0_5 e0_6 e0_7
  clear e1_0 e1_1 e1_2 e1_3 e1_4 e1_5 e1_6 e1_7
  skip
  have hz5 := hb.size
  (try simp only [World.size_alloc] at hz5)
  replace HB := below_then HB HB.size hb
  replace X0 := X0.below hb
  have hl_0 := X0.lt
  have e0_0 := X0.cell 0
  have e0_1 := X0.cell 1
  have e0_2 := X0.cell 2
  have e0_3 := X0.cell 3
  have e0_4 := X0.cell 4
  have e0_5 := X0.cell 5
  have e0_6 := X0.cell 6
  have e0_7 := X0.cell 7
  simp only [List.getElem?_cons_zero, List.getElem?_cons_succ, Nat.add_zero] at e0_0 e0_1 e0_2 e0_3 e0_4 e0_5 e0_6 e0_7
  replace X1 := X1.below hb
  have hl_1 := X1.lt
  have e1_0 := X1.cell 0
  have e1_1 := X1.cell 1
  have e1_2 := X1.cell 2
  have e1_3 := X1.cell 3
  have e1_4 := X1.cell 4
  have e1_5 := X1.cell 5
  have e1_6 := X1.cell 6
  have e1_7 := X1.cell 7
  simp only [List.getElem?_cons_zero, List.getElem?_cons_succ, Nat.add_zero] at e1_0 e1_1 e1_2 e1_3 e1_4 e1_5 e1_6 e1_7
  replace X2 := X2.below hb
  have hl_2 := X2.lt
  have e2_0 := X2.cell 0
  have e2_1 := X2.cell 1
  have e2_2 := X2.cell 2
  have e2_3 := X2.cell 3
  have e2_4 := X2.cell 4
  have e2_5 := X2.cell 5
  have e2_6 := X2.cell 6
  have e2_7 := X2.cell 7
  simp only [List.getElem?_cons_zero, List.getElem?_cons_succ, Nat.add_zero] at e2_0 e2_1 e2_2 e2_3 e2_4 e2_5 e2_6 e2_7
  clear hb
  go_wp2_with fail
  go_ret
  exact ⟨rfl, HB⟩
end Go.Proofs.Ytbldbckkelobkaa
