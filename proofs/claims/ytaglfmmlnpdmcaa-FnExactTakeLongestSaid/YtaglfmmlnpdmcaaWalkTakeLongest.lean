/- The walk of the law FnExactTakeLongest: its calls one after the other, each by its contract. -/
import Derived.Test.YtaglfmmlnpdmcaaR5
import Derived.Test.YtaglfmmlnpdmcaaR6
namespace Go.Proofs.Ytaglfmmlnpdmcaa
open Go.RowKit
set_option linter.unusedVariables false
set_option linter.unusedSimpArgs false
set_option maxHeartbeats 2000000 in
theorem walk_TakeLongest (w : World) (x0 : List Int) (g0 : x0.length = 8 ∧ ∀ x ∈ x0, (Lit.int .i32 x).wf = true) (x1 : Int) (g1 : (Lit.int .i64 x1).wf = true) :
    Calls Try.prog 4 #[.agg (nums .i32 x0).toArray, .int .i64 x1] w fun e w' => e = .returned (.bool true) ∧ Below w.heap.size w w' := by
  obtain ⟨hl0, hw0⟩ := g0
  obtain ⟨a0, a1, a2, a3, a4, a5, a6, a7, rfl⟩ := heap8 hl0
  have HW0 := Lib.hid hw0; clear hw0 hl0
  have B1 := bounds_i64 g1
  clear g1
  have CS := Lib.hid (fun w0 : World => sTakeLongest a0 a1 a2 a3 a4 a5 a6 a7 x1 w0 HW0 B1)
  have CI := Lib.hid (fun w0 : World => iTakeLongest a0 a1 a2 a3 a4 a5 a6 a7 x1 w0 HW0 B1)
  generalize hr0 : (jn (tlC [a0, a1, a2, a3, a4, a5, a6, a7] x1) (tk [a0, a1, a2, a3, a4, a5, a6, a7] x1 0)) = r0 at CS CI
  clear hr0
  generalize hr1 : (jn (tlC [a0, a1, a2, a3, a4, a5, a6, a7] x1) (tk [a0, a1, a2, a3, a4, a5, a6, a7] x1 1)) = r1 at CS CI
  clear hr1
  generalize hr2 : (jn (tlC [a0, a1, a2, a3, a4, a5, a6, a7] x1) (tk [a0, a1, a2, a3, a4, a5, a6, a7] x1 2)) = r2 at CS CI
  clear hr2
  generalize hr3 : (jn (tlC [a0, a1, a2, a3, a4, a5, a6, a7] x1) (tk [a0, a1, a2, a3, a4, a5, a6, a7] x1 3)) = r3 at CS CI
  clear hr3
  generalize hr4 : (jn (tlC [a0, a1, a2, a3, a4, a5, a6, a7] x1) (tk [a0, a1, a2, a3, a4, a5, a6, a7] x1 4)) = r4 at CS CI
  clear hr4
  generalize hr5 : (jn (tlC [a0, a1, a2, a3, a4, a5, a6, a7] x1) (tk [a0, a1, a2, a3, a4, a5, a6, a7] x1 5)) = r5 at CS CI
  clear hr5
  generalize hr6 : (jn (tlC [a0, a1, a2, a3, a4, a5, a6, a7] x1) (tk [a0, a1, a2, a3, a4, a5, a6, a7] x1 6)) = r6 at CS CI
  clear hr6
  generalize hr7 : (jn (tlC [a0, a1, a2, a3, a4, a5, a6, a7] x1) (tk [a0, a1, a2, a3, a4, a5, a6, a7] x1 7)) = r7 at CS CI
  clear hr7
  generalize hr8 : (jn (tlC [a0, a1, a2, a3, a4, a5, a6, a7] x1) (a0 - tk [a0, a1, a2, a3, a4, a5, a6, a7] x1 0)) = r8 at CS CI
  clear hr8
  generalize hr9 : (jn (tlC [a0, a1, a2, a3, a4, a5, a6, a7] x1) (a1 - tk [a0, a1, a2, a3, a4, a5, a6, a7] x1 1)) = r9 at CS CI
  clear hr9
  generalize hr10 : (jn (tlC [a0, a1, a2, a3, a4, a5, a6, a7] x1) (a2 - tk [a0, a1, a2, a3, a4, a5, a6, a7] x1 2)) = r10 at CS CI
  clear hr10
  generalize hr11 : (jn (tlC [a0, a1, a2, a3, a4, a5, a6, a7] x1) (a3 - tk [a0, a1, a2, a3, a4, a5, a6, a7] x1 3)) = r11 at CS CI
  clear hr11
  generalize hr12 : (jn (tlC [a0, a1, a2, a3, a4, a5, a6, a7] x1) (a4 - tk [a0, a1, a2, a3, a4, a5, a6, a7] x1 4)) = r12 at CS CI
  clear hr12
  generalize hr13 : (jn (tlC [a0, a1, a2, a3, a4, a5, a6, a7] x1) (a5 - tk [a0, a1, a2, a3, a4, a5, a6, a7] x1 5)) = r13 at CS CI
  clear hr13
  generalize hr14 : (jn (tlC [a0, a1, a2, a3, a4, a5, a6, a7] x1) (a6 - tk [a0, a1, a2, a3, a4, a5, a6, a7] x1 6)) = r14 at CS CI
  clear hr14
  generalize hr15 : (jn (tlC [a0, a1, a2, a3, a4, a5, a6, a7] x1) (a7 - tk [a0, a1, a2, a3, a4, a5, a6, a7] x1 7)) = r15 at CS CI
  clear hr15
  generalize hr16 : (tlC [a0, a1, a2, a3, a4, a5, a6, a7] x1) = r16 at CS CI
  clear hr16
  clear HW0 B1
  have HB := Below.refl w.heap.size w
  change Calls Try.prog 4 #[.agg #[.int .i32 a0, .int .i32 a1, .int .i32 a2, .int .i32 a3, .int .i32 a4, .int .i32 a5, .int .i32 a6, .int .i32 a7], .int .i64 x1] w _
  go_enter Try.func4, Try.ntmps4
  go_wp2_with fail
  replace HB := HB.alloc HB.size (.cells #[.int .i32 a0, .int .i32 a1, .int .i32 a2, .int .i32 a3, .int .i32 a4, .int .i32 a5, .int .i32 a6, .int .i32 a7] 22)
  have X0 := Row.alloc w [.int .i32 a0, .int .i32 a1, .int .i32 a2, .int .i32 a3, .int .i32 a4, .int .i32 a5, .int .i32 a6, .int .i32 a7] 22
  (try simp only [World.size_alloc] at X0)
  refine (toHeap_any a0 a1 a2 a3 a4 a5 a6 a7 _).mono ?_
  rintro e w1 ⟨rfl, hb⟩
  have hz1 := hb.size
  (try simp only [World.size_alloc] at hz1)
  replace HB := below_then HB HB.size hb
  replace X0 := X0.below hb
  have hl_0 := X0.lt
  obtain ⟨e0_0, e0_1, e0_2, e0_3, e0_4, e0_5, e0_6, e0_7⟩ := X0.cells8
  clear hb
  go_wp2_with fail
  refine (CS.out _).mono ?_
  rintro e w2 ⟨rfl, hb⟩
  clear e0_0 e0_1 e0_2 e0_3 e0_4 e0_5 e0_6 e0_7
  have hz2 := hb.size
  (try simp only [World.size_alloc] at hz2)
  replace HB := below_then HB HB.size hb
  replace X0 := X0.below hb
  have hl_0 := X0.lt
  obtain ⟨e0_0, e0_1, e0_2, e0_3, e0_4, e0_5, e0_6, e0_7⟩ := X0.cells8
  clear hb
  go_wp2_with fail
  replace HB := HB.alloc HB.size (.cells #[.int .i32 r0, .int .i32 r1, .int .i32 r2, .int .i32 r3, .int .i32 r4, .int .i32 r5, .int .i32 r6, .int .i32 r7] 25)
  replace X0 := X0.below (below_alloc1 _ (.cells #[.int .i32 r0, .int .i32 r1, .int .i32 r2, .int .i32 r3, .int .i32 r4, .int .i32 r5, .int .i32 r6, .int .i32 r7] 25))
  have X1 := Row.alloc w2 [.int .i32 r0, .int .i32 r1, .int .i32 r2, .int .i32 r3, .int .i32 r4, .int .i32 r5, .int .i32 r6, .int .i32 r7] 25
  (try simp only [World.size_alloc] at X1)
  replace HB := HB.alloc HB.size (.cells #[.int .i32 r8, .int .i32 r9, .int .i32 r10, .int .i32 r11, .int .i32 r12, .int .i32 r13, .int .i32 r14, .int .i32 r15] 25)
  replace X0 := X0.below (below_alloc1 _ (.cells #[.int .i32 r8, .int .i32 r9, .int .i32 r10, .int .i32 r11, .int .i32 r12, .int .i32 r13, .int .i32 r14, .int .i32 r15] 25))
  replace X1 := X1.below (below_alloc1 _ (.cells #[.int .i32 r8, .int .i32 r9, .int .i32 r10, .int .i32 r11, .int .i32 r12, .int .i32 r13, .int .i32 r14, .int .i32 r15] 25))
  have X2 := Row.alloc (w2.alloc (.cells #[.int .i32 r0, .int .i32 r1, .int .i32 r2, .int .i32 r3, .int .i32 r4, .int .i32 r5, .int .i32 r6, .int .i32 r7] 25)) [.int .i32 r8, .int .i32 r9, .int .i32 r10, .int .i32 r11, .int .i32 r12, .int .i32 r13, .int .i32 r14, .int .i32 r15] 25
  (try simp only [World.size_alloc] at X2)
  refine (toHeap_any a0 a1 a2 a3 a4 a5 a6 a7 _).mono ?_
  rintro e w3 ⟨rfl, hb⟩
  clear e0_0 e0_1 e0_2 e0_3 e0_4 e0_5 e0_6 e0_7
  skip
  skip
  have hz3 := hb.size
  (try simp only [World.size_alloc] at hz3)
  replace HB := below_then HB HB.size hb
  replace X0 := X0.below hb
  have hl_0 := X0.lt
  obtain ⟨e0_0, e0_1, e0_2, e0_3, e0_4, e0_5, e0_6, e0_7⟩ := X0.cells8
  replace X1 := X1.below hb
  have hl_1 := X1.lt
  obtain ⟨e1_0, e1_1, e1_2, e1_3, e1_4, e1_5, e1_6, e1_7⟩ := X1.cells8
  replace X2 := X2.below hb
  have hl_2 := X2.lt
  obtain ⟨e2_0, e2_1, e2_2, e2_3, e2_4, e2_5, e2_6, e2_7⟩ := X2.cells8
  clear hb
  go_wp2_with fail
  refine (CI.out _).mono ?_
  rintro e w4 ⟨rfl, hb⟩
  clear e0_0 e0_1 e0_2 e0_3 e0_4 e0_5 e0_6 e0_7
  clear e1_0 e1_1 e1_2 e1_3 e1_4 e1_5 e1_6 e1_7
  clear e2_0 e2_1 e2_2 e2_3 e2_4 e2_5 e2_6 e2_7
  have hz4 := hb.size
  (try simp only [World.size_alloc] at hz4)
  replace HB := below_then HB HB.size hb
  replace X0 := X0.below hb
  have hl_0 := X0.lt
  obtain ⟨e0_0, e0_1, e0_2, e0_3, e0_4, e0_5, e0_6, e0_7⟩ := X0.cells8
  replace X1 := X1.below hb
  have hl_1 := X1.lt
  obtain ⟨e1_0, e1_1, e1_2, e1_3, e1_4, e1_5, e1_6, e1_7⟩ := X1.cells8
  replace X2 := X2.below hb
  have hl_2 := X2.lt
  obtain ⟨e2_0, e2_1, e2_2, e2_3, e2_4, e2_5, e2_6, e2_7⟩ := X2.cells8
  clear hb
  go_wp2_with fail
  replace HB := HB.alloc HB.size (.cells #[.int .i32 r0, .int .i32 r1, .int .i32 r2, .int .i32 r3, .int .i32 r4, .int .i32 r5, .int .i32 r6, .int .i32 r7] 25)
  replace X0 := X0.below (below_alloc1 _ (.cells #[.int .i32 r0, .int .i32 r1, .int .i32 r2, .int .i32 r3, .int .i32 r4, .int .i32 r5, .int .i32 r6, .int .i32 r7] 25))
  replace X1 := X1.below (below_alloc1 _ (.cells #[.int .i32 r0, .int .i32 r1, .int .i32 r2, .int .i32 r3, .int .i32 r4, .int .i32 r5, .int .i32 r6, .int .i32 r7] 25))
  replace X2 := X2.below (below_alloc1 _ (.cells #[.int .i32 r0, .int .i32 r1, .int .i32 r2, .int .i32 r3, .int .i32 r4, .int .i32 r5, .int .i32 r6, .int .i32 r7] 25))
  have X3 := Row.alloc w4 [.int .i32 r0, .int .i32 r1, .int .i32 r2, .int .i32 r3, .int .i32 r4, .int .i32 r5, .int .i32 r6, .int .i32 r7] 25
  (try simp only [World.size_alloc] at X3)
  replace HB := HB.alloc HB.size (.cells #[.int .i32 r8, .int .i32 r9, .int .i32 r10, .int .i32 r11, .int .i32 r12, .int .i32 r13, .int .i32 r14, .int .i32 r15] 25)
  replace X0 := X0.below (below_alloc1 _ (.cells #[.int .i32 r8, .int .i32 r9, .int .i32 r10, .int .i32 r11, .int .i32 r12, .int .i32 r13, .int .i32 r14, .int .i32 r15] 25))
  replace X1 := X1.below (below_alloc1 _ (.cells #[.int .i32 r8, .int .i32 r9, .int .i32 r10, .int .i32 r11, .int .i32 r12, .int .i32 r13, .int .i32 r14, .int .i32 r15] 25))
  replace X2 := X2.below (below_alloc1 _ (.cells #[.int .i32 r8, .int .i32 r9, .int .i32 r10, .int .i32 r11, .int .i32 r12, .int .i32 r13, .int .i32 r14, .int .i32 r15] 25))
  replace X3 := X3.below (below_alloc1 _ (.cells #[.int .i32 r8, .int .i32 r9, .int .i32 r10, .int .i32 r11, .int .i32 r12, .int .i32 r13, .int .i32 r14, .int .i32 r15] 25))
  have X4 := Row.alloc (w4.alloc (.cells #[.int .i32 r0, .int .i32 r1, .int .i32 r2, .int .i32 r3, .int .i32 r4, .int .i32 r5, .int .i32 r6, .int .i32 r7] 25)) [.int .i32 r8, .int .i32 r9, .int .i32 r10, .int .i32 r11, .int .i32 r12, .int .i32 r13, .int .i32 r14, .int .i32 r15] 25
  (try simp only [World.size_alloc] at X4)
  refine (eqHeap_true r0 r1 r2 r3 r4 r5 r6 r7 _).mono ?_
  rintro e w5 ⟨rfl, hb⟩
  clear e0_0 e0_1 e0_2 e0_3 e0_4 e0_5 e0_6 e0_7
  clear e1_0 e1_1 e1_2 e1_3 e1_4 e1_5 e1_6 e1_7
  clear e2_0 e2_1 e2_2 e2_3 e2_4 e2_5 e2_6 e2_7
  skip
  skip
  have hz5 := hb.size
  (try simp only [World.size_alloc] at hz5)
  replace HB := below_then HB HB.size hb
  replace X0 := X0.below hb
  have hl_0 := X0.lt
  obtain ⟨e0_0, e0_1, e0_2, e0_3, e0_4, e0_5, e0_6, e0_7⟩ := X0.cells8
  replace X1 := X1.below hb
  have hl_1 := X1.lt
  obtain ⟨e1_0, e1_1, e1_2, e1_3, e1_4, e1_5, e1_6, e1_7⟩ := X1.cells8
  replace X2 := X2.below hb
  have hl_2 := X2.lt
  obtain ⟨e2_0, e2_1, e2_2, e2_3, e2_4, e2_5, e2_6, e2_7⟩ := X2.cells8
  replace X3 := X3.below hb
  have hl_3 := X3.lt
  obtain ⟨e3_0, e3_1, e3_2, e3_3, e3_4, e3_5, e3_6, e3_7⟩ := X3.cells8
  replace X4 := X4.below hb
  have hl_4 := X4.lt
  obtain ⟨e4_0, e4_1, e4_2, e4_3, e4_4, e4_5, e4_6, e4_7⟩ := X4.cells8
  clear hb
  go_wp2_with fail
  refine (eqHeap_true r8 r9 r10 r11 r12 r13 r14 r15 _).mono ?_
  rintro e w6 ⟨rfl, hb⟩
  clear e0_0 e0_1 e0_2 e0_3 e0_4 e0_5 e0_6 e0_7
  clear e1_0 e1_1 e1_2 e1_3 e1_4 e1_5 e1_6 e1_7
  clear e2_0 e2_1 e2_2 e2_3 e2_4 e2_5 e2_6 e2_7
  clear e3_0 e3_1 e3_2 e3_3 e3_4 e3_5 e3_6 e3_7
  clear e4_0 e4_1 e4_2 e4_3 e4_4 e4_5 e4_6 e4_7
  have hz6 := hb.size
  (try simp only [World.size_alloc] at hz6)
  replace HB := below_then HB HB.size hb
  replace X0 := X0.below hb
  have hl_0 := X0.lt
  obtain ⟨e0_0, e0_1, e0_2, e0_3, e0_4, e0_5, e0_6, e0_7⟩ := X0.cells8
  replace X1 := X1.below hb
  have hl_1 := X1.lt
  obtain ⟨e1_0, e1_1, e1_2, e1_3, e1_4, e1_5, e1_6, e1_7⟩ := X1.cells8
  replace X2 := X2.below hb
  have hl_2 := X2.lt
  obtain ⟨e2_0, e2_1, e2_2, e2_3, e2_4, e2_5, e2_6, e2_7⟩ := X2.cells8
  replace X3 := X3.below hb
  have hl_3 := X3.lt
  obtain ⟨e3_0, e3_1, e3_2, e3_3, e3_4, e3_5, e3_6, e3_7⟩ := X3.cells8
  replace X4 := X4.below hb
  have hl_4 := X4.lt
  obtain ⟨e4_0, e4_1, e4_2, e4_3, e4_4, e4_5, e4_6, e4_7⟩ := X4.cells8
  clear hb
  go_wp2_with fail
  go_ret
  exact ⟨rfl, HB⟩
end Go.Proofs.Ytaglfmmlnpdmcaa
