/- The walk of the law FnExactCutYarn: its calls one after the other, each by its contract. -/
import Derived.Test.YthllecfbpipagaaY4
namespace Go.Proofs.Ythllecfbpipagaa
open Go.RowKit
set_option linter.unusedVariables false
set_option linter.unusedSimpArgs false
set_option maxHeartbeats 2000000 in
theorem walk_CutYarn (w : World) (x0 : Int × Int × Int) (g0 : (Lit.int .i16 x0.1).wf = true ∧ (Lit.int .i16 x0.2.1).wf = true ∧ (Lit.int .i16 x0.2.2).wf = true) (x1 : Int) (g1 : (Lit.int .i64 x1).wf = true) :
    Calls Try.prog 6 #[.agg #[.int .i16 x0.1, .int .i16 x0.2.1, .int .i16 x0.2.2], .int .i64 x1] w fun e w' => e = .returned (.bool true) ∧ Below w.heap.size w w' := by
  obtain ⟨a0, a1, a2⟩ := x0
  obtain ⟨q0_0, q0_1, q0_2⟩ := g0
  have B0_0 := bounds_i16 q0_0; clear q0_0; simp only [] at B0_0
  have B0_1 := bounds_i16 q0_1; clear q0_1; simp only [] at B0_1
  have B0_2 := bounds_i16 q0_2; clear q0_2; simp only [] at B0_2
  have B1 := bounds_i64 g1
  clear g1
  have CS := Lib.hid (fun w0 : World => sCutYarn a0 a1 a2 x1 w0 B0_0 B0_1 B0_2 B1)
  have CI := Lib.hid (fun w0 : World => iCutYarn a0 a1 a2 x1 w0 B0_0 B0_1 B0_2 B1)
  generalize hr0 : (jn (ctC a0 a1 a2 x1) x1) = r0 at CS CI
  clear hr0
  generalize hr1 : (jn (ctC a0 a1 a2 x1) (a1 * x1 / a0)) = r1 at CS CI
  clear hr1
  generalize hr2 : (jn (ctC a0 a1 a2 x1) (a2 * x1 / a0)) = r2 at CS CI
  clear hr2
  generalize hr3 : (jn (ctC a0 a1 a2 x1) (a0 - x1)) = r3 at CS CI
  clear hr3
  generalize hr4 : (jn (ctC a0 a1 a2 x1) (a1 - (a1 * x1 / a0))) = r4 at CS CI
  clear hr4
  generalize hr5 : (jn (ctC a0 a1 a2 x1) (a2 - (a2 * x1 / a0))) = r5 at CS CI
  clear hr5
  generalize hr6 : (ctC a0 a1 a2 x1) = r6 at CS CI
  clear hr6
  clear B0_0 B0_1 B0_2 B1
  have HB := Below.refl w.heap.size w
  change Calls Try.prog 6 #[.agg #[.int .i16 a0, .int .i16 a1, .int .i16 a2], .int .i64 x1] w _
  go_enter Try.func6, Try.ntmps6
  go_wp2_with fail
  replace HB := HB.alloc HB.size (.cells #[.int .i16 a0, .int .i16 a1, .int .i16 a2] 30)
  have X0 := Row.alloc w [.int .i16 a0, .int .i16 a1, .int .i16 a2] 30
  (try simp only [World.size_alloc] at X0)
  refine (toYarn a0 a1 a2 _).mono ?_
  rintro e w1 ⟨rfl, hb⟩
  have hz1 := hb.size
  (try simp only [World.size_alloc] at hz1)
  replace HB := below_then HB HB.size hb
  replace X0 := X0.below hb
  have hl_0 := X0.lt
  obtain ⟨e0_0, e0_1, e0_2⟩ := X0.cells3
  clear hb
  go_wp2_with fail
  refine (CS.out _).mono ?_
  rintro e w2 ⟨rfl, hb⟩
  clear e0_0 e0_1 e0_2
  have hz2 := hb.size
  (try simp only [World.size_alloc] at hz2)
  replace HB := below_then HB HB.size hb
  replace X0 := X0.below hb
  have hl_0 := X0.lt
  obtain ⟨e0_0, e0_1, e0_2⟩ := X0.cells3
  clear hb
  go_wp2_with fail
  replace HB := HB.alloc HB.size (.cells #[.int .i16 r0, .int .i16 r1, .int .i16 r2] 35)
  replace X0 := X0.below (below_alloc1 _ (.cells #[.int .i16 r0, .int .i16 r1, .int .i16 r2] 35))
  have X1 := Row.alloc w2 [.int .i16 r0, .int .i16 r1, .int .i16 r2] 35
  (try simp only [World.size_alloc] at X1)
  replace HB := HB.alloc HB.size (.cells #[.int .i16 r3, .int .i16 r4, .int .i16 r5] 35)
  replace X0 := X0.below (below_alloc1 _ (.cells #[.int .i16 r3, .int .i16 r4, .int .i16 r5] 35))
  replace X1 := X1.below (below_alloc1 _ (.cells #[.int .i16 r3, .int .i16 r4, .int .i16 r5] 35))
  have X2 := Row.alloc (w2.alloc (.cells #[.int .i16 r0, .int .i16 r1, .int .i16 r2] 35)) [.int .i16 r3, .int .i16 r4, .int .i16 r5] 35
  (try simp only [World.size_alloc] at X2)
  refine (toYarn a0 a1 a2 _).mono ?_
  rintro e w3 ⟨rfl, hb⟩
  clear e0_0 e0_1 e0_2
  skip
  skip
  have hz3 := hb.size
  (try simp only [World.size_alloc] at hz3)
  replace HB := below_then HB HB.size hb
  replace X0 := X0.below hb
  have hl_0 := X0.lt
  obtain ⟨e0_0, e0_1, e0_2⟩ := X0.cells3
  replace X1 := X1.below hb
  have hl_1 := X1.lt
  obtain ⟨e1_0, e1_1, e1_2⟩ := X1.cells3
  replace X2 := X2.below hb
  have hl_2 := X2.lt
  obtain ⟨e2_0, e2_1, e2_2⟩ := X2.cells3
  clear hb
  go_wp2_with fail
  refine (CI.out _).mono ?_
  rintro e w4 ⟨rfl, hb⟩
  clear e0_0 e0_1 e0_2
  clear e1_0 e1_1 e1_2
  clear e2_0 e2_1 e2_2
  have hz4 := hb.size
  (try simp only [World.size_alloc] at hz4)
  replace HB := below_then HB HB.size hb
  replace X0 := X0.below hb
  have hl_0 := X0.lt
  obtain ⟨e0_0, e0_1, e0_2⟩ := X0.cells3
  replace X1 := X1.below hb
  have hl_1 := X1.lt
  obtain ⟨e1_0, e1_1, e1_2⟩ := X1.cells3
  replace X2 := X2.below hb
  have hl_2 := X2.lt
  obtain ⟨e2_0, e2_1, e2_2⟩ := X2.cells3
  clear hb
  go_wp2_with fail
  replace HB := HB.alloc HB.size (.cells #[.int .i16 r0, .int .i16 r1, .int .i16 r2] 35)
  replace X0 := X0.below (below_alloc1 _ (.cells #[.int .i16 r0, .int .i16 r1, .int .i16 r2] 35))
  replace X1 := X1.below (below_alloc1 _ (.cells #[.int .i16 r0, .int .i16 r1, .int .i16 r2] 35))
  replace X2 := X2.below (below_alloc1 _ (.cells #[.int .i16 r0, .int .i16 r1, .int .i16 r2] 35))
  have X3 := Row.alloc w4 [.int .i16 r0, .int .i16 r1, .int .i16 r2] 35
  (try simp only [World.size_alloc] at X3)
  replace HB := HB.alloc HB.size (.cells #[.int .i16 r3, .int .i16 r4, .int .i16 r5] 35)
  replace X0 := X0.below (below_alloc1 _ (.cells #[.int .i16 r3, .int .i16 r4, .int .i16 r5] 35))
  replace X1 := X1.below (below_alloc1 _ (.cells #[.int .i16 r3, .int .i16 r4, .int .i16 r5] 35))
  replace X2 := X2.below (below_alloc1 _ (.cells #[.int .i16 r3, .int .i16 r4, .int .i16 r5] 35))
  replace X3 := X3.below (below_alloc1 _ (.cells #[.int .i16 r3, .int .i16 r4, .int .i16 r5] 35))
  have X4 := Row.alloc (w4.alloc (.cells #[.int .i16 r0, .int .i16 r1, .int .i16 r2] 35)) [.int .i16 r3, .int .i16 r4, .int .i16 r5] 35
  (try simp only [World.size_alloc] at X4)
  refine (eqYarn_true r0 r1 r2 _).mono ?_
  rintro e w5 ⟨rfl, hb⟩
  clear e0_0 e0_1 e0_2
  clear e1_0 e1_1 e1_2
  clear e2_0 e2_1 e2_2
  skip
  skip
  have hz5 := hb.size
  (try simp only [World.size_alloc] at hz5)
  replace HB := below_then HB HB.size hb
  replace X0 := X0.below hb
  have hl_0 := X0.lt
  obtain ⟨e0_0, e0_1, e0_2⟩ := X0.cells3
  replace X1 := X1.below hb
  have hl_1 := X1.lt
  obtain ⟨e1_0, e1_1, e1_2⟩ := X1.cells3
  replace X2 := X2.below hb
  have hl_2 := X2.lt
  obtain ⟨e2_0, e2_1, e2_2⟩ := X2.cells3
  replace X3 := X3.below hb
  have hl_3 := X3.lt
  obtain ⟨e3_0, e3_1, e3_2⟩ := X3.cells3
  replace X4 := X4.below hb
  have hl_4 := X4.lt
  obtain ⟨e4_0, e4_1, e4_2⟩ := X4.cells3
  clear hb
  go_wp2_with fail
  refine (eqYarn_true r3 r4 r5 _).mono ?_
  rintro e w6 ⟨rfl, hb⟩
  clear e0_0 e0_1 e0_2
  clear e1_0 e1_1 e1_2
  clear e2_0 e2_1 e2_2
  clear e3_0 e3_1 e3_2
  clear e4_0 e4_1 e4_2
  have hz6 := hb.size
  (try simp only [World.size_alloc] at hz6)
  replace HB := below_then HB HB.size hb
  replace X0 := X0.below hb
  have hl_0 := X0.lt
  obtain ⟨e0_0, e0_1, e0_2⟩ := X0.cells3
  replace X1 := X1.below hb
  have hl_1 := X1.lt
  obtain ⟨e1_0, e1_1, e1_2⟩ := X1.cells3
  replace X2 := X2.below hb
  have hl_2 := X2.lt
  obtain ⟨e2_0, e2_1, e2_2⟩ := X2.cells3
  replace X3 := X3.below hb
  have hl_3 := X3.lt
  obtain ⟨e3_0, e3_1, e3_2⟩ := X3.cells3
  replace X4 := X4.below hb
  have hl_4 := X4.lt
  obtain ⟨e4_0, e4_1, e4_2⟩ := X4.cells3
  clear hb
  go_wp2_with fail
  go_ret
  exact ⟨rfl, HB⟩
end Go.Proofs.Ythllecfbpipagaa
