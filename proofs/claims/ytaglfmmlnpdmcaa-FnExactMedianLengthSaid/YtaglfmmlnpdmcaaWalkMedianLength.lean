/- The walk of the law FnExactMedianLength: its calls one after the other, each by its contract. -/
import Derived.Test.YtaglfmmlnpdmcaaR3
namespace Go.Proofs.Ytaglfmmlnpdmcaa
open Go.RowKit
set_option linter.unusedVariables false
set_option linter.unusedSimpArgs false
set_option maxHeartbeats 2000000 in
theorem walk_MedianLength (w : World) (x0 : List Int) (g0 : x0.length = 8 ∧ ∀ x ∈ x0, (Lit.int .i32 x).wf = true) :
    Calls Try.prog 3 #[.agg (nums .i32 x0).toArray] w fun e w' => e = .returned (.bool true) ∧ Below w.heap.size w w' := by
  obtain ⟨hl0, hw0⟩ := g0
  obtain ⟨a0, a1, a2, a3, a4, a5, a6, a7, rfl⟩ := heap8 hl0
  have HW0 := Lib.hid hw0; clear hw0 hl0
  have CS := Lib.hid (fun w0 : World => sMedianLength a0 a1 a2 a3 a4 a5 a6 a7 w0 HW0)
  have CI := Lib.hid (fun w0 : World => iMedianLength a0 a1 a2 a3 a4 a5 a6 a7 w0 HW0)
  generalize hr0 : (jn (smC [a0, a1, a2, a3, a4, a5, a6, a7]) (mdn [a0, a1, a2, a3, a4, a5, a6, a7])) = r0 at CS CI
  clear hr0
  generalize hr1 : (smC [a0, a1, a2, a3, a4, a5, a6, a7]) = r1 at CS CI
  clear hr1
  clear HW0
  have HB := Below.refl w.heap.size w
  change Calls Try.prog 3 #[.agg #[.int .i32 a0, .int .i32 a1, .int .i32 a2, .int .i32 a3, .int .i32 a4, .int .i32 a5, .int .i32 a6, .int .i32 a7]] w _
  go_enter Try.func3, Try.ntmps3
  go_wp2_with fail
  replace HB := HB.alloc HB.size (.cells #[.int .i32 a0, .int .i32 a1, .int .i32 a2, .int .i32 a3, .int .i32 a4, .int .i32 a5, .int .i32 a6, .int .i32 a7] 22)
  have X0 := Row.alloc w [.int .i32 a0, .int .i32 a1, .int .i32 a2, .int .i32 a3, .int .i32 a4, .int .i32 a5, .int .i32 a6, .int .i32 a7] 22
  (try simp only [World.size_alloc] at X0)
  refine (toHeap_any a0 a1 a2 a3 a4 a5 a6 a7 _).mono ?_
  rintro e w1 ⟨rfl, hb⟩
  have hz1 := hb.size
  (try simp only [World.size_alloc] at hz1)
  replace HB := below_then HB HB.size hb
  replace X0 := X0.below hb
  have hl_0 := X0.lt
  obtain ⟨e0_0, e0_1, e0_2, e0_3, e0_4, e0_5, e0_6, e0_7⟩ := X0.cells8
  clear hb
  go_wp2_with fail
  refine (CS.out _).mono ?_
  rintro e w2 ⟨rfl, hb⟩
  clear e0_0 e0_1 e0_2 e0_3 e0_4 e0_5 e0_6 e0_7
  have hz2 := hb.size
  (try simp only [World.size_alloc] at hz2)
  replace HB := below_then HB HB.size hb
  replace X0 := X0.below hb
  have hl_0 := X0.lt
  obtain ⟨e0_0, e0_1, e0_2, e0_3, e0_4, e0_5, e0_6, e0_7⟩ := X0.cells8
  clear hb
  go_wp2_with fail
  refine (toHeap_any a0 a1 a2 a3 a4 a5 a6 a7 _).mono ?_
  rintro e w3 ⟨rfl, hb⟩
  clear e0_0 e0_1 e0_2 e0_3 e0_4 e0_5 e0_6 e0_7
  have hz3 := hb.size
  (try simp only [World.size_alloc] at hz3)
  replace HB := below_then HB HB.size hb
  replace X0 := X0.below hb
  have hl_0 := X0.lt
  obtain ⟨e0_0, e0_1, e0_2, e0_3, e0_4, e0_5, e0_6, e0_7⟩ := X0.cells8
  clear hb
  go_wp2_with fail
  refine (CI.out _).mono ?_
  rintro e w4 ⟨rfl, hb⟩
  clear e0_0 e0_1 e0_2 e0_3 e0_4 e0_5 e0_6 e0_7
  have hz4 := hb.size
  (try simp only [World.size_alloc] at hz4)
  replace HB := below_then HB HB.size hb
  replace X0 := X0.below hb
  have hl_0 := X0.lt
  obtain ⟨e0_0, e0_1, e0_2, e0_3, e0_4, e0_5, e0_6, e0_7⟩ := X0.cells8
  clear hb
  go_wp2_with fail
  go_ret
  exact ⟨rfl, HB⟩
end Go.Proofs.Ytaglfmmlnpdmcaa
