/- The walk of the law FnExactTwistRate: its calls one after the other, each by its contract. -/
import Derived.Test.YthllecfbpipagaaY1
namespace Go.Proofs.Ythllecfbpipagaa
open Go.RowKit
set_option linter.unusedVariables false
set_option linter.unusedSimpArgs false
set_option maxHeartbeats 2000000 in
theorem walk_TwistRate (w : World) (x0 : Int × Int × Int) (g0 : (Lit.int .i16 x0.1).wf = true ∧ (Lit.int .i16 x0.2.1).wf = true ∧ (Lit.int .i16 x0.2.2).wf = true) :
    Calls Try.prog 4 #[.agg #[.int .i16 x0.1, .int .i16 x0.2.1, .int .i16 x0.2.2]] w fun e w' => e = .returned (.bool true) ∧ Below w.heap.size w w' := by
  obtain ⟨a0, a1, a2⟩ := x0
  obtain ⟨q0_0, q0_1, q0_2⟩ := g0
  have B0_0 := bounds_i16 q0_0; clear q0_0; simp only [] at B0_0
  have B0_1 := bounds_i16 q0_1; clear q0_1; simp only [] at B0_1
  have B0_2 := bounds_i16 q0_2; clear q0_2; simp only [] at B0_2
  have CS := Lib.hid (fun w0 : World => sTwistRate a0 a1 a2 w0 B0_0 B0_1 B0_2)
  have CI := Lib.hid (fun w0 : World => iTwistRate a0 a1 a2 w0 B0_0 B0_1 B0_2)
  generalize hr0 : (jn (yaC a0 a1 a2) (frN a1 a0)) = r0 at CS CI
  clear hr0
  generalize hr1 : (jn (yaC a0 a1 a2) (frD a1 a0)) = r1 at CS CI
  clear hr1
  generalize hr2 : (yaC a0 a1 a2) = r2 at CS CI
  clear hr2
  clear B0_0 B0_1 B0_2
  have HB := Below.refl w.heap.size w
  change Calls Try.prog 4 #[.agg #[.int .i16 a0, .int .i16 a1, .int .i16 a2]] w _
  go_enter Try.func4, Try.ntmps4
  go_wp2_with fail
  replace HB := HB.alloc HB.size (.cells #[.int .i16 a0, .int .i16 a1, .int .i16 a2] 30)
  have X0 := Row.alloc w [.int .i16 a0, .int .i16 a1, .int .i16 a2] 30
  (try simp only [World.size_alloc] at X0)
  refine (toYarn a0 a1 a2 _).mono ?_
  rintro e w1 ⟨rfl, hb⟩
  have hz1 := hb.size
  (try simp only [World.size_alloc] at hz1)
  replace HB := below_then HB HB.size hb
  replace X0 := X0.below hb
  have hl_0 := X0.lt
  have e0_0 := X0.cell 0
  have e0_1 := X0.cell 1
  have e0_2 := X0.cell 2
  simp only [List.getElem?_cons_zero, List.getElem?_cons_succ, Nat.add_zero] at e0_0 e0_1 e0_2
  clear hb
  go_wp2_with fail
  refine (CS.out _).mono ?_
  rintro e w2 ⟨rfl, hb⟩
  clear e0_0 e0_1 e0_2
  have hz2 := hb.size
  (try simp only [World.size_alloc] at hz2)
  replace HB := below_then HB HB.size hb
  replace X0 := X0.below hb
  have hl_0 := X0.lt
  have e0_0 := X0.cell 0
  have e0_1 := X0.cell 1
  have e0_2 := X0.cell 2
  simp only [List.getElem?_cons_zero, List.getElem?_cons_succ, Nat.add_zero] at e0_0 e0_1 e0_2
  clear hb
  go_wp2_with fail
  replace HB := HB.alloc HB.size (.cells #[.int .i64 r0, .int .i64 r1] 32)
  replace X0 := X0.below (below_alloc1 _ (.cells #[.int .i64 r0, .int .i64 r1] 32))
  have X1 := Row.alloc w2 [.int .i64 r0, .int .i64 r1] 32
  (try simp only [World.size_alloc] at X1)
  refine (toYarn a0 a1 a2 _).mono ?_
  rintro e w3 ⟨rfl, hb⟩
  clear e0_0 e0_1 e0_2
  skip
  have hz3 := hb.size
  (try simp only [World.size_alloc] at hz3)
  replace HB := below_then HB HB.size hb
  replace X0 := X0.below hb
  have hl_0 := X0.lt
  have e0_0 := X0.cell 0
  have e0_1 := X0.cell 1
  have e0_2 := X0.cell 2
  simp only [List.getElem?_cons_zero, List.getElem?_cons_succ, Nat.add_zero] at e0_0 e0_1 e0_2
  replace X1 := X1.below hb
  have hl_1 := X1.lt
  have e1_0 := X1.cell 0
  have e1_1 := X1.cell 1
  simp only [List.getElem?_cons_zero, List.getElem?_cons_succ, Nat.add_zero] at e1_0 e1_1
  clear hb
  go_wp2_with fail
  refine (CI.out _).mono ?_
  rintro e w4 ⟨rfl, hb⟩
  clear e0_0 e0_1 e0_2
  clear e1_0 e1_1
  have hz4 := hb.size
  (try simp only [World.size_alloc] at hz4)
  replace HB := below_then HB HB.size hb
  replace X0 := X0.below hb
  have hl_0 := X0.lt
  have e0_0 := X0.cell 0
  have e0_1 := X0.cell 1
  have e0_2 := X0.cell 2
  simp only [List.getElem?_cons_zero, List.getElem?_cons_succ, Nat.add_zero] at e0_0 e0_1 e0_2
  replace X1 := X1.below hb
  have hl_1 := X1.lt
  have e1_0 := X1.cell 0
  have e1_1 := X1.cell 1
  simp only [List.getElem?_cons_zero, List.getElem?_cons_succ, Nat.add_zero] at e1_0 e1_1
  clear hb
  go_wp2_with fail
  replace HB := HB.alloc HB.size (.cells #[.int .i64 r0, .int .i64 r1] 32)
  replace X0 := X0.below (below_alloc1 _ (.cells #[.int .i64 r0, .int .i64 r1] 32))
  replace X1 := X1.below (below_alloc1 _ (.cells #[.int .i64 r0, .int .i64 r1] 32))
  have X2 := Row.alloc w4 [.int .i64 r0, .int .i64 r1] 32
  (try simp only [World.size_alloc] at X2)
  refine (eqFraction_true r0 r1 _).mono ?_
  rintro e w5 ⟨rfl, hb⟩
  clear e0_0 e0_1 e0_2
  clear e1_0 e1_1
  skip
  have hz5 := hb.size
  (try simp only [World.size_alloc] at hz5)
  replace HB := below_then HB HB.size hb
  replace X0 := X0.below hb
  have hl_0 := X0.lt
  have e0_0 := X0.cell 0
  have e0_1 := X0.cell 1
  have e0_2 := X0.cell 2
  simp only [List.getElem?_cons_zero, List.getElem?_cons_succ, Nat.add_zero] at e0_0 e0_1 e0_2
  replace X1 := X1.below hb
  have hl_1 := X1.lt
  have e1_0 := X1.cell 0
  have e1_1 := X1.cell 1
  simp only [List.getElem?_cons_zero, List.getElem?_cons_succ, Nat.add_zero] at e1_0 e1_1
  replace X2 := X2.below hb
  have hl_2 := X2.lt
  have e2_0 := X2.cell 0
  have e2_1 := X2.cell 1
  simp only [List.getElem?_cons_zero, List.getElem?_cons_succ, Nat.add_zero] at e2_0 e2_1
  clear hb
  go_wp2_with fail
  go_ret
  exact ⟨rfl, HB⟩
end Go.Proofs.Ythllecfbpipagaa
