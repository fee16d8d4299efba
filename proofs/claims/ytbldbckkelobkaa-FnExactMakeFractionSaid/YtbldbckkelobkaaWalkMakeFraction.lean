/- The walk of the law FnExactMakeFraction: its calls one after the other, each by its contract. -/
import Derived.Test.YtbldbckkelobkaaM1
namespace Go.Proofs.Ytbldbckkelobkaa
open Go.RowKit
set_option linter.unusedVariables false
set_option linter.unusedSimpArgs false
set_option maxHeartbeats 2000000 in
theorem walk_MakeFraction (w : World) (x0 : Int) (g0 : (Lit.int .i64 x0).wf = true) (x1 : Int) (g1 : (Lit.int .i64 x1).wf = true) :
    Calls Try.prog 4 #[.int .i64 x0, .int .i64 x1] w fun e w' => e = .returned (.bool true) ∧ Below w.heap.size w w' := by
  have B0 := bounds_i64 g0
  clear g0
  have B1 := bounds_i64 g1
  clear g1
  have CS := Lib.hid (fun w0 : World => sMakeFraction x0 x1 w0 B0 B1)
  have CI := Lib.hid (fun w0 : World => iMakeFraction x0 x1 w0 B0 B1)
  generalize hr0 : (mfN x0 x1) = r0 at CS CI
  clear hr0
  generalize hr1 : (mfD x0 x1) = r1 at CS CI
  clear hr1
  generalize hr2 : (mfC x0 x1) = r2 at CS CI
  clear hr2
  clear B0 B1
  have HB := Below.refl w.heap.size w
  change Calls Try.prog 4 #[.int .i64 x0, .int .i64 x1] w _
  go_enter Try.func4, Try.ntmps4
  go_wp2_with fail
  refine (CS.out _).mono ?_
  rintro e w1 ⟨rfl, hb⟩
  have hz1 := hb.size
  (try simp only [World.size_alloc] at hz1)
  replace HB := below_then HB HB.size hb
  clear hb
  go_wp2_with fail
  replace HB := HB.alloc HB.size (.cells #[.int .i64 r0, .int .i64 r1] 29)
  have X0 := Row.alloc w1 [.int .i64 r0, .int .i64 r1] 29
  refine (CI.out _).mono ?_
  rintro e w2 ⟨rfl, hb⟩
  have hz2 := hb.size
  (try simp only [World.size_alloc] at hz2)
  replace HB := below_then HB HB.size hb
  replace X0 := X0.below hb
  have hl_0 := X0.lt
  have e0_0 := X0.cell 0
  have e0_1 := X0.cell 1
  simp only [List.getElem?_cons_zero, List.getElem?_cons_succ, Nat.add_zero] at e0_0 e0_1
  clear hb
  go_wp2_with fail
  replace HB := HB.alloc HB.size (.cells #[.int .i64 r0, .int .i64 r1] 29)
  replace X0 := X0.below (below_alloc1 _ (.cells #[.int .i64 r0, .int .i64 r1] 29))
  have X1 := Row.alloc w2 [.int .i64 r0, .int .i64 r1] 29
  refine (eqFraction_true r0 r1 _).mono ?_
  rintro e w3 ⟨rfl, hb⟩
  clear e0_0 e0_1
  skip
  have hz3 := hb.size
  (try simp only [World.size_alloc] at hz3)
  replace HB := below_then HB HB.size hb
  replace X0 := X0.below hb
  have hl_0 := X0.lt
  have e0_0 := X0.cell 0
  have e0_1 := X0.cell 1
  simp only [List.getElem?_cons_zero, List.getElem?_cons_succ, Nat.add_zero] at e0_0 e0_1
  replace X1 := X1.below hb
  have hl_1 := X1.lt
  have e1_0 := X1.cell 0
  have e1_1 := X1.cell 1
  simp only [List.getElem?_cons_zero, List.getElem?_cons_succ, Nat.add_zero] at e1_0 e1_1
  clear hb
  go_wp2_with fail
  go_ret
  exact ⟨rfl, HB⟩
end Go.Proofs.Ytbldbckkelobkaa
