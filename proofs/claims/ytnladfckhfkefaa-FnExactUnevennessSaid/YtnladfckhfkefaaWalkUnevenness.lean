/- The walk of the law FnExactUnevenness: its calls one after the other, each by its contract. -/
import Derived.Test.YtnladfckhfkefaaE2
namespace Go.Proofs.Ytnladfckhfkefaa
open Go.RowKit
set_option linter.unusedVariables false
set_option linter.unusedSimpArgs false
set_option maxHeartbeats 1000000 in
theorem walk_Unevenness (w : World) (A0 : Option Addr) (n0 c0 : Nat) (x0 : List Int) (hc0 : n0 ≤ c0) (R0 : Rds w A0 n0 1 (fun x : Int => [.int .i64 x]) x0) (g0 : ∀ x ∈ x0, (Lit.int .i64 x).wf = true) (b0 : n0 * 8 ≤ 140737488351232) :
    Calls Try.prog 11 #[.slice A0 n0 c0] w fun e w' => e = .returned (.bool true) ∧ Below w.heap.size w w' := by
  have hl0 := Lib.hid R0.1
  clear g0 b0
  by_cases hn0 : n0 ≤ 1048576
  rotate_left
  · go_enter Try.func11, Try.ntmps11
    go_wp2_with fail
    go_ret
    exact ⟨rfl, Below.refl _ _⟩
  · have HB := Below.refl w.heap.size w
    go_enter Try.func11, Try.ntmps11
    go_wp2_with fail
    refine (toInt64S_any A0 n0 c0 x0 _ (R0.below HB) hn0).mono ?_
    rintro e w1 ⟨A_1, c_1, rfl, O1, hb⟩
    have hz1 := hb.size
    replace HB := below_then HB HB.size hb
    have U1 := Lib.hid (own_base O1)
    clear hb
    go_wp2_with fail
    refine (sUnevenness A_1 n0 c_1 x0 _ (own_rds1 O1 (by have := hn0; omega))).mono ?_
    rintro e w2 ⟨rfl, hb⟩
    replace O1 := own_below O1 hb
    have hz2 := hb.size
    replace HB := below_then HB HB.size hb
    clear hb
    go_wp2_with fail
    replace HB := HB.alloc HB.size (.cells #[.int .i64 (unN x0), .int .i64 (unD x0)] 34)
    replace O1 := O1.alloc (.cells #[.int .i64 (unN x0), .int .i64 (unD x0)] 34)
    have X0 := Row.alloc w2 [.int .i64 (unN x0), .int .i64 (unD x0)] 34
    refine (toInt64S_any A0 n0 c0 x0 _ (R0.below HB) hn0).mono ?_
    rintro e w3 ⟨A_3, c_3, rfl, O3, hb⟩
    replace O1 := own_below O1 hb
    have hz3 := hb.size
    (try simp only [World.size_alloc] at hz3)
    replace HB := below_then HB HB.size hb
    replace X0 := X0.below hb
    have hl_0 := X0.lt
    have e0_0 := X0.cell 0
    have e0_1 := X0.cell 1
    simp only [List.getElem?_cons_zero, List.getElem?_cons_succ, Nat.add_zero] at e0_0 e0_1
    have U3 := Lib.hid (own_base O3)
    clear hb
    go_wp2_with fail
    refine (iUnevenness A_3 n0 c_3 x0 _ (own_rds1 O3 (by have := hn0; omega))).mono ?_
    rintro e w4 ⟨rfl, hb⟩
    replace O1 := own_below O1 hb
    replace O3 := own_below O3 hb
    have hz4 := hb.size
    (try simp only [World.size_alloc] at hz4)
    replace HB := below_then HB HB.size hb
    replace X0 := X0.below hb
    have hl_0 := X0.lt
    have e0_0 := X0.cell 0
    have e0_1 := X0.cell 1
    simp only [List.getElem?_cons_zero, List.getElem?_cons_succ, Nat.add_zero] at e0_0 e0_1
    clear hb
    go_wp2_with fail
    replace HB := HB.alloc HB.size (.cells #[.int .i64 (unN x0), .int .i64 (unD x0)] 34)
    replace O1 := O1.alloc (.cells #[.int .i64 (unN x0), .int .i64 (unD x0)] 34)
    replace O3 := O3.alloc (.cells #[.int .i64 (unN x0), .int .i64 (unD x0)] 34)
    replace X0 := X0.below (below_alloc1 _ (.cells #[.int .i64 (unN x0), .int .i64 (unD x0)] 34))
    have X1 := Row.alloc w4 [.int .i64 (unN x0), .int .i64 (unD x0)] 34
    refine (eqFraction_true _ _ _).mono ?_
    rintro e w5 ⟨rfl, hb⟩
    replace O1 := own_below O1 hb
    replace O3 := own_below O3 hb
    have hz5 := hb.size
    (try simp only [World.size_alloc] at hz5)
    replace HB := below_then HB HB.size hb
    replace X0 := X0.below hb
    have hl_0 := X0.lt
    have e0_0 := X0.cell 0
    have e0_1 := X0.cell 1
    simp only [List.getElem?_cons_zero, List.getElem?_cons_succ, Nat.add_zero] at e0_0 e0_1
    replace X1 := X1.below hb
    have hl_1 := X1.lt
    have e1_0 := X1.cell 0
    have e1_1 := X1.cell 1
    simp only [List.getElem?_cons_zero, List.getElem?_cons_succ, Nat.add_zero] at e1_0 e1_1
    clear hb
    go_wp2_with fail
    refine (toInt64S_any A0 n0 c0 x0 _ (R0.below HB) hn0).mono ?_
    rintro e w6 ⟨A_6, c_6, rfl, O6, hb⟩
    replace O1 := own_below O1 hb
    replace O3 := own_below O3 hb
    have hz6 := hb.size
    (try simp only [World.size_alloc] at hz6)
    replace HB := below_then HB HB.size hb
    replace X0 := X0.below hb
    have hl_0 := X0.lt
    have e0_0 := X0.cell 0
    have e0_1 := X0.cell 1
    simp only [List.getElem?_cons_zero, List.getElem?_cons_succ, Nat.add_zero] at e0_0 e0_1
    replace X1 := X1.below hb
    have hl_1 := X1.lt
    have e1_0 := X1.cell 0
    have e1_1 := X1.cell 1
    simp only [List.getElem?_cons_zero, List.getElem?_cons_succ, Nat.add_zero] at e1_0 e1_1
    have U6 := Lib.hid (own_base O6)
    clear hb
    go_wp2_with fail
    refine (eqInt64S_true A_3 A_6 n0 c_3 c_6 x0 _ (own_rds1 O3 (by have := hn0; omega)) (own_rds1 O6 (by have := hn0; omega))).mono ?_
    rintro e w7 ⟨rfl, hb⟩
    replace O1 := own_below O1 hb
    replace O3 := own_below O3 hb
    replace O6 := own_below O6 hb
    have hz7 := hb.size
    (try simp only [World.size_alloc] at hz7)
    replace HB := below_then HB HB.size hb
    replace X0 := X0.below hb
    have hl_0 := X0.lt
    have e0_0 := X0.cell 0
    have e0_1 := X0.cell 1
    simp only [List.getElem?_cons_zero, List.getElem?_cons_succ, Nat.add_zero] at e0_0 e0_1
    replace X1 := X1.below hb
    have hl_1 := X1.lt
    have e1_0 := X1.cell 0
    have e1_1 := X1.cell 1
    simp only [List.getElem?_cons_zero, List.getElem?_cons_succ, Nat.add_zero] at e1_0 e1_1
    clear hb
    go_wp2_with fail
    go_ret
    exact ⟨rfl, HB⟩
end Go.Proofs.Ytnladfckhfkefaa
