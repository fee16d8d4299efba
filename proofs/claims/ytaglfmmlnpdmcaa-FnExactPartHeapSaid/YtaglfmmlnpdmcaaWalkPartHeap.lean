/- The walk of the law FnExactPartHeap: its calls one after the other, each by its contract. -/
import Derived.Test.YtaglfmmlnpdmcaaT3
namespace Go.Proofs.Ytaglfmmlnpdmcaa
open Go.RowKit
set_option linter.unusedVariables false
set_option linter.unusedSimpArgs false
set_option maxHeartbeats 1000000 in
theorem walk_PartHeap (w : World) (x0 : List Int) (g0 : x0.length = 8 ∧ ∀ x ∈ x0, (Lit.int .i32 x).wf = true) (x1 : Int) (g1 : (Lit.int .i64 x1).wf = true) :
    Calls Try.prog 5 #[.agg (nums .i32 x0).toArray, .int .i64 x1] w fun e w' => e = .returned (.bool true) ∧ Below w.heap.size w w' := by
  obtain ⟨hl0, hw0⟩ := g0
  obtain ⟨a0, a1, a2, a3, a4, a5, a6, a7, rfl⟩ := heap8 hl0
  have HW0 := Lib.hid hw0; clear hw0 hl0
  change Calls Try.prog 5 #[.agg #[.int .i32 a0, .int .i32 a1, .int .i32 a2, .int .i32 a3, .int .i32 a4, .int .i32 a5, .int .i32 a6, .int .i32 a7], .int .i64 x1] w _
  · have HB := Below.refl w.heap.size w
    go_enter Try.func5, Try.ntmps5
    go_wp2_with fail
    replace HB := HB.alloc HB.size (.cells #[.int .i32 a0, .int .i32 a1, .int .i32 a2, .int .i32 a3, .int .i32 a4, .int .i32 a5, .int .i32 a6, .int .i32 a7] 22)
    have X0 := Row.alloc w [.int .i32 a0, .int .i32 a1, .int .i32 a2, .int .i32 a3, .int .i32 a4, .int .i32 a5, .int .i32 a6, .int .i32 a7] 22
    refine (toHeap_any a0 a1 a2 a3 a4 a5 a6 a7 _).mono ?_
    rintro e w1 ⟨rfl, hb⟩
    have hz1 := hb.size
    (try simp only [World.size_alloc] at hz1)
    replace HB := below_then HB HB.size hb
    replace X0 := X0.below hb
    have hl_0 := X0.lt
    have e0_0 := X0.cell 0
    have e0_1 := X0.cell 1
    have e0_2 := X0.cell 2
    have e0_3 := X0.cell 3
    have e0_4 := X0.cell 4
    have e0_5 := X0.cell 5
    have e0_6 := X0.cell 6
    have e0_7 := X0.cell 7
    simp only [List.getElem?_cons_zero, List.getElem?_cons_succ, Nat.add_zero] at e0_0 e0_1 e0_2 e0_3 e0_4 e0_5 e0_6 e0_7
    clear hb
    go_wp2_with fail
    refine (sPartHeap a0 a1 a2 a3 a4 a5 a6 a7 x1 _ HW0 g1).mono ?_
    rintro e w2 ⟨A_2, c_2, rfl, O2, hb⟩
    have hz2 := hb.size
    (try simp only [World.size_alloc] at hz2)
    replace HB := below_then HB HB.size hb
    replace X0 := X0.below hb
    have hl_0 := X0.lt
    have e0_0 := X0.cell 0
    have e0_1 := X0.cell 1
    have e0_2 := X0.cell 2
    have e0_3 := X0.cell 3
    have e0_4 := X0.cell 4
    have e0_5 := X0.cell 5
    have e0_6 := X0.cell 6
    have e0_7 := X0.cell 7
    simp only [List.getElem?_cons_zero, List.getElem?_cons_succ, Nat.add_zero] at e0_0 e0_1 e0_2 e0_3 e0_4 e0_5 e0_6 e0_7
    have U2 := Lib.hid (own_base O2)
    clear hb
    go_wp2_with fail
    refine (toHeap_any a0 a1 a2 a3 a4 a5 a6 a7 _).mono ?_
    rintro e w3 ⟨rfl, hb⟩
    replace O2 := own_below O2 hb
    have hz3 := hb.size
    (try simp only [World.size_alloc] at hz3)
    replace HB := below_then HB HB.size hb
    replace X0 := X0.below hb
    have hl_0 := X0.lt
    have e0_0 := X0.cell 0
    have e0_1 := X0.cell 1
    have e0_2 := X0.cell 2
    have e0_3 := X0.cell 3
    have e0_4 := X0.cell 4
    have e0_5 := X0.cell 5
    have e0_6 := X0.cell 6
    have e0_7 := X0.cell 7
    simp only [List.getElem?_cons_zero, List.getElem?_cons_succ, Nat.add_zero] at e0_0 e0_1 e0_2 e0_3 e0_4 e0_5 e0_6 e0_7
    clear hb
    go_wp2_with fail
    refine (iPartHeap a0 a1 a2 a3 a4 a5 a6 a7 x1 _ HW0 g1).mono ?_
    rintro e w4 ⟨A_4, c_4, rfl, O4, hb⟩
    replace O2 := own_below O2 hb
    have hz4 := hb.size
    (try simp only [World.size_alloc] at hz4)
    replace HB := below_then HB HB.size hb
    replace X0 := X0.below hb
    have hl_0 := X0.lt
    have e0_0 := X0.cell 0
    have e0_1 := X0.cell 1
    have e0_2 := X0.cell 2
    have e0_3 := X0.cell 3
    have e0_4 := X0.cell 4
    have e0_5 := X0.cell 5
    have e0_6 := X0.cell 6
    have e0_7 := X0.cell 7
    simp only [List.getElem?_cons_zero, List.getElem?_cons_succ, Nat.add_zero] at e0_0 e0_1 e0_2 e0_3 e0_4 e0_5 e0_6 e0_7
    have U4 := Lib.hid (own_base O4)
    clear hb
    go_wp2_with fail
    refine (eqHeapS_true A_4 A_2 (phR [a0, a1, a2, a3, a4, a5, a6, a7] x1).length c_4 c_2 (phR [a0, a1, a2, a3, a4, a5, a6, a7] x1) _ (own_rdsH O4 (by have := (phR_len [a0, a1, a2, a3, a4, a5, a6, a7] x1); omega)) (own_rdsH O2 (by have := (phR_len [a0, a1, a2, a3, a4, a5, a6, a7] x1); omega))).mono ?_
    rintro e w5 ⟨rfl, hb⟩
    replace O2 := own_below O2 hb
    replace O4 := own_below O4 hb
    have hz5 := hb.size
    (try simp only [World.size_alloc] at hz5)
    replace HB := below_then HB HB.size hb
    replace X0 := X0.below hb
    have hl_0 := X0.lt
    have e0_0 := X0.cell 0
    have e0_1 := X0.cell 1
    have e0_2 := X0.cell 2
    have e0_3 := X0.cell 3
    have e0_4 := X0.cell 4
    have e0_5 := X0.cell 5
    have e0_6 := X0.cell 6
    have e0_7 := X0.cell 7
    simp only [List.getElem?_cons_zero, List.getElem?_cons_succ, Nat.add_zero] at e0_0 e0_1 e0_2 e0_3 e0_4 e0_5 e0_6 e0_7
    clear hb
    go_wp2_with fail
    refine (markHeapS_any _ _ A_4 (phR [a0, a1, a2, a3, a4, a5, a6, a7] x1).length c_4 (phR [a0, a1, a2, a3, a4, a5, a6, a7] x1) 1 _ O4 (by have := (phR_len [a0, a1, a2, a3, a4, a5, a6, a7] x1); omega) (by omega) (by omega)).mono ?_
    rintro e w6 ⟨rfl, O_, hg⟩
    replace O2 := own_apart O2 hg (fun k1 k2 h1 h2 => by have q1 := U2.out k1 h1; have q2 := U4.out k2 h2; omega)
    replace HB := HB.grown hg HB.size (fun k1 h1 => by have q1 := U4.out k1 h1; omega)
    replace X0 : Row _ _ _ _ := (hg.block _ X0.lt (by intro e; first | (have q1 := U4.out _ e; omega) | (have q1 := U4.out _ e.symm; omega))).trans X0
    have hl_0 := X0.lt
    have e0_0 := X0.cell 0
    have e0_1 := X0.cell 1
    have e0_2 := X0.cell 2
    have e0_3 := X0.cell 3
    have e0_4 := X0.cell 4
    have e0_5 := X0.cell 5
    have e0_6 := X0.cell 6
    have e0_7 := X0.cell 7
    simp only [List.getElem?_cons_zero, List.getElem?_cons_succ, Nat.add_zero] at e0_0 e0_1 e0_2 e0_3 e0_4 e0_5 e0_6 e0_7
    have hz6 := hg.size
    replace O4 := O_
    clear hg O_
    go_wp2_with fail
    refine (heldHeapS_any A_4 (phR [a0, a1, a2, a3, a4, a5, a6, a7] x1).length c_4 1 _ (own_rdsH O4 (by have := (phR_len [a0, a1, a2, a3, a4, a5, a6, a7] x1); omega)) (by have := (phR_len [a0, a1, a2, a3, a4, a5, a6, a7] x1); omega) (by omega) (by omega)).mono ?_
    rintro e w7 ⟨rfl, rfl⟩
    go_wp2_with fail
    refine (toHeap_any a0 a1 a2 a3 a4 a5 a6 a7 _).mono ?_
    rintro e w7 ⟨rfl, hb⟩
    replace O2 := own_below O2 hb
    replace O4 := own_below O4 hb
    have hz7 := hb.size
    (try simp only [World.size_alloc] at hz7)
    replace HB := below_then HB HB.size hb
    replace X0 := X0.below hb
    have hl_0 := X0.lt
    have e0_0 := X0.cell 0
    have e0_1 := X0.cell 1
    have e0_2 := X0.cell 2
    have e0_3 := X0.cell 3
    have e0_4 := X0.cell 4
    have e0_5 := X0.cell 5
    have e0_6 := X0.cell 6
    have e0_7 := X0.cell 7
    simp only [List.getElem?_cons_zero, List.getElem?_cons_succ, Nat.add_zero] at e0_0 e0_1 e0_2 e0_3 e0_4 e0_5 e0_6 e0_7
    clear hb
    go_wp2_with fail
    refine (iPartHeap a0 a1 a2 a3 a4 a5 a6 a7 x1 _ HW0 g1).mono ?_
    rintro e w8 ⟨A_8, c_8, rfl, O8, hb⟩
    replace O2 := own_below O2 hb
    replace O4 := own_below O4 hb
    have hz8 := hb.size
    (try simp only [World.size_alloc] at hz8)
    replace HB := below_then HB HB.size hb
    replace X0 := X0.below hb
    have hl_0 := X0.lt
    have e0_0 := X0.cell 0
    have e0_1 := X0.cell 1
    have e0_2 := X0.cell 2
    have e0_3 := X0.cell 3
    have e0_4 := X0.cell 4
    have e0_5 := X0.cell 5
    have e0_6 := X0.cell 6
    have e0_7 := X0.cell 7
    simp only [List.getElem?_cons_zero, List.getElem?_cons_succ, Nat.add_zero] at e0_0 e0_1 e0_2 e0_3 e0_4 e0_5 e0_6 e0_7
    have U8 := Lib.hid (own_base O8)
    clear hb
    go_wp2_with fail
    refine (eqHeapS_true A_8 A_2 (phR [a0, a1, a2, a3, a4, a5, a6, a7] x1).length c_8 c_2 (phR [a0, a1, a2, a3, a4, a5, a6, a7] x1) _ (own_rdsH O8 (by have := (phR_len [a0, a1, a2, a3, a4, a5, a6, a7] x1); omega)) (own_rdsH O2 (by have := (phR_len [a0, a1, a2, a3, a4, a5, a6, a7] x1); omega))).mono ?_
    rintro e w9 ⟨rfl, hb⟩
    replace O2 := own_below O2 hb
    replace O4 := own_below O4 hb
    replace O8 := own_below O8 hb
    have hz9 := hb.size
    (try simp only [World.size_alloc] at hz9)
    replace HB := below_then HB HB.size hb
    replace X0 := X0.below hb
    have hl_0 := X0.lt
    have e0_0 := X0.cell 0
    have e0_1 := X0.cell 1
    have e0_2 := X0.cell 2
    have e0_3 := X0.cell 3
    have e0_4 := X0.cell 4
    have e0_5 := X0.cell 5
    have e0_6 := X0.cell 6
    have e0_7 := X0.cell 7
    simp only [List.getElem?_cons_zero, List.getElem?_cons_succ, Nat.add_zero] at e0_0 e0_1 e0_2 e0_3 e0_4 e0_5 e0_6 e0_7
    clear hb
    go_wp2_with fail
    refine (heldHeapS_any A_4 (phR [a0, a1, a2, a3, a4, a5, a6, a7] x1).length c_4 1 _ (own_rdsH O4 (by have := (phR_len [a0, a1, a2, a3, a4, a5, a6, a7] x1); omega)) (by have := (phR_len [a0, a1, a2, a3, a4, a5, a6, a7] x1); omega) (by omega) (by omega)).mono ?_
    rintro e w10 ⟨rfl, rfl⟩
    go_wp2_with fail
    go_ret
    exact ⟨rfl, HB⟩
end Go.Proofs.Ytaglfmmlnpdmcaa
