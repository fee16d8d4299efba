/- The walk of the law FnExactBlendOf: its calls one after the other, each by its contract. -/
import Derived.Test.YtppkcihdgedgoaaU11
namespace Go.Proofs.Ytppkcihdgedgoaa
open Go.RowKit
set_option linter.unusedVariables false
set_option linter.unusedSimpArgs false
set_option maxHeartbeats 1000000 in
theorem walk_BlendOf (w : World) (A0 : Option Addr) (n0 c0 : Nat) (x0 : List (Int × List Int)) (hc0 : n0 ≤ c0) (R0 : Rds w A0 n0 9 FlC x0) (g0 : ∀ x ∈ x0, ((Lit.int .i8 x.1).wf = true ∧ x.2.length = 8 ∧ ∀ y ∈ x.2, (Lit.int .i32 y).wf = true)) (b0 : n0 * 36 ≤ 140737488351232) (A1 : Option Addr) (n1 c1 : Nat) (x1 : List Int) (hc1 : n1 ≤ c1) (R1 : Rds w A1 n1 1 (fun x : Int => [.int .i64 x]) x1) (g1 : ∀ x ∈ x1, (Lit.int .i64 x).wf = true) (b1 : n1 * 8 ≤ 140737488351232) :
    Calls Try.prog 5 #[.slice A0 n0 c0, .slice A1 n1 c1] w fun e w' => e = .returned (.bool true) ∧ Below w.heap.size w w' := by
  have hl1 := Lib.hid R1.1
  clear g1 b1
  have hR0 := R0.2.1
  have G0 := Lib.hid g0; clear g0 b0
  by_cases hn1 : n1 ≤ 1048576
  rotate_left
  · go_enter Try.func5, Try.ntmps5
    go_wp2_with fail
    go_ret
    exact ⟨rfl, Below.refl _ _⟩
  by_cases hn0 : n0 ≤ 1048576
  rotate_left
  · go_enter Try.func5, Try.ntmps5
    go_wp2_with fail
    refine (szFleeceS_gt A0 n0 c0 _ _ (by omega) (by omega) (by omega)).mono ?_
    rintro e w_ ⟨rfl, rfl⟩
    go_wp2_with fail
    go_ret
    exact ⟨rfl, Below.refl _ _⟩
  have hm0 : n0 ≤ 1048576 := by omega
  · have HB := Below.refl w.heap.size w
    go_enter Try.func5, Try.ntmps5
    go_wp2_with fail
    refine (szFleeceS_le A0 n0 c0 _ _ (by omega) (by omega)).mono ?_
    rintro e w1 ⟨rfl, rfl⟩
    go_wp2_with fail
    refine (toFleeceS_any A0 n0 c0 x0 _ (R0.below HB) (Lib.hid (FlOk.len G0.out)) hm0).mono ?_
    rintro e w1 ⟨A_1, c_1, rfl, O1, hb⟩
    have hz1 := hb.size
    replace HB := below_then HB HB.size hb
    have U1 := Lib.hid (own_base O1)
    clear hb
    go_wp2_with fail
    refine (toInt64S_any A1 n1 c1 x1 _ (R1.below HB) hn1).mono ?_
    rintro e w2 ⟨A_2, c_2, rfl, O2, hb⟩
    replace O1 := own_below O1 hb
    have hz2 := hb.size
    replace HB := below_then HB HB.size hb
    have U2 := Lib.hid (own_base O2)
    clear hb
    go_wp2_with fail
    refine (sBlendOf A_1 n0 c_1 x0 A_2 n1 c_2 x1 _ (own_rdsFl O1 (FlOk.len G0.out) (by have := hm0; omega)) G0 (by have := hm0; omega) (own_rds1 O2 (by have := hn1; omega)) (by have := hn1; omega)).mono ?_
    rintro e w3 ⟨A_3, c_3, rfl, O3, hb⟩
    replace O1 := own_below O1 hb
    replace O2 := own_below O2 hb
    have hz3 := hb.size
    replace HB := below_then HB HB.size hb
    have U3 := Lib.hid (own_base O3)
    clear hb
    go_wp2_with fail
    refine (toFleeceS_any A0 n0 c0 x0 _ (R0.below HB) (Lib.hid (FlOk.len G0.out)) hm0).mono ?_
    rintro e w4 ⟨A_4, c_4, rfl, O4, hb⟩
    replace O1 := own_below O1 hb
    replace O2 := own_below O2 hb
    replace O3 := own_below O3 hb
    have hz4 := hb.size
    replace HB := below_then HB HB.size hb
    have U4 := Lib.hid (own_base O4)
    clear hb
    go_wp2_with fail
    refine (toInt64S_any A1 n1 c1 x1 _ (R1.below HB) hn1).mono ?_
    rintro e w5 ⟨A_5, c_5, rfl, O5, hb⟩
    replace O1 := own_below O1 hb
    replace O2 := own_below O2 hb
    replace O3 := own_below O3 hb
    replace O4 := own_below O4 hb
    have hz5 := hb.size
    replace HB := below_then HB HB.size hb
    have U5 := Lib.hid (own_base O5)
    clear hb
    go_wp2_with fail
    refine (iBlendOf A_4 n0 c_4 x0 A_5 n1 c_5 x1 _ (own_rdsFl O4 (FlOk.len G0.out) (by have := hm0; omega)) G0 (by have := hm0; omega) (own_rds1 O5 (by have := hn1; omega)) (by have := hn1; omega)).mono ?_
    rintro e w6 ⟨A_6, c_6, rfl, O6, hb⟩
    replace O1 := own_below O1 hb
    replace O2 := own_below O2 hb
    replace O3 := own_below O3 hb
    replace O4 := own_below O4 hb
    replace O5 := own_below O5 hb
    have hz6 := hb.size
    replace HB := below_then HB HB.size hb
    have U6 := Lib.hid (own_base O6)
    clear hb
    go_wp2_with fail
    refine (eqFractionS_true A_6 A_3 (blR x0 x1).length c_6 c_3 (blR x0 x1) _ (own_rdsF O6 (by have := (blR_len x0 x1); omega)) (own_rdsF O3 (by have := (blR_len x0 x1); omega))).mono ?_
    rintro e w7 ⟨rfl, hb⟩
    replace O1 := own_below O1 hb
    replace O2 := own_below O2 hb
    replace O3 := own_below O3 hb
    replace O4 := own_below O4 hb
    replace O5 := own_below O5 hb
    replace O6 := own_below O6 hb
    have hz7 := hb.size
    replace HB := below_then HB HB.size hb
    clear hb
    go_wp2_with fail
    refine (toFleeceS_any A0 n0 c0 x0 _ (R0.below HB) (Lib.hid (FlOk.len G0.out)) hm0).mono ?_
    rintro e w8 ⟨A_8, c_8, rfl, O8, hb⟩
    replace O1 := own_below O1 hb
    replace O2 := own_below O2 hb
    replace O3 := own_below O3 hb
    replace O4 := own_below O4 hb
    replace O5 := own_below O5 hb
    replace O6 := own_below O6 hb
    have hz8 := hb.size
    replace HB := below_then HB HB.size hb
    have U8 := Lib.hid (own_base O8)
    clear hb
    go_wp2_with fail
    refine (eqFleeceS_true A_4 A_8 n0 c_4 c_8 x0 _ (own_rdsFl O4 (FlOk.len G0.out) (by have := hm0; omega)) (own_rdsFl O8 (FlOk.len G0.out) (by have := hm0; omega)) (Lib.hid (FlOk.len G0.out))).mono ?_
    rintro e w9 ⟨rfl, hb⟩
    replace O1 := own_below O1 hb
    replace O2 := own_below O2 hb
    replace O3 := own_below O3 hb
    replace O4 := own_below O4 hb
    replace O5 := own_below O5 hb
    replace O6 := own_below O6 hb
    replace O8 := own_below O8 hb
    have hz9 := hb.size
    replace HB := below_then HB HB.size hb
    clear hb
    go_wp2_with fail
    refine (toInt64S_any A1 n1 c1 x1 _ (R1.below HB) hn1).mono ?_
    rintro e w10 ⟨A_10, c_10, rfl, O10, hb⟩
    replace O1 := own_below O1 hb
    replace O2 := own_below O2 hb
    replace O3 := own_below O3 hb
    replace O4 := own_below O4 hb
    replace O5 := own_below O5 hb
    replace O6 := own_below O6 hb
    replace O8 := own_below O8 hb
    have hz10 := hb.size
    replace HB := below_then HB HB.size hb
    have U10 := Lib.hid (own_base O10)
    clear hb
    go_wp2_with fail
    refine (eqInt64S_true A_5 A_10 n1 c_5 c_10 x1 _ (own_rds1 O5 (by have := hn1; omega)) (own_rds1 O10 (by have := hn1; omega))).mono ?_
    rintro e w11 ⟨rfl, hb⟩
    replace O1 := own_below O1 hb
    replace O2 := own_below O2 hb
    replace O3 := own_below O3 hb
    replace O4 := own_below O4 hb
    replace O5 := own_below O5 hb
    replace O6 := own_below O6 hb
    replace O8 := own_below O8 hb
    replace O10 := own_below O10 hb
    have hz11 := hb.size
    replace HB := below_then HB HB.size hb
    clear hb
    go_wp2_with fail
    refine (markFleeceS_any _ _ A_4 n0 c_4 _ 1 _ O4 (by have := hm0; omega) (by omega) (by omega)).mono ?_
    rintro e w12 ⟨rfl, hg⟩
    replace O1 := own_apart O1 hg (fun k1 k2 h1 h2 => by have q1 := U1.out k1 h1; have q2 := U4.out k2 h2; omega)
    replace O2 := own_apart O2 hg (fun k1 k2 h1 h2 => by have q1 := U2.out k1 h1; have q2 := U4.out k2 h2; omega)
    replace O3 := own_apart O3 hg (fun k1 k2 h1 h2 => by have q1 := U3.out k1 h1; have q2 := U4.out k2 h2; omega)
    replace O5 := own_apart O5 hg (fun k1 k2 h1 h2 => by have q1 := U5.out k1 h1; have q2 := U4.out k2 h2; omega)
    replace O6 := own_apart O6 hg (fun k1 k2 h1 h2 => by have q1 := U6.out k1 h1; have q2 := U4.out k2 h2; omega)
    replace O8 := own_apart O8 hg (fun k1 k2 h1 h2 => by have q1 := U8.out k1 h1; have q2 := U4.out k2 h2; omega)
    replace O10 := own_apart O10 hg (fun k1 k2 h1 h2 => by have q1 := U10.out k1 h1; have q2 := U4.out k2 h2; omega)
    replace HB := HB.grown hg HB.size (fun k1 h1 => by have q1 := U4.out k1 h1; omega)
    have hz12 := hg.size
    clear hg O4 U4
    go_wp2_with fail
    refine (markInt64S_any _ _ A_5 n1 c_5 x1 (1 + 9 * (n0 : Int)) _ O5 (by have := hn1; omega) (by omega) (by omega)).mono ?_
    rintro e w13 ⟨rfl, O_, hg⟩
    replace O1 := own_apart O1 hg (fun k1 k2 h1 h2 => by have q1 := U1.out k1 h1; have q2 := U5.out k2 h2; omega)
    replace O2 := own_apart O2 hg (fun k1 k2 h1 h2 => by have q1 := U2.out k1 h1; have q2 := U5.out k2 h2; omega)
    replace O3 := own_apart O3 hg (fun k1 k2 h1 h2 => by have q1 := U3.out k1 h1; have q2 := U5.out k2 h2; omega)
    replace O6 := own_apart O6 hg (fun k1 k2 h1 h2 => by have q1 := U6.out k1 h1; have q2 := U5.out k2 h2; omega)
    replace O8 := own_apart O8 hg (fun k1 k2 h1 h2 => by have q1 := U8.out k1 h1; have q2 := U5.out k2 h2; omega)
    replace O10 := own_apart O10 hg (fun k1 k2 h1 h2 => by have q1 := U10.out k1 h1; have q2 := U5.out k2 h2; omega)
    replace HB := HB.grown hg HB.size (fun k1 h1 => by have q1 := U5.out k1 h1; omega)
    have hz13 := hg.size
    replace O5 := O_
    clear hg O_
    go_wp2_with fail
    refine (eqFractionS_true A_6 A_3 (blR x0 x1).length c_6 c_3 (blR x0 x1) _ (own_rdsF O6 (by have := (blR_len x0 x1); omega)) (own_rdsF O3 (by have := (blR_len x0 x1); omega))).mono ?_
    rintro e w14 ⟨rfl, hb⟩
    replace O1 := own_below O1 hb
    replace O2 := own_below O2 hb
    replace O3 := own_below O3 hb
    replace O5 := own_below O5 hb
    replace O6 := own_below O6 hb
    replace O8 := own_below O8 hb
    replace O10 := own_below O10 hb
    have hz14 := hb.size
    replace HB := below_then HB HB.size hb
    clear hb
    go_wp2_with fail
    refine (markFractionS_any _ _ A_6 (blR x0 x1).length c_6 (blR x0 x1) 1 _ O6 (by have := (blR_len x0 x1); omega) (by omega) (by omega)).mono ?_
    rintro e w15 ⟨rfl, O_, hg⟩
    replace O1 := own_apart O1 hg (fun k1 k2 h1 h2 => by have q1 := U1.out k1 h1; have q2 := U6.out k2 h2; omega)
    replace O2 := own_apart O2 hg (fun k1 k2 h1 h2 => by have q1 := U2.out k1 h1; have q2 := U6.out k2 h2; omega)
    replace O3 := own_apart O3 hg (fun k1 k2 h1 h2 => by have q1 := U3.out k1 h1; have q2 := U6.out k2 h2; omega)
    replace O5 := own_apart O5 hg (fun k1 k2 h1 h2 => by have q1 := U5.out k1 h1; have q2 := U6.out k2 h2; omega)
    replace O8 := own_apart O8 hg (fun k1 k2 h1 h2 => by have q1 := U8.out k1 h1; have q2 := U6.out k2 h2; omega)
    replace O10 := own_apart O10 hg (fun k1 k2 h1 h2 => by have q1 := U10.out k1 h1; have q2 := U6.out k2 h2; omega)
    replace HB := HB.grown hg HB.size (fun k1 h1 => by have q1 := U6.out k1 h1; omega)
    have hz15 := hg.size
    replace O6 := O_
    clear hg O_
    go_wp2_with fail
    refine (heldFractionS_any A_6 (blR x0 x1).length c_6 1 _ (own_rdsF O6 (by have := (blR_len x0 x1); omega)) (by have := (blR_len x0 x1); omega) (by omega) (by omega)).mono ?_
    rintro e w16 ⟨rfl, rfl⟩
    go_wp2_with fail
    refine (toFleeceS_any A0 n0 c0 x0 _ (R0.below HB) (Lib.hid (FlOk.len G0.out)) hm0).mono ?_
    rintro e w16 ⟨A_16, c_16, rfl, O16, hb⟩
    replace O1 := own_below O1 hb
    replace O2 := own_below O2 hb
    replace O3 := own_below O3 hb
    replace O5 := own_below O5 hb
    replace O6 := own_below O6 hb
    replace O8 := own_below O8 hb
    replace O10 := own_below O10 hb
    have hz16 := hb.size
    replace HB := below_then HB HB.size hb
    have U16 := Lib.hid (own_base O16)
    clear hb
    go_wp2_with fail
    refine (toInt64S_any A1 n1 c1 x1 _ (R1.below HB) hn1).mono ?_
    rintro e w17 ⟨A_17, c_17, rfl, O17, hb⟩
    replace O1 := own_below O1 hb
    replace O2 := own_below O2 hb
    replace O3 := own_below O3 hb
    replace O5 := own_below O5 hb
    replace O6 := own_below O6 hb
    replace O8 := own_below O8 hb
    replace O10 := own_below O10 hb
    replace O16 := own_below O16 hb
    have hz17 := hb.size
    replace HB := below_then HB HB.size hb
    have U17 := Lib.hid (own_base O17)
    clear hb
    go_wp2_with fail
    refine (iBlendOf A_16 n0 c_16 x0 A_17 n1 c_17 x1 _ (own_rdsFl O16 (FlOk.len G0.out) (by have := hm0; omega)) G0 (by have := hm0; omega) (own_rds1 O17 (by have := hn1; omega)) (by have := hn1; omega)).mono ?_
    rintro e w18 ⟨A_18, c_18, rfl, O18, hb⟩
    replace O1 := own_below O1 hb
    replace O2 := own_below O2 hb
    replace O3 := own_below O3 hb
    replace O5 := own_below O5 hb
    replace O6 := own_below O6 hb
    replace O8 := own_below O8 hb
    replace O10 := own_below O10 hb
    replace O16 := own_below O16 hb
    replace O17 := own_below O17 hb
    have hz18 := hb.size
    replace HB := below_then HB HB.size hb
    have U18 := Lib.hid (own_base O18)
    clear hb
    go_wp2_with fail
    refine (eqFractionS_true A_18 A_3 (blR x0 x1).length c_18 c_3 (blR x0 x1) _ (own_rdsF O18 (by have := (blR_len x0 x1); omega)) (own_rdsF O3 (by have := (blR_len x0 x1); omega))).mono ?_
    rintro e w19 ⟨rfl, hb⟩
    replace O1 := own_below O1 hb
    replace O2 := own_below O2 hb
    replace O3 := own_below O3 hb
    replace O5 := own_below O5 hb
    replace O6 := own_below O6 hb
    replace O8 := own_below O8 hb
    replace O10 := own_below O10 hb
    replace O16 := own_below O16 hb
    replace O17 := own_below O17 hb
    replace O18 := own_below O18 hb
    have hz19 := hb.size
    replace HB := below_then HB HB.size hb
    clear hb
    go_wp2_with fail
    refine (heldFractionS_any A_6 (blR x0 x1).length c_6 1 _ (own_rdsF O6 (by have := (blR_len x0 x1); omega)) (by have := (blR_len x0 x1); omega) (by omega) (by omega)).mono ?_
    rintro e w20 ⟨rfl, rfl⟩
    go_wp2_with fail
    go_ret
    exact ⟨rfl, HB⟩
end Go.Proofs.Ytppkcihdgedgoaa
