/- The walk of the law FnExactSameYarns: its calls one after the other, each by its contract. -/
import Derived.Test.YthllecfbpipagaaY6
namespace Go.Proofs.Ythllecfbpipagaa
open Go.RowKit
set_option linter.unusedVariables false
set_option linter.unusedSimpArgs false
set_option maxHeartbeats 1000000 in
theorem walk_SameYarns (w : World) (A0 : Option Addr) (n0 c0 : Nat) (x0 : List (Int × Int × Int)) (hc0 : n0 ≤ c0) (R0 : Rds w A0 n0 3 YC x0) (g0 : ∀ x ∈ x0, ((Lit.int .i16 x.1).wf = true ∧ (Lit.int .i16 x.2.1).wf = true ∧ (Lit.int .i16 x.2.2).wf = true)) (b0 : n0 * 6 ≤ 140737488351232) (A1 : Option Addr) (n1 c1 : Nat) (x1 : List (Int × Int × Int)) (hc1 : n1 ≤ c1) (R1 : Rds w A1 n1 3 YC x1) (g1 : ∀ x ∈ x1, ((Lit.int .i16 x.1).wf = true ∧ (Lit.int .i16 x.2.1).wf = true ∧ (Lit.int .i16 x.2.2).wf = true)) (b1 : n1 * 6 ≤ 140737488351232) :
    Calls Try.prog 3 #[.slice A0 n0 c0, .slice A1 n1 c1] w fun e w' => e = .returned (.bool true) ∧ Below w.heap.size w w' := by
  have hR0 := R0.2.1
  have G0 := Lib.hid g0; clear g0 b0
  have hR1 := R1.2.1
  have G1 := Lib.hid g1; clear g1 b1
  by_cases hn0 : n0 ≤ 1048576
  rotate_left
  · go_enter Try.func3, Try.ntmps3
    go_wp2_with fail
    refine (szYarnS_gt A0 n0 c0 _ _ (by omega) (by omega) (by omega)).mono ?_
    rintro e w_ ⟨rfl, rfl⟩
    go_wp2_with fail
    go_ret
    exact ⟨rfl, Below.refl _ _⟩
  by_cases hn1 : n0 + n1 ≤ 1048576
  rotate_left
  · go_enter Try.func3, Try.ntmps3
    go_wp2_with fail
    refine (szYarnS_le A0 n0 c0 _ _ (by omega) (by omega)).mono ?_
    rintro e w_ ⟨rfl, rfl⟩
    go_wp2_with fail
    refine (szYarnS_gt A1 n1 c1 _ _ (by omega) (by omega) (by omega)).mono ?_
    rintro e w_ ⟨rfl, rfl⟩
    go_wp2_with fail
    go_ret
    exact ⟨rfl, Below.refl _ _⟩
  have hm0 : n0 ≤ 1048576 := by omega
  have hm1 : n1 ≤ 1048576 := by omega
  · have HB := Below.refl w.heap.size w
    go_enter Try.func3, Try.ntmps3
    go_wp2_with fail
    refine (szYarnS_le A0 n0 c0 _ _ (by omega) (by omega)).mono ?_
    rintro e w1 ⟨rfl, rfl⟩
    go_wp2_with fail
    refine (szYarnS_le A1 n1 c1 _ _ (by omega) (by omega)).mono ?_
    rintro e w1 ⟨rfl, rfl⟩
    go_wp2_with fail
    refine (toYarnS_any A0 n0 c0 x0 _ (R0.below HB) hm0).mono ?_
    rintro e w1 ⟨A_1, c_1, rfl, O1, hb⟩
    have hz1 := hb.size
    replace HB := below_then HB HB.size hb
    have U1 := Lib.hid (own_base O1)
    clear hb
    go_wp2_with fail
    refine (toYarnS_any A1 n1 c1 x1 _ (R1.below HB) hm1).mono ?_
    rintro e w2 ⟨A_2, c_2, rfl, O2, hb⟩
    replace O1 := own_below O1 hb
    have hz2 := hb.size
    replace HB := below_then HB HB.size hb
    have U2 := Lib.hid (own_base O2)
    clear hb
    go_wp2_with fail
    refine (sSameW A_1 n0 c_1 x0 A_2 n1 c_2 x1 _ (own_rdsY O1 (by have := hm0; omega)) G0 (own_rdsY O2 (by have := hm1; omega)) G1).mono ?_
    rintro e w3 ⟨rfl, hb⟩
    replace O1 := own_below O1 hb
    replace O2 := own_below O2 hb
    have hz3 := hb.size
    replace HB := below_then HB HB.size hb
    clear hb
    go_wp2_with fail
    refine (toYarnS_any A0 n0 c0 x0 _ (R0.below HB) hm0).mono ?_
    rintro e w4 ⟨A_4, c_4, rfl, O4, hb⟩
    replace O1 := own_below O1 hb
    replace O2 := own_below O2 hb
    have hz4 := hb.size
    replace HB := below_then HB HB.size hb
    have U4 := Lib.hid (own_base O4)
    clear hb
    go_wp2_with fail
    refine (toYarnS_any A1 n1 c1 x1 _ (R1.below HB) hm1).mono ?_
    rintro e w5 ⟨A_5, c_5, rfl, O5, hb⟩
    replace O1 := own_below O1 hb
    replace O2 := own_below O2 hb
    replace O4 := own_below O4 hb
    have hz5 := hb.size
    replace HB := below_then HB HB.size hb
    have U5 := Lib.hid (own_base O5)
    clear hb
    go_wp2_with fail
    refine (iSameW A_4 n0 c_4 x0 A_5 n1 c_5 x1 _ (own_rdsY O4 (by have := hm0; omega)) G0 (own_rdsY O5 (by have := hm1; omega)) G1).mono ?_
    rintro e w6 ⟨rfl, hb⟩
    replace O1 := own_below O1 hb
    replace O2 := own_below O2 hb
    replace O4 := own_below O4 hb
    replace O5 := own_below O5 hb
    have hz6 := hb.size
    replace HB := below_then HB HB.size hb
    clear hb
    go_wp2_with fail
    refine (toYarnS_any A0 n0 c0 x0 _ (R0.below HB) hm0).mono ?_
    rintro e w7 ⟨A_7, c_7, rfl, O7, hb⟩
    replace O1 := own_below O1 hb
    replace O2 := own_below O2 hb
    replace O4 := own_below O4 hb
    replace O5 := own_below O5 hb
    have hz7 := hb.size
    replace HB := below_then HB HB.size hb
    have U7 := Lib.hid (own_base O7)
    clear hb
    go_wp2_with fail
    refine (eqYarnS_true A_4 A_7 n0 c_4 c_7 x0 _ (own_rdsY O4 (by have := hm0; omega)) (own_rdsY O7 (by have := hm0; omega))).mono ?_
    rintro e w8 ⟨rfl, hb⟩
    replace O1 := own_below O1 hb
    replace O2 := own_below O2 hb
    replace O4 := own_below O4 hb
    replace O5 := own_below O5 hb
    replace O7 := own_below O7 hb
    have hz8 := hb.size
    replace HB := below_then HB HB.size hb
    clear hb
    go_wp2_with fail
    refine (toYarnS_any A1 n1 c1 x1 _ (R1.below HB) hm1).mono ?_
    rintro e w9 ⟨A_9, c_9, rfl, O9, hb⟩
    replace O1 := own_below O1 hb
    replace O2 := own_below O2 hb
    replace O4 := own_below O4 hb
    replace O5 := own_below O5 hb
    replace O7 := own_below O7 hb
    have hz9 := hb.size
    replace HB := below_then HB HB.size hb
    have U9 := Lib.hid (own_base O9)
    clear hb
    go_wp2_with fail
    refine (eqYarnS_true A_5 A_9 n1 c_5 c_9 x1 _ (own_rdsY O5 (by have := hm1; omega)) (own_rdsY O9 (by have := hm1; omega))).mono ?_
    rintro e w10 ⟨rfl, hb⟩
    replace O1 := own_below O1 hb
    replace O2 := own_below O2 hb
    replace O4 := own_below O4 hb
    replace O5 := own_below O5 hb
    replace O7 := own_below O7 hb
    replace O9 := own_below O9 hb
    have hz10 := hb.size
    replace HB := below_then HB HB.size hb
    clear hb
    go_wp2_with fail
    go_ret
    exact ⟨rfl, HB⟩
end Go.Proofs.Ythllecfbpipagaa
