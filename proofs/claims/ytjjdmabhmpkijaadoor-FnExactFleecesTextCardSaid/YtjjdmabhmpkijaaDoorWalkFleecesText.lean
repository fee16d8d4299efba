/- The walk of the law FnExactFleecesText: its calls one after the other, each by its contract. -/
import Derived.Test.YtjjdmabhmpkijaaDoorL2
namespace Go.Proofs.YtjjdmabhmpkijaaDoor
open Go.RowKit
set_option linter.unusedVariables false
set_option linter.unusedSimpArgs false
set_option maxHeartbeats 1000000 in
theorem walk_FleecesText (w : World) (A0 : Option Addr) (n0 c0 : Nat) (x0 : List (Int × List Int)) (hc0 : n0 ≤ c0) (R0 : Rds w A0 n0 9 FlC x0) (g0 : ∀ x ∈ x0, ((Lit.int .i8 x.1).wf = true ∧ x.2.length = 8 ∧ ∀ y ∈ x.2, (Lit.int .i32 y).wf = true)) (b0 : n0 * 36 ≤ 140737488351232) (hT : Tb w.heap.size w) :
    Calls Tryd.prog 3 #[.slice A0 n0 c0] w fun e w' => e = .returned (.bool true) ∧ Below w.heap.size w w' := by
  have hR0 := R0.2.1
  have G0 := Lib.hid g0; clear g0 b0
  by_cases hn0 : n0 ≤ 1048576
  rotate_left
  · go_enter Tryd.func3, Tryd.ntmps3
    go_wp2_with fail
    refine (szFleeceS_gt A0 n0 c0 _ _ (by omega) (by omega) (by omega)).mono ?_
    rintro e w_ ⟨rfl, rfl⟩
    go_wp2_with fail
    go_ret
    exact ⟨rfl, by first | exact Below.refl _ _ | go_grown⟩
  have hm0 : n0 ≤ 1048576 := by omega
  · have HB := Below.refl w.heap.size w
    go_enter Tryd.func3, Tryd.ntmps3
    go_wp2_with fail
    refine (szFleeceS_le A0 n0 c0 _ _ (by omega) (by omega)).mono ?_
    rintro e w1 ⟨rfl, rfl⟩
    go_wp2_with fail
    refine (toFleeceS_any A0 n0 c0 x0 _ (R0.below HB) (Lib.hid (FlOk.len G0.out)) hm0).mono ?_
    rintro e w1 ⟨A_1, c_1, rfl, O1, hb⟩
    have hz1 := hb.size
    replace HB := below_then HB HB.size hb
    have U1 := Lib.hid (own_base O1)
    clear hb
    go_wp2_with fail
    refine (sFleecesText A_1 n0 c_1 x0 _ (own_rdsFl O1 (FlOk.len G0.out) (by have := hm0; omega)) G0).mono ?_
    rintro e w2 ⟨rfl, hb⟩
    replace O1 := own_below O1 hb
    have hz2 := hb.size
    replace HB := below_then HB HB.size hb
    clear hb
    go_wp2_with fail
    refine (toFleeceS_any A0 n0 c0 x0 _ (R0.below HB) (Lib.hid (FlOk.len G0.out)) hm0).mono ?_
    rintro e w3 ⟨A_3, c_3, rfl, O3, hb⟩
    replace O1 := own_below O1 hb
    have hz3 := hb.size
    replace HB := below_then HB HB.size hb
    have U3 := Lib.hid (own_base O3)
    clear hb
    go_wp2_with fail
    refine (iFleecesText w.heap.size A_3 n0 c_3 x0 _ (own_rdsFl O3 (FlOk.len G0.out) (by have := hm0; omega)) G0 (hT.on HB) HB.size).mono ?_
    rintro e w4 ⟨rfl, hb⟩
    replace O1 := own_below O1 hb
    replace O3 := own_below O3 hb
    have hz4 := hb.size
    replace HB := below_then HB HB.size hb
    clear hb
    go_wp2_with fail
    refine (toFleeceS_any A0 n0 c0 x0 _ (R0.below HB) (Lib.hid (FlOk.len G0.out)) hm0).mono ?_
    rintro e w5 ⟨A_5, c_5, rfl, O5, hb⟩
    replace O1 := own_below O1 hb
    replace O3 := own_below O3 hb
    have hz5 := hb.size
    replace HB := below_then HB HB.size hb
    have U5 := Lib.hid (own_base O5)
    clear hb
    go_wp2_with fail
    refine (eqFleeceS_true A_3 A_5 n0 c_3 c_5 x0 _ (own_rdsFl O3 (FlOk.len G0.out) (by have := hm0; omega)) (own_rdsFl O5 (FlOk.len G0.out) (by have := hm0; omega)) (Lib.hid (FlOk.len G0.out))).mono ?_
    rintro e w6 ⟨rfl, hb⟩
    replace O1 := own_below O1 hb
    replace O3 := own_below O3 hb
    replace O5 := own_below O5 hb
    have hz6 := hb.size
    replace HB := below_then HB HB.size hb
    clear hb
    go_wp2_with fail
    go_ret
    exact ⟨rfl, HB⟩
end Go.Proofs.YtjjdmabhmpkijaaDoor
