/- The walk of the law FnExactWebText: its calls one after the other, each by its contract. -/
import Derived.Test.YtefipngapgffdaaDoorQ3
namespace Go.Proofs.YtefipngapgffdaaDoor
open Go.RowKit
set_option linter.unusedVariables false
set_option linter.unusedSimpArgs false
set_option maxHeartbeats 1000000 in
theorem walk_WebText (w : World) (A0 : Option Addr) (n0 c0 : Nat) (x0 : List Int) (hc0 : n0 ≤ c0) (R0 : Rds w A0 n0 1 (fun x : Int => [.int .i64 x]) x0) (g0 : ∀ x ∈ x0, (Lit.int .i64 x).wf = true) (b0 : n0 * 8 ≤ 140737488351232) (hT : Tb w.heap.size w) :
    Calls Tryd.prog 3 #[.slice A0 n0 c0] w fun e w' => e = .returned (.bool true) ∧ Below w.heap.size w w' := by
  have hl0 := Lib.hid R0.1
  clear g0 b0
  by_cases hn0 : n0 ≤ 1048576
  rotate_left
  · go_enter Tryd.func3, Tryd.ntmps3
    go_wp2_with fail
    go_ret
    exact ⟨rfl, Below.refl _ _⟩
  · have HB := Below.refl w.heap.size w
    go_enter Tryd.func3, Tryd.ntmps3
    go_wp2_with fail
    refine (toInt64S_any A0 n0 c0 x0 _ (R0.below HB) hn0).mono ?_
    rintro e w1 ⟨A_1, c_1, rfl, O1, hb⟩
    have hz1 := hb.size
    replace HB := below_then HB HB.size hb
    have U1 := Lib.hid (own_base O1)
    clear hb
    go_wp2_with fail
    refine (sWebText A_1 n0 c_1 x0 _ (own_rds1 O1 (by have := hn0; omega))).mono ?_
    rintro e w2 ⟨rfl, hb⟩
    replace O1 := own_below O1 hb
    have hz2 := hb.size
    replace HB := below_then HB HB.size hb
    clear hb
    go_wp2_with fail
    refine (toInt64S_any A0 n0 c0 x0 _ (R0.below HB) hn0).mono ?_
    rintro e w3 ⟨A_3, c_3, rfl, O3, hb⟩
    replace O1 := own_below O1 hb
    have hz3 := hb.size
    replace HB := below_then HB HB.size hb
    have U3 := Lib.hid (own_base O3)
    clear hb
    go_wp2_with fail
    refine (iWebText w.heap.size A_3 n0 c_3 x0 _ (own_rds1 O3 (by have := hn0; omega)) (hT.on HB) HB.size).mono ?_
    rintro e w4 ⟨rfl, hb⟩
    replace O1 := own_below O1 hb
    replace O3 := own_below O3 hb
    have hz4 := hb.size
    replace HB := below_then HB HB.size hb
    clear hb
    go_wp2_with fail
    refine (toInt64S_any A0 n0 c0 x0 _ (R0.below HB) hn0).mono ?_
    rintro e w5 ⟨A_5, c_5, rfl, O5, hb⟩
    replace O1 := own_below O1 hb
    replace O3 := own_below O3 hb
    have hz5 := hb.size
    replace HB := below_then HB HB.size hb
    have U5 := Lib.hid (own_base O5)
    clear hb
    go_wp2_with fail
    refine (eqInt64S_true A_3 A_5 n0 c_3 c_5 x0 _ (own_rds1 O3 (by have := hn0; omega)) (own_rds1 O5 (by have := hn0; omega))).mono ?_
    rintro e w6 ⟨rfl, hb⟩
    replace O1 := own_below O1 hb
    replace O3 := own_below O3 hb
    replace O5 := own_below O5 hb
    have hz6 := hb.size
    replace HB := below_then HB HB.size hb
    clear hb
    go_wp2_with fail
    go_ret
    exact ⟨rfl, HB⟩
end Go.Proofs.YtefipngapgffdaaDoor
