/- The walk of the law FnExactReadWeb: its calls one after the other, each by its contract. -/
import Derived.Test.YtefipngapgffdaaDoorO4
namespace Go.Proofs.YtefipngapgffdaaDoor
open Go.RowKit
set_option linter.unusedVariables false
set_option linter.unusedSimpArgs false
set_option maxHeartbeats 1000000 in
theorem walk_ReadWeb (w : World) (x0 : ByteArray) (b0 : x0.size ≤ 140737488351232) (E : Env w.heap.size w) :
    Calls Tryd.prog 4 #[.string x0] w fun e w' => e = .returned (.bool true) ∧ Below w.heap.size w w' := by
  by_cases hn0 : x0.size ≤ 1048576
  rotate_left
  · go_enter Tryd.func4, Tryd.ntmps4
    go_wp2_with fail
    go_ret
    exact ⟨rfl, Below.refl _ _⟩
  · have HB := Below.refl w.heap.size w
    go_enter Tryd.func4, Tryd.ntmps4
    go_wp2_with fail
    refine (sReadWeb x0 _ hn0).mono ?_
    rintro e w1 ⟨A_1, c_1, rfl, O1, hb⟩
    have hz1 := hb.size
    replace HB := below_then HB HB.size hb
    have U1 := Lib.hid (own_base O1)
    clear hb
    go_wp2_with fail
    refine (iReadWeb w.heap.size x0 _ (E.on HB) HB.size hn0).mono ?_
    rintro e w2 ⟨A_2, c_2, rfl, O2, hb⟩
    replace O1 := own_below O1 hb
    have hz2 := hb.size
    replace HB := below_then HB HB.size hb
    have U2 := Lib.hid (own_base O2)
    clear hb
    go_wp2_with fail
    refine (eqInt64S_true A_2 A_1 (rwR x0).length c_2 c_1 (rwR x0) _ (own_rds1 O2 (by have := (rwR_len x0); omega)) (own_rds1 O1 (by have := (rwR_len x0); omega))).mono ?_
    rintro e w3 ⟨rfl, hb⟩
    replace O1 := own_below O1 hb
    replace O2 := own_below O2 hb
    have hz3 := hb.size
    replace HB := below_then HB HB.size hb
    clear hb
    go_wp2_with fail
    refine (markInt64S_any _ _ A_2 (rwR x0).length c_2 (rwR x0) 1 _ O2 (by have := (rwR_len x0); omega) (by omega) (by omega)).mono ?_
    rintro e w4 ⟨rfl, O_, hg⟩
    replace O1 := own_apart O1 hg (fun k1 k2 h1 h2 => by have q1 := U1.out k1 h1; have q2 := U2.out k2 h2; omega)
    replace HB := HB.grown hg HB.size (fun k1 h1 => by have q1 := U2.out k1 h1; omega)
    have hz4 := hg.size
    replace O2 := O_
    clear hg O_
    go_wp2_with fail
    refine (heldInt64S_any A_2 (rwR x0).length c_2 1 _ (own_rds1 O2 (by have := (rwR_len x0); omega)) (by have := (rwR_len x0); omega) (by omega) (by omega)).mono ?_
    rintro e w5 ⟨rfl, rfl⟩
    go_wp2_with fail
    refine (iReadWeb w.heap.size x0 _ (E.on HB) HB.size hn0).mono ?_
    rintro e w5 ⟨A_5, c_5, rfl, O5, hb⟩
    replace O1 := own_below O1 hb
    replace O2 := own_below O2 hb
    have hz5 := hb.size
    replace HB := below_then HB HB.size hb
    have U5 := Lib.hid (own_base O5)
    clear hb
    go_wp2_with fail
    refine (eqInt64S_true A_5 A_1 (rwR x0).length c_5 c_1 (rwR x0) _ (own_rds1 O5 (by have := (rwR_len x0); omega)) (own_rds1 O1 (by have := (rwR_len x0); omega))).mono ?_
    rintro e w6 ⟨rfl, hb⟩
    replace O1 := own_below O1 hb
    replace O2 := own_below O2 hb
    replace O5 := own_below O5 hb
    have hz6 := hb.size
    replace HB := below_then HB HB.size hb
    clear hb
    go_wp2_with fail
    refine (heldInt64S_any A_2 (rwR x0).length c_2 1 _ (own_rds1 O2 (by have := (rwR_len x0); omega)) (by have := (rwR_len x0); omega) (by omega) (by omega)).mono ?_
    rintro e w7 ⟨rfl, rfl⟩
    go_wp2_with fail
    go_ret
    exact ⟨rfl, HB⟩
end Go.Proofs.YtefipngapgffdaaDoor
