/- The walk of the law FnExactReadFleeces: its calls one after the other, each by its contract. -/
import Derived.Test.YtjjdmabhmpkijaaDoorJ8
import Derived.Test.YtjjdmabhmpkijaaDoorJ9
import Derived.Test.YtjjdmabhmpkijaaDoorB4
namespace Go.Proofs.YtjjdmabhmpkijaaDoor
open Go.RowKit
set_option linter.unusedVariables false
set_option linter.unusedSimpArgs false
set_option maxHeartbeats 1000000 in
theorem walk_ReadFleeces (w : World) (x0 : ByteArray) (b0 : x0.size ≤ 140737488351232) (E : Env w.heap.size w) :
    Calls Tryd.prog 4 #[.string x0] w fun e w' => e = .returned (.bool true) ∧ Below w.heap.size w w' := by
  by_cases hn0 : x0.size ≤ 1048576
  rotate_left
  · go_enter Tryd.func4, Tryd.ntmps4
    go_wp2_with fail
    go_ret
    exact ⟨rfl, Below.refl _ _⟩
  · have HB := Below.refl w.heap.size w
    go_enter Tryd.func4, Tryd.ntmps4
    go_wp2_with fail
    refine (sReadFleeces x0 _ hn0).mono ?_
    rintro e w1 ⟨A_1, c_1, rfl, O1, hb⟩
    have hz1 := hb.size
    replace HB := below_then HB HB.size hb
    have U1 := Lib.hid (own_base O1)
    clear hb
    go_wp2_with fail
    refine (iReadFleeces w.heap.size x0 _ (E.on HB) HB.size hn0).mono ?_
    rintro e w2 ⟨A_2, c_2, rfl, O2, hb⟩
    replace O1 := own_below O1 hb
    have hz2 := hb.size
    replace HB := below_then HB HB.size hb
    have U2 := Lib.hid (own_base O2)
    clear hb
    go_wp2_with fail
    refine (eqFleeceS_true A_2 A_1 (rfR x0.data.toList).length c_2 c_1 (rfR x0.data.toList) _ (own_rdsFl O2 (by first | exact (rfR_ok _).len | exact flmarks_len _ _) (by have := (rfR_len x0.data.toList); omega)) (own_rdsFl O1 (by first | exact (rfR_ok _).len | exact flmarks_len _ _) (by have := (rfR_len x0.data.toList); omega)) (Lib.hid (rfR_ok _).len)).mono ?_
    rintro e w3 ⟨rfl, hb⟩
    replace O1 := own_below O1 hb
    replace O2 := own_below O2 hb
    have hz3 := hb.size
    replace HB := below_then HB HB.size hb
    clear hb
    go_wp2_with fail
    refine (markFleeceS9_any _ _ A_2 (rfR x0.data.toList).length c_2 _ 1 _ O2 (by have := (rfR_len x0.data.toList); omega) (by omega) (by omega)).mono ?_
    rintro e w4 ⟨rfl, O_, hg⟩
    replace O1 := own_apart O1 hg (fun k1 k2 h1 h2 => by have q1 := U1.out k1 h1; have q2 := U2.out k2 h2; omega)
    replace HB := HB.grown hg HB.size (fun k1 h1 => by have q1 := U2.out k1 h1; omega)
    have hz4 := hg.size
    replace O2 := O_
    clear hg O_
    go_wp2_with fail
    refine (heldFleeceS_any A_2 (rfR x0.data.toList).length c_2 1 _ (own_rdsFl O2 (by first | exact (rfR_ok _).len | exact flmarks_len _ _) (by have := (rfR_len x0.data.toList); omega)) (by have := (rfR_len x0.data.toList); omega) (by omega) (by omega)).mono ?_
    rintro e w5 ⟨rfl, rfl⟩
    go_wp2_with fail
    refine (iReadFleeces w.heap.size x0 _ (E.on HB) HB.size hn0).mono ?_
    rintro e w5 ⟨A_5, c_5, rfl, O5, hb⟩
    replace O1 := own_below O1 hb
    replace O2 := own_below O2 hb
    have hz5 := hb.size
    replace HB := below_then HB HB.size hb
    have U5 := Lib.hid (own_base O5)
    clear hb
    go_wp2_with fail
    refine (eqFleeceS_true A_5 A_1 (rfR x0.data.toList).length c_5 c_1 (rfR x0.data.toList) _ (own_rdsFl O5 (by first | exact (rfR_ok _).len | exact flmarks_len _ _) (by have := (rfR_len x0.data.toList); omega)) (own_rdsFl O1 (by first | exact (rfR_ok _).len | exact flmarks_len _ _) (by have := (rfR_len x0.data.toList); omega)) (Lib.hid (rfR_ok _).len)).mono ?_
    rintro e w6 ⟨rfl, hb⟩
    replace O1 := own_below O1 hb
    replace O2 := own_below O2 hb
    replace O5 := own_below O5 hb
    have hz6 := hb.size
    replace HB := below_then HB HB.size hb
    clear hb
    go_wp2_with fail
    refine (heldFleeceS_any A_2 (rfR x0.data.toList).length c_2 1 _ (own_rdsFl O2 (by first | exact (rfR_ok _).len | exact flmarks_len _ _) (by have := (rfR_len x0.data.toList); omega)) (by have := (rfR_len x0.data.toList); omega) (by omega) (by omega)).mono ?_
    rintro e w7 ⟨rfl, rfl⟩
    go_wp2_with fail
    go_ret
    exact ⟨rfl, HB⟩
end Go.Proofs.YtjjdmabhmpkijaaDoor
