/- The walk of the law FnExactCardOnce: its calls one after the other, each by its contract. -/
import Derived.Test.YtlcfjfollbjgiaaC17
namespace Go.Proofs.Ytlcfjfollbjgiaa
open Go.RowKit
set_option linter.unusedVariables false
set_option linter.unusedSimpArgs false
set_option maxHeartbeats 1000000 in
theorem walk_CardOnce (w : World) (A0 : Option Addr) (n0 c0 : Nat) (x0 : List Int) (hc0 : n0 ≤ c0) (R0 : Rds w A0 n0 1 (fun x : Int => [.int .i64 x]) x0) (g0 : ∀ x ∈ x0, (Lit.int .i64 x).wf = true) (b0 : n0 * 8 ≤ 140737488351232) (x1 : Int) (g1 : (Lit.int .u8 x1).wf = true) (x2 : Int) (g2 : (Lit.int .i64 x2).wf = true) :
    Calls Try.prog 4 #[.slice A0 n0 c0, .int .u8 x1, .int .i64 x2] w fun e w' => e = .returned (.bool true) ∧ Below w.heap.size w w' := by
  have hl0 := Lib.hid R0.1
  clear b0
  by_cases hn0 : n0 ≤ 1048576
  rotate_left
  · go_enter Try.func4, Try.ntmps4
    go_wp2_with fail
    go_ret
    exact ⟨rfl, Below.refl _ _⟩
  · have HB := Below.refl w.heap.size w
    go_enter Try.func4, Try.ntmps4
    go_wp2_with fail
    refine (toInt64S_any A0 n0 c0 x0 _ (R0.below HB) hn0).mono ?_
    rintro e w1 ⟨A_1, c_1, rfl, O1, hb⟩
    have hz1 := hb.size
    replace HB := below_then HB HB.size hb
    have U1 := Lib.hid (own_base O1)
    clear hb
    go_wp2_with fail
    refine (sCardOnce A_1 n0 c_1 x0 x1 x2 _ (own_rds1 O1 (by have := hn0; omega)) (own_cap O1) g1 g2).mono ?_
    rintro e w2 ⟨A_2, c_2, rfl, O2, hb⟩
    replace O1 := own_below O1 hb
    have hz2 := hb.size
    replace HB := below_then HB HB.size hb
    have U2 := Lib.hid (own_base O2)
    clear hb
    go_wp2_with fail
    refine (toInt64S_any A0 n0 c0 x0 _ (R0.below HB) hn0).mono ?_
    rintro e w3 ⟨A_3, c_3, rfl, O3, hb⟩
    replace O1 := own_below O1 hb
    replace O2 := own_below O2 hb
    have hz3 := hb.size
    replace HB := below_then HB HB.size hb
    have U3 := Lib.hid (own_base O3)
    clear hb
    go_wp2_with fail
    refine (iCardOnce A_3 n0 c_3 x0 x1 x2 _ (own_rds1 O3 (by have := hn0; omega)) (own_cap O3) g1 g2).mono ?_
    rintro e w4 ⟨A_4, c_4, rfl, O4, hb⟩
    replace O1 := own_below O1 hb
    replace O2 := own_below O2 hb
    replace O3 := own_below O3 hb
    have hz4 := hb.size
    replace HB := below_then HB HB.size hb
    have U4 := Lib.hid (own_base O4)
    clear hb
    go_wp2_with fail
    refine (eqInt64S_true A_4 A_2 (coL x0 x1 x2).length c_4 c_2 (coL x0 x1 x2) _ (own_rds1 O4 (by have := (coL_len x0 x1 x2); omega)) (own_rds1 O2 (by have := (coL_len x0 x1 x2); omega))).mono ?_
    rintro e w5 ⟨rfl, hb⟩
    replace O1 := own_below O1 hb
    replace O2 := own_below O2 hb
    replace O3 := own_below O3 hb
    replace O4 := own_below O4 hb
    have hz5 := hb.size
    replace HB := below_then HB HB.size hb
    clear hb
    go_wp2_with fail
    refine (toInt64S_any A0 n0 c0 x0 _ (R0.below HB) hn0).mono ?_
    rintro e w6 ⟨A_6, c_6, rfl, O6, hb⟩
    replace O1 := own_below O1 hb
    replace O2 := own_below O2 hb
    replace O3 := own_below O3 hb
    replace O4 := own_below O4 hb
    have hz6 := hb.size
    replace HB := below_then HB HB.size hb
    have U6 := Lib.hid (own_base O6)
    clear hb
    go_wp2_with fail
    refine (eqInt64S_true A_3 A_6 n0 c_3 c_6 x0 _ (own_rds1 O3 (by have := hn0; omega)) (own_rds1 O6 (by have := hn0; omega))).mono ?_
    rintro e w7 ⟨rfl, hb⟩
    replace O1 := own_below O1 hb
    replace O2 := own_below O2 hb
    replace O3 := own_below O3 hb
    replace O4 := own_below O4 hb
    replace O6 := own_below O6 hb
    have hz7 := hb.size
    replace HB := below_then HB HB.size hb
    clear hb
    go_wp2_with fail
    refine (markInt64S_any _ _ A_3 n0 c_3 x0 1 _ O3 (by have := hn0; omega) (by omega) (by omega)).mono ?_
    rintro e w8 ⟨rfl, O_, hg⟩
    replace O1 := own_apart O1 hg (fun k1 k2 h1 h2 => by have q1 := U1.out k1 h1; have q2 := U3.out k2 h2; omega)
    replace O2 := own_apart O2 hg (fun k1 k2 h1 h2 => by have q1 := U2.out k1 h1; have q2 := U3.out k2 h2; omega)
    replace O4 := own_apart O4 hg (fun k1 k2 h1 h2 => by have q1 := U4.out k1 h1; have q2 := U3.out k2 h2; omega)
    replace O6 := own_apart O6 hg (fun k1 k2 h1 h2 => by have q1 := U6.out k1 h1; have q2 := U3.out k2 h2; omega)
    replace HB := HB.grown hg HB.size (fun k1 h1 => by have q1 := U3.out k1 h1; omega)
    have hz8 := hg.size
    replace O3 := O_
    clear hg O_
    go_wp2_with fail
    refine (eqInt64S_true A_4 A_2 (coL x0 x1 x2).length c_4 c_2 (coL x0 x1 x2) _ (own_rds1 O4 (by have := (coL_len x0 x1 x2); omega)) (own_rds1 O2 (by have := (coL_len x0 x1 x2); omega))).mono ?_
    rintro e w9 ⟨rfl, hb⟩
    replace O1 := own_below O1 hb
    replace O2 := own_below O2 hb
    replace O3 := own_below O3 hb
    replace O4 := own_below O4 hb
    replace O6 := own_below O6 hb
    have hz9 := hb.size
    replace HB := below_then HB HB.size hb
    clear hb
    go_wp2_with fail
    refine (markInt64S_any _ _ A_4 (coL x0 x1 x2).length c_4 (coL x0 x1 x2) 1 _ O4 (by have := (coL_len x0 x1 x2); omega) (by omega) (by omega)).mono ?_
    rintro e w10 ⟨rfl, O_, hg⟩
    replace O1 := own_apart O1 hg (fun k1 k2 h1 h2 => by have q1 := U1.out k1 h1; have q2 := U4.out k2 h2; omega)
    replace O2 := own_apart O2 hg (fun k1 k2 h1 h2 => by have q1 := U2.out k1 h1; have q2 := U4.out k2 h2; omega)
    replace O3 := own_apart O3 hg (fun k1 k2 h1 h2 => by have q1 := U3.out k1 h1; have q2 := U4.out k2 h2; omega)
    replace O6 := own_apart O6 hg (fun k1 k2 h1 h2 => by have q1 := U6.out k1 h1; have q2 := U4.out k2 h2; omega)
    replace HB := HB.grown hg HB.size (fun k1 h1 => by have q1 := U4.out k1 h1; omega)
    have hz10 := hg.size
    replace O4 := O_
    clear hg O_
    go_wp2_with fail
    refine (heldInt64S_any A_4 (coL x0 x1 x2).length c_4 1 _ (own_rds1 O4 (by have := (coL_len x0 x1 x2); omega)) (by have := (coL_len x0 x1 x2); omega) (by omega) (by omega)).mono ?_
    rintro e w11 ⟨rfl, rfl⟩
    go_wp2_with fail
    refine (toInt64S_any A0 n0 c0 x0 _ (R0.below HB) hn0).mono ?_
    rintro e w11 ⟨A_11, c_11, rfl, O11, hb⟩
    replace O1 := own_below O1 hb
    replace O2 := own_below O2 hb
    replace O3 := own_below O3 hb
    replace O4 := own_below O4 hb
    replace O6 := own_below O6 hb
    have hz11 := hb.size
    replace HB := below_then HB HB.size hb
    have U11 := Lib.hid (own_base O11)
    clear hb
    go_wp2_with fail
    refine (iCardOnce A_11 n0 c_11 x0 x1 x2 _ (own_rds1 O11 (by have := hn0; omega)) (own_cap O11) g1 g2).mono ?_
    rintro e w12 ⟨A_12, c_12, rfl, O12, hb⟩
    replace O1 := own_below O1 hb
    replace O2 := own_below O2 hb
    replace O3 := own_below O3 hb
    replace O4 := own_below O4 hb
    replace O6 := own_below O6 hb
    replace O11 := own_below O11 hb
    have hz12 := hb.size
    replace HB := below_then HB HB.size hb
    have U12 := Lib.hid (own_base O12)
    clear hb
    go_wp2_with fail
    refine (eqInt64S_true A_12 A_2 (coL x0 x1 x2).length c_12 c_2 (coL x0 x1 x2) _ (own_rds1 O12 (by have := (coL_len x0 x1 x2); omega)) (own_rds1 O2 (by have := (coL_len x0 x1 x2); omega))).mono ?_
    rintro e w13 ⟨rfl, hb⟩
    replace O1 := own_below O1 hb
    replace O2 := own_below O2 hb
    replace O3 := own_below O3 hb
    replace O4 := own_below O4 hb
    replace O6 := own_below O6 hb
    replace O11 := own_below O11 hb
    replace O12 := own_below O12 hb
    have hz13 := hb.size
    replace HB := below_then HB HB.size hb
    clear hb
    go_wp2_with fail
    refine (heldInt64S_any A_4 (coL x0 x1 x2).length c_4 1 _ (own_rds1 O4 (by have := (coL_len x0 x1 x2); omega)) (by have := (coL_len x0 x1 x2); omega) (by omega) (by omega)).mono ?_
    rintro e w14 ⟨rfl, rfl⟩
    go_wp2_with fail
    go_ret
    exact ⟨rfl, HB⟩
end Go.Proofs.Ytlcfjfollbjgiaa
