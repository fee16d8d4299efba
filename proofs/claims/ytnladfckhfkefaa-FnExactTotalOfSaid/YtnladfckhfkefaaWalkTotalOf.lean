/- The walk of the law FnExactTotalOf. -/
import Derived.Test.YtnladfckhfkefaaC2
namespace Go.Proofs.Ytnladfckhfkefaa
open Go.RowKit
set_option linter.unusedVariables false
set_option linter.unusedSimpArgs false
theorem walk_TotalOf (w : World) (A0 : Option Addr) (n0 c0 : Nat) (x0 : List Int) (hc0 : n0 ≤ c0) (R0 : Rds w A0 n0 1 (fun x : Int => [.int .i64 x]) x0) (g0 : ∀ x ∈ x0, (Lit.int .i64 x).wf = true) (b0 : n0 * 8 ≤ 140737488351232) :
    Calls Try.prog 3 #[.slice A0 n0 c0] w fun e w' => e = .returned (.bool true) ∧ Below w.heap.size w w' := by
  have hl0 := Lib.hid R0.1
  clear g0
  by_cases hn0 : n0 ≤ 1048576
  · have HB := Below.refl w.heap.size w
    go_enter Try.func3, Try.ntmps3
    go_wp2_with fail
    refine (toInt64S_any A0 n0 c0 x0 _ R0 hn0).mono ?_
    rintro e w1 ⟨A1, c1, rfl, O1, hb⟩
    have R0 := R0.below hb
    have HB := below_then HB HB.size hb
    clear hb
    go_wp2_with fail
    refine (sTotalOf A1 n0 c1 x0 _ (own_rds1 O1 (by omega))).mono ?_
    rintro e w2 ⟨rfl, hb⟩
    have R0 := R0.below hb
    have HB := below_then HB HB.size hb
    clear hb
    go_wp2_with fail
    refine (toInt64S_any A0 n0 c0 x0 _ R0 hn0).mono ?_
    rintro e w3 ⟨A3, c3, rfl, O3, hb⟩
    have R0 := R0.below hb
    have HB := below_then HB HB.size hb
    clear hb
    go_wp2_with fail
    refine (iTotalOf A3 n0 c3 x0 _ (own_rds1 O3 (by omega))).mono ?_
    rintro e w4 ⟨rfl, hb⟩
    have R0 := R0.below hb
    have O3 := own_below O3 hb
    have HB := below_then HB HB.size hb
    clear hb
    go_wp2_with fail
    refine (toInt64S_any A0 n0 c0 x0 _ R0 hn0).mono ?_
    rintro e w5 ⟨A5, c5, rfl, O5, hb⟩
    have R0 := R0.below hb
    have O3 := own_below O3 hb
    have HB := below_then HB HB.size hb
    clear hb
    go_wp2_with fail
    refine (eqInt64S_true A3 A5 n0 c3 c5 x0 _ (own_rds1 O3 (by omega)) (own_rds1 O5 (by omega))).mono ?_
    rintro e w6 ⟨rfl, hb⟩
    have HB := below_then HB HB.size hb
    clear hb
    go_wp2_with fail
    go_ret
    exact ⟨rfl, HB⟩
  · go_enter Try.func3, Try.ntmps3
    go_wp2_with fail
    go_ret
    exact ⟨rfl, Below.refl _ _⟩
end Go.Proofs.Ytnladfckhfkefaa
