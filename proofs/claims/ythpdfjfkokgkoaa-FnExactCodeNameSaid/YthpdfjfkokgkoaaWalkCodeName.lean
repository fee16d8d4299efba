/- The walk of the law FnExactCodeName: its calls one after the other, each by its contract. -/
import Derived.Test.YthpdfjfkokgkoaaG4
namespace Go.Proofs.Ythpdfjfkokgkoaa
open Go.RowKit
set_option linter.unusedVariables false
set_option linter.unusedSimpArgs false
set_option maxHeartbeats 1000000 in
theorem walk_CodeName (w : World) (x0 : Int) (g0 : (Lit.int .i64 x0).wf = true) :
    Calls Try.prog 4 #[.int .i64 x0] w fun e w' => e = .returned (.bool true) ∧ Below w.heap.size w w' := by
  · have HB := Below.refl w.heap.size w
    go_enter Try.func4, Try.ntmps4
    go_wp2_with fail
    refine (sCodeName x0 _ ).mono ?_
    rintro e w1 ⟨rfl, hb⟩
    have hz1 := hb.size
    replace HB := below_then HB HB.size hb
    clear hb
    go_wp2_with fail
    refine (iCodeName x0 _ ).mono ?_
    rintro e w2 ⟨rfl, hb⟩
    have hz2 := hb.size
    replace HB := below_then HB HB.size hb
    clear hb
    go_wp2_with fail
    go_ret
    exact ⟨rfl, HB⟩
end Go.Proofs.Ythpdfjfkokgkoaa
