/- Contracts over yarns: validity; the law on ValidYarn. -/
import Derived.Test.YthllecfbpipagaaProg
import Derived.Test.YthllecfbpipagaaK
import Derived.Test.YthllecfbpipagaaA0
namespace Go.Proofs.Ythllecfbpipagaa
open Go.RowKit
set_option linter.unusedVariables false
set_option linter.unusedSimpArgs false

def yarnOk (a b c : Int) : Bool := inB a 1 5000 && (inB b (-2000) 2000 && inB c 1 2000)
theorem iValidYarn (a b c : Int) (wa : -32768 ≤ a ∧ a ≤ 32767) (wb : -32768 ≤ b ∧ b ≤ 32767) (wc : -32768 ≤ c ∧ c ≤ 32767) (w : World) : Calls Try.prog 31 #[.agg #[.int .i16 a, .int .i16 b, .int .i16 c]] w fun e w' => e = .returned (.bool (yarnOk a b c)) ∧ Below w.heap.size w w' := by
  go_enter Try.func31, Try.ntmps31
  go_wp2_with (go_at_call 37; go_call within_any as e w' ⟨rfl, rfl⟩)
  all_goals go_returns
  all_goals exact ⟨by simp [yarnOk, *], by go_grown⟩
theorem sl03Yarn (a b c : Int) (wa : -32768 ≤ a ∧ a ≤ 32767) (wb : -32768 ≤ b ∧ b ≤ 32767) (wc : -32768 ≤ c ∧ c ≤ 32767) (w : World) : Calls Try.prog 29 #[.agg #[.int .i16 a, .int .i16 b, .int .i16 c]] w fun e w' => e = .returned (.bool (yarnOk a b c)) ∧ Below w.heap.size w w' := by
  go_enter Try.func29, Try.ntmps29
  go_wp2_with (go_at_call 34; go_call l00In_any as e w' ⟨rfl, rfl⟩)
  all_goals go_returns
  all_goals exact ⟨by simp [yarnOk, *], by go_grown⟩
theorem toYarn (a b c : Int) (w : World) : Calls Try.prog 15 #[.agg #[.int .i16 a, .int .i16 b, .int .i16 c]] w fun e w' => e = .returned (.agg #[.int .i16 a, .int .i16 b, .int .i16 c]) ∧ Below w.heap.size w w' := by
  go_enter Try.func15, Try.ntmps15
  go_wp2
  go_returns
  exact ⟨rfl, by go_grown⟩
end Go.Proofs.Ythllecfbpipagaa
