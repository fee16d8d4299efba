/- Contracts of small functions: within, l00In; the yarn's validity. -/
import Derived.Test.YthpdfjfkokgkoaaProg
import Derived.Test.YthpdfjfkokgkoaaK
import Derived.Handy
namespace Go.Proofs.Ythpdfjfkokgkoaa
open Go.RowKit
set_option linter.unusedVariables false
set_option linter.unusedSimpArgs false

def inB (n lo hi : Int) : Bool := decide (lo ≤ n ∧ n ≤ hi)
theorem within_any (n lo hi : Int) (w : World) : Calls Try.prog 26 #[.int .i64 n, .int .i64 lo, .int .i64 hi] w fun e w' => e = .returned (.bool (inB n lo hi)) ∧ w = w' := by
  by_cases h1 : lo ≤ n <;> by_cases h2 : n ≤ hi
  all_goals
    go_enter Try.func26, Try.ntmps26
    go_wp2
    go_ret
    exact ⟨by simp [inB, *], rfl⟩
theorem l00In_any (n lo hi : Int) (w : World) : Calls Try.prog 24 #[.int .i64 n, .int .i64 lo, .int .i64 hi] w fun e w' => e = .returned (.bool (inB n lo hi)) ∧ w = w' := by
  by_cases h1 : lo ≤ n <;> by_cases h2 : n ≤ hi
  all_goals
    go_enter Try.func24, Try.ntmps24
    go_wp2
    go_ret
    exact ⟨by simp [inB, *], rfl⟩
def yarnOk (a b c : Int) : Bool := inB a 1 5000 && (inB b (-2000) 2000 && inB c 1 2000)
theorem iValidYarn (a b c : Int) (wa : -32768 ≤ a ∧ a ≤ 32767) (wb : -32768 ≤ b ∧ b ≤ 32767) (wc : -32768 ≤ c ∧ c ≤ 32767) (w : World) : Calls Try.prog 13 #[.agg #[.int .i16 a, .int .i16 b, .int .i16 c]] w fun e w' => e = .returned (.bool (yarnOk a b c)) ∧ Below w.heap.size w w' := by
  go_enter Try.func13, Try.ntmps13
  go_wp2_with (go_at_call 26; go_call within_any as e w' ⟨rfl, rfl⟩)
  all_goals go_returns
  all_goals exact ⟨by simp [yarnOk, *], by go_grown⟩
theorem sl03Yarn (a b c : Int) (wa : -32768 ≤ a ∧ a ≤ 32767) (wb : -32768 ≤ b ∧ b ≤ 32767) (wc : -32768 ≤ c ∧ c ≤ 32767) (w : World) : Calls Try.prog 25 #[.agg #[.int .i16 a, .int .i16 b, .int .i16 c]] w fun e w' => e = .returned (.bool (yarnOk a b c)) ∧ Below w.heap.size w w' := by
  go_enter Try.func25, Try.ntmps25
  go_wp2_with (go_at_call 24; go_call l00In_any as e w' ⟨rfl, rfl⟩)
  all_goals go_returns
  all_goals exact ⟨by simp [yarnOk, *], by go_grown⟩
theorem sValidYarn (a b c : Int) (wa : -32768 ≤ a ∧ a ≤ 32767) (wb : -32768 ≤ b ∧ b ≤ 32767) (wc : -32768 ≤ c ∧ c ≤ 32767) (w : World) : Calls Try.prog 11 #[.agg #[.int .i16 a, .int .i16 b, .int .i16 c]] w fun e w' => e = .returned (.bool (yarnOk a b c)) ∧ Below w.heap.size w w' := by
  go_enter Try.func11, Try.ntmps11
  go_wp2_with (go_at_call 25; go_call sl03Yarn as e w' ⟨rfl, hb⟩)
  go_returns
  exact ⟨rfl, below_then (by go_grown) (by go_size) hb⟩
theorem toYarn (a b c : Int) (w : World) : Calls Try.prog 12 #[.agg #[.int .i16 a, .int .i16 b, .int .i16 c]] w fun e w' => e = .returned (.agg #[.int .i16 a, .int .i16 b, .int .i16 c]) ∧ Below w.heap.size w w' := by
  go_enter Try.func12, Try.ntmps12
  go_wp2
  go_returns
  exact ⟨rfl, by go_grown⟩
theorem walk_ValidYarn (y : Int × Int × Int) (g : (Lit.int .i16 y.1).wf = true ∧ (Lit.int .i16 y.2.1).wf = true ∧ (Lit.int .i16 y.2.2).wf = true) (w : World) : Calls Try.prog 5 #[.agg #[.int .i16 y.1, .int .i16 y.2.1, .int .i16 y.2.2]] w fun e w' => e = .returned (.bool true) ∧ Below w.heap.size w w' := by
  obtain ⟨a, b, c⟩ := y
  obtain ⟨wa, wb, wc⟩ := g
  have wa := bounds_i16 wa
  have wb := bounds_i16 wb
  have wc := bounds_i16 wc
  go_enter Try.func5, Try.ntmps5
  go_wp2_with (first
    | (go_at_call 12; go_call toYarn as e w1 ⟨rfl, hb⟩; have hB := below_then (B := w.heap.size) (w := w) (by go_grown) (by go_size) hb; have hz := hb.size; (try simp only [World.size_alloc, World.size_setCell, World.size_drew] at hz); (have hc0 := fun o => hb.cell (p := ⟨w.heap.size, o, none⟩) (by go_size)); have hf0 := fun o => hb.frozen (p := ⟨w.heap.size, o, none⟩) (by go_size); clear hb)
    | (go_at_call 11; go_call sValidYarn as e w1 ⟨rfl, hb⟩; have hB := below_then (B := w.heap.size) (w := w) (by go_grown) (by go_size) hb; have hz := hb.size; (try simp only [World.size_alloc, World.size_setCell, World.size_drew] at hz); (have hc0 := fun o => hb.cell (p := ⟨w.heap.size, o, none⟩) (by go_size)); have hf0 := fun o => hb.frozen (p := ⟨w.heap.size, o, none⟩) (by go_size); clear hb)
    | (go_at_call 13; go_call iValidYarn as e w1 ⟨rfl, hb⟩; have hB := below_then (B := w.heap.size) (w := w) (by go_grown) (by go_size) hb; have hz := hb.size; (try simp only [World.size_alloc, World.size_setCell, World.size_drew] at hz); (have hc0 := fun o => hb.cell (p := ⟨w.heap.size, o, none⟩) (by go_size)); have hf0 := fun o => hb.frozen (p := ⟨w.heap.size, o, none⟩) (by go_size); clear hb))
  all_goals go_returns
  all_goals exact ⟨rfl, by assumption⟩
end Go.Proofs.Ythpdfjfkokgkoaa
