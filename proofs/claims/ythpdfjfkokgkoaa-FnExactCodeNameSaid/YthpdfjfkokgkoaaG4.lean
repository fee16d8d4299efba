/- Contracts: CodeName on both sides. -/
import Derived.Test.YthpdfjfkokgkoaaA0
namespace Go.Proofs.Ythpdfjfkokgkoaa
open Go.RowKit
set_option linter.unusedVariables false
set_option linter.unusedSimpArgs false
def nameB (c : Int) : ByteArray := if 0 ≤ c ∧ c ≤ 8 then ([⟨#[111, 107]⟩, ⟨#[105, 110, 118, 97, 108, 105, 100]⟩, ⟨#[114, 97, 110, 103, 101]⟩, ⟨#[108, 105, 109, 105, 116]⟩, ⟨#[115, 116, 97, 116, 101]⟩, ⟨#[115, 121, 110, 116, 97, 120]⟩, ⟨#[110, 111, 116, 102, 111, 117, 110, 100]⟩, ⟨#[98, 117, 100, 103, 101, 116]⟩, ⟨#[112, 114, 111, 111, 102]⟩].getD c.toNat ⟨#[]⟩) else ⟨#[]⟩
set_option maxHeartbeats 4000000 in
theorem iCodeName (c : Int) (w : World) :
    Calls Try.prog 10 #[.int .i64 c] w fun e w' => e = .returned (.string (nameB c)) ∧ Below w.heap.size w w' := by
  by_cases h : 0 ≤ c ∧ c ≤ 8
  · have e2 : inB c 0 8 = true := by simp [inB]; omega
    obtain rfl | rfl | rfl | rfl | rfl | rfl | rfl | rfl | rfl : c = 0 ∨ c = 1 ∨ c = 2 ∨ c = 3 ∨ c = 4 ∨ c = 5 ∨ c = 6 ∨ c = 7 ∨ c = 8 := by omega
    all_goals
      go_enter Try.func10, Try.ntmps10
      go_wp2_with fail
      go_ret
      exact ⟨rfl, by go_grown⟩
  · have e1 : nameB c = ⟨#[]⟩ := by unfold nameB; rw [if_neg h]
    have e2 : inB c 0 8 = false := by cases hh : inB c 0 8 with | false => rfl | true => exact absurd (by simpa [inB] using hh) h
    rw [e1]
    rcases (show c < 0 ∨ 9 ≤ c by omega) with h1 | h1
    all_goals
      go_enter Try.func10, Try.ntmps10
      go_wp2_with fail
      go_ret
      exact ⟨rfl, by go_grown⟩
set_option maxHeartbeats 4000000 in
theorem sCodeName (c : Int) (w : World) :
    Calls Try.prog 9 #[.int .i64 c] w fun e w' => e = .returned (.string (nameB c)) ∧ Below w.heap.size w w' := by
  by_cases h : 0 ≤ c ∧ c ≤ 8
  · have e2 : inB c 0 8 = true := by simp [inB]; omega
    obtain rfl | rfl | rfl | rfl | rfl | rfl | rfl | rfl | rfl : c = 0 ∨ c = 1 ∨ c = 2 ∨ c = 3 ∨ c = 4 ∨ c = 5 ∨ c = 6 ∨ c = 7 ∨ c = 8 := by omega
    all_goals
      go_enter Try.func9, Try.ntmps9
      go_wp2_with (go_at_call 24; (refine (l00In_any _ _ _ _).mono ?_); rintro e w' ⟨rfl, rfl⟩)
      go_ret
      exact ⟨rfl, by go_grown⟩
  · have e1 : nameB c = ⟨#[]⟩ := by unfold nameB; rw [if_neg h]
    have e2 : inB c 0 8 = false := by cases hh : inB c 0 8 with | false => rfl | true => exact absurd (by simpa [inB] using hh) h
    rw [e1]
    rcases (show c < 0 ∨ 9 ≤ c by omega) with h1 | h1
    all_goals
      go_enter Try.func9, Try.ntmps9
      go_wp2_with (go_at_call 24; (refine (l00In_any _ _ _ _).mono ?_); rintro e w' ⟨rfl, rfl⟩)
      go_ret
      exact ⟨rfl, by go_grown⟩
end Go.Proofs.Ythpdfjfkokgkoaa
