/- The statement Rows.FnExactValidWebSaid: for every input the law FnExactValidWeb returns true and each argument reads as before. No condition. -/
import Derived.Test.YthpdfjfkokgkoaaRows
import Derived.Test.YthpdfjfkokgkoaaK
import Derived.Test.YthpdfjfkokgkoaaQ
import Derived.Test.YthpdfjfkokgkoaaWalkValidWeb
namespace Go.Proofs.Ythpdfjfkokgkoaa.fnExactValidWeb
open Go.ChangeShapes Go.WideShapes Go.ChangeAt Go.RowKit
open Go.ChangeMaps (open_string shut_string)
set_option linter.unusedVariables false
set_option linter.unusedSimpArgs false
theorem own : ownKnob Try.prog.godebug = none := by kernel_rfl
theorem laid : laidOutB Try.prog = true := by kernel_rfl
set_option maxRecDepth 100000 in
theorem lifted (os : Os) (started : os.Started) (H : Type) (enc : TypeId × Value → H) :
    ReturnsInHanded {} Try.checked os 8 .any (Rows.fnExactValidWebSpec.pre6 enc Try.prog Try.f8 Rows.fnExactValidWebRow.domain false) (Rows.fnExactValidWebSpec.post enc Try.prog Try.f8 false true false false) := by
  refine law_lifted (C := Try.checked) (fn := Try.f8) own started (by kernel_rfl) Try.func8 laid rfl rfl Try.underlying4 ?_
    (ChangeSpec.witness6 (enc := enc) (C := Try.checked) false ⟨#[], #[.slice none 0 0], []⟩ 8 (by kernel_rfl) (by kernel_rfl) (by kernel_rfl) (by kernel_rfl)) ?_ ?_
  · rw [Try.params8]
    intro t ht
    simp only [List.mem_cons, List.not_mem_nil, or_false] at ht
    rcases ht with rfl
    · exact ⟨by kernel_rfl, of_decide_eq_true (by kernel_rfl)⟩
  · intro ds W args p hA
    rw [Try.params8] at hA
    obtain ⟨v0, vs0, d0, ds0, p0, q0, hargs, rfl, rfl, h0, r0⟩ := trodAll_cons hA
    obtain ⟨rfl, rfl, rfl⟩ := trodAll_nil r0
    exact ⟨rfl, rfl, rfl⟩
  · intro W base args ds p hval hA hsz
    rw [Try.params8] at hA hval hsz
    obtain ⟨v0, vs0, d0, ds0, p0, q0, hargs, rfl, rfl, h0, r0⟩ := trodAll_cons hA
    obtain ⟨rfl, rfl, rfl⟩ := trodAll_nil r0
    obtain rfl : args = #[v0] := by cases args; simp_all
    obtain ⟨A0, n0, c0, x0, rfl, hc0, R0, g0, b0⟩ := opens_slice (sz := 1) (by_ := 8) (opens_int Try.underlying2) Try.underlying45 (by kernel_rfl) (by kernel_rfl) (by decide) (hval 0 45 v0 rfl rfl) hsz (j := 0) rfl rfl h0
    exact walk_ValidWeb W A0 n0 c0 x0 hc0 R0 g0 b0
theorem closed : joinedFacts Try.prog 8 Try.f8 Rows.fnExactValidWebSpec Rows.fnExactValidWebRow = true := by
  unfold joinedFacts
  rw [q_enter, q_lifts, q_make]
  kernel_rfl
theorem over : Rows.fnExactValidWebRow.holds Try.pinned (OpenSpec.ofChange Rows.fnExactValidWebSpec) :=
  OpenClaim.holds_of_wide 8 Try.f8 rfl rfl rfl rfl rfl rfl rfl ⟨rfl, rfl, rfl, rfl, rfl⟩ rfl rfl rfl rfl rfl (by kernel_rfl) Try.func8 closed
    (of_decide_eq_true (by kernel_rfl)) (by unfold Func.isWrapper; first | (rw [if_pos (by decide +kernel)]; kernel_rfl) | (rw [if_neg (by decide +kernel)]; exact ⟨rfl, rfl⟩))
    (fun os started H enc _ => lifted os started H enc)
end Go.Proofs.Ythpdfjfkokgkoaa.fnExactValidWeb
namespace Go.Proofs.Ythpdfjfkokgkoaa
/-- For every input the law FnExactValidWeb returns true and each argument reads as before. -/
theorem validWeb_holds : Rows.FnExactValidWebSaid := fnExactValidWeb.over
#print axioms validWeb_holds
end Go.Proofs.Ythpdfjfkokgkoaa
