/- The statement Rows.FnExactConstantsSaid: for every input the law FnExactConstants returns true and each argument reads as before. No condition. -/
import Derived.Test.YthpdfjfkokgkoaaRows
import Derived.Test.YthpdfjfkokgkoaaK
import Derived.Test.YthpdfjfkokgkoaaQ
import Derived.Test.YthpdfjfkokgkoaaWalkConstants
namespace Go.Proofs.Ythpdfjfkokgkoaa.fnExactConstants
open Go.ChangeShapes Go.WideShapes Go.ChangeAt Go.RowKit
open Go.ChangeMaps (open_string shut_string)
set_option linter.unusedVariables false
set_option linter.unusedSimpArgs false
theorem own : ownKnob Try.prog.godebug = none := by kernel_rfl
theorem laid : laidOutB Try.prog = true := by kernel_rfl
set_option maxRecDepth 100000 in
theorem lifted (os : Os) (started : os.Started) (H : Type) (enc : TypeId × Value → H) :
    ReturnsInHanded {} Try.checked os 3 .any (Rows.fnExactConstantsSpec.pre6 enc Try.prog Try.f3 Rows.fnExactConstantsRow.domain false) (Rows.fnExactConstantsSpec.post enc Try.prog Try.f3 false true false false) := by
  refine law_lifted (C := Try.checked) (fn := Try.f3) own started (by kernel_rfl) Try.func3 laid rfl rfl Try.underlying4 ?_
    (ChangeSpec.witness6 (enc := enc) (C := Try.checked) false ⟨#[], #[], []⟩ 8 (by kernel_rfl) (by kernel_rfl) (by kernel_rfl) (by kernel_rfl)) ?_ ?_
  · rw [Try.params3]
    intro t ht
    simp at ht
  · intro ds W args p hA
    rw [Try.params3] at hA
    obtain ⟨rfl, rfl, rfl⟩ := trodAll_none hA
    exact ⟨rfl, rfl, rfl⟩
  · intro W base args ds p hval hA hsz
    rw [Try.params3] at hA hval hsz
    obtain ⟨rfl, rfl, rfl⟩ := trodAll_none hA
    exact walk_Constants W 
theorem closed : joinedFacts Try.prog 3 Try.f3 Rows.fnExactConstantsSpec Rows.fnExactConstantsRow = true := by
  unfold joinedFacts
  rw [q_enter, q_lifts, q_make]
  kernel_rfl
theorem over : Rows.fnExactConstantsRow.holds Try.pinned (OpenSpec.ofChange Rows.fnExactConstantsSpec) :=
  OpenClaim.holds_of_wide 3 Try.f3 rfl rfl rfl rfl rfl rfl rfl ⟨rfl, rfl, rfl, rfl, rfl⟩ rfl rfl rfl rfl rfl (by kernel_rfl) Try.func3 closed
    (of_decide_eq_true (by kernel_rfl)) (by unfold Func.isWrapper; first | (rw [if_pos (by decide +kernel)]; kernel_rfl) | (rw [if_neg (by decide +kernel)]; exact ⟨rfl, rfl⟩))
    (fun os started H enc _ => lifted os started H enc)
end Go.Proofs.Ythpdfjfkokgkoaa.fnExactConstants
namespace Go.Proofs.Ythpdfjfkokgkoaa
/-- For every input the law FnExactConstants returns true and each argument reads as before. -/
theorem constants_holds : Rows.FnExactConstantsSaid := fnExactConstants.over
#print axioms constants_holds
end Go.Proofs.Ythpdfjfkokgkoaa
