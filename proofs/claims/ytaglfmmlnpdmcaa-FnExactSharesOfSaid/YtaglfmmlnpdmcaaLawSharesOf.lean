/- The statement Rows.FnExactSharesOfSaid: for every input the law FnExactSharesOf returns true and each argument reads as before. No condition. -/
import Derived.Test.YtaglfmmlnpdmcaaRows
import Derived.Test.YtaglfmmlnpdmcaaK
import Derived.Test.YtaglfmmlnpdmcaaQ
import Derived.Test.YtaglfmmlnpdmcaaWalkSharesOf
namespace Go.Proofs.Ytaglfmmlnpdmcaa.fnExactSharesOf
open Go.ChangeShapes Go.WideShapes Go.ChangeAt Go.RowKit
open Go.ChangeMaps (open_string shut_string)
set_option linter.unusedVariables false
set_option linter.unusedSimpArgs false
theorem own : ownKnob Try.prog.godebug = none := by kernel_rfl
theorem laid : laidOutB Try.prog = true := by kernel_rfl
set_option maxRecDepth 100000 in
theorem lifted (os : Os) (started : os.Started) (H : Type) (enc : TypeId × Value → H) :
    ReturnsInHanded {} Try.checked os 8 .any (Rows.fnExactSharesOfSpec.pre6 enc Try.prog Try.f8 Rows.fnExactSharesOfRow.domain false) (Rows.fnExactSharesOfSpec.post enc Try.prog Try.f8 false true false false) := by
  refine law_lifted (C := Try.checked) (fn := Try.f8) own started (by kernel_rfl) Try.func8 laid rfl rfl Try.underlying4 ?_
    (ChangeSpec.witness6 (enc := enc) (C := Try.checked) false ⟨#[], #[.agg #[.int .i32 0, .int .i32 0, .int .i32 0, .int .i32 0, .int .i32 0, .int .i32 0, .int .i32 0, .int .i32 0]], []⟩ 8 (by kernel_rfl) (by kernel_rfl) (by kernel_rfl) (by kernel_rfl)) ?_ ?_
  · rw [Try.params8]
    intro t ht
    simp only [List.mem_cons, List.not_mem_nil, or_false] at ht
    rcases ht with rfl
    · exact ⟨by kernel_rfl, of_decide_eq_true (by kernel_rfl)⟩
  · intro ds W args p hA
    rw [Try.params8] at hA
    obtain ⟨v0, vs0, d0, ds0, p0, q0, hargs, rfl, rfl, h0, r0⟩ := trodAll_cons hA
    obtain ⟨rfl, rfl, rfl⟩ := trodAll_nil r0
    exact ⟨rfl, rfl, rfl⟩
  · intro W base args ds p hval hA hsz
    rw [Try.params8] at hA hval hsz
    obtain ⟨v0, vs0, d0, ds0, p0, q0, hargs, rfl, rfl, h0, r0⟩ := trodAll_cons hA
    obtain ⟨rfl, rfl, rfl⟩ := trodAll_nil r0
    obtain rfl : args = #[v0] := by cases args; simp_all
    obtain ⟨x0, rfl, g0⟩ := opens_agg (opens_arr Try.underlying22 Try.underlying21 (by kernel_rfl) (by kernel_rfl)) (.inr ⟨_, _, Try.underlying22⟩) (hval 0 22 v0 rfl rfl) h0
    exact walk_SharesOf W x0 g0
theorem closed : joinedFacts Try.prog 8 Try.f8 Rows.fnExactSharesOfSpec Rows.fnExactSharesOfRow = true := by
  unfold joinedFacts
  rw [q_enter, q_lifts, q_make]
  kernel_rfl
theorem over : Rows.fnExactSharesOfRow.holds Try.pinned (OpenSpec.ofChange Rows.fnExactSharesOfSpec) :=
  OpenClaim.holds_of_wide 8 Try.f8 rfl rfl rfl rfl rfl rfl rfl ⟨rfl, rfl, rfl, rfl, rfl⟩ rfl rfl rfl rfl rfl (by kernel_rfl) Try.func8 closed
    (of_decide_eq_true (by kernel_rfl)) (by unfold Func.isWrapper; first | (rw [if_pos (by decide +kernel)]; kernel_rfl) | (rw [if_neg (by decide +kernel)]; exact ⟨rfl, rfl⟩))
    (fun os started H enc _ => lifted os started H enc)
end Go.Proofs.Ytaglfmmlnpdmcaa.fnExactSharesOf
namespace Go.Proofs.Ytaglfmmlnpdmcaa
/-- For every input the law FnExactSharesOf returns true and each argument reads as before. -/
theorem sharesOf_holds : Rows.FnExactSharesOfSaid := fnExactSharesOf.over
#print axioms sharesOf_holds
end Go.Proofs.Ytaglfmmlnpdmcaa
