/- The statement Rows.FnExactRestOfSaid: for every input the law FnExactRestOf returns true and each argument reads as before. No condition. -/
import Derived.Test.YthllecfbpipagaaRows
import Derived.Test.YthllecfbpipagaaK
import Derived.Test.YthllecfbpipagaaQ
import Derived.Test.YthllecfbpipagaaWalkRestOf
namespace Go.Proofs.Ythllecfbpipagaa.fnExactRestOf
open Go.ChangeShapes Go.WideShapes Go.ChangeAt Go.RowKit
open Go.ChangeMaps (open_string shut_string)
set_option linter.unusedVariables false
set_option linter.unusedSimpArgs false
theorem own : ownKnob Try.prog.godebug = none := by kernel_rfl
theorem laid : laidOutB Try.prog = true := by kernel_rfl
set_option maxRecDepth 100000 in
theorem lifted (os : Os) (started : os.Started) (H : Type) (enc : TypeId × Value → H) :
    ReturnsInHanded {} Try.checked os 8 .any (Rows.fnExactRestOfSpec.pre6 enc Try.prog Try.f8 Rows.fnExactRestOfRow.domain false) (Rows.fnExactRestOfSpec.post enc Try.prog Try.f8 false true false false) := by
  refine law_lifted (C := Try.checked) (fn := Try.f8) own started (by kernel_rfl) Try.func8 laid rfl rfl Try.underlying4 ?_
    (ChangeSpec.witness6 (enc := enc) (C := Try.checked) false ⟨#[], #[.slice none 0 0, .int .i64 0], []⟩ 8 (by kernel_rfl) (by kernel_rfl) (by kernel_rfl) (by kernel_rfl)) ?_ ?_
  · rw [Try.params8]
    intro t ht
    simp only [List.mem_cons, List.not_mem_nil, or_false] at ht
    rcases ht with rfl | rfl
    · exact ⟨by kernel_rfl, of_decide_eq_true (by kernel_rfl)⟩
    · exact ⟨by kernel_rfl, of_decide_eq_true (by kernel_rfl)⟩
  · intro ds W args p hA
    rw [Try.params8] at hA
    obtain ⟨v0, vs0, d0, ds0, p0, q0, hargs, rfl, rfl, h0, r0⟩ := trodAll_cons hA
    obtain ⟨v1, vs1, d1, ds1, p1, q1, rfl, rfl, rfl, h1, r1⟩ := trodAll_cons r0
    obtain ⟨rfl, rfl, rfl⟩ := trodAll_nil r1
    exact ⟨rfl, rfl, rfl⟩
  · intro W base args ds p hval hA hsz
    rw [Try.params8] at hA hval hsz
    obtain ⟨v0, vs0, d0, ds0, p0, q0, hargs, rfl, rfl, h0, r0⟩ := trodAll_cons hA
    obtain ⟨v1, vs1, d1, ds1, p1, q1, rfl, rfl, rfl, h1, r1⟩ := trodAll_cons r0
    obtain ⟨rfl, rfl, rfl⟩ := trodAll_nil r1
    obtain rfl : args = #[v0, v1] := by cases args; simp_all
    obtain ⟨A0, n0, c0, x0, rfl, hc0, R0, g0, b0⟩ := opens_slice (sz := 3) (by_ := 6) (opens_struct3 Try.underlying30 (by kernel_rfl) ⟨Try.underlying28, rfl, (by kernel_rfl)⟩ ⟨Try.underlying28, rfl, (by kernel_rfl)⟩ ⟨Try.underlying28, rfl, (by kernel_rfl)⟩) Try.underlying22 (by kernel_rfl) (by kernel_rfl) (by decide) (hval 0 22 v0 rfl rfl) hsz (j := 0) rfl rfl h0
    obtain ⟨x1, rfl, rfl, rfl, g1⟩ := open_int Try.underlying2 (hval 1 2 v1 rfl rfl) h1
    exact walk_RestOf W A0 n0 c0 x0 hc0 R0 g0 b0 x1 g1
theorem closed : joinedFacts Try.prog 8 Try.f8 Rows.fnExactRestOfSpec Rows.fnExactRestOfRow = true := by
  unfold joinedFacts
  rw [q_enter, q_lifts, q_make]
  kernel_rfl
theorem over : Rows.fnExactRestOfRow.holds Try.pinned (OpenSpec.ofChange Rows.fnExactRestOfSpec) :=
  OpenClaim.holds_of_wide 8 Try.f8 rfl rfl rfl rfl rfl rfl rfl ⟨rfl, rfl, rfl, rfl, rfl⟩ rfl rfl rfl rfl rfl (by kernel_rfl) Try.func8 closed
    (of_decide_eq_true (by kernel_rfl)) (by unfold Func.isWrapper; first | (rw [if_pos (by decide +kernel)]; kernel_rfl) | (rw [if_neg (by decide +kernel)]; exact ⟨rfl, rfl⟩))
    (fun os started H enc _ => lifted os started H enc)
end Go.Proofs.Ythllecfbpipagaa.fnExactRestOf
namespace Go.Proofs.Ythllecfbpipagaa
/-- For every input the law FnExactRestOf returns true and each argument reads as before. -/
theorem restOf_holds : Rows.FnExactRestOfSaid := fnExactRestOf.over
#print axioms restOf_holds
end Go.Proofs.Ythllecfbpipagaa
