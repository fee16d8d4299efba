/- The statement Rows.FnExactFewestPassesSaid: for every input the law FnExactFewestPasses returns true and each argument reads as before. No condition. -/
import Derived.Test.YtkiocmbiahbboaaRows
import Derived.Test.YtkiocmbiahbboaaK
import Derived.Test.YtkiocmbiahbboaaQ
import Derived.Test.YtkiocmbiahbboaaWalkFewestPasses
namespace Go.Proofs.Ytkiocmbiahbboaa.fnExactFewestPasses
open Go.ChangeShapes Go.WideShapes Go.ChangeAt Go.RowKit
open Go.ChangeMaps (open_string shut_string)
set_option linter.unusedVariables false
set_option linter.unusedSimpArgs false
theorem own : ownKnob Try.prog.godebug = none := by kernel_rfl
theorem laid : laidOutB Try.prog = true := by kernel_rfl
set_option maxRecDepth 100000 in
theorem lifted (os : Os) (started : os.Started) (H : Type) (enc : TypeId × Value → H) :
    ReturnsInHanded {} Try.checked os 4 .any (Rows.fnExactFewestPassesSpec.pre6 enc Try.prog Try.f4 Rows.fnExactFewestPassesRow.domain false) (Rows.fnExactFewestPassesSpec.post enc Try.prog Try.f4 false true false false) := by
  refine law_lifted (C := Try.checked) (fn := Try.f4) own started (by kernel_rfl) Try.func4 laid rfl rfl Try.underlying4 ?_
    (ChangeSpec.witness6 (enc := enc) (C := Try.checked) false ⟨#[], #[.slice none 0 0, .int .i64 0, .int .i64 0], []⟩ 8 (by kernel_rfl) (by kernel_rfl) (by kernel_rfl) (by kernel_rfl)) ?_ ?_
  · rw [Try.params4]
    intro t ht
    simp only [List.mem_cons, List.not_mem_nil, or_false] at ht
    rcases ht with rfl | rfl | rfl
    · exact ⟨by kernel_rfl, of_decide_eq_true (by kernel_rfl)⟩
    · exact ⟨by kernel_rfl, of_decide_eq_true (by kernel_rfl)⟩
    · exact ⟨by kernel_rfl, of_decide_eq_true (by kernel_rfl)⟩
  · intro ds W args p hA
    rw [Try.params4] at hA
    obtain ⟨v0, vs0, d0, ds0, p0, q0, hargs, rfl, rfl, h0, r0⟩ := trodAll_cons hA
    obtain ⟨v1, vs1, d1, ds1, p1, q1, rfl, rfl, rfl, h1, r1⟩ := trodAll_cons r0
    obtain ⟨v2, vs2, d2, ds2, p2, q2, rfl, rfl, rfl, h2, r2⟩ := trodAll_cons r1
    obtain ⟨rfl, rfl, rfl⟩ := trodAll_nil r2
    exact ⟨rfl, rfl, rfl⟩
  · intro W base args ds p hval hA hsz
    rw [Try.params4] at hA hval hsz
    obtain ⟨v0, vs0, d0, ds0, p0, q0, hargs, rfl, rfl, h0, r0⟩ := trodAll_cons hA
    obtain ⟨v1, vs1, d1, ds1, p1, q1, rfl, rfl, rfl, h1, r1⟩ := trodAll_cons r0
    obtain ⟨v2, vs2, d2, ds2, p2, q2, rfl, rfl, rfl, h2, r2⟩ := trodAll_cons r1
    obtain ⟨rfl, rfl, rfl⟩ := trodAll_nil r2
    obtain rfl : args = #[v0, v1, v2] := by cases args; simp_all
    obtain ⟨A0, n0, c0, x0, rfl, hc0, R0, g0, b0⟩ := opens_slice (sz := 1) (by_ := 8) (opens_int Try.underlying2) Try.underlying22 (by kernel_rfl) (by kernel_rfl) (by decide) (hval 0 22 v0 rfl rfl) hsz (j := 0) rfl rfl h0
    obtain ⟨x1, rfl, rfl, rfl, g1⟩ := open_int Try.underlying2 (hval 1 2 v1 rfl rfl) h1
    obtain ⟨x2, rfl, rfl, rfl, g2⟩ := open_int Try.underlying2 (hval 2 2 v2 rfl rfl) h2
    exact walk_FewestPasses W A0 n0 c0 x0 hc0 R0 g0 b0 x1 g1 x2 g2
theorem closed : joinedFacts Try.prog 4 Try.f4 Rows.fnExactFewestPassesSpec Rows.fnExactFewestPassesRow = true := by
  unfold joinedFacts
  rw [q_enter, q_lifts, q_make]
  kernel_rfl
theorem over : Rows.fnExactFewestPassesRow.holds Try.pinned (OpenSpec.ofChange Rows.fnExactFewestPassesSpec) :=
  OpenClaim.holds_of_wide 4 Try.f4 rfl rfl rfl rfl rfl rfl rfl ⟨rfl, rfl, rfl, rfl, rfl⟩ rfl rfl rfl rfl rfl (by kernel_rfl) Try.func4 closed
    (of_decide_eq_true (by kernel_rfl)) (by unfold Func.isWrapper; first | (rw [if_pos (by decide +kernel)]; kernel_rfl) | (rw [if_neg (by decide +kernel)]; exact ⟨rfl, rfl⟩))
    (fun os started H enc _ => lifted os started H enc)
end Go.Proofs.Ytkiocmbiahbboaa.fnExactFewestPasses
namespace Go.Proofs.Ytkiocmbiahbboaa
/-- For every input the law FnExactFewestPasses returns true and each argument reads as before. -/
theorem fewestPasses_holds : Rows.FnExactFewestPassesSaid := fnExactFewestPasses.over
#print axioms fewestPasses_holds
end Go.Proofs.Ytkiocmbiahbboaa
