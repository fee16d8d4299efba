/- The statement Rows.FnBlendsSaid: for every input the law FnBlends returns true and each argument reads as before. No condition. -/
import Derived.Test.YtjbaaomodcgdgaaRows
import Derived.Test.YtjbaaomodcgdgaaK
import Derived.Test.YtjbaaomodcgdgaaQ
import Derived.Test.YtjbaaomodcgdgaaWab
namespace Go.Proofs.Ytjbaaomodcgdgaa.fnBlends
open Go.ChangeShapes Go.WideShapes Go.ChangeAt Go.RowKit
open Go.ChangeMaps (open_string shut_string)
set_option linter.unusedVariables false
set_option linter.unusedSimpArgs false
theorem own : ownKnob Try.prog.godebug = none := by kernel_rfl
theorem laid : laidOutB Try.prog = true := by kernel_rfl
set_option maxRecDepth 100000 in
theorem lifted (os : Os) (started : os.Started) (H : Type) (enc : TypeId × Value → H) :
    ReturnsInHanded {} Try.checked os 3 .any (Rows.fnBlendsSpec.pre6 enc Try.prog Try.f3 Rows.fnBlendsRow.domain false) (Rows.fnBlendsSpec.post enc Try.prog Try.f3 false true false false) := by
  refine law_lifted (C := Try.checked) (fn := Try.f3) own started (by kernel_rfl) Try.func3 laid rfl rfl Try.underlying4 ?_
    (ChangeSpec.witness6 (enc := enc) (C := Try.checked) false ⟨#[], #[.slice none 0 0, .slice none 0 0], []⟩ 8 (by kernel_rfl) (by kernel_rfl) (by kernel_rfl) (by kernel_rfl)) ?_ ?_
  · rw [Try.params3]
    intro t ht
    simp only [List.mem_cons, List.not_mem_nil, or_false] at ht
    rcases ht with rfl | rfl
    · exact ⟨by kernel_rfl, of_decide_eq_true (by kernel_rfl)⟩
    · exact ⟨by kernel_rfl, of_decide_eq_true (by kernel_rfl)⟩
  · intro ds W args p hA
    rw [Try.params3] at hA
    obtain ⟨v0, vs0, d0, ds0, p0, q0, hargs, rfl, rfl, h0, r0⟩ := trodAll_cons hA
    obtain ⟨v1, vs1, d1, ds1, p1, q1, rfl, rfl, rfl, h1, r1⟩ := trodAll_cons r0
    obtain ⟨rfl, rfl, rfl⟩ := trodAll_nil r1
    exact ⟨rfl, rfl, rfl⟩
  · intro W base args ds p hval hA hsz
    rw [Try.params3] at hA hval hsz
    obtain ⟨v0, vs0, d0, ds0, p0, q0, hargs, rfl, rfl, h0, r0⟩ := trodAll_cons hA
    obtain ⟨v1, vs1, d1, ds1, p1, q1, rfl, rfl, rfl, h1, r1⟩ := trodAll_cons r0
    obtain ⟨rfl, rfl, rfl⟩ := trodAll_nil r1
    obtain rfl : args = #[v0, v1] := by cases args; simp_all
    obtain ⟨A0, n0, c0, x0, rfl, hc0, R0, g0, b0⟩ := opens_slice (sz := 1) (by_ := 1) (opens_int Try.underlying5) Try.underlying22 (by kernel_rfl) (by kernel_rfl) (by decide) (hval 0 22 v0 rfl rfl) hsz (j := 0) rfl rfl h0
    obtain ⟨A1, n1, c1, x1, rfl, hc1, R1, g1, b1⟩ := opens_slice (sz := 1) (by_ := 1) (opens_int Try.underlying5) Try.underlying22 (by kernel_rfl) (by kernel_rfl) (by decide) (hval 1 22 v1 rfl rfl) hsz (j := 1) rfl rfl h1
    exact walk_FnBlends W A0 n0 c0 x0 hc0 R0 g0 b0 A1 n1 c1 x1 hc1 R1 g1 b1
theorem closed : joinedFacts Try.prog 3 Try.f3 Rows.fnBlendsSpec Rows.fnBlendsRow = true := by
  unfold joinedFacts
  rw [q_enter, q_lifts, q_make]
  kernel_rfl
theorem over : Rows.fnBlendsRow.holds Try.pinned (OpenSpec.ofChange Rows.fnBlendsSpec) :=
  OpenClaim.holds_of_wide 3 Try.f3 rfl rfl rfl rfl rfl rfl rfl ⟨rfl, rfl, rfl, rfl, rfl⟩ rfl rfl rfl rfl rfl (by kernel_rfl) Try.func3 closed
    (of_decide_eq_true (by kernel_rfl)) (by unfold Func.isWrapper; first | (rw [if_pos (by decide +kernel)]; kernel_rfl) | (rw [if_neg (by decide +kernel)]; exact ⟨rfl, rfl⟩))
    (fun os started H enc _ => lifted os started H enc)
end Go.Proofs.Ytjbaaomodcgdgaa.fnBlends
namespace Go.Proofs.Ytjbaaomodcgdgaa
/-- For every input the law FnBlends returns true and each argument reads as before. -/
theorem fnBlends_holds : Rows.FnBlendsSaid := fnBlends.over
#print axioms fnBlends_holds
end Go.Proofs.Ytjbaaomodcgdgaa
