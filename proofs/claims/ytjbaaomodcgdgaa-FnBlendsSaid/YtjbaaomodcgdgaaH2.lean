/- Contracts: fleeces. -/
import Derived.Test.YtjbaaomodcgdgaaH1
namespace Go.Proofs.Ytjbaaomodcgdgaa
open Go.RowKit
set_option linter.unusedVariables false
set_option linter.unusedSimpArgs false
def fleeceOk (f : Int) (L : List Int) : Bool := inB f 0 9 && heapOk L
theorem l01Heap_at (g o : Nat) (L : List Int) (w : World) (r : Hid (∀ k x, L[k]? = some x → w.cell? ⟨g, o + k, none⟩ = some (.int .i32 x))) (hl : L.length = 8) (hw : Hid (∀ x ∈ L, (Lit.int .i32 x).wf = true)) :
    Calls Try.prog 45 #[.pointer (some ⟨g, o, none⟩)] w fun e w' => e = .returned (.bool (heapOk L)) ∧ w = w' := by
  have HL := Lib.hid hl; clear hl
  go_enter Try.func45, Try.ntmps45
  go_wp2_with fail
  go_loop [3] (fun v => ∃ k : Nat, k ≤ 8 ∧ v = .int .i64 k ∧ Hid (∀ j x, j < k → L[j]? = some x → inB x 0 1000 = true)) (fun v => 8 - (intOf v).toNat)
  case atStart => exact ⟨0, by omega, rfl, Lib.hid (by intro j x h; omega)⟩
  case round =>
    obtain ⟨k, hk, rfl, HA⟩ := hrel
    by_cases hlt : k < 8
    · obtain ⟨x, hx⟩ : ∃ x, L[k]? = some x := ⟨_, List.getElem?_eq_getElem (by rw [HL.out]; exact hlt)⟩
      have hc := r.out k x hx
      have hb := bounds_i32 (hw.out x (List.mem_of_getElem? hx))
      have HX := Lib.hid hx; clear hx
      cases hin : inB x 0 1000
      · have e1 : heapOk L = false := by
          unfold heapOk
          rw [List.all_eq_false]
          exact ⟨x, List.mem_of_getElem? HX.out, by simp [hin]⟩
        have E1 := Lib.hid e1; clear e1
        go_wp2_with (go_at_call 47; (refine (l00In_any _ _ _ _).mono ?_); rintro e w' ⟨rfl, rfl⟩)
        go_ret
        exact ⟨by rw [E1.out]; rfl, rfl⟩
      · go_wp2_with (go_at_call 47; (refine (l00In_any _ _ _ _).mono ?_); rintro e w' ⟨rfl, rfl⟩)
        go_round
        case rel =>
          refine ⟨k + 1, by omega, by go_num, Lib.hid ?_⟩
          intro j y hj hy
          by_cases hjk : j = k
          · subst hjk
            rw [HX.out] at hy
            cases hy
            exact hin
          · exact HA.out j y (by omega) hy
        case measure => simp [intOf]; omega
    · have q1 : ¬ (k : Int) < 8 := by omega
      have e1 : heapOk L = true := by
        unfold heapOk
        rw [List.all_eq_true]
        intro x hx
        obtain ⟨j, hj, he⟩ := List.mem_iff_getElem.1 hx
        exact HA.out j x (by have := HL.out; omega) (by rw [List.getElem?_eq_getElem hj, he])
      have E1 := Lib.hid e1; clear e1
      go_wp2_with fail
      go_ret
      exact ⟨by rw [E1.out]; rfl, rfl⟩
theorem iValidFleece (f a0 a1 a2 a3 a4 a5 a6 a7 : Int) (w : World) (hf : -128 ≤ f ∧ f ≤ 127) (hw : Hid (∀ x ∈ [a0, a1, a2, a3, a4, a5, a6, a7], (Lit.int .i32 x).wf = true)) :
    Calls Try.prog 35 #[.agg #[.int .i8 f, .int .i32 a0, .int .i32 a1, .int .i32 a2, .int .i32 a3, .int .i32 a4, .int .i32 a5, .int .i32 a6, .int .i32 a7]] w fun e w' => e = .returned (.bool (fleeceOk f [a0, a1, a2, a3, a4, a5, a6, a7])) ∧ Below w.heap.size w w' := by
  cases h : inB f 0 9
  all_goals
    go_enter Try.func35, Try.ntmps35
    go_wp2_with (first
      | (go_at_call 37; (refine (within_any _ _ _ _).mono ?_); rintro e w' ⟨rfl, rfl⟩)
      | (go_at_call 36; (refine (iValidHeap a0 a1 a2 a3 a4 a5 a6 a7 _ hw).mono ?_); rintro e w1 ⟨rfl, hb⟩))
    go_ret
  · exact ⟨by simp [fleeceOk, h], by go_grown⟩
  · exact ⟨by simp [fleeceOk, h], below_then (below_alloc1 w _) (below_alloc1 w _).size hb⟩
end Go.Proofs.Ytjbaaomodcgdgaa
