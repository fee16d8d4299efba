/- Contracts: heaps. -/
import Derived.Test.YtjbaaomodcgdgaaB1
import Derived.Test.YtjbaaomodcgdgaaA0
import Derived.Handy
namespace Go.Proofs.Ytjbaaomodcgdgaa
open Go.RowKit
set_option linter.unusedVariables false
set_option linter.unusedSimpArgs false
def heapOk (L : List Int) : Bool := L.all fun x => inB x 0 1000
theorem l01Heap_any (g E : Nat) (L : List Int) (w : World) (r : Row w g E (nums .i32 L)) (hl : L.length = 8) (hw : Hid (∀ x ∈ L, (Lit.int .i32 x).wf = true)) :
    Calls Try.prog 45 #[.pointer (some ⟨g, 0, none⟩)] w fun e w' => e = .returned (.bool (heapOk L)) ∧ w = w' := by
  have HL := Lib.hid hl; clear hl
  go_enter Try.func45, Try.ntmps45
  go_wp2_with fail
  go_loop [3] (fun v => ∃ k : Nat, k ≤ 8 ∧ v = .int .i64 k ∧ Hid (∀ j x, j < k → L[j]? = some x → inB x 0 1000 = true)) (fun v => 8 - (intOf v).toNat)
  case atStart => exact ⟨0, by omega, rfl, Lib.hid (by intro j x h; omega)⟩
  case round =>
    obtain ⟨k, hk, rfl, HA⟩ := hrel
    by_cases hlt : k < 8
    · obtain ⟨x, hx⟩ : ∃ x, L[k]? = some x := ⟨_, List.getElem?_eq_getElem (by rw [HL.out]; exact hlt)⟩
      have hc : w.cell? ⟨g, k, none⟩ = some (.int .i32 x) := by rw [r.cell, nums_get, hx]; rfl
      have hb := bounds_i32 (hw.out x (List.mem_of_getElem? hx))
      have HX := Lib.hid hx; clear hx
      cases hin : inB x 0 1000
      · have e1 : heapOk L = false := by
          unfold heapOk
          rw [List.all_eq_false]
          exact ⟨x, List.mem_of_getElem? HX.out, by simp [hin]⟩
        have E1 := Lib.hid e1; clear e1
        go_wp2_with (go_at_call 47; (refine (l00In_any _ _ _ _).mono ?_); rintro e w' ⟨rfl, rfl⟩)
        go_ret
        exact ⟨by rw [E1.out]; rfl, rfl⟩
      · go_wp2_with (go_at_call 47; (refine (l00In_any _ _ _ _).mono ?_); rintro e w' ⟨rfl, rfl⟩)
        go_round
        case rel =>
          refine ⟨k + 1, by omega, by go_num, Lib.hid ?_⟩
          intro j y hj hy
          by_cases hjk : j = k
          · subst hjk
            rw [HX.out] at hy
            cases hy
            exact hin
          · exact HA.out j y (by omega) hy
        case measure => simp [intOf]; omega
    · have q1 : ¬ (k : Int) < 8 := by omega
      have e1 : heapOk L = true := by
        unfold heapOk
        rw [List.all_eq_true]
        intro x hx
        obtain ⟨j, hj, he⟩ := List.mem_iff_getElem.1 hx
        exact HA.out j x (by have := HL.out; omega) (by rw [List.getElem?_eq_getElem hj, he])
      have E1 := Lib.hid e1; clear e1
      go_wp2_with fail
      go_ret
      exact ⟨by rw [E1.out]; rfl, rfl⟩
theorem validHeap1 (x : Int) (w : World) (hb : -2147483648 ≤ x ∧ x ≤ 2147483647) : Calls Try.prog 71 #[.int .i32 x] w fun e w' => e = .returned (.bool (inB x 0 1000)) ∧ Below w.heap.size w w' := by
  go_enter Try.func71, Try.ntmps71
  go_wp2_with (go_at_call 37; (refine (within_any _ _ _ _).mono ?_); rintro e w' ⟨rfl, rfl⟩)
  go_ret
  exact ⟨rfl, Below.refl _ _⟩
theorem iValidHeap (a0 a1 a2 a3 a4 a5 a6 a7 : Int) (w : World) (hw : Hid (∀ x ∈ [a0, a1, a2, a3, a4, a5, a6, a7], (Lit.int .i32 x).wf = true)) :
    Calls Try.prog 36 #[.agg #[.int .i32 a0, .int .i32 a1, .int .i32 a2, .int .i32 a3, .int .i32 a4, .int .i32 a5, .int .i32 a6, .int .i32 a7]] w fun e w' => e = .returned (.bool (heapOk [a0, a1, a2, a3, a4, a5, a6, a7])) ∧ Below w.heap.size w w' := by
  have r : Row (w.alloc (.cells #[.int .i32 a0, .int .i32 a1, .int .i32 a2, .int .i32 a3, .int .i32 a4, .int .i32 a5, .int .i32 a6, .int .i32 a7] 27)) w.heap.size 27 (nums .i32 [a0, a1, a2, a3, a4, a5, a6, a7]) := Row.alloc w [.int .i32 a0, .int .i32 a1, .int .i32 a2, .int .i32 a3, .int .i32 a4, .int .i32 a5, .int .i32 a6, .int .i32 a7] 27
  have O := r.own (sz := 1) (n := 8) (Nat.le_refl _) (by decide) (by simp [nums])
  have RR := Lib.hid (own_rds1 O (by omega))
  clear O r
  go_enter Try.func36, Try.ntmps36
  go_wp2_with fail
  refine (areAll_i32 (p := fun x => inB x 0 1000) (enters_of Try.func71 rfl (by decide)) (Lib.hid fun x w hx => validHeap1 x w (bounds_i32 (hw.out x hx))) _ 8 8 _ RR.out).mono ?_
  rintro e w1 ⟨rfl, hb⟩
  go_wp2_with fail
  go_ret
  exact ⟨by unfold heapOk; simp, below_then (below_alloc1 w _) (below_alloc1 w _).size hb⟩
end Go.Proofs.Ytjbaaomodcgdgaa
