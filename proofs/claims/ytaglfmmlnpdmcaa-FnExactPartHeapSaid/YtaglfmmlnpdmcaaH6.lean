/- Contracts: spec.JoinHeaps, WashedHeap. -/
import Derived.Test.YtaglfmmlnpdmcaaH5
import Derived.RegionTactic
import Derived.BigRegion
import Derived.IntWalk
namespace Go.Proofs.Ytaglfmmlnpdmcaa
open Go.RowKit
set_option linter.unusedVariables false
set_option linter.unusedSimpArgs false
def mix (f : Nat → Int) (L : List Int) (k : Nat) : List Int := (List.range 8).map fun j => if j < k then f j else L.getD j 0
theorem mix_at (f : Nat → Int) (L : List Int) {k : Nat} (h : k < 8) : (nums .i32 (mix f L k))[k]? = some (.int .i32 (L.getD k 0)) := by
  simp [nums, mix, h]
theorem list_at {L : List Int} (hl : L.length = 8) {k : Nat} (h : k < 8) : (nums .i32 L)[k]? = some (.int .i32 (L.getD k 0)) := by
  have : k < L.length := by omega
  simp [nums, List.getElem?_eq_getElem this]
theorem mix_set (f : Nat → Int) (L : List Int) {k : Nat} (h : k < 8) : (nums .i32 (mix f L k)).set k (.int .i32 (f k)) = nums .i32 (mix f L (k + 1)) := by
  apply List.ext_getElem?
  intro i
  rw [List.getElem?_set]
  by_cases h1 : k = i
  · subst h1
    simp [nums, mix, h]
  · by_cases h2 : i < 8
    · simp only [nums, mix, h1, if_false, List.getElem?_map, List.getElem?_range h2, Option.map_some]
      by_cases h3 : i < k
      · simp [h3, show i < k + 1 from by omega]
      · simp [h3, show ¬ i < k + 1 from by omega]
    · simp [nums, mix, h1, h2]
theorem mix_zero (f : Nat → Int) {L : List Int} (h : L.length = 8) : mix f L 0 = L := by
  apply List.ext_getElem?
  intro i
  by_cases h2 : i < 8
  · have : i < L.length := by omega
    simp [mix, h2, List.getElem?_eq_getElem this]
  · simp [mix, h2]; omega
theorem mix_all (f : Nat → Int) (L : List Int) : mix f L 8 = [f 0, f 1, f 2, f 3, f 4, f 5, f 6, f 7] := rfl
theorem heapOk_at {L : List Int} (h : heapOk L = true) (k : Nat) : 0 ≤ L.getD k 0 ∧ L.getD k 0 ≤ 1000 := by
  by_cases hk : k < L.length
  · have := (List.all_eq_true.1 h) L[k] (List.getElem_mem hk)
    simp only [inB, decide_eq_true_eq] at this
    simpa [List.getElem?_eq_getElem hk] using this
  · simp [List.getElem?_eq_none (by omega : L.length ≤ k)]
def asC (L : List Int) (f : Bool) : Int := if heapOk L = false then 1 else if f = false then 2 else 0
theorem l01Asked_any (g E : Nat) (L : List Int) (f : Bool) (w : World) (r : Row w g E (nums .i32 L)) (hl : L.length = 8) (hw : Hid (∀ x ∈ L, (Lit.int .i32 x).wf = true)) :
    Calls Try.prog 34 #[.pointer (some ⟨g, 0, none⟩), .bool f] w fun e w' => e = .returned (.int .i64 (asC L f)) ∧ w = w' := by
  have RR := Lib.hid r; clear r
  cases h : heapOk L
  · have hc : asC L f = 1 := by simp [asC, h]
    have HC := Lib.hid hc; have H := Lib.hid h; clear hc h
    go_enter Try.func34, Try.ntmps34
    go_wp2_with fail
    refine (l01Heap_any _ _ L _ RR.out hl hw).mono ?_
    rintro e w1 ⟨rfl, rfl⟩
    rw [H.out]
    go_wp2_with fail
    go_ret
    exact ⟨by rw [HC.out]; rfl, rfl⟩
  · cases f
    · have hc : asC L false = 2 := by simp [asC, h]
      have HC := Lib.hid hc; have H := Lib.hid h; clear hc h
      go_enter Try.func34, Try.ntmps34
      go_wp2_with fail
      refine (l01Heap_any _ _ L _ RR.out hl hw).mono ?_
      rintro e w1 ⟨rfl, rfl⟩
      rw [H.out]
      go_wp2_with fail
      go_ret
      exact ⟨by rw [HC.out]; rfl, rfl⟩
    · have hc : asC L true = 0 := by simp [asC, h]
      have HC := Lib.hid hc; have H := Lib.hid h; clear hc h
      go_enter Try.func34, Try.ntmps34
      go_wp2_with fail
      refine (l01Heap_any _ _ L _ RR.out hl hw).mono ?_
      rintro e w1 ⟨rfl, rfl⟩
      rw [H.out]
      go_wp2_with fail
      go_ret
      exact ⟨by rw [HC.out]; rfl, rfl⟩
def wsh (x p : Int) : Int := (x * (100 - p)).tdiv 100
def waC (L : List Int) (p : Int) : Int := asC L (inB p 0 100)
theorem wsh_facts {x p : Int} (hx : 0 ≤ x ∧ x ≤ 1000) (hp : 0 ≤ p ∧ p ≤ 100) : IntKind.i64.wrap (100 - p) = 100 - p ∧ IntKind.i64.wrap (x * (100 - p)) = x * (100 - p) ∧ IntKind.i64.wrap ((x * (100 - p)).tdiv 100) = (x * (100 - p)).tdiv 100 ∧ IntKind.i32.wrap ((x * (100 - p)).tdiv 100) = (x * (100 - p)).tdiv 100 ∧ 0 ≤ (x * (100 - p)).tdiv 100 ∧ (x * (100 - p)).tdiv 100 ≤ 100000 := by
  have h1 : 0 ≤ x * (100 - p) := Int.mul_nonneg hx.1 (by omega)
  have h2 : x * (100 - p) ≤ 1000 * 100 := Int.mul_le_mul hx.2 (by omega) (by omega) (by omega)
  have h3 : (x * (100 - p)).tdiv 100 = (x * (100 - p)) / 100 := Int.tdiv_eq_ediv_of_nonneg h1
  rw [h3]
  refine ⟨IntWalk.i64_in _ (by omega), IntWalk.i64_in _ (by omega), IntWalk.i64_in _ (by omega), IntWalk.i32_in _ (by omega), by omega, by omega⟩
theorem idxA (a0 a1 a2 a3 a4 a5 a6 a7 : Int) : ∀ k : Nat, k < 8 → ∀ w : World, (Instr.index 25 (.agg #[.int .i32 a0, .int .i32 a1, .int .i32 a2, .int .i32 a3, .int .i32 a4, .int .i32 a5, .int .i32 a6, .int .i32 a7]) (.int .i64 k)).run Try.prog w = .ok (.int .i32 ([a0, a1, a2, a3, a4, a5, a6, a7].getD k 0)) w := by
  obtain ⟨i0, i1, i2, i3, i4, i5, i6, i7⟩ := idxH a0 a1 a2 a3 a4 a5 a6 a7
  intro k hk w
  match k, hk with
  | 0, _ => exact i0 w
  | 1, _ => exact i1 w
  | 2, _ => exact i2 w
  | 3, _ => exact i3 w
  | 4, _ => exact i4 w
  | 5, _ => exact i5 w
  | 6, _ => exact i6 w
  | 7, _ => exact i7 w
end Go.Proofs.Ytaglfmmlnpdmcaa
