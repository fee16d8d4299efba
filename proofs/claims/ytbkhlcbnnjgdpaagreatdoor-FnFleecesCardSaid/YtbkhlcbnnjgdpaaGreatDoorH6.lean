/- Contracts: spec.JoinHeaps, WashedHeap. -/
import Derived.Test.YtbkhlcbnnjgdpaaGreatDoorH5
import Derived.RegionTactic
import Derived.BigRegion
import Derived.IntWalk
namespace Go.Proofs.YtbkhlcbnnjgdpaaGreatDoor
open Go.RowKit
set_option linter.unusedVariables false
set_option linter.unusedSimpArgs false
def mix (f : Nat → Int) (L : List Int) (k : Nat) : List Int := (List.range 8).map fun j => if j < k then f j else L.getD j 0
theorem mix_at (f : Nat → Int) (L : List Int) {k : Nat} (h : k < 8) : (nums .i32 (mix f L k))[k]? = some (.int .i32 (L.getD k 0)) := by
  simp [nums, mix, h]
theorem list_at {L : List Int} (hl : L.length = 8) {k : Nat} (h : k < 8) : (nums .i32 L)[k]? = some (.int .i32 (L.getD k 0)) := by
  have : k < L.length := by omega
  simp [nums, List.getElem?_eq_getElem this]
theorem mix_set (f : Nat → Int) (L : List Int) {k : Nat} (h : k < 8) : (nums .i32 (mix f L k)).set k (.int .i32 (f k)) = nums .i32 (mix f L (k + 1)) := by
  apply List.ext_getElem?
  intro i
  rw [List.getElem?_set]
  by_cases h1 : k = i
  · subst h1
    simp [nums, mix, h]
  · by_cases h2 : i < 8
    · simp only [nums, mix, h1, if_false, List.getElem?_map, List.getElem?_range h2, Option.map_some]
      by_cases h3 : i < k
      · simp [h3, show i < k + 1 from by omega]
      · simp [h3, show ¬ i < k + 1 from by omega]
    · simp [nums, mix, h1, h2]
theorem mix_zero (f : Nat → Int) {L : List Int} (h : L.length = 8) : mix f L 0 = L := by
  apply List.ext_getElem?
  intro i
  by_cases h2 : i < 8
  · have : i < L.length := by omega
    simp [mix, h2, List.getElem?_eq_getElem this]
  · simp [mix, h2]; omega
theorem mix_all (f : Nat → Int) (L : List Int) : mix f L 8 = [f 0, f 1, f 2, f 3, f 4, f 5, f 6, f 7] := rfl
theorem heapOk_at {L : List Int} (h : heapOk L = true) (k : Nat) : 0 ≤ L.getD k 0 ∧ L.getD k 0 ≤ 1000 := by
  by_cases hk : k < L.length
  · have := (List.all_eq_true.1 h) L[k] (List.getElem_mem hk)
    simp only [inB, decide_eq_true_eq] at this
    simpa [List.getElem?_eq_getElem hk] using this
  · simp [List.getElem?_eq_none (by omega : L.length ≤ k)]
def asC (L : List Int) (f : Bool) : Int := if heapOk L = false then 1 else if f = false then 2 else 0
theorem l01Asked_any (g E : Nat) (L : List Int) (f : Bool) (w : World) (r : Row w g E (nums .i32 L)) (hl : L.length = 8) (hw : Hid (∀ x ∈ L, (Lit.int .i32 x).wf = true)) :
    Calls Tryz.prog 42 #[.pointer (some ⟨g, 0, none⟩), .bool f] w fun e w' => e = .returned (.int .i64 (asC L f)) ∧ w = w' := by
  have RR := Lib.hid r; clear r
  cases h : heapOk L
  · have hc : asC L f = 1 := by simp [asC, h]
    have HC := Lib.hid hc; have H := Lib.hid h; clear hc h
    go_enter Tryz.func42, Tryz.ntmps42
    go_wp2_with fail
    refine (l01Heap_any _ _ L _ RR.out hl hw).mono ?_
    rintro e w1 ⟨rfl, rfl⟩
    rw [H.out]
    go_wp2_with fail
    go_ret
    exact ⟨by rw [HC.out]; rfl, rfl⟩
  · cases f
    · have hc : asC L false = 2 := by simp [asC, h]
      have HC := Lib.hid hc; have H := Lib.hid h; clear hc h
      go_enter Tryz.func42, Tryz.ntmps42
      go_wp2_with fail
      refine (l01Heap_any _ _ L _ RR.out hl hw).mono ?_
      rintro e w1 ⟨rfl, rfl⟩
      rw [H.out]
      go_wp2_with fail
      go_ret
      exact ⟨by rw [HC.out]; rfl, rfl⟩
    · have hc : asC L true = 0 := by simp [asC, h]
      have HC := Lib.hid hc; have H := Lib.hid h; clear hc h
      go_enter Tryz.func42, Tryz.ntmps42
      go_wp2_with fail
      refine (l01Heap_any _ _ L _ RR.out hl hw).mono ?_
      rintro e w1 ⟨rfl, rfl⟩
      rw [H.out]
      go_wp2_with fail
      go_ret
      exact ⟨by rw [HC.out]; rfl, rfl⟩
def wsh (x p : Int) : Int := (x * (100 - p)).tdiv 100
def waC (L : List Int) (p : Int) : Int := asC L (inB p 0 100)
theorem wsh_facts {x p : Int} (hx : 0 ≤ x ∧ x ≤ 1000) (hp : 0 ≤ p ∧ p ≤ 100) : IntKind.i64.wrap (100 - p) = 100 - p ∧ IntKind.i64.wrap (x * (100 - p)) = x * (100 - p) ∧ IntKind.i64.wrap ((x * (100 - p)).tdiv 100) = (x * (100 - p)).tdiv 100 ∧ IntKind.i32.wrap ((x * (100 - p)).tdiv 100) = (x * (100 - p)).tdiv 100 ∧ 0 ≤ (x * (100 - p)).tdiv 100 ∧ (x * (100 - p)).tdiv 100 ≤ 100000 := by
  have h1 : 0 ≤ x * (100 - p) := Int.mul_nonneg hx.1 (by omega)
  have h2 : x * (100 - p) ≤ 1000 * 100 := Int.mul_le_mul hx.2 (by omega) (by omega) (by omega)
  have h3 : (x * (100 - p)).tdiv 100 = (x * (100 - p)) / 100 := Int.tdiv_eq_ediv_of_nonneg h1
  rw [h3]
  refine ⟨IntWalk.i64_in _ (by omega), IntWalk.i64_in _ (by omega), IntWalk.i64_in _ (by omega), IntWalk.i32_in _ (by omega), by omega, by omega⟩
set_option maxHeartbeats 4000000 in
theorem sWashedHeap (a0 a1 a2 a3 a4 a5 a6 a7 p : Int) (w : World) (ha : Hid (∀ x ∈ [a0, a1, a2, a3, a4, a5, a6, a7], (Lit.int .i32 x).wf = true)) (hp0 : -9223372036854775808 ≤ p ∧ p ≤ 9223372036854775807) :
    Calls Tryz.prog 23 #[.agg #[.int .i32 a0, .int .i32 a1, .int .i32 a2, .int .i32 a3, .int .i32 a4, .int .i32 a5, .int .i32 a6, .int .i32 a7], .int .i64 p] w fun e w' => e = .returned (.tuple #[.agg #[.int .i32 (jn (waC [a0, a1, a2, a3, a4, a5, a6, a7] p) (wsh a0 p)), .int .i32 (jn (waC [a0, a1, a2, a3, a4, a5, a6, a7] p) (wsh a1 p)), .int .i32 (jn (waC [a0, a1, a2, a3, a4, a5, a6, a7] p) (wsh a2 p)), .int .i32 (jn (waC [a0, a1, a2, a3, a4, a5, a6, a7] p) (wsh a3 p)), .int .i32 (jn (waC [a0, a1, a2, a3, a4, a5, a6, a7] p) (wsh a4 p)), .int .i32 (jn (waC [a0, a1, a2, a3, a4, a5, a6, a7] p) (wsh a5 p)), .int .i32 (jn (waC [a0, a1, a2, a3, a4, a5, a6, a7] p) (wsh a6 p)), .int .i32 (jn (waC [a0, a1, a2, a3, a4, a5, a6, a7] p) (wsh a7 p))], .int .i64 (waC [a0, a1, a2, a3, a4, a5, a6, a7] p)]) ∧ Below w.heap.size w w' := by
  have X0 : Hid (Row ((w.alloc (.cells #[.int .i32 a0, .int .i32 a1, .int .i32 a2, .int .i32 a3, .int .i32 a4, .int .i32 a5, .int .i32 a6, .int .i32 a7] 25)).alloc (.cells #[.int .i32 0, .int .i32 0, .int .i32 0, .int .i32 0, .int .i32 0, .int .i32 0, .int .i32 0, .int .i32 0] 25)) (w.heap.size) 25 [.int .i32 a0, .int .i32 a1, .int .i32 a2, .int .i32 a3, .int .i32 a4, .int .i32 a5, .int .i32 a6, .int .i32 a7]) := Lib.hid (by have := ((Row.alloc w [.int .i32 a0, .int .i32 a1, .int .i32 a2, .int .i32 a3, .int .i32 a4, .int .i32 a5, .int .i32 a6, .int .i32 a7] 25).below (below_alloc1 _ (.cells #[.int .i32 0, .int .i32 0, .int .i32 0, .int .i32 0, .int .i32 0, .int .i32 0, .int .i32 0, .int .i32 0] 25))); (try simp only [World.size_alloc] at this); exact this)
  have XR : Hid (Row ((w.alloc (.cells #[.int .i32 a0, .int .i32 a1, .int .i32 a2, .int .i32 a3, .int .i32 a4, .int .i32 a5, .int .i32 a6, .int .i32 a7] 25)).alloc (.cells #[.int .i32 0, .int .i32 0, .int .i32 0, .int .i32 0, .int .i32 0, .int .i32 0, .int .i32 0, .int .i32 0] 25)) (w.heap.size + 1) 25 [.int .i32 0, .int .i32 0, .int .i32 0, .int .i32 0, .int .i32 0, .int .i32 0, .int .i32 0, .int .i32 0]) := Lib.hid (by have := (Row.alloc (w.alloc (.cells #[.int .i32 a0, .int .i32 a1, .int .i32 a2, .int .i32 a3, .int .i32 a4, .int .i32 a5, .int .i32 a6, .int .i32 a7] 25)) [.int .i32 0, .int .i32 0, .int .i32 0, .int .i32 0, .int .i32 0, .int .i32 0, .int .i32 0, .int .i32 0] 25); (try simp only [World.size_alloc] at this); exact this)
  have HB : Hid (Below w.heap.size w ((w.alloc (.cells #[.int .i32 a0, .int .i32 a1, .int .i32 a2, .int .i32 a3, .int .i32 a4, .int .i32 a5, .int .i32 a6, .int .i32 a7] 25)).alloc (.cells #[.int .i32 0, .int .i32 0, .int .i32 0, .int .i32 0, .int .i32 0, .int .i32 0, .int .i32 0, .int .i32 0] 25))) := Lib.hid (by go_grown)
  cases h1 : heapOk [a0, a1, a2, a3, a4, a5, a6, a7]
  · have hc : waC [a0, a1, a2, a3, a4, a5, a6, a7] p = 1 := by simp [waC, asC, h1]
    have ha1 : asC [a0, a1, a2, a3, a4, a5, a6, a7] (inB p 0 100) = 1 := hc
    have HC := Lib.hid hc; have HA := Lib.hid ha1; have H1 := Lib.hid h1; clear hc h1 ha1
    go_enter Tryz.func23, Tryz.ntmps23
    go_wp2_with fail
    refine (l00In_any _ _ _ _).mono ?_
    rintro e w_ ⟨rfl, rfl⟩
    go_wp2_with fail
    refine (l01Asked_any _ _ [a0, a1, a2, a3, a4, a5, a6, a7] _ _ X0.out rfl ha).mono ?_
    rintro e w_ ⟨rfl, rfl⟩
    rw [HA.out]
    have hB := HB.out
    obtain ⟨cXR_0, cXR_1, cXR_2, cXR_3, cXR_4, cXR_5, cXR_6, cXR_7⟩ := XR.out.cells8
    obtain ⟨fXR_0, fXR_1, fXR_2, fXR_3, fXR_4, fXR_5, fXR_6, fXR_7⟩ := XR.out.frozens8
    have SXR := ((((((((XR.out.set 0 (.int .i32 0)).set 1 (.int .i32 0)).set 2 (.int .i32 0)).set 3 (.int .i32 0)).set 4 (.int .i32 0)).set 5 (.int .i32 0)).set 6 (.int .i32 0)).set 7 (.int .i32 0))
    simp only [List.set_cons_zero, List.set_cons_succ] at SXR
    obtain ⟨sXR_0, sXR_1, sXR_2, sXR_3, sXR_4, sXR_5, sXR_6, sXR_7⟩ := SXR.cells8
    clear SXR
    go_wp2_with fail
    refine bodyPost_ret (v := .tuple #[.agg #[.int .i32 0, .int .i32 0, .int .i32 0, .int .i32 0, .int .i32 0, .int .i32 0, .int .i32 0, .int .i32 0], .int .i64 1]) (by simp [results, Tryz.results23, go_sem, sXR_0, sXR_1, sXR_2, sXR_3, sXR_4, sXR_5, sXR_6, sXR_7]) rfl ⟨by rw [HC.out]; simp [jn], by go_grown⟩
  cases h2 : inB p 0 100
  · have hc : waC [a0, a1, a2, a3, a4, a5, a6, a7] p = 2 := by simp [waC, asC, h1, h2]
    have ha1 : asC [a0, a1, a2, a3, a4, a5, a6, a7] (inB p 0 100) = 2 := hc
    have HC := Lib.hid hc; have HA := Lib.hid ha1; have H1 := Lib.hid h1; have H2 := Lib.hid h2; clear hc h1 h2 ha1
    go_enter Tryz.func23, Tryz.ntmps23
    go_wp2_with fail
    refine (l00In_any _ _ _ _).mono ?_
    rintro e w_ ⟨rfl, rfl⟩
    go_wp2_with fail
    refine (l01Asked_any _ _ [a0, a1, a2, a3, a4, a5, a6, a7] _ _ X0.out rfl ha).mono ?_
    rintro e w_ ⟨rfl, rfl⟩
    rw [HA.out]
    have hB := HB.out
    obtain ⟨cXR_0, cXR_1, cXR_2, cXR_3, cXR_4, cXR_5, cXR_6, cXR_7⟩ := XR.out.cells8
    obtain ⟨fXR_0, fXR_1, fXR_2, fXR_3, fXR_4, fXR_5, fXR_6, fXR_7⟩ := XR.out.frozens8
    have SXR := ((((((((XR.out.set 0 (.int .i32 0)).set 1 (.int .i32 0)).set 2 (.int .i32 0)).set 3 (.int .i32 0)).set 4 (.int .i32 0)).set 5 (.int .i32 0)).set 6 (.int .i32 0)).set 7 (.int .i32 0))
    simp only [List.set_cons_zero, List.set_cons_succ] at SXR
    obtain ⟨sXR_0, sXR_1, sXR_2, sXR_3, sXR_4, sXR_5, sXR_6, sXR_7⟩ := SXR.cells8
    clear SXR
    go_wp2_with fail
    refine bodyPost_ret (v := .tuple #[.agg #[.int .i32 0, .int .i32 0, .int .i32 0, .int .i32 0, .int .i32 0, .int .i32 0, .int .i32 0, .int .i32 0], .int .i64 2]) (by simp [results, Tryz.results23, go_sem, sXR_0, sXR_1, sXR_2, sXR_3, sXR_4, sXR_5, sXR_6, sXR_7]) rfl ⟨by rw [HC.out]; simp [jn], by go_grown⟩
  have hc : waC [a0, a1, a2, a3, a4, a5, a6, a7] p = 0 := by simp [waC, asC, h1, h2]
  have ha1 : asC [a0, a1, a2, a3, a4, a5, a6, a7] (inB p 0 100) = 0 := hc
  have hp : 0 ≤ p ∧ p ≤ 100 := by simpa [inB] using h2
  have KA := Lib.hid (fun k => heapOk_at h1 k)
  have HC := Lib.hid hc; have HA := Lib.hid ha1; have H1 := Lib.hid h1; have H2 := Lib.hid h2; clear hc h1 h2 ha1
  go_enter Tryz.func23, Tryz.ntmps23
  go_wp2_with fail
  refine (l00In_any _ _ _ _).mono ?_
  rintro e w_ ⟨rfl, rfl⟩
  go_wp2_with fail
  refine (l01Asked_any _ _ [a0, a1, a2, a3, a4, a5, a6, a7] _ _ X0.out rfl ha).mono ?_
  rintro e w_ ⟨rfl, rfl⟩
  rw [HA.out]
  go_wp2_with fail
  obtain ⟨LA, hLA⟩ : ∃ L, L = [a0, a1, a2, a3, a4, a5, a6, a7] := ⟨_, rfl⟩
  have hb0 := HB.out
  go_loopw [7] (fun v wr => ∃ k : Nat, k ≤ 8 ∧ v = .int .i64 k ∧ Hid (Row wr w.heap.size 25 (nums .i32 (mix (fun j => wsh (LA.getD j 0) p) LA k))) ∧ Hid (Row wr (w.heap.size + 1) 25 [.int .i32 0, .int .i32 0, .int .i32 0, .int .i32 0, .int .i32 0, .int .i32 0, .int .i32 0, .int .i32 0]) ∧ Below w.heap.size w wr) (fun v _ => 8 - (intOf v).toNat)
  case atStart =>
    refine ⟨0, by omega, rfl, ?_, XR, hb0⟩
    rw [hLA, mix_zero _ rfl]; exact X0
  case round =>
    obtain ⟨k, hk, rfl, Y0, YR, hB⟩ := hrel
    clear X0 XR HB hb0
    by_cases hlt : k < 8
    · have c0 := Y0.out.cell k
      have f0 := Y0.out.frozen k
      rw [mix_at _ _ hlt] at c0
      have bx := KA.out k
      rw [← hLA] at bx
      obtain ⟨x, hx⟩ : ∃ x, LA.getD k 0 = x := ⟨_, rfl⟩
      have hset : Hid ((nums .i32 (mix (fun j => wsh (LA.getD j 0) p) LA k)).set k (.int .i32 ((x * (100 - p)).tdiv 100)) = nums .i32 (mix (fun j => wsh (LA.getD j 0) p) LA (k + 1))) := by
        refine Lib.hid ?_
        rw [← hx]
        exact mix_set _ _ hlt
      rw [hx] at c0 bx
      clear hx hLA
      obtain ⟨v0, v1, v2, v3, v4, v5⟩ := wsh_facts bx hp
      go_wp2_with fail
      clear v0 v1 v2 v3 v4 v5
      go_roundw
      case rel => exact ⟨k + 1, by omega, by go_num, Lib.hid (by have := Y0.out.set k (.int .i32 ((x * (100 - p)).tdiv 100)); rw [hset.out] at this; exact this), Lib.hid (YR.out.apart (by omega) k _), by go_grown⟩
      case measure => simp [intOf]; omega
    · obtain rfl : k = 8 := by omega
      have X0 : Hid (Row wr w.heap.size 25 [.int .i32 (wsh a0 p), .int .i32 (wsh a1 p), .int .i32 (wsh a2 p), .int .i32 (wsh a3 p), .int .i32 (wsh a4 p), .int .i32 (wsh a5 p), .int .i32 (wsh a6 p), .int .i32 (wsh a7 p)]) := by
        have := Y0.out
        rw [hLA] at this
        exact Lib.hid this
      have XR := YR
      clear Y0 YR hLA
      have HB := Lib.hid hB
      obtain ⟨cX0_0, cX0_1, cX0_2, cX0_3, cX0_4, cX0_5, cX0_6, cX0_7⟩ := X0.out.cells8
      have hB := HB.out
      obtain ⟨cXR_0, cXR_1, cXR_2, cXR_3, cXR_4, cXR_5, cXR_6, cXR_7⟩ := XR.out.cells8
      obtain ⟨fXR_0, fXR_1, fXR_2, fXR_3, fXR_4, fXR_5, fXR_6, fXR_7⟩ := XR.out.frozens8
      have SXR := ((((((((XR.out.set 0 (.int .i32 (wsh a0 p))).set 1 (.int .i32 (wsh a1 p))).set 2 (.int .i32 (wsh a2 p))).set 3 (.int .i32 (wsh a3 p))).set 4 (.int .i32 (wsh a4 p))).set 5 (.int .i32 (wsh a5 p))).set 6 (.int .i32 (wsh a6 p))).set 7 (.int .i32 (wsh a7 p)))
      simp only [List.set_cons_zero, List.set_cons_succ] at SXR
      obtain ⟨sXR_0, sXR_1, sXR_2, sXR_3, sXR_4, sXR_5, sXR_6, sXR_7⟩ := SXR.cells8
      clear SXR
      go_wp2_with fail
      refine bodyPost_ret (v := .tuple #[.agg #[.int .i32 (wsh a0 p), .int .i32 (wsh a1 p), .int .i32 (wsh a2 p), .int .i32 (wsh a3 p), .int .i32 (wsh a4 p), .int .i32 (wsh a5 p), .int .i32 (wsh a6 p), .int .i32 (wsh a7 p)], .int .i64 0]) (by simp [results, Tryz.results23, go_sem, sXR_0, sXR_1, sXR_2, sXR_3, sXR_4, sXR_5, sXR_6, sXR_7]) rfl ⟨by rw [HC.out]; simp [jn], by go_grown⟩
theorem isPercent_any (n : Int) (w : World) : Calls Tryz.prog 51 #[.int .i64 n] w fun e w' => e = .returned (.bool (inB n 0 100)) ∧ w = w' := by
  go_enter Tryz.func51, Tryz.ntmps51
  go_wp2_with (go_at_call 40; (refine (within_any _ _ _ _).mono ?_); rintro e w' ⟨rfl, rfl⟩)
  go_ret
  exact ⟨rfl, rfl⟩
theorem idxA (a0 a1 a2 a3 a4 a5 a6 a7 : Int) : ∀ k : Nat, k < 8 → ∀ w : World, (Instr.index 25 (.agg #[.int .i32 a0, .int .i32 a1, .int .i32 a2, .int .i32 a3, .int .i32 a4, .int .i32 a5, .int .i32 a6, .int .i32 a7]) (.int .i64 k)).run Tryz.prog w = .ok (.int .i32 ([a0, a1, a2, a3, a4, a5, a6, a7].getD k 0)) w := by
  obtain ⟨i0, i1, i2, i3, i4, i5, i6, i7⟩ := idxH a0 a1 a2 a3 a4 a5 a6 a7
  intro k hk w
  match k, hk with
  | 0, _ => exact i0 w
  | 1, _ => exact i1 w
  | 2, _ => exact i2 w
  | 3, _ => exact i3 w
  | 4, _ => exact i4 w
  | 5, _ => exact i5 w
  | 6, _ => exact i6 w
  | 7, _ => exact i7 w
set_option maxHeartbeats 4000000 in
theorem iWashedHeap (a0 a1 a2 a3 a4 a5 a6 a7 p : Int) (w : World) (ha : Hid (∀ x ∈ [a0, a1, a2, a3, a4, a5, a6, a7], (Lit.int .i32 x).wf = true)) (hp0 : -9223372036854775808 ≤ p ∧ p ≤ 9223372036854775807) :
    Calls Tryz.prog 22 #[.agg #[.int .i32 a0, .int .i32 a1, .int .i32 a2, .int .i32 a3, .int .i32 a4, .int .i32 a5, .int .i32 a6, .int .i32 a7], .int .i64 p] w fun e w' => e = .returned (.tuple #[.agg #[.int .i32 (jn (waC [a0, a1, a2, a3, a4, a5, a6, a7] p) (wsh a0 p)), .int .i32 (jn (waC [a0, a1, a2, a3, a4, a5, a6, a7] p) (wsh a1 p)), .int .i32 (jn (waC [a0, a1, a2, a3, a4, a5, a6, a7] p) (wsh a2 p)), .int .i32 (jn (waC [a0, a1, a2, a3, a4, a5, a6, a7] p) (wsh a3 p)), .int .i32 (jn (waC [a0, a1, a2, a3, a4, a5, a6, a7] p) (wsh a4 p)), .int .i32 (jn (waC [a0, a1, a2, a3, a4, a5, a6, a7] p) (wsh a5 p)), .int .i32 (jn (waC [a0, a1, a2, a3, a4, a5, a6, a7] p) (wsh a6 p)), .int .i32 (jn (waC [a0, a1, a2, a3, a4, a5, a6, a7] p) (wsh a7 p))], .int .i64 (waC [a0, a1, a2, a3, a4, a5, a6, a7] p)]) ∧ Below w.heap.size w w' := by
  have X0 : Hid (Row ((w.alloc (.cells #[.int .i32 a0, .int .i32 a1, .int .i32 a2, .int .i32 a3, .int .i32 a4, .int .i32 a5, .int .i32 a6, .int .i32 a7] 25)).alloc (.cells #[.int .i32 0, .int .i32 0, .int .i32 0, .int .i32 0, .int .i32 0, .int .i32 0, .int .i32 0, .int .i32 0] 25)) (w.heap.size) 25 [.int .i32 a0, .int .i32 a1, .int .i32 a2, .int .i32 a3, .int .i32 a4, .int .i32 a5, .int .i32 a6, .int .i32 a7]) := Lib.hid (by have := ((Row.alloc w [.int .i32 a0, .int .i32 a1, .int .i32 a2, .int .i32 a3, .int .i32 a4, .int .i32 a5, .int .i32 a6, .int .i32 a7] 25).below (below_alloc1 _ (.cells #[.int .i32 0, .int .i32 0, .int .i32 0, .int .i32 0, .int .i32 0, .int .i32 0, .int .i32 0, .int .i32 0] 25))); (try simp only [World.size_alloc] at this); exact this)
  have XR : Hid (Row ((w.alloc (.cells #[.int .i32 a0, .int .i32 a1, .int .i32 a2, .int .i32 a3, .int .i32 a4, .int .i32 a5, .int .i32 a6, .int .i32 a7] 25)).alloc (.cells #[.int .i32 0, .int .i32 0, .int .i32 0, .int .i32 0, .int .i32 0, .int .i32 0, .int .i32 0, .int .i32 0] 25)) (w.heap.size + 1) 25 [.int .i32 0, .int .i32 0, .int .i32 0, .int .i32 0, .int .i32 0, .int .i32 0, .int .i32 0, .int .i32 0]) := Lib.hid (by have := (Row.alloc (w.alloc (.cells #[.int .i32 a0, .int .i32 a1, .int .i32 a2, .int .i32 a3, .int .i32 a4, .int .i32 a5, .int .i32 a6, .int .i32 a7] 25)) [.int .i32 0, .int .i32 0, .int .i32 0, .int .i32 0, .int .i32 0, .int .i32 0, .int .i32 0, .int .i32 0] 25); (try simp only [World.size_alloc] at this); exact this)
  have HB : Hid (Below w.heap.size w ((w.alloc (.cells #[.int .i32 a0, .int .i32 a1, .int .i32 a2, .int .i32 a3, .int .i32 a4, .int .i32 a5, .int .i32 a6, .int .i32 a7] 25)).alloc (.cells #[.int .i32 0, .int .i32 0, .int .i32 0, .int .i32 0, .int .i32 0, .int .i32 0, .int .i32 0, .int .i32 0] 25))) := Lib.hid (by go_grown)
  cases h1 : heapOk [a0, a1, a2, a3, a4, a5, a6, a7]
  · have hc : waC [a0, a1, a2, a3, a4, a5, a6, a7] p = 1 := by simp [waC, asC, h1]
    have ha1 : asC [a0, a1, a2, a3, a4, a5, a6, a7] (inB p 0 100) = 1 := hc
    have HC := Lib.hid hc; have HA := Lib.hid ha1; have H1 := Lib.hid h1; clear hc h1 ha1
    go_enter Tryz.func22, Tryz.ntmps22
    obtain ⟨cX0_0, cX0_1, cX0_2, cX0_3, cX0_4, cX0_5, cX0_6, cX0_7⟩ := X0.out.cells8
    go_wp2_with fail
    refine (iValidHeap a0 a1 a2 a3 a4 a5 a6 a7 _ ha).mono ?_
    rintro e w1 ⟨rfl, hb⟩
    rw [H1.out]
    clear cX0_0 cX0_1 cX0_2 cX0_3 cX0_4 cX0_5 cX0_6 cX0_7
    replace HB := Lib.hid (below_then HB.out HB.out.size hb)
    replace X0 := Lib.hid (X0.out.below hb)
    replace XR := Lib.hid (XR.out.below hb)
    have hz1 := hb.size
    (try simp only [World.size_alloc] at hz1)
    clear hb
    have hB := HB.out
    obtain ⟨cXR_0, cXR_1, cXR_2, cXR_3, cXR_4, cXR_5, cXR_6, cXR_7⟩ := XR.out.cells8
    obtain ⟨fXR_0, fXR_1, fXR_2, fXR_3, fXR_4, fXR_5, fXR_6, fXR_7⟩ := XR.out.frozens8
    have SXR := ((((((((XR.out.set 0 (.int .i32 0)).set 1 (.int .i32 0)).set 2 (.int .i32 0)).set 3 (.int .i32 0)).set 4 (.int .i32 0)).set 5 (.int .i32 0)).set 6 (.int .i32 0)).set 7 (.int .i32 0))
    simp only [List.set_cons_zero, List.set_cons_succ] at SXR
    obtain ⟨sXR_0, sXR_1, sXR_2, sXR_3, sXR_4, sXR_5, sXR_6, sXR_7⟩ := SXR.cells8
    clear SXR
    go_wp2_with fail
    refine bodyPost_ret (v := .tuple #[.agg #[.int .i32 0, .int .i32 0, .int .i32 0, .int .i32 0, .int .i32 0, .int .i32 0, .int .i32 0, .int .i32 0], .int .i64 1]) (by simp [results, Tryz.results22, go_sem, sXR_0, sXR_1, sXR_2, sXR_3, sXR_4, sXR_5, sXR_6, sXR_7]) rfl ⟨by rw [HC.out]; simp [jn], by go_grown⟩
  cases h2 : inB p 0 100
  · have hc : waC [a0, a1, a2, a3, a4, a5, a6, a7] p = 2 := by simp [waC, asC, h1, h2]
    have ha1 : asC [a0, a1, a2, a3, a4, a5, a6, a7] (inB p 0 100) = 2 := hc
    have HC := Lib.hid hc; have HA := Lib.hid ha1; have H1 := Lib.hid h1; have H2 := Lib.hid h2; clear hc h1 h2 ha1
    go_enter Tryz.func22, Tryz.ntmps22
    obtain ⟨cX0_0, cX0_1, cX0_2, cX0_3, cX0_4, cX0_5, cX0_6, cX0_7⟩ := X0.out.cells8
    go_wp2_with fail
    refine (iValidHeap a0 a1 a2 a3 a4 a5 a6 a7 _ ha).mono ?_
    rintro e w1 ⟨rfl, hb⟩
    rw [H1.out]
    clear cX0_0 cX0_1 cX0_2 cX0_3 cX0_4 cX0_5 cX0_6 cX0_7
    replace HB := Lib.hid (below_then HB.out HB.out.size hb)
    replace X0 := Lib.hid (X0.out.below hb)
    replace XR := Lib.hid (XR.out.below hb)
    have hz1 := hb.size
    (try simp only [World.size_alloc] at hz1)
    clear hb
    obtain ⟨cX0_0, cX0_1, cX0_2, cX0_3, cX0_4, cX0_5, cX0_6, cX0_7⟩ := X0.out.cells8
    go_wp2_with fail
    refine (isPercent_any _ _).mono ?_
    rintro e w_ ⟨rfl, rfl⟩
    rw [H2.out]
    clear cX0_0 cX0_1 cX0_2 cX0_3 cX0_4 cX0_5 cX0_6 cX0_7
    have hB := HB.out
    obtain ⟨cXR_0, cXR_1, cXR_2, cXR_3, cXR_4, cXR_5, cXR_6, cXR_7⟩ := XR.out.cells8
    obtain ⟨fXR_0, fXR_1, fXR_2, fXR_3, fXR_4, fXR_5, fXR_6, fXR_7⟩ := XR.out.frozens8
    have SXR := ((((((((XR.out.set 0 (.int .i32 0)).set 1 (.int .i32 0)).set 2 (.int .i32 0)).set 3 (.int .i32 0)).set 4 (.int .i32 0)).set 5 (.int .i32 0)).set 6 (.int .i32 0)).set 7 (.int .i32 0))
    simp only [List.set_cons_zero, List.set_cons_succ] at SXR
    obtain ⟨sXR_0, sXR_1, sXR_2, sXR_3, sXR_4, sXR_5, sXR_6, sXR_7⟩ := SXR.cells8
    clear SXR
    go_wp2_with fail
    refine bodyPost_ret (v := .tuple #[.agg #[.int .i32 0, .int .i32 0, .int .i32 0, .int .i32 0, .int .i32 0, .int .i32 0, .int .i32 0, .int .i32 0], .int .i64 2]) (by simp [results, Tryz.results22, go_sem, sXR_0, sXR_1, sXR_2, sXR_3, sXR_4, sXR_5, sXR_6, sXR_7]) rfl ⟨by rw [HC.out]; simp [jn], by go_grown⟩
  have hc : waC [a0, a1, a2, a3, a4, a5, a6, a7] p = 0 := by simp [waC, asC, h1, h2]
  have ha1 : asC [a0, a1, a2, a3, a4, a5, a6, a7] (inB p 0 100) = 0 := hc
  have hp : 0 ≤ p ∧ p ≤ 100 := by simpa [inB] using h2
  have KA := Lib.hid (fun k => heapOk_at h1 k)
  have HC := Lib.hid hc; have HA := Lib.hid ha1; have H1 := Lib.hid h1; have H2 := Lib.hid h2; clear hc h1 h2 ha1
  go_enter Tryz.func22, Tryz.ntmps22
  obtain ⟨cX0_0, cX0_1, cX0_2, cX0_3, cX0_4, cX0_5, cX0_6, cX0_7⟩ := X0.out.cells8
  go_wp2_with fail
  refine (iValidHeap a0 a1 a2 a3 a4 a5 a6 a7 _ ha).mono ?_
  rintro e w1 ⟨rfl, hb⟩
  rw [H1.out]
  clear cX0_0 cX0_1 cX0_2 cX0_3 cX0_4 cX0_5 cX0_6 cX0_7
  replace HB := Lib.hid (below_then HB.out HB.out.size hb)
  replace X0 := Lib.hid (X0.out.below hb)
  replace XR := Lib.hid (XR.out.below hb)
  have hz1 := hb.size
  (try simp only [World.size_alloc] at hz1)
  clear hb
  obtain ⟨cX0_0, cX0_1, cX0_2, cX0_3, cX0_4, cX0_5, cX0_6, cX0_7⟩ := X0.out.cells8
  go_wp2_with fail
  refine (isPercent_any _ _).mono ?_
  rintro e w_ ⟨rfl, rfl⟩
  rw [H2.out]
  clear cX0_0 cX0_1 cX0_2 cX0_3 cX0_4 cX0_5 cX0_6 cX0_7
  obtain ⟨cX0_0, cX0_1, cX0_2, cX0_3, cX0_4, cX0_5, cX0_6, cX0_7⟩ := X0.out.cells8
  go_wp2_with fail
  obtain ⟨LA, hLA⟩ : ∃ L, L = [a0, a1, a2, a3, a4, a5, a6, a7] := ⟨_, rfl⟩
  have hb0 := HB.out
  clear cX0_0 cX0_1 cX0_2 cX0_3 cX0_4 cX0_5 cX0_6 cX0_7
  have IX := Lib.hid (idxA a0 a1 a2 a3 a4 a5 a6 a7)
  go_loopw [19] (fun v wr => ∃ k : Nat, k ≤ 8 ∧ v = .int .i64 k ∧ Hid (Row wr w.heap.size 25 (nums .i32 (mix (fun j => wsh (LA.getD j 0) p) LA k))) ∧ Hid (Row wr (w.heap.size + 1) 25 [.int .i32 0, .int .i32 0, .int .i32 0, .int .i32 0, .int .i32 0, .int .i32 0, .int .i32 0, .int .i32 0]) ∧ Below w.heap.size w wr) (fun v _ => 8 - (intOf v).toNat)
  case atStart =>
    refine ⟨0, by omega, rfl, ?_, XR, hb0⟩
    rw [hLA, mix_zero _ rfl]; exact X0
  case round =>
    obtain ⟨k, hk, rfl, Y0, YR, hB⟩ := hrel
    clear X0 XR HB hb0
    by_cases hlt : k < 8
    · have c0 := Y0.out.cell k
      have f0 := Y0.out.frozen k
      rw [mix_at _ _ hlt] at c0
      have bx := KA.out k
      rw [← hLA] at bx
      have ix := IX.out k hlt
      rw [← hLA] at ix
      obtain ⟨x, hx⟩ : ∃ x, LA.getD k 0 = x := ⟨_, rfl⟩
      have hset : Hid ((nums .i32 (mix (fun j => wsh (LA.getD j 0) p) LA k)).set k (.int .i32 ((x * (100 - p)).tdiv 100)) = nums .i32 (mix (fun j => wsh (LA.getD j 0) p) LA (k + 1))) := by
        refine Lib.hid ?_
        rw [← hx]
        exact mix_set _ _ hlt
      rw [hx] at c0 bx ix
      clear hx hLA
      obtain ⟨v0, v1, v2, v3, v4, v5⟩ := wsh_facts bx hp
      go_wp2_with fail
      clear v0 v1 v2 v3 v4 v5
      go_roundw
      case rel => exact ⟨k + 1, by omega, by go_num, Lib.hid (by have := Y0.out.set k (.int .i32 ((x * (100 - p)).tdiv 100)); rw [hset.out] at this; exact this), Lib.hid (YR.out.apart (by omega) k _), by go_grown⟩
      case measure => simp [intOf]; omega
    · obtain rfl : k = 8 := by omega
      have X0 : Hid (Row wr w.heap.size 25 [.int .i32 (wsh a0 p), .int .i32 (wsh a1 p), .int .i32 (wsh a2 p), .int .i32 (wsh a3 p), .int .i32 (wsh a4 p), .int .i32 (wsh a5 p), .int .i32 (wsh a6 p), .int .i32 (wsh a7 p)]) := by
        have := Y0.out
        rw [hLA] at this
        exact Lib.hid this
      have XR := YR
      clear Y0 YR hLA
      have HB := Lib.hid hB
      obtain ⟨cX0_0, cX0_1, cX0_2, cX0_3, cX0_4, cX0_5, cX0_6, cX0_7⟩ := X0.out.cells8
      have hB := HB.out
      obtain ⟨cXR_0, cXR_1, cXR_2, cXR_3, cXR_4, cXR_5, cXR_6, cXR_7⟩ := XR.out.cells8
      obtain ⟨fXR_0, fXR_1, fXR_2, fXR_3, fXR_4, fXR_5, fXR_6, fXR_7⟩ := XR.out.frozens8
      have SXR := ((((((((XR.out.set 0 (.int .i32 (wsh a0 p))).set 1 (.int .i32 (wsh a1 p))).set 2 (.int .i32 (wsh a2 p))).set 3 (.int .i32 (wsh a3 p))).set 4 (.int .i32 (wsh a4 p))).set 5 (.int .i32 (wsh a5 p))).set 6 (.int .i32 (wsh a6 p))).set 7 (.int .i32 (wsh a7 p)))
      simp only [List.set_cons_zero, List.set_cons_succ] at SXR
      obtain ⟨sXR_0, sXR_1, sXR_2, sXR_3, sXR_4, sXR_5, sXR_6, sXR_7⟩ := SXR.cells8
      clear SXR
      go_wp2_with fail
      refine bodyPost_ret (v := .tuple #[.agg #[.int .i32 (wsh a0 p), .int .i32 (wsh a1 p), .int .i32 (wsh a2 p), .int .i32 (wsh a3 p), .int .i32 (wsh a4 p), .int .i32 (wsh a5 p), .int .i32 (wsh a6 p), .int .i32 (wsh a7 p)], .int .i64 0]) (by simp [results, Tryz.results22, go_sem, sXR_0, sXR_1, sXR_2, sXR_3, sXR_4, sXR_5, sXR_6, sXR_7]) rfl ⟨by rw [HC.out]; simp [jn], by go_grown⟩
end Go.Proofs.YtbkhlcbnnjgdpaaGreatDoor
