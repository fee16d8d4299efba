/- Contracts: MeanLength. -/
import Derived.Test.YtbkhlcbnnjgdpaaGreatDoorR1
namespace Go.Proofs.YtbkhlcbnnjgdpaaGreatDoor
open Go.RowKit
set_option linter.unusedVariables false
set_option linter.unusedSimpArgs false
theorem heapOk_at2 {L : List Int} (h : heapOk L = true) (k : Nat) : 0 ≤ L.getD k 0 ∧ L.getD k 0 ≤ 1000 := by
  by_cases hk : k < L.length
  · have := (List.all_eq_true.1 h) L[k] (List.getElem_mem hk)
    simp only [inB, decide_eq_true_eq] at this
    simpa [List.getElem?_eq_getElem hk] using this
  · simp [List.getElem?_eq_none (by omega : L.length ≤ k)]
theorem list_at2 {L : List Int} (hl : L.length = 8) {k : Nat} (h : k < 8) : (nums .i32 L)[k]? = some (.int .i32 (L.getD k 0)) := by
  have : k < L.length := by omega
  simp [nums, List.getElem?_eq_getElem this]
def wsum (L : List Int) : Nat → Int
  | 0 => 0
  | k + 1 => wsum L k + (k : Int) * L.getD k 0
theorem wsum_rng {L : List Int} (h : heapOk L = true) : ∀ k : Nat, k ≤ 8 → 0 ≤ wsum L k ∧ wsum L k ≤ 7000 * k
  | 0, _ => by simp [wsum]
  | k + 1, hk => by
    have ih := wsum_rng h k (by omega)
    have hb := heapOk_at2 h k
    have h1 : 0 ≤ (k : Int) * L.getD k 0 := Int.mul_nonneg (by omega) hb.1
    have h2 : (k : Int) * L.getD k 0 ≤ 7 * 1000 := Int.mul_le_mul (by omega) hb.2 hb.1 (by omega)
    simp only [wsum]
    omega
theorem idxB (a0 a1 a2 a3 a4 a5 a6 a7 : Int) : ∀ k : Nat, k < 8 → ∀ w : World, (Instr.index 25 (.agg #[.int .i32 a0, .int .i32 a1, .int .i32 a2, .int .i32 a3, .int .i32 a4, .int .i32 a5, .int .i32 a6, .int .i32 a7]) (.int .i64 k)).run Tryz.prog w = .ok (.int .i32 ([a0, a1, a2, a3, a4, a5, a6, a7].getD k 0)) w := by
  obtain ⟨i0, i1, i2, i3, i4, i5, i6, i7⟩ := idxH a0 a1 a2 a3 a4 a5 a6 a7
  intro k hk w
  match k, hk with
  | 0, _ => exact i0 w
  | 1, _ => exact i1 w
  | 2, _ => exact i2 w
  | 3, _ => exact i3 w
  | 4, _ => exact i4 w
  | 5, _ => exact i5 w
  | 6, _ => exact i6 w
  | 7, _ => exact i7 w
set_option maxHeartbeats 1000000 in
theorem iMeanLength (a0 a1 a2 a3 a4 a5 a6 a7 : Int) (w : World) (ha : Hid (∀ x ∈ [a0, a1, a2, a3, a4, a5, a6, a7], (Lit.int .i32 x).wf = true)) :
    Calls Tryz.prog 24 #[.agg #[.int .i32 a0, .int .i32 a1, .int .i32 a2, .int .i32 a3, .int .i32 a4, .int .i32 a5, .int .i32 a6, .int .i32 a7]] w fun e w' => e = .returned (.tuple #[Fr (jn (smC [a0, a1, a2, a3, a4, a5, a6, a7]) (frN (wsum [a0, a1, a2, a3, a4, a5, a6, a7] 8) (hsL [a0, a1, a2, a3, a4, a5, a6, a7]))) (jn (smC [a0, a1, a2, a3, a4, a5, a6, a7]) (frD (wsum [a0, a1, a2, a3, a4, a5, a6, a7] 8) (hsL [a0, a1, a2, a3, a4, a5, a6, a7]))), .int .i64 (smC [a0, a1, a2, a3, a4, a5, a6, a7])]) ∧ Below w.heap.size w w' := by
  have X0 : Hid (Row ((w.alloc (.cells #[.int .i32 a0, .int .i32 a1, .int .i32 a2, .int .i32 a3, .int .i32 a4, .int .i32 a5, .int .i32 a6, .int .i32 a7] 25)).alloc (.cells #[.int .i64 0, .int .i64 0] 48)) (w.heap.size) 25 [.int .i32 a0, .int .i32 a1, .int .i32 a2, .int .i32 a3, .int .i32 a4, .int .i32 a5, .int .i32 a6, .int .i32 a7]) := Lib.hid (by have := ((Row.alloc w [.int .i32 a0, .int .i32 a1, .int .i32 a2, .int .i32 a3, .int .i32 a4, .int .i32 a5, .int .i32 a6, .int .i32 a7] 25).below (below_alloc1 _ (.cells #[.int .i64 0, .int .i64 0] 48))); (try simp only [World.size_alloc] at this); exact this)
  have XR : Hid (Row ((w.alloc (.cells #[.int .i32 a0, .int .i32 a1, .int .i32 a2, .int .i32 a3, .int .i32 a4, .int .i32 a5, .int .i32 a6, .int .i32 a7] 25)).alloc (.cells #[.int .i64 0, .int .i64 0] 48)) (w.heap.size + 1) 48 [.int .i64 0, .int .i64 0]) := Lib.hid (by have := (Row.alloc (w.alloc (.cells #[.int .i32 a0, .int .i32 a1, .int .i32 a2, .int .i32 a3, .int .i32 a4, .int .i32 a5, .int .i32 a6, .int .i32 a7] 25)) [.int .i64 0, .int .i64 0] 48); (try simp only [World.size_alloc] at this); exact this)
  have HB : Hid (Below w.heap.size w ((w.alloc (.cells #[.int .i32 a0, .int .i32 a1, .int .i32 a2, .int .i32 a3, .int .i32 a4, .int .i32 a5, .int .i32 a6, .int .i32 a7] 25)).alloc (.cells #[.int .i64 0, .int .i64 0] 48))) := Lib.hid (by go_grown)
  have hcs : smC [a0, a1, a2, a3, a4, a5, a6, a7] = 0 ∨ smC [a0, a1, a2, a3, a4, a5, a6, a7] = 1 ∨ smC [a0, a1, a2, a3, a4, a5, a6, a7] = 6 := by unfold smC; split <;> (try split) <;> simp
  rcases hcs with hc | hc | hc
  rotate_left
  · have HC_ := Lib.hid hc; clear hc
    go_enter Tryz.func24, Tryz.ntmps24
    obtain ⟨cX0_0, cX0_1, cX0_2, cX0_3, cX0_4, cX0_5, cX0_6, cX0_7⟩ := X0.out.cells8
    go_wp2_with fail
    have RS := Lib.hid (rds_one (Row.alloc ((w.alloc (.cells #[.int .i32 a0, .int .i32 a1, .int .i32 a2, .int .i32 a3, .int .i32 a4, .int .i32 a5, .int .i32 a6, .int .i32 a7] 25)).alloc (.cells #[.int .i64 0, .int .i64 0] 48)) [.int .i32 a0, .int .i32 a1, .int .i32 a2, .int .i32 a3, .int .i32 a4, .int .i32 a5, .int .i32 a6, .int .i32 a7] 25))
    (try simp only [World.size_alloc] at RS)
    replace HB := Lib.hid (HB.out.alloc HB.out.size (.cells #[.int .i32 a0, .int .i32 a1, .int .i32 a2, .int .i32 a3, .int .i32 a4, .int .i32 a5, .int .i32 a6, .int .i32 a7] 25))
    replace X0 := Lib.hid (X0.out.below (below_alloc1 _ (.cells #[.int .i32 a0, .int .i32 a1, .int .i32 a2, .int .i32 a3, .int .i32 a4, .int .i32 a5, .int .i32 a6, .int .i32 a7] 25)))
    replace XR := Lib.hid (XR.out.below (below_alloc1 _ (.cells #[.int .i32 a0, .int .i32 a1, .int .i32 a2, .int .i32 a3, .int .i32 a4, .int .i32 a5, .int .i32 a6, .int .i32 a7] 25)))
    refine (woolCode_any [[a0, a1, a2, a3, a4, a5, a6, a7]] hid8_one (hidw_one ha) _ 1 1 _ RS.out).mono ?_
    rintro e w1 ⟨rfl, hb⟩
    rw [woC_one, HC_.out]
    clear cX0_0 cX0_1 cX0_2 cX0_3 cX0_4 cX0_5 cX0_6 cX0_7
    replace HB := Lib.hid (below_then HB.out HB.out.size hb)
    replace X0 := Lib.hid (X0.out.below hb)
    replace XR := Lib.hid (XR.out.below hb)
    have hz1 := hb.size
    (try simp only [World.size_alloc] at hz1)
    clear hb
    have hB := HB.out
    obtain ⟨cXR_0, cXR_1⟩ := XR.out.cells2
    obtain ⟨fXR_0, fXR_1⟩ := XR.out.frozens2
    have SXR := ((XR.out.set 0 (.int .i64 0)).set 1 (.int .i64 0))
    simp only [List.set_cons_zero, List.set_cons_succ] at SXR
    obtain ⟨sXR_0, sXR_1⟩ := SXR.cells2
    clear SXR
    go_wp2_with fail
    refine bodyPost_ret (v := .tuple #[.agg #[.int .i64 0, .int .i64 0], .int .i64 1]) (by simp [results, Tryz.results24, go_sem, sXR_0, sXR_1]) rfl ⟨by rw [HC_.out]; simp [jn], by go_grown⟩
  · have HC_ := Lib.hid hc; clear hc
    go_enter Tryz.func24, Tryz.ntmps24
    obtain ⟨cX0_0, cX0_1, cX0_2, cX0_3, cX0_4, cX0_5, cX0_6, cX0_7⟩ := X0.out.cells8
    go_wp2_with fail
    have RS := Lib.hid (rds_one (Row.alloc ((w.alloc (.cells #[.int .i32 a0, .int .i32 a1, .int .i32 a2, .int .i32 a3, .int .i32 a4, .int .i32 a5, .int .i32 a6, .int .i32 a7] 25)).alloc (.cells #[.int .i64 0, .int .i64 0] 48)) [.int .i32 a0, .int .i32 a1, .int .i32 a2, .int .i32 a3, .int .i32 a4, .int .i32 a5, .int .i32 a6, .int .i32 a7] 25))
    (try simp only [World.size_alloc] at RS)
    replace HB := Lib.hid (HB.out.alloc HB.out.size (.cells #[.int .i32 a0, .int .i32 a1, .int .i32 a2, .int .i32 a3, .int .i32 a4, .int .i32 a5, .int .i32 a6, .int .i32 a7] 25))
    replace X0 := Lib.hid (X0.out.below (below_alloc1 _ (.cells #[.int .i32 a0, .int .i32 a1, .int .i32 a2, .int .i32 a3, .int .i32 a4, .int .i32 a5, .int .i32 a6, .int .i32 a7] 25)))
    replace XR := Lib.hid (XR.out.below (below_alloc1 _ (.cells #[.int .i32 a0, .int .i32 a1, .int .i32 a2, .int .i32 a3, .int .i32 a4, .int .i32 a5, .int .i32 a6, .int .i32 a7] 25)))
    refine (woolCode_any [[a0, a1, a2, a3, a4, a5, a6, a7]] hid8_one (hidw_one ha) _ 1 1 _ RS.out).mono ?_
    rintro e w1 ⟨rfl, hb⟩
    rw [woC_one, HC_.out]
    clear cX0_0 cX0_1 cX0_2 cX0_3 cX0_4 cX0_5 cX0_6 cX0_7
    replace HB := Lib.hid (below_then HB.out HB.out.size hb)
    replace X0 := Lib.hid (X0.out.below hb)
    replace XR := Lib.hid (XR.out.below hb)
    have hz1 := hb.size
    (try simp only [World.size_alloc] at hz1)
    clear hb
    have hB := HB.out
    obtain ⟨cXR_0, cXR_1⟩ := XR.out.cells2
    obtain ⟨fXR_0, fXR_1⟩ := XR.out.frozens2
    have SXR := ((XR.out.set 0 (.int .i64 0)).set 1 (.int .i64 0))
    simp only [List.set_cons_zero, List.set_cons_succ] at SXR
    obtain ⟨sXR_0, sXR_1⟩ := SXR.cells2
    clear SXR
    go_wp2_with fail
    refine bodyPost_ret (v := .tuple #[.agg #[.int .i64 0, .int .i64 0], .int .i64 6]) (by simp [results, Tryz.results24, go_sem, sXR_0, sXR_1]) rfl ⟨by rw [HC_.out]; simp [jn], by go_grown⟩
  · have hk : heapOk [a0, a1, a2, a3, a4, a5, a6, a7] = true := by
      cases h : heapOk [a0, a1, a2, a3, a4, a5, a6, a7]
      · simp [smC, h] at hc
      · rfl
    have hp : 0 < hsL [a0, a1, a2, a3, a4, a5, a6, a7] := by
      by_cases h : 0 < hsL [a0, a1, a2, a3, a4, a5, a6, a7]
      · exact h
      · simp [smC, hk, h] at hc
    have hsl : hsL [a0, a1, a2, a3, a4, a5, a6, a7] = hS a0 a1 a2 a3 a4 a5 a6 a7 := rfl
    have hr := hS_rng hk
    rw [← hsl] at hr
    obtain ⟨S, hS_⟩ : ∃ S, hsL [a0, a1, a2, a3, a4, a5, a6, a7] = S := ⟨_, rfl⟩
    rw [hS_] at hr hp hsl
    rw [hS_]
    have HS := Lib.hid hsl.symm; clear hsl
    have HC_ := Lib.hid hc; clear hc
    have HW_ := Lib.hid (fun k hk8 => wsum_rng hk k hk8)
    have HA := Lib.hid (fun k => heapOk_at2 hk k)
    have IX := Lib.hid (idxB a0 a1 a2 a3 a4 a5 a6 a7)
    have mS : Mid S := by unfold Mid; omega
    have mW : Mid (wsum [a0, a1, a2, a3, a4, a5, a6, a7] 8) := by have := wsum_rng hk 8 (by omega); unfold Mid; omega
    clear hk hS_
    go_enter Tryz.func24, Tryz.ntmps24
    obtain ⟨cX0_0, cX0_1, cX0_2, cX0_3, cX0_4, cX0_5, cX0_6, cX0_7⟩ := X0.out.cells8
    go_wp2_with fail
    have RS := Lib.hid (rds_one (Row.alloc ((w.alloc (.cells #[.int .i32 a0, .int .i32 a1, .int .i32 a2, .int .i32 a3, .int .i32 a4, .int .i32 a5, .int .i32 a6, .int .i32 a7] 25)).alloc (.cells #[.int .i64 0, .int .i64 0] 48)) [.int .i32 a0, .int .i32 a1, .int .i32 a2, .int .i32 a3, .int .i32 a4, .int .i32 a5, .int .i32 a6, .int .i32 a7] 25))
    (try simp only [World.size_alloc] at RS)
    replace HB := Lib.hid (HB.out.alloc HB.out.size (.cells #[.int .i32 a0, .int .i32 a1, .int .i32 a2, .int .i32 a3, .int .i32 a4, .int .i32 a5, .int .i32 a6, .int .i32 a7] 25))
    replace X0 := Lib.hid (X0.out.below (below_alloc1 _ (.cells #[.int .i32 a0, .int .i32 a1, .int .i32 a2, .int .i32 a3, .int .i32 a4, .int .i32 a5, .int .i32 a6, .int .i32 a7] 25)))
    replace XR := Lib.hid (XR.out.below (below_alloc1 _ (.cells #[.int .i32 a0, .int .i32 a1, .int .i32 a2, .int .i32 a3, .int .i32 a4, .int .i32 a5, .int .i32 a6, .int .i32 a7] 25)))
    refine (woolCode_any [[a0, a1, a2, a3, a4, a5, a6, a7]] hid8_one (hidw_one ha) _ 1 1 _ RS.out).mono ?_
    rintro e w1 ⟨rfl, hb⟩
    rw [woC_one, HC_.out]
    clear cX0_0 cX0_1 cX0_2 cX0_3 cX0_4 cX0_5 cX0_6 cX0_7
    replace HB := Lib.hid (below_then HB.out HB.out.size hb)
    replace X0 := Lib.hid (X0.out.below hb)
    replace XR := Lib.hid (XR.out.below hb)
    have hz1 := hb.size
    (try simp only [World.size_alloc] at hz1)
    clear hb
    obtain ⟨cX0_0, cX0_1, cX0_2, cX0_3, cX0_4, cX0_5, cX0_6, cX0_7⟩ := X0.out.cells8
    go_wp2_with fail
    clear cX0_0 cX0_1 cX0_2 cX0_3 cX0_4 cX0_5 cX0_6 cX0_7
    obtain ⟨LA, hLA⟩ : ∃ L, L = [a0, a1, a2, a3, a4, a5, a6, a7] := ⟨_, rfl⟩
    have hb0 := HB.out
    go_loopw [5, 16] (fun s v wr => ∃ k : Nat, k ≤ 8 ∧ v = .int .i64 k ∧ s = .int .i64 (wsum LA k) ∧ Hid (Row wr w.heap.size 25 [.int .i32 a0, .int .i32 a1, .int .i32 a2, .int .i32 a3, .int .i32 a4, .int .i32 a5, .int .i32 a6, .int .i32 a7]) ∧ Hid (Row wr (w.heap.size + 1) 48 [.int .i64 0, .int .i64 0]) ∧ Below w.heap.size w wr) (fun _ v _ => 8 - (intOf v).toNat)
    case atStart => exact ⟨0, by omega, rfl, rfl, X0, XR, hb0⟩
    case round =>
      obtain ⟨k, hk, rfl, rfl, Y0, YR, hB⟩ := hrel
      clear X0 XR HB hb0
      have X0 := Y0; have XR := YR; have HB := Lib.hid hB
      clear Y0 YR
      by_cases hlt : k < 8
      · have hb := HA.out k
        have hw1 := HW_.out k hk
        rw [← hLA] at hb hw1
        have ix := IX.out k hlt
        rw [← hLA] at ix
        obtain ⟨x, hx⟩ : ∃ x, LA.getD k 0 = x := ⟨_, rfl⟩
        rw [hx] at hb ix
        have h1 : 0 ≤ (k : Int) * x := Int.mul_nonneg (by omega) hb.1
        have h2 : (k : Int) * x ≤ 7 * 1000 := Int.mul_le_mul (by omega) hb.2 hb.1 (by omega)
        have HX := Lib.hid hx; clear hx hLA
        go_wp2_with fail
        go_roundw
        case rel => exact ⟨k + 1, by omega, by go_num, by simp only [wsum]; rw [HX.out], X0, XR, hB⟩
        case measure => simp [intOf]; omega
      · obtain rfl : k = 8 := by omega
        rw [hLA]
        clear hLA
        obtain ⟨cX0_0, cX0_1, cX0_2, cX0_3, cX0_4, cX0_5, cX0_6, cX0_7⟩ := X0.out.cells8
        go_wp2_with fail
        refine (all_any a0 a1 a2 a3 a4 a5 a6 a7 _ ha).mono ?_
        rintro e w2 ⟨rfl, hb⟩
        rw [HS.out]
        clear cX0_0 cX0_1 cX0_2 cX0_3 cX0_4 cX0_5 cX0_6 cX0_7
        replace HB := Lib.hid (below_then HB.out HB.out.size hb)
        replace XR := Lib.hid (XR.out.below hb)
        have hz2 := hb.size
        (try simp only [World.size_alloc] at hz2)
        clear hb
        go_wp2_with fail
        refine (fraction_any _ _ _ mW mS (by omega)).mono ?_
        rintro e w3 ⟨rfl, hb⟩
        replace HB := Lib.hid (below_then HB.out HB.out.size hb)
        replace XR := Lib.hid (XR.out.below hb)
        have hz3 := hb.size
        (try simp only [World.size_alloc] at hz3)
        clear hb
        have hB := HB.out
        obtain ⟨cXR_0, cXR_1⟩ := XR.out.cells2
        obtain ⟨fXR_0, fXR_1⟩ := XR.out.frozens2
        have SXR := ((XR.out.set 0 (.int .i64 (frN (wsum [a0, a1, a2, a3, a4, a5, a6, a7] 8) S))).set 1 (.int .i64 (frD (wsum [a0, a1, a2, a3, a4, a5, a6, a7] 8) S)))
        simp only [List.set_cons_zero, List.set_cons_succ] at SXR
        obtain ⟨sXR_0, sXR_1⟩ := SXR.cells2
        clear SXR
        go_wp2_with fail
        refine bodyPost_ret (v := .tuple #[.agg #[.int .i64 (frN (wsum [a0, a1, a2, a3, a4, a5, a6, a7] 8) S), .int .i64 (frD (wsum [a0, a1, a2, a3, a4, a5, a6, a7] 8) S)], .int .i64 0]) (by simp [results, Tryz.results24, go_sem, sXR_0, sXR_1]) rfl ⟨by rw [HC_.out]; simp [jn], by go_grown⟩
set_option maxHeartbeats 1000000 in
theorem sMeanLength (a0 a1 a2 a3 a4 a5 a6 a7 : Int) (w : World) (ha : Hid (∀ x ∈ [a0, a1, a2, a3, a4, a5, a6, a7], (Lit.int .i32 x).wf = true)) :
    Calls Tryz.prog 25 #[.agg #[.int .i32 a0, .int .i32 a1, .int .i32 a2, .int .i32 a3, .int .i32 a4, .int .i32 a5, .int .i32 a6, .int .i32 a7]] w fun e w' => e = .returned (.tuple #[Fr (jn (smC [a0, a1, a2, a3, a4, a5, a6, a7]) (frN (wsum [a0, a1, a2, a3, a4, a5, a6, a7] 8) (hsL [a0, a1, a2, a3, a4, a5, a6, a7]))) (jn (smC [a0, a1, a2, a3, a4, a5, a6, a7]) (frD (wsum [a0, a1, a2, a3, a4, a5, a6, a7] 8) (hsL [a0, a1, a2, a3, a4, a5, a6, a7]))), .int .i64 (smC [a0, a1, a2, a3, a4, a5, a6, a7])]) ∧ Below w.heap.size w w' := by
  have X0 : Hid (Row ((w.alloc (.cells #[.int .i32 a0, .int .i32 a1, .int .i32 a2, .int .i32 a3, .int .i32 a4, .int .i32 a5, .int .i32 a6, .int .i32 a7] 25)).alloc (.cells #[.int .i64 0, .int .i64 0] 48)) (w.heap.size) 25 [.int .i32 a0, .int .i32 a1, .int .i32 a2, .int .i32 a3, .int .i32 a4, .int .i32 a5, .int .i32 a6, .int .i32 a7]) := Lib.hid (by have := ((Row.alloc w [.int .i32 a0, .int .i32 a1, .int .i32 a2, .int .i32 a3, .int .i32 a4, .int .i32 a5, .int .i32 a6, .int .i32 a7] 25).below (below_alloc1 _ (.cells #[.int .i64 0, .int .i64 0] 48))); (try simp only [World.size_alloc] at this); exact this)
  have XR : Hid (Row ((w.alloc (.cells #[.int .i32 a0, .int .i32 a1, .int .i32 a2, .int .i32 a3, .int .i32 a4, .int .i32 a5, .int .i32 a6, .int .i32 a7] 25)).alloc (.cells #[.int .i64 0, .int .i64 0] 48)) (w.heap.size + 1) 48 [.int .i64 0, .int .i64 0]) := Lib.hid (by have := (Row.alloc (w.alloc (.cells #[.int .i32 a0, .int .i32 a1, .int .i32 a2, .int .i32 a3, .int .i32 a4, .int .i32 a5, .int .i32 a6, .int .i32 a7] 25)) [.int .i64 0, .int .i64 0] 48); (try simp only [World.size_alloc] at this); exact this)
  have HB : Hid (Below w.heap.size w ((w.alloc (.cells #[.int .i32 a0, .int .i32 a1, .int .i32 a2, .int .i32 a3, .int .i32 a4, .int .i32 a5, .int .i32 a6, .int .i32 a7] 25)).alloc (.cells #[.int .i64 0, .int .i64 0] 48))) := Lib.hid (by go_grown)
  have hcs : smC [a0, a1, a2, a3, a4, a5, a6, a7] = 0 ∨ smC [a0, a1, a2, a3, a4, a5, a6, a7] = 1 ∨ smC [a0, a1, a2, a3, a4, a5, a6, a7] = 6 := by unfold smC; split <;> (try split) <;> simp
  rcases hcs with hc | hc | hc
  rotate_left
  · have HC_ := Lib.hid hc; clear hc
    go_enter Tryz.func25, Tryz.ntmps25
    go_wp2_with fail
    refine (l01Some_any _ _ a0 a1 a2 a3 a4 a5 a6 a7 _ X0.out ha).mono ?_
    rintro e w_ ⟨rfl, rfl⟩
    rw [HC_.out]
    have hB := HB.out
    obtain ⟨cXR_0, cXR_1⟩ := XR.out.cells2
    obtain ⟨fXR_0, fXR_1⟩ := XR.out.frozens2
    have SXR := ((XR.out.set 0 (.int .i64 0)).set 1 (.int .i64 0))
    simp only [List.set_cons_zero, List.set_cons_succ] at SXR
    obtain ⟨sXR_0, sXR_1⟩ := SXR.cells2
    clear SXR
    go_wp2_with fail
    refine bodyPost_ret (v := .tuple #[.agg #[.int .i64 0, .int .i64 0], .int .i64 1]) (by simp [results, Tryz.results25, go_sem, sXR_0, sXR_1]) rfl ⟨by rw [HC_.out]; simp [jn], by go_grown⟩
  · have HC_ := Lib.hid hc; clear hc
    go_enter Tryz.func25, Tryz.ntmps25
    go_wp2_with fail
    refine (l01Some_any _ _ a0 a1 a2 a3 a4 a5 a6 a7 _ X0.out ha).mono ?_
    rintro e w_ ⟨rfl, rfl⟩
    rw [HC_.out]
    have hB := HB.out
    obtain ⟨cXR_0, cXR_1⟩ := XR.out.cells2
    obtain ⟨fXR_0, fXR_1⟩ := XR.out.frozens2
    have SXR := ((XR.out.set 0 (.int .i64 0)).set 1 (.int .i64 0))
    simp only [List.set_cons_zero, List.set_cons_succ] at SXR
    obtain ⟨sXR_0, sXR_1⟩ := SXR.cells2
    clear SXR
    go_wp2_with fail
    refine bodyPost_ret (v := .tuple #[.agg #[.int .i64 0, .int .i64 0], .int .i64 6]) (by simp [results, Tryz.results25, go_sem, sXR_0, sXR_1]) rfl ⟨by rw [HC_.out]; simp [jn], by go_grown⟩
  · have hk : heapOk [a0, a1, a2, a3, a4, a5, a6, a7] = true := by
      cases h : heapOk [a0, a1, a2, a3, a4, a5, a6, a7]
      · simp [smC, h] at hc
      · rfl
    have hp : 0 < hsL [a0, a1, a2, a3, a4, a5, a6, a7] := by
      by_cases h : 0 < hsL [a0, a1, a2, a3, a4, a5, a6, a7]
      · exact h
      · simp [smC, hk, h] at hc
    have hsl : hsL [a0, a1, a2, a3, a4, a5, a6, a7] = hS a0 a1 a2 a3 a4 a5 a6 a7 := rfl
    have hr := hS_rng hk
    rw [← hsl] at hr
    obtain ⟨S, hS_⟩ : ∃ S, hsL [a0, a1, a2, a3, a4, a5, a6, a7] = S := ⟨_, rfl⟩
    rw [hS_] at hr hp hsl
    rw [hS_]
    have HS := Lib.hid hsl.symm; clear hsl
    have HC_ := Lib.hid hc; clear hc
    have HW_ := Lib.hid (fun k hk8 => wsum_rng hk k hk8)
    have HA := Lib.hid (fun k => heapOk_at2 hk k)
    have IX := Lib.hid (idxB a0 a1 a2 a3 a4 a5 a6 a7)
    have mS : Mid S := by unfold Mid; omega
    have mW : Mid (wsum [a0, a1, a2, a3, a4, a5, a6, a7] 8) := by have := wsum_rng hk 8 (by omega); unfold Mid; omega
    clear hk hS_
    go_enter Tryz.func25, Tryz.ntmps25
    go_wp2_with fail
    refine (l01Some_any _ _ a0 a1 a2 a3 a4 a5 a6 a7 _ X0.out ha).mono ?_
    rintro e w_ ⟨rfl, rfl⟩
    rw [HC_.out]
    obtain ⟨cX0_0, cX0_1, cX0_2, cX0_3, cX0_4, cX0_5, cX0_6, cX0_7⟩ := X0.out.cells8
    go_wp2_with fail
    clear cX0_0 cX0_1 cX0_2 cX0_3 cX0_4 cX0_5 cX0_6 cX0_7
    obtain ⟨LA, hLA⟩ : ∃ L, L = [a0, a1, a2, a3, a4, a5, a6, a7] := ⟨_, rfl⟩
    have hb0 := HB.out
    go_loopw [5, 6] (fun s v wr => ∃ k : Nat, k ≤ 8 ∧ v = .int .i64 k ∧ s = .int .i64 (wsum LA k) ∧ Hid (Row wr w.heap.size 25 [.int .i32 a0, .int .i32 a1, .int .i32 a2, .int .i32 a3, .int .i32 a4, .int .i32 a5, .int .i32 a6, .int .i32 a7]) ∧ Hid (Row wr (w.heap.size + 1) 48 [.int .i64 0, .int .i64 0]) ∧ Below w.heap.size w wr) (fun _ v _ => 8 - (intOf v).toNat)
    case atStart => exact ⟨0, by omega, rfl, rfl, X0, XR, hb0⟩
    case round =>
      obtain ⟨k, hk, rfl, rfl, Y0, YR, hB⟩ := hrel
      clear X0 XR HB hb0
      have X0 := Y0; have XR := YR; have HB := Lib.hid hB
      clear Y0 YR
      by_cases hlt : k < 8
      · have hb := HA.out k
        have hw1 := HW_.out k hk
        rw [← hLA] at hb hw1
        have cx := X0.out.cell k
        rw [show ([.int .i32 a0, .int .i32 a1, .int .i32 a2, .int .i32 a3, .int .i32 a4, .int .i32 a5, .int .i32 a6, .int .i32 a7] : List Value) = nums .i32 LA from by rw [hLA]; rfl, list_at2 (by rw [hLA]; rfl) hlt] at cx
        obtain ⟨x, hx⟩ : ∃ x, LA.getD k 0 = x := ⟨_, rfl⟩
        rw [hx] at hb cx
        have h1 : 0 ≤ (k : Int) * x := Int.mul_nonneg (by omega) hb.1
        have h2 : (k : Int) * x ≤ 7 * 1000 := Int.mul_le_mul (by omega) hb.2 hb.1 (by omega)
        have HX := Lib.hid hx; clear hx hLA
        go_wp2_with fail
        go_roundw
        case rel => exact ⟨k + 1, by omega, by go_num, by simp only [wsum]; rw [HX.out], X0, XR, hB⟩
        case measure => simp [intOf]; omega
      · obtain rfl : k = 8 := by omega
        rw [hLA]
        clear hLA
        go_wp2_with fail
        refine (l01Grams_any _ _ a0 a1 a2 a3 a4 a5 a6 a7 _ X0.out ha).mono ?_
        rintro e w_ ⟨rfl, rfl⟩
        rw [HS.out]
        go_wp2_with fail
        refine (l01Make_any _ _ _ mW mS (by omega)).mono ?_
        rintro e w1 ⟨rfl, hb⟩
        replace HB := Lib.hid (below_then HB.out HB.out.size hb)
        replace XR := Lib.hid (XR.out.below hb)
        have hz1 := hb.size
        (try simp only [World.size_alloc] at hz1)
        clear hb
        have hB := HB.out
        obtain ⟨cXR_0, cXR_1⟩ := XR.out.cells2
        obtain ⟨fXR_0, fXR_1⟩ := XR.out.frozens2
        have SXR := ((XR.out.set 0 (.int .i64 (frN (wsum [a0, a1, a2, a3, a4, a5, a6, a7] 8) S))).set 1 (.int .i64 (frD (wsum [a0, a1, a2, a3, a4, a5, a6, a7] 8) S)))
        simp only [List.set_cons_zero, List.set_cons_succ] at SXR
        obtain ⟨sXR_0, sXR_1⟩ := SXR.cells2
        clear SXR
        go_wp2_with fail
        refine bodyPost_ret (v := .tuple #[.agg #[.int .i64 (frN (wsum [a0, a1, a2, a3, a4, a5, a6, a7] 8) S), .int .i64 (frD (wsum [a0, a1, a2, a3, a4, a5, a6, a7] 8) S)], .int .i64 0]) (by simp [results, Tryz.results25, go_sem, sXR_0, sXR_1]) rfl ⟨by rw [HC_.out]; simp [jn], by go_grown⟩
end Go.Proofs.YtbkhlcbnnjgdpaaGreatDoor
