/- Contracts: impl.OffBy. -/
import Derived.Test.YtjbaaomodcgdgaaR7
import Derived.Deep.RegionHeld3
import Derived.IntWalk
namespace Go.Proofs.Ytjbaaomodcgdgaa
open Go.RowKit
set_option linter.unusedVariables false
set_option linter.unusedSimpArgs false
set_option maxHeartbeats 4000000 in
theorem iOffBy (a0 a1 a2 a3 a4 a5 a6 a7 b0 b1 b2 b3 b4 b5 b6 b7 : Int) (w : World) (ha : Hid (∀ x ∈ [a0, a1, a2, a3, a4, a5, a6, a7], (Lit.int .i32 x).wf = true)) (hq : Hid (∀ x ∈ [b0, b1, b2, b3, b4, b5, b6, b7], (Lit.int .i32 x).wf = true)) :
    Calls Try.prog 10 #[.agg #[.int .i32 a0, .int .i32 a1, .int .i32 a2, .int .i32 a3, .int .i32 a4, .int .i32 a5, .int .i32 a6, .int .i32 a7], .agg #[.int .i32 b0, .int .i32 b1, .int .i32 b2, .int .i32 b3, .int .i32 b4, .int .i32 b5, .int .i32 b6, .int .i32 b7]] w fun e w' => e = .returned (.tuple #[Fr (jn (woC [[a0, a1, a2, a3, a4, a5, a6, a7], [b0, b1, b2, b3, b4, b5, b6, b7]]) (frN (offS [a0, a1, a2, a3, a4, a5, a6, a7] [b0, b1, b2, b3, b4, b5, b6, b7] (hsL [a0, a1, a2, a3, a4, a5, a6, a7]) (hsL [b0, b1, b2, b3, b4, b5, b6, b7]) 8) ((hsL [a0, a1, a2, a3, a4, a5, a6, a7]) * (hsL [b0, b1, b2, b3, b4, b5, b6, b7])))) (jn (woC [[a0, a1, a2, a3, a4, a5, a6, a7], [b0, b1, b2, b3, b4, b5, b6, b7]]) (frD (offS [a0, a1, a2, a3, a4, a5, a6, a7] [b0, b1, b2, b3, b4, b5, b6, b7] (hsL [a0, a1, a2, a3, a4, a5, a6, a7]) (hsL [b0, b1, b2, b3, b4, b5, b6, b7]) 8) ((hsL [a0, a1, a2, a3, a4, a5, a6, a7]) * (hsL [b0, b1, b2, b3, b4, b5, b6, b7])))), .int .i64 (woC [[a0, a1, a2, a3, a4, a5, a6, a7], [b0, b1, b2, b3, b4, b5, b6, b7]])]) ∧ Below w.heap.size w w' := by
  have X0 : Hid (Row (((w.alloc (.cells #[.int .i32 a0, .int .i32 a1, .int .i32 a2, .int .i32 a3, .int .i32 a4, .int .i32 a5, .int .i32 a6, .int .i32 a7] 27)).alloc (.cells #[.int .i32 b0, .int .i32 b1, .int .i32 b2, .int .i32 b3, .int .i32 b4, .int .i32 b5, .int .i32 b6, .int .i32 b7] 27)).alloc (.cells #[.int .i64 0, .int .i64 0] 34)) (w.heap.size) 27 [.int .i32 a0, .int .i32 a1, .int .i32 a2, .int .i32 a3, .int .i32 a4, .int .i32 a5, .int .i32 a6, .int .i32 a7]) := Lib.hid (by have := (((Row.alloc w [.int .i32 a0, .int .i32 a1, .int .i32 a2, .int .i32 a3, .int .i32 a4, .int .i32 a5, .int .i32 a6, .int .i32 a7] 27).below (below_alloc1 _ (.cells #[.int .i32 b0, .int .i32 b1, .int .i32 b2, .int .i32 b3, .int .i32 b4, .int .i32 b5, .int .i32 b6, .int .i32 b7] 27))).below (below_alloc1 _ (.cells #[.int .i64 0, .int .i64 0] 34))); (try simp only [World.size_alloc] at this); exact this)
  have X1 : Hid (Row (((w.alloc (.cells #[.int .i32 a0, .int .i32 a1, .int .i32 a2, .int .i32 a3, .int .i32 a4, .int .i32 a5, .int .i32 a6, .int .i32 a7] 27)).alloc (.cells #[.int .i32 b0, .int .i32 b1, .int .i32 b2, .int .i32 b3, .int .i32 b4, .int .i32 b5, .int .i32 b6, .int .i32 b7] 27)).alloc (.cells #[.int .i64 0, .int .i64 0] 34)) (w.heap.size + 1) 27 [.int .i32 b0, .int .i32 b1, .int .i32 b2, .int .i32 b3, .int .i32 b4, .int .i32 b5, .int .i32 b6, .int .i32 b7]) := Lib.hid (by have := ((Row.alloc (w.alloc (.cells #[.int .i32 a0, .int .i32 a1, .int .i32 a2, .int .i32 a3, .int .i32 a4, .int .i32 a5, .int .i32 a6, .int .i32 a7] 27)) [.int .i32 b0, .int .i32 b1, .int .i32 b2, .int .i32 b3, .int .i32 b4, .int .i32 b5, .int .i32 b6, .int .i32 b7] 27).below (below_alloc1 _ (.cells #[.int .i64 0, .int .i64 0] 34))); (try simp only [World.size_alloc] at this); exact this)
  have XR : Hid (Row (((w.alloc (.cells #[.int .i32 a0, .int .i32 a1, .int .i32 a2, .int .i32 a3, .int .i32 a4, .int .i32 a5, .int .i32 a6, .int .i32 a7] 27)).alloc (.cells #[.int .i32 b0, .int .i32 b1, .int .i32 b2, .int .i32 b3, .int .i32 b4, .int .i32 b5, .int .i32 b6, .int .i32 b7] 27)).alloc (.cells #[.int .i64 0, .int .i64 0] 34)) (w.heap.size + 2) 34 [.int .i64 0, .int .i64 0]) := Lib.hid (by have := (Row.alloc ((w.alloc (.cells #[.int .i32 a0, .int .i32 a1, .int .i32 a2, .int .i32 a3, .int .i32 a4, .int .i32 a5, .int .i32 a6, .int .i32 a7] 27)).alloc (.cells #[.int .i32 b0, .int .i32 b1, .int .i32 b2, .int .i32 b3, .int .i32 b4, .int .i32 b5, .int .i32 b6, .int .i32 b7] 27)) [.int .i64 0, .int .i64 0] 34); (try simp only [World.size_alloc] at this); exact this)
  have HB : Hid (Below w.heap.size w (((w.alloc (.cells #[.int .i32 a0, .int .i32 a1, .int .i32 a2, .int .i32 a3, .int .i32 a4, .int .i32 a5, .int .i32 a6, .int .i32 a7] 27)).alloc (.cells #[.int .i32 b0, .int .i32 b1, .int .i32 b2, .int .i32 b3, .int .i32 b4, .int .i32 b5, .int .i32 b6, .int .i32 b7] 27)).alloc (.cells #[.int .i64 0, .int .i64 0] 34))) := Lib.hid (by go_grown)
  rcases woC_cases [[a0, a1, a2, a3, a4, a5, a6, a7], [b0, b1, b2, b3, b4, b5, b6, b7]] with hc | hc | hc
  rotate_left
  · have HC_ := Lib.hid hc; clear hc
    go_enter Try.func10, Try.ntmps10
    obtain ⟨cX0_0, cX0_1, cX0_2, cX0_3, cX0_4, cX0_5, cX0_6, cX0_7⟩ := X0.out.cells8
    obtain ⟨cX1_0, cX1_1, cX1_2, cX1_3, cX1_4, cX1_5, cX1_6, cX1_7⟩ := X1.out.cells8
    go_wp2_with fail
    clear cX0_0 cX0_1 cX0_2 cX0_3 cX0_4 cX0_5 cX0_6 cX0_7 cX1_0 cX1_1 cX1_2 cX1_3 cX1_4 cX1_5 cX1_6 cX1_7
    have RS := Lib.hid (rds_two (Row.alloc (((w.alloc (.cells #[.int .i32 a0, .int .i32 a1, .int .i32 a2, .int .i32 a3, .int .i32 a4, .int .i32 a5, .int .i32 a6, .int .i32 a7] 27)).alloc (.cells #[.int .i32 b0, .int .i32 b1, .int .i32 b2, .int .i32 b3, .int .i32 b4, .int .i32 b5, .int .i32 b6, .int .i32 b7] 27)).alloc (.cells #[.int .i64 0, .int .i64 0] 34)) [.int .i32 a0, .int .i32 a1, .int .i32 a2, .int .i32 a3, .int .i32 a4, .int .i32 a5, .int .i32 a6, .int .i32 a7, .int .i32 b0, .int .i32 b1, .int .i32 b2, .int .i32 b3, .int .i32 b4, .int .i32 b5, .int .i32 b6, .int .i32 b7] 27))
    (try simp only [World.size_alloc] at RS)
    replace HB := Lib.hid (HB.out.alloc HB.out.size (.cells #[.int .i32 a0, .int .i32 a1, .int .i32 a2, .int .i32 a3, .int .i32 a4, .int .i32 a5, .int .i32 a6, .int .i32 a7, .int .i32 b0, .int .i32 b1, .int .i32 b2, .int .i32 b3, .int .i32 b4, .int .i32 b5, .int .i32 b6, .int .i32 b7] 27))
    replace X0 := Lib.hid (X0.out.below (below_alloc1 _ (.cells #[.int .i32 a0, .int .i32 a1, .int .i32 a2, .int .i32 a3, .int .i32 a4, .int .i32 a5, .int .i32 a6, .int .i32 a7, .int .i32 b0, .int .i32 b1, .int .i32 b2, .int .i32 b3, .int .i32 b4, .int .i32 b5, .int .i32 b6, .int .i32 b7] 27)))
    replace X1 := Lib.hid (X1.out.below (below_alloc1 _ (.cells #[.int .i32 a0, .int .i32 a1, .int .i32 a2, .int .i32 a3, .int .i32 a4, .int .i32 a5, .int .i32 a6, .int .i32 a7, .int .i32 b0, .int .i32 b1, .int .i32 b2, .int .i32 b3, .int .i32 b4, .int .i32 b5, .int .i32 b6, .int .i32 b7] 27)))
    replace XR := Lib.hid (XR.out.below (below_alloc1 _ (.cells #[.int .i32 a0, .int .i32 a1, .int .i32 a2, .int .i32 a3, .int .i32 a4, .int .i32 a5, .int .i32 a6, .int .i32 a7, .int .i32 b0, .int .i32 b1, .int .i32 b2, .int .i32 b3, .int .i32 b4, .int .i32 b5, .int .i32 b6, .int .i32 b7] 27)))
    refine (woolCode_any [[a0, a1, a2, a3, a4, a5, a6, a7], [b0, b1, b2, b3, b4, b5, b6, b7]] hid8_two (hidw_two ha hq) _ 2 2 _ RS.out).mono ?_
    rintro e w1 ⟨rfl, hb⟩
    rw [HC_.out]
    replace HB := Lib.hid (below_then HB.out HB.out.size hb)
    replace X0 := Lib.hid (X0.out.below hb)
    replace X1 := Lib.hid (X1.out.below hb)
    replace XR := Lib.hid (XR.out.below hb)
    have hz1 := hb.size
    (try simp only [World.size_alloc] at hz1)
    clear hb
    have hB := HB.out
    obtain ⟨cXR_0, cXR_1⟩ := XR.out.cells2
    obtain ⟨fXR_0, fXR_1⟩ := XR.out.frozens2
    go_wp2_with fail
    have SXR := ((XR.out.set 0 (.int .i64 0)).set 1 (.int .i64 0))
    simp only [List.set_cons_zero, List.set_cons_succ] at SXR
    obtain ⟨sXR_0, sXR_1⟩ := SXR.cells2
    clear SXR
    refine bodyPost_ret (v := .tuple #[.agg #[.int .i64 0, .int .i64 0], .int .i64 1]) (by simp [results, Try.results10, go_sem, sXR_0, sXR_1]) rfl ⟨by rw [HC_.out]; simp [jn], by go_grown⟩
  · have HC_ := Lib.hid hc; clear hc
    go_enter Try.func10, Try.ntmps10
    obtain ⟨cX0_0, cX0_1, cX0_2, cX0_3, cX0_4, cX0_5, cX0_6, cX0_7⟩ := X0.out.cells8
    obtain ⟨cX1_0, cX1_1, cX1_2, cX1_3, cX1_4, cX1_5, cX1_6, cX1_7⟩ := X1.out.cells8
    go_wp2_with fail
    clear cX0_0 cX0_1 cX0_2 cX0_3 cX0_4 cX0_5 cX0_6 cX0_7 cX1_0 cX1_1 cX1_2 cX1_3 cX1_4 cX1_5 cX1_6 cX1_7
    have RS := Lib.hid (rds_two (Row.alloc (((w.alloc (.cells #[.int .i32 a0, .int .i32 a1, .int .i32 a2, .int .i32 a3, .int .i32 a4, .int .i32 a5, .int .i32 a6, .int .i32 a7] 27)).alloc (.cells #[.int .i32 b0, .int .i32 b1, .int .i32 b2, .int .i32 b3, .int .i32 b4, .int .i32 b5, .int .i32 b6, .int .i32 b7] 27)).alloc (.cells #[.int .i64 0, .int .i64 0] 34)) [.int .i32 a0, .int .i32 a1, .int .i32 a2, .int .i32 a3, .int .i32 a4, .int .i32 a5, .int .i32 a6, .int .i32 a7, .int .i32 b0, .int .i32 b1, .int .i32 b2, .int .i32 b3, .int .i32 b4, .int .i32 b5, .int .i32 b6, .int .i32 b7] 27))
    (try simp only [World.size_alloc] at RS)
    replace HB := Lib.hid (HB.out.alloc HB.out.size (.cells #[.int .i32 a0, .int .i32 a1, .int .i32 a2, .int .i32 a3, .int .i32 a4, .int .i32 a5, .int .i32 a6, .int .i32 a7, .int .i32 b0, .int .i32 b1, .int .i32 b2, .int .i32 b3, .int .i32 b4, .int .i32 b5, .int .i32 b6, .int .i32 b7] 27))
    replace X0 := Lib.hid (X0.out.below (below_alloc1 _ (.cells #[.int .i32 a0, .int .i32 a1, .int .i32 a2, .int .i32 a3, .int .i32 a4, .int .i32 a5, .int .i32 a6, .int .i32 a7, .int .i32 b0, .int .i32 b1, .int .i32 b2, .int .i32 b3, .int .i32 b4, .int .i32 b5, .int .i32 b6, .int .i32 b7] 27)))
    replace X1 := Lib.hid (X1.out.below (below_alloc1 _ (.cells #[.int .i32 a0, .int .i32 a1, .int .i32 a2, .int .i32 a3, .int .i32 a4, .int .i32 a5, .int .i32 a6, .int .i32 a7, .int .i32 b0, .int .i32 b1, .int .i32 b2, .int .i32 b3, .int .i32 b4, .int .i32 b5, .int .i32 b6, .int .i32 b7] 27)))
    replace XR := Lib.hid (XR.out.below (below_alloc1 _ (.cells #[.int .i32 a0, .int .i32 a1, .int .i32 a2, .int .i32 a3, .int .i32 a4, .int .i32 a5, .int .i32 a6, .int .i32 a7, .int .i32 b0, .int .i32 b1, .int .i32 b2, .int .i32 b3, .int .i32 b4, .int .i32 b5, .int .i32 b6, .int .i32 b7] 27)))
    refine (woolCode_any [[a0, a1, a2, a3, a4, a5, a6, a7], [b0, b1, b2, b3, b4, b5, b6, b7]] hid8_two (hidw_two ha hq) _ 2 2 _ RS.out).mono ?_
    rintro e w1 ⟨rfl, hb⟩
    rw [HC_.out]
    replace HB := Lib.hid (below_then HB.out HB.out.size hb)
    replace X0 := Lib.hid (X0.out.below hb)
    replace X1 := Lib.hid (X1.out.below hb)
    replace XR := Lib.hid (XR.out.below hb)
    have hz1 := hb.size
    (try simp only [World.size_alloc] at hz1)
    clear hb
    have hB := HB.out
    obtain ⟨cXR_0, cXR_1⟩ := XR.out.cells2
    obtain ⟨fXR_0, fXR_1⟩ := XR.out.frozens2
    go_wp2_with fail
    have SXR := ((XR.out.set 0 (.int .i64 0)).set 1 (.int .i64 0))
    simp only [List.set_cons_zero, List.set_cons_succ] at SXR
    obtain ⟨sXR_0, sXR_1⟩ := SXR.cells2
    clear SXR
    refine bodyPost_ret (v := .tuple #[.agg #[.int .i64 0, .int .i64 0], .int .i64 6]) (by simp [results, Try.results10, go_sem, sXR_0, sXR_1]) rfl ⟨by rw [HC_.out]; simp [jn], by go_grown⟩
  obtain ⟨k1, k2, k3, k4⟩ := woC_two_0 hc
  have r1 := hS_rng k1
  have r2 := hS_rng k2
  have l1 : hsL [a0, a1, a2, a3, a4, a5, a6, a7] = hS a0 a1 a2 a3 a4 a5 a6 a7 := rfl
  have l2 : hsL [b0, b1, b2, b3, b4, b5, b6, b7] = hS b0 b1 b2 b3 b4 b5 b6 b7 := rfl
  rw [← l1] at r1
  rw [← l2] at r2
  obtain ⟨P, hP⟩ : ∃ P, hsL [a0, a1, a2, a3, a4, a5, a6, a7] = P := ⟨_, rfl⟩
  obtain ⟨Q, hQ⟩ : ∃ Q, hsL [b0, b1, b2, b3, b4, b5, b6, b7] = Q := ⟨_, rfl⟩
  rw [hP] at r1 k3 l1
  rw [hQ] at r2 k4 l2
  rw [hP, hQ]
  have HP := Lib.hid l1.symm; have HQ := Lib.hid l2.symm
  have HO := Lib.hid (fun k => offS_rng k1 k2 r1 r2 k)
  have HA := Lib.hid (fun k => heapOk_at2 k1 k); have HB2 := Lib.hid (fun k => heapOk_at2 k2 k)
  have HC_ := Lib.hid hc; have H1 := Lib.hid k1; have H2 := Lib.hid k2
  have pq : 1 ≤ P * Q ∧ P * Q ≤ 64000000 := by
    have h1 : 1 * 1 ≤ P * Q := Int.mul_le_mul (by omega) (by omega) (by omega) (by omega)
    have h2 : P * Q ≤ 8000 * 8000 := Int.mul_le_mul (by omega) (by omega) (by omega) (by omega)
    omega
  have mPQ : Mid (P * Q) := by unfold Mid; omega
  have mN : Mid (offS [a0, a1, a2, a3, a4, a5, a6, a7] [b0, b1, b2, b3, b4, b5, b6, b7] P Q 8) := by have := offS_rng k1 k2 r1 r2 8; unfold Mid; omega
  have hp0 : (P == 0) = false := by simp; omega
  have hq0 : (Q == 0) = false := by simp; omega
  clear hc k1 k2 l1 l2 hP hQ
  go_enter Try.func10, Try.ntmps10
  obtain ⟨cX0_0, cX0_1, cX0_2, cX0_3, cX0_4, cX0_5, cX0_6, cX0_7⟩ := X0.out.cells8
  obtain ⟨cX1_0, cX1_1, cX1_2, cX1_3, cX1_4, cX1_5, cX1_6, cX1_7⟩ := X1.out.cells8
  go_wp2_with fail
  clear cX0_0 cX0_1 cX0_2 cX0_3 cX0_4 cX0_5 cX0_6 cX0_7 cX1_0 cX1_1 cX1_2 cX1_3 cX1_4 cX1_5 cX1_6 cX1_7
  have RS := Lib.hid (rds_two (Row.alloc (((w.alloc (.cells #[.int .i32 a0, .int .i32 a1, .int .i32 a2, .int .i32 a3, .int .i32 a4, .int .i32 a5, .int .i32 a6, .int .i32 a7] 27)).alloc (.cells #[.int .i32 b0, .int .i32 b1, .int .i32 b2, .int .i32 b3, .int .i32 b4, .int .i32 b5, .int .i32 b6, .int .i32 b7] 27)).alloc (.cells #[.int .i64 0, .int .i64 0] 34)) [.int .i32 a0, .int .i32 a1, .int .i32 a2, .int .i32 a3, .int .i32 a4, .int .i32 a5, .int .i32 a6, .int .i32 a7, .int .i32 b0, .int .i32 b1, .int .i32 b2, .int .i32 b3, .int .i32 b4, .int .i32 b5, .int .i32 b6, .int .i32 b7] 27))
  (try simp only [World.size_alloc] at RS)
  replace HB := Lib.hid (HB.out.alloc HB.out.size (.cells #[.int .i32 a0, .int .i32 a1, .int .i32 a2, .int .i32 a3, .int .i32 a4, .int .i32 a5, .int .i32 a6, .int .i32 a7, .int .i32 b0, .int .i32 b1, .int .i32 b2, .int .i32 b3, .int .i32 b4, .int .i32 b5, .int .i32 b6, .int .i32 b7] 27))
  replace X0 := Lib.hid (X0.out.below (below_alloc1 _ (.cells #[.int .i32 a0, .int .i32 a1, .int .i32 a2, .int .i32 a3, .int .i32 a4, .int .i32 a5, .int .i32 a6, .int .i32 a7, .int .i32 b0, .int .i32 b1, .int .i32 b2, .int .i32 b3, .int .i32 b4, .int .i32 b5, .int .i32 b6, .int .i32 b7] 27)))
  replace X1 := Lib.hid (X1.out.below (below_alloc1 _ (.cells #[.int .i32 a0, .int .i32 a1, .int .i32 a2, .int .i32 a3, .int .i32 a4, .int .i32 a5, .int .i32 a6, .int .i32 a7, .int .i32 b0, .int .i32 b1, .int .i32 b2, .int .i32 b3, .int .i32 b4, .int .i32 b5, .int .i32 b6, .int .i32 b7] 27)))
  replace XR := Lib.hid (XR.out.below (below_alloc1 _ (.cells #[.int .i32 a0, .int .i32 a1, .int .i32 a2, .int .i32 a3, .int .i32 a4, .int .i32 a5, .int .i32 a6, .int .i32 a7, .int .i32 b0, .int .i32 b1, .int .i32 b2, .int .i32 b3, .int .i32 b4, .int .i32 b5, .int .i32 b6, .int .i32 b7] 27)))
  refine (woolCode_any [[a0, a1, a2, a3, a4, a5, a6, a7], [b0, b1, b2, b3, b4, b5, b6, b7]] hid8_two (hidw_two ha hq) _ 2 2 _ RS.out).mono ?_
  rintro e w1 ⟨rfl, hb⟩
  rw [HC_.out]
  replace HB := Lib.hid (below_then HB.out HB.out.size hb)
  replace X0 := Lib.hid (X0.out.below hb)
  replace X1 := Lib.hid (X1.out.below hb)
  replace XR := Lib.hid (XR.out.below hb)
  have hz1 := hb.size
  (try simp only [World.size_alloc] at hz1)
  clear hb
  go_wp2_with fail
  have hb0 := HB.out
  obtain ⟨LA, hLA⟩ : ∃ L, L = [a0, a1, a2, a3, a4, a5, a6, a7] := ⟨_, rfl⟩
  obtain ⟨LB, hLB⟩ : ∃ L, L = [b0, b1, b2, b3, b4, b5, b6, b7] := ⟨_, rfl⟩
  go_loopw [7, 17] (fun s v wr => ∃ k : Nat, k ≤ 8 ∧ v = .int .i64 k ∧ s = .int .i64 (offS LA LB P Q k) ∧ Hid (Row wr w.heap.size 27 [.int .i32 a0, .int .i32 a1, .int .i32 a2, .int .i32 a3, .int .i32 a4, .int .i32 a5, .int .i32 a6, .int .i32 a7]) ∧ Hid (Row wr (w.heap.size + 1) 27 [.int .i32 b0, .int .i32 b1, .int .i32 b2, .int .i32 b3, .int .i32 b4, .int .i32 b5, .int .i32 b6, .int .i32 b7]) ∧ Hid (Row wr (w.heap.size + 2) 34 [.int .i64 0, .int .i64 0]) ∧ Below w.heap.size w wr) (fun _ v _ => 8 - (intOf v).toNat)
  case atStart => exact ⟨0, by omega, rfl, rfl, X0, X1, XR, hb0⟩
  case round =>
    obtain ⟨k, hk, rfl, rfl, Y0, Y1, YR, hB⟩ := hrel
    clear X0 X1 XR HB hb0
    by_cases hlt : k < 8
    · have ca : wr.cell? ⟨w.heap.size, k, none⟩ = some (.int .i32 (LA.getD k 0)) := by rw [Y0.out.cell, show ([.int .i32 a0, .int .i32 a1, .int .i32 a2, .int .i32 a3, .int .i32 a4, .int .i32 a5, .int .i32 a6, .int .i32 a7] : List Value) = nums .i32 LA from by rw [hLA]; rfl, list_at2 (by rw [hLA]; rfl) hlt]
      have cb : wr.cell? ⟨w.heap.size + 1, k, none⟩ = some (.int .i32 (LB.getD k 0)) := by rw [Y1.out.cell, show ([.int .i32 b0, .int .i32 b1, .int .i32 b2, .int .i32 b3, .int .i32 b4, .int .i32 b5, .int .i32 b6, .int .i32 b7] : List Value) = nums .i32 LB from by rw [hLB]; rfl, list_at2 (by rw [hLB]; rfl) hlt]
      have bx := HA.out k
      have by_ := HB2.out k
      have bo := HO.out k
      rw [← hLA, ← hLB] at bo
      rw [← hLA] at bx
      rw [← hLB] at by_
      obtain ⟨x, hx⟩ : ∃ x, LA.getD k 0 = x := ⟨_, rfl⟩
      obtain ⟨y, hy⟩ : ∃ y, LB.getD k 0 = y := ⟨_, rfl⟩
      obtain ⟨T, hT⟩ : ∃ T, offS LA LB P Q k = T := ⟨_, rfl⟩
      have hst : offS LA LB P Q (k + 1) = T + ((x * Q - y * P).natAbs : Int) := by simp only [offS]; rw [hT, hx, hy]
      rw [hx] at ca bx
      rw [hy] at cb by_
      rw [hT] at bo ⊢
      have p1 := prod_rng bx r2
      have p2 := prod_rng by_ r1
      have hm : Mid (x * Q - y * P) := by unfold Mid; omega
      have v1 : IntKind.i64.wrap (x * Q) = x * Q := IntWalk.i64_in _ (by omega)
      have v2 : IntKind.i64.wrap (y * P) = y * P := IntWalk.i64_in _ (by omega)
      have v3 : IntKind.i64.wrap (x * Q - y * P) = x * Q - y * P := IntWalk.i64_in _ (by omega)
      have v4 : IntKind.i64.wrap (T + ((x * Q - y * P).natAbs : Int)) = T + ((x * Q - y * P).natAbs : Int) := IntWalk.i64_in _ (by omega)
      have v5 : IntKind.i64.wrap x = x := IntWalk.i64_in _ (by omega)
      have v6 : IntKind.i64.wrap y = y := IntWalk.i64_in _ (by omega)
      have HST := Lib.hid hst
      have hk1 : (k : Int) < 8 := by omega
      clear hst hx hy hT hLA hLB p1 p2 bo
      go_wp2_with fail
      have Z0 := Y0.out.drew; have Z1 := Y1.out.drew; have ZR := YR.out.drew; have hB1 := hB.drew
      clear Y0 Y1 YR
      obtain ⟨e0, e1, e2, e3, e4, e5, e6, e7⟩ := Z0.cells8
      obtain ⟨d0, d1, d2, d3, d4, d5, d6, d7⟩ := Z1.cells8
      go_region_held3 (fun w' => w'.cell? ⟨w.heap.size, k, none⟩ = some (.int .i32 x) ∧ w'.cell? ⟨w.heap.size + 1, k, none⟩ = some (.int .i32 y) ∧ w'.cell? ⟨w.heap.size, 0, none⟩ = some (.int .i32 a0) ∧ w'.cell? ⟨w.heap.size, 1, none⟩ = some (.int .i32 a1) ∧ w'.cell? ⟨w.heap.size, 2, none⟩ = some (.int .i32 a2) ∧ w'.cell? ⟨w.heap.size, 3, none⟩ = some (.int .i32 a3) ∧ w'.cell? ⟨w.heap.size, 4, none⟩ = some (.int .i32 a4) ∧ w'.cell? ⟨w.heap.size, 5, none⟩ = some (.int .i32 a5) ∧ w'.cell? ⟨w.heap.size, 6, none⟩ = some (.int .i32 a6) ∧ w'.cell? ⟨w.heap.size, 7, none⟩ = some (.int .i32 a7) ∧ w'.cell? ⟨w.heap.size + 1, 0, none⟩ = some (.int .i32 b0) ∧ w'.cell? ⟨w.heap.size + 1, 1, none⟩ = some (.int .i32 b1) ∧ w'.cell? ⟨w.heap.size + 1, 2, none⟩ = some (.int .i32 b2) ∧ w'.cell? ⟨w.heap.size + 1, 3, none⟩ = some (.int .i32 b3) ∧ w'.cell? ⟨w.heap.size + 1, 4, none⟩ = some (.int .i32 b4) ∧ w'.cell? ⟨w.heap.size + 1, 5, none⟩ = some (.int .i32 b5) ∧ w'.cell? ⟨w.heap.size + 1, 6, none⟩ = some (.int .i32 b6) ∧ w'.cell? ⟨w.heap.size + 1, 7, none⟩ = some (.int .i32 b7))
        (first | exact ⟨ca, cb, e0, e1, e2, e3, e4, e5, e6, e7, d0, d1, d2, d3, d4, d5, d6, d7⟩ | go_keep)
        ((first | (go_at_call 29; refine (all_any _ _ _ _ _ _ _ _ _ (by first | exact ha | exact hq)).mono ?_; rintro e w1 ⟨rfl, hb⟩; (first | rw [HP.out] | rw [HQ.out]); replace ca := (hb.cell (World.block_lt_of_cell? _ _ ca)).trans ca; replace cb := (hb.cell (World.block_lt_of_cell? _ _ cb)).trans cb; replace Z0 := Z0.below hb; replace Z1 := Z1.below hb; replace ZR := ZR.below hb; replace hB1 := below_then hB1 hB1.size hb; clear e0 e1 e2 e3 e4 e5 e6 e7 d0 d1 d2 d3 d4 d5 d6 d7; obtain ⟨e0, e1, e2, e3, e4, e5, e6, e7⟩ := Z0.cells8; obtain ⟨d0, d1, d2, d3, d4, d5, d6, d7⟩ := Z1.cells8; clear hb) | (go_at_call 33; refine (size_any _ _ hm).mono ?_; rintro e w_ ⟨rfl, rfl⟩)))
      clear v1 v2 v3 v4 v5 v6 ca cb
      go_wp2_with fail
      go_roundw
      case rel => exact ⟨k + 1, by omega, by go_num, by rw [HST.out], Lib.hid Z0, Lib.hid Z1, Lib.hid ZR, hB1⟩
      case measure => simp [intOf]; omega
    · obtain rfl : k = 8 := by omega
      rw [hLA, hLB]
      clear hLA hLB
      have X0 := Y0; have X1 := Y1; have XR := YR; have HB := Lib.hid hB; clear Y0 Y1 YR
      have v1 : IntKind.i64.wrap (P * Q) = P * Q := IntWalk.i64_in _ (by omega)
      go_wp2_with fail
      have Z0 := X0.out.drew; have Z1 := X1.out.drew; have ZR := XR.out.drew; have hB1 := hB.drew
      clear X0 X1 XR
      obtain ⟨e0, e1, e2, e3, e4, e5, e6, e7⟩ := Z0.cells8
      obtain ⟨d0, d1, d2, d3, d4, d5, d6, d7⟩ := Z1.cells8
      go_region_held3 (fun w' => w'.cell? ⟨w.heap.size, 0, none⟩ = some (.int .i32 a0) ∧ w'.cell? ⟨w.heap.size, 1, none⟩ = some (.int .i32 a1) ∧ w'.cell? ⟨w.heap.size, 2, none⟩ = some (.int .i32 a2) ∧ w'.cell? ⟨w.heap.size, 3, none⟩ = some (.int .i32 a3) ∧ w'.cell? ⟨w.heap.size, 4, none⟩ = some (.int .i32 a4) ∧ w'.cell? ⟨w.heap.size, 5, none⟩ = some (.int .i32 a5) ∧ w'.cell? ⟨w.heap.size, 6, none⟩ = some (.int .i32 a6) ∧ w'.cell? ⟨w.heap.size, 7, none⟩ = some (.int .i32 a7) ∧ w'.cell? ⟨w.heap.size + 1, 0, none⟩ = some (.int .i32 b0) ∧ w'.cell? ⟨w.heap.size + 1, 1, none⟩ = some (.int .i32 b1) ∧ w'.cell? ⟨w.heap.size + 1, 2, none⟩ = some (.int .i32 b2) ∧ w'.cell? ⟨w.heap.size + 1, 3, none⟩ = some (.int .i32 b3) ∧ w'.cell? ⟨w.heap.size + 1, 4, none⟩ = some (.int .i32 b4) ∧ w'.cell? ⟨w.heap.size + 1, 5, none⟩ = some (.int .i32 b5) ∧ w'.cell? ⟨w.heap.size + 1, 6, none⟩ = some (.int .i32 b6) ∧ w'.cell? ⟨w.heap.size + 1, 7, none⟩ = some (.int .i32 b7))
        (first | exact ⟨e0, e1, e2, e3, e4, e5, e6, e7, d0, d1, d2, d3, d4, d5, d6, d7⟩ | exact ⟨(Z0.apart2 _ (by omega) _ _).cell 0, (Z0.apart2 _ (by omega) _ _).cell 1, (Z0.apart2 _ (by omega) _ _).cell 2, (Z0.apart2 _ (by omega) _ _).cell 3, (Z0.apart2 _ (by omega) _ _).cell 4, (Z0.apart2 _ (by omega) _ _).cell 5, (Z0.apart2 _ (by omega) _ _).cell 6, (Z0.apart2 _ (by omega) _ _).cell 7, (Z1.apart2 _ (by omega) _ _).cell 0, (Z1.apart2 _ (by omega) _ _).cell 1, (Z1.apart2 _ (by omega) _ _).cell 2, (Z1.apart2 _ (by omega) _ _).cell 3, (Z1.apart2 _ (by omega) _ _).cell 4, (Z1.apart2 _ (by omega) _ _).cell 5, (Z1.apart2 _ (by omega) _ _).cell 6, (Z1.apart2 _ (by omega) _ _).cell 7⟩ | go_keep)
        ((first | (go_at_call 29; refine (all_any _ _ _ _ _ _ _ _ _ (by first | exact ha | exact hq)).mono ?_; rintro e w1 ⟨rfl, hb⟩; (first | rw [HP.out] | rw [HQ.out]); replace Z0 := Z0.below hb; replace Z1 := Z1.below hb; replace ZR := ZR.below hb; replace hB1 := below_then hB1 hB1.size hb; clear e0 e1 e2 e3 e4 e5 e6 e7 d0 d1 d2 d3 d4 d5 d6 d7; obtain ⟨e0, e1, e2, e3, e4, e5, e6, e7⟩ := Z0.cells8; obtain ⟨d0, d1, d2, d3, d4, d5, d6, d7⟩ := Z1.cells8; clear hb) | (go_at_call 28; refine (fraction_any _ _ _ mN mPQ (by omega)).mono ?_; rintro e w1 ⟨rfl, hb⟩; replace Z0 := Z0.below hb; replace Z1 := Z1.below hb; replace ZR := ZR.below hb; replace hB1 := below_then hB1 hB1.size hb; clear e0 e1 e2 e3 e4 e5 e6 e7 d0 d1 d2 d3 d4 d5 d6 d7; obtain ⟨e0, e1, e2, e3, e4, e5, e6, e7⟩ := Z0.cells8; obtain ⟨d0, d1, d2, d3, d4, d5, d6, d7⟩ := Z1.cells8; obtain ⟨rc0, rc1⟩ := ZR.cells2; obtain ⟨rf0, rf1⟩ := ZR.frozens2; clear hb)))
      have SR := ZR.set2 (.int .i64 (frN (offS [a0, a1, a2, a3, a4, a5, a6, a7] [b0, b1, b2, b3, b4, b5, b6, b7] P Q 8) (P * Q))) (.int .i64 (frD (offS [a0, a1, a2, a3, a4, a5, a6, a7] [b0, b1, b2, b3, b4, b5, b6, b7] P Q 8) (P * Q)))
      obtain ⟨s0, s1⟩ := SR.cells2
      clear SR v1
      go_wp2_with fail
      refine bodyPost_ret (v := .tuple #[.agg #[.int .i64 (frN (offS [a0, a1, a2, a3, a4, a5, a6, a7] [b0, b1, b2, b3, b4, b5, b6, b7] P Q 8) (P * Q)), .int .i64 (frD (offS [a0, a1, a2, a3, a4, a5, a6, a7] [b0, b1, b2, b3, b4, b5, b6, b7] P Q 8) (P * Q))], .int .i64 0]) (by simp [results, Try.results10, go_sem, s0, s1]) rfl ⟨by rw [HC_.out]; simp [jn], by go_grown⟩
end Go.Proofs.Ytjbaaomodcgdgaa
