/- Contracts: SpinHeap. -/
import Derived.Test.YthllecfbpipagaaY2
import Derived.Test.YthllecfbpipagaaH6
namespace Go.Proofs.Ythllecfbpipagaa
open Go.RowKit
set_option linter.unusedVariables false
set_option linter.unusedSimpArgs false
def spC (L : List Int) (S c r : Int) : Int := if asC L (inB c 1 100 && inB r (-100) 100) = 0 then (if yarnOk (S * c) (S * c * r) S then 0 else 3) else asC L (inB c 1 100 && inB r (-100) 100)
theorem hS_rng {a0 a1 a2 a3 a4 a5 a6 a7 : Int} (h : heapOk [a0, a1, a2, a3, a4, a5, a6, a7] = true) : 0 ≤ hS a0 a1 a2 a3 a4 a5 a6 a7 ∧ hS a0 a1 a2 a3 a4 a5 a6 a7 ≤ 8000 := by
  obtain ⟨h0, h1, h2, h3, h4, h5, h6, h7⟩ := heapOk_bounds h
  unfold hS
  omega
set_option maxHeartbeats 1000000 in
theorem iSpinHeap (a0 a1 a2 a3 a4 a5 a6 a7 c r : Int) (w : World) (ha : Hid (∀ x ∈ [a0, a1, a2, a3, a4, a5, a6, a7], (Lit.int .i32 x).wf = true)) (hc0 : -9223372036854775808 ≤ c ∧ c ≤ 9223372036854775807) (hr0 : -9223372036854775808 ≤ r ∧ r ≤ 9223372036854775807) :
    Calls Try.prog 25 #[.agg #[.int .i32 a0, .int .i32 a1, .int .i32 a2, .int .i32 a3, .int .i32 a4, .int .i32 a5, .int .i32 a6, .int .i32 a7], .int .i64 c, .int .i64 r] w fun e w' => e = .returned (.tuple #[.agg #[.int .i16 (jn (spC [a0, a1, a2, a3, a4, a5, a6, a7] (hS a0 a1 a2 a3 a4 a5 a6 a7) c r) ((hS a0 a1 a2 a3 a4 a5 a6 a7) * c)), .int .i16 (jn (spC [a0, a1, a2, a3, a4, a5, a6, a7] (hS a0 a1 a2 a3 a4 a5 a6 a7) c r) ((hS a0 a1 a2 a3 a4 a5 a6 a7) * c * r)), .int .i16 (jn (spC [a0, a1, a2, a3, a4, a5, a6, a7] (hS a0 a1 a2 a3 a4 a5 a6 a7) c r) (hS a0 a1 a2 a3 a4 a5 a6 a7))], .int .i64 (spC [a0, a1, a2, a3, a4, a5, a6, a7] (hS a0 a1 a2 a3 a4 a5 a6 a7) c r)]) ∧ Below w.heap.size w w' := by
  have X0 : Hid (Row ((w.alloc (.cells #[.int .i32 a0, .int .i32 a1, .int .i32 a2, .int .i32 a3, .int .i32 a4, .int .i32 a5, .int .i32 a6, .int .i32 a7] 46)).alloc (.cells #[.int .i16 0, .int .i16 0, .int .i16 0] 35)) (w.heap.size) 46 [.int .i32 a0, .int .i32 a1, .int .i32 a2, .int .i32 a3, .int .i32 a4, .int .i32 a5, .int .i32 a6, .int .i32 a7]) := Lib.hid (by have := ((Row.alloc w [.int .i32 a0, .int .i32 a1, .int .i32 a2, .int .i32 a3, .int .i32 a4, .int .i32 a5, .int .i32 a6, .int .i32 a7] 46).below (below_alloc1 _ (.cells #[.int .i16 0, .int .i16 0, .int .i16 0] 35))); (try simp only [World.size_alloc] at this); exact this)
  have XR : Hid (Row ((w.alloc (.cells #[.int .i32 a0, .int .i32 a1, .int .i32 a2, .int .i32 a3, .int .i32 a4, .int .i32 a5, .int .i32 a6, .int .i32 a7] 46)).alloc (.cells #[.int .i16 0, .int .i16 0, .int .i16 0] 35)) (w.heap.size + 1) 35 [.int .i16 0, .int .i16 0, .int .i16 0]) := Lib.hid (by have := (Row.alloc (w.alloc (.cells #[.int .i32 a0, .int .i32 a1, .int .i32 a2, .int .i32 a3, .int .i32 a4, .int .i32 a5, .int .i32 a6, .int .i32 a7] 46)) [.int .i16 0, .int .i16 0, .int .i16 0] 35); (try simp only [World.size_alloc] at this); exact this)
  have HB : Hid (Below w.heap.size w ((w.alloc (.cells #[.int .i32 a0, .int .i32 a1, .int .i32 a2, .int .i32 a3, .int .i32 a4, .int .i32 a5, .int .i32 a6, .int .i32 a7] 46)).alloc (.cells #[.int .i16 0, .int .i16 0, .int .i16 0] 35))) := Lib.hid (by go_grown)
  cases h1 : heapOk [a0, a1, a2, a3, a4, a5, a6, a7]
  · have ha1 : asC [a0, a1, a2, a3, a4, a5, a6, a7] (inB c 1 100 && inB r (-100) 100) = 1 := by simp [asC, h1]
    have hc : spC [a0, a1, a2, a3, a4, a5, a6, a7] (hS a0 a1 a2 a3 a4 a5 a6 a7) c r = 1 := by simp [spC, asC, h1]
    have HC := Lib.hid hc
    have H1 := Lib.hid h1; clear h1 hc ha1
    go_enter Try.func25, Try.ntmps25
    obtain ⟨cX0_0, cX0_1, cX0_2, cX0_3, cX0_4, cX0_5, cX0_6, cX0_7⟩ := X0.out.cells8
    go_wp2_with fail
    refine (iValidHeap a0 a1 a2 a3 a4 a5 a6 a7 _ ha).mono ?_
    rintro e w1 ⟨rfl, hb⟩
    rw [H1.out]
    clear cX0_0 cX0_1 cX0_2 cX0_3 cX0_4 cX0_5 cX0_6 cX0_7
    replace HB := Lib.hid (below_then HB.out HB.out.size hb)
    replace X0 := Lib.hid (X0.out.below hb)
    replace XR := Lib.hid (XR.out.below hb)
    have hz1 := hb.size
    (try simp only [World.size_alloc] at hz1)
    clear hb
    obtain ⟨cX0_0, cX0_1, cX0_2, cX0_3, cX0_4, cX0_5, cX0_6, cX0_7⟩ := X0.out.cells8
    clear cX0_0 cX0_1 cX0_2 cX0_3 cX0_4 cX0_5 cX0_6 cX0_7
    have hB := HB.out
    obtain ⟨cXR_0, cXR_1, cXR_2⟩ := XR.out.cells3
    obtain ⟨fXR_0, fXR_1, fXR_2⟩ := XR.out.frozens3
    have SXR := (((XR.out.set 0 (.int .i16 0)).set 1 (.int .i16 0)).set 2 (.int .i16 0))
    simp only [List.set_cons_zero, List.set_cons_succ] at SXR
    obtain ⟨sXR_0, sXR_1, sXR_2⟩ := SXR.cells3
    clear SXR
    go_wp2_with fail
    refine bodyPost_ret (v := .tuple #[.agg #[.int .i16 0, .int .i16 0, .int .i16 0], .int .i64 1]) (by simp [results, Try.results25, go_sem, sXR_0, sXR_1, sXR_2]) rfl ⟨by rw [HC.out]; simp [jn], by go_grown⟩
  cases g1 : inB c 1 100
  · have ha1 : asC [a0, a1, a2, a3, a4, a5, a6, a7] (inB c 1 100 && inB r (-100) 100) = 2 := by simp [asC, h1, g1]
    have hc : spC [a0, a1, a2, a3, a4, a5, a6, a7] (hS a0 a1 a2 a3 a4 a5 a6 a7) c r = 2 := by simp [spC, asC, h1, g1]
    have HC := Lib.hid hc
    have H1 := Lib.hid h1; clear h1 hc
    rw [g1] at ha1
    simp only [Bool.and_true, Bool.and_false, Bool.true_and, Bool.false_and] at ha1
    have HA := Lib.hid ha1; clear ha1
    go_enter Try.func25, Try.ntmps25
    obtain ⟨cX0_0, cX0_1, cX0_2, cX0_3, cX0_4, cX0_5, cX0_6, cX0_7⟩ := X0.out.cells8
    go_wp2_with fail
    refine (iValidHeap a0 a1 a2 a3 a4 a5 a6 a7 _ ha).mono ?_
    rintro e w1 ⟨rfl, hb⟩
    rw [H1.out]
    clear cX0_0 cX0_1 cX0_2 cX0_3 cX0_4 cX0_5 cX0_6 cX0_7
    replace HB := Lib.hid (below_then HB.out HB.out.size hb)
    replace X0 := Lib.hid (X0.out.below hb)
    replace XR := Lib.hid (XR.out.below hb)
    have hz1 := hb.size
    (try simp only [World.size_alloc] at hz1)
    clear hb
    obtain ⟨cX0_0, cX0_1, cX0_2, cX0_3, cX0_4, cX0_5, cX0_6, cX0_7⟩ := X0.out.cells8
    clear cX0_0 cX0_1 cX0_2 cX0_3 cX0_4 cX0_5 cX0_6 cX0_7
    have hB := HB.out
    obtain ⟨cXR_0, cXR_1, cXR_2⟩ := XR.out.cells3
    obtain ⟨fXR_0, fXR_1, fXR_2⟩ := XR.out.frozens3
    have SXR := (((XR.out.set 0 (.int .i16 0)).set 1 (.int .i16 0)).set 2 (.int .i16 0))
    simp only [List.set_cons_zero, List.set_cons_succ] at SXR
    obtain ⟨sXR_0, sXR_1, sXR_2⟩ := SXR.cells3
    clear SXR
    go_wp2_with (go_at_call 37; (refine (within_any _ _ _ _).mono ?_); rintro e w' ⟨rfl, rfl⟩; first | rw [g1])
    refine bodyPost_ret (v := .tuple #[.agg #[.int .i16 0, .int .i16 0, .int .i16 0], .int .i64 2]) (by simp [results, Try.results25, go_sem, sXR_0, sXR_1, sXR_2]) rfl ⟨by rw [HC.out]; simp [jn], by go_grown⟩
  cases g2 : inB r (-100) 100
  · have ha1 : asC [a0, a1, a2, a3, a4, a5, a6, a7] (inB c 1 100 && inB r (-100) 100) = 2 := by simp [asC, h1, g1, g2]
    have hc : spC [a0, a1, a2, a3, a4, a5, a6, a7] (hS a0 a1 a2 a3 a4 a5 a6 a7) c r = 2 := by simp [spC, asC, h1, g1, g2]
    have HC := Lib.hid hc
    have H1 := Lib.hid h1; clear h1 hc
    rw [g1, g2] at ha1
    simp only [Bool.and_true, Bool.and_false, Bool.true_and, Bool.false_and] at ha1
    have HA := Lib.hid ha1; clear ha1
    go_enter Try.func25, Try.ntmps25
    obtain ⟨cX0_0, cX0_1, cX0_2, cX0_3, cX0_4, cX0_5, cX0_6, cX0_7⟩ := X0.out.cells8
    go_wp2_with fail
    refine (iValidHeap a0 a1 a2 a3 a4 a5 a6 a7 _ ha).mono ?_
    rintro e w1 ⟨rfl, hb⟩
    rw [H1.out]
    clear cX0_0 cX0_1 cX0_2 cX0_3 cX0_4 cX0_5 cX0_6 cX0_7
    replace HB := Lib.hid (below_then HB.out HB.out.size hb)
    replace X0 := Lib.hid (X0.out.below hb)
    replace XR := Lib.hid (XR.out.below hb)
    have hz1 := hb.size
    (try simp only [World.size_alloc] at hz1)
    clear hb
    obtain ⟨cX0_0, cX0_1, cX0_2, cX0_3, cX0_4, cX0_5, cX0_6, cX0_7⟩ := X0.out.cells8
    clear cX0_0 cX0_1 cX0_2 cX0_3 cX0_4 cX0_5 cX0_6 cX0_7
    have hB := HB.out
    obtain ⟨cXR_0, cXR_1, cXR_2⟩ := XR.out.cells3
    obtain ⟨fXR_0, fXR_1, fXR_2⟩ := XR.out.frozens3
    have SXR := (((XR.out.set 0 (.int .i16 0)).set 1 (.int .i16 0)).set 2 (.int .i16 0))
    simp only [List.set_cons_zero, List.set_cons_succ] at SXR
    obtain ⟨sXR_0, sXR_1, sXR_2⟩ := SXR.cells3
    clear SXR
    go_wp2_with (go_at_call 37; (refine (within_any _ _ _ _).mono ?_); rintro e w' ⟨rfl, rfl⟩; first | rw [g1] | rw [g2])
    refine bodyPost_ret (v := .tuple #[.agg #[.int .i16 0, .int .i16 0, .int .i16 0], .int .i64 2]) (by simp [results, Try.results25, go_sem, sXR_0, sXR_1, sXR_2]) rfl ⟨by rw [HC.out]; simp [jn], by go_grown⟩
  have ha1 : asC [a0, a1, a2, a3, a4, a5, a6, a7] (inB c 1 100 && inB r (-100) 100) = 0 := by simp [asC, h1, g1, g2]
  have ha2 : asC [a0, a1, a2, a3, a4, a5, a6, a7] true = 0 := by simp [asC, h1]
  have HA := Lib.hid ha2
  obtain ⟨S, hS_⟩ : ∃ S, (hS a0 a1 a2 a3 a4 a5 a6 a7) = S := ⟨_, rfl⟩
  have hSr := hS_rng h1
  rw [hS_] at hSr ⊢
  have hcr : 1 ≤ c ∧ c ≤ 100 := by simpa [inB] using g1
  have hrr : -100 ≤ r ∧ r ≤ 100 := by simpa [inB] using g2
  have p0 := mul_rng hSr (show -100 ≤ c ∧ c ≤ 100 by omega)
  have p1 : 0 ≤ S * c ∧ S * c ≤ 800000 := ⟨Int.mul_nonneg hSr.1 (by omega), by omega⟩
  have p2 := mul_rng p1 hrr
  clear p0
  have HS := Lib.hid hS_; clear hS_
  have H1 := Lib.hid h1; clear h1
  cases hy : yarnOk (S * c) (S * c * r) S
  rotate_left
  · have hc : spC [a0, a1, a2, a3, a4, a5, a6, a7] S c r = 0 := by simp [spC, ha1, hy]
    have HC := Lib.hid hc; clear hc ha1 ha2
    have HY := Lib.hid hy; clear hy
    go_enter Try.func25, Try.ntmps25
    obtain ⟨cX0_0, cX0_1, cX0_2, cX0_3, cX0_4, cX0_5, cX0_6, cX0_7⟩ := X0.out.cells8
    go_wp2_with fail
    refine (iValidHeap a0 a1 a2 a3 a4 a5 a6 a7 _ ha).mono ?_
    rintro e w1 ⟨rfl, hb⟩
    rw [H1.out]
    clear cX0_0 cX0_1 cX0_2 cX0_3 cX0_4 cX0_5 cX0_6 cX0_7
    replace HB := Lib.hid (below_then HB.out HB.out.size hb)
    replace X0 := Lib.hid (X0.out.below hb)
    replace XR := Lib.hid (XR.out.below hb)
    have hz1 := hb.size
    (try simp only [World.size_alloc] at hz1)
    clear hb
    obtain ⟨cX0_0, cX0_1, cX0_2, cX0_3, cX0_4, cX0_5, cX0_6, cX0_7⟩ := X0.out.cells8
    go_wp2_with (go_at_call 37; (refine (within_any _ _ _ _).mono ?_); rintro e w' ⟨rfl, rfl⟩; first | rw [g1] | rw [g2])
    refine (all_any a0 a1 a2 a3 a4 a5 a6 a7 _ ha).mono ?_
    rintro e w2 ⟨rfl, hb⟩
    rw [HS.out]
    clear cX0_0 cX0_1 cX0_2 cX0_3 cX0_4 cX0_5 cX0_6 cX0_7
    replace HB := Lib.hid (below_then HB.out HB.out.size hb)
    replace X0 := Lib.hid (X0.out.below hb)
    replace XR := Lib.hid (XR.out.below hb)
    have hz2 := hb.size
    clear hb
    obtain ⟨cX0_0, cX0_1, cX0_2, cX0_3, cX0_4, cX0_5, cX0_6, cX0_7⟩ := X0.out.cells8
    go_wp2_with fail
    refine (all_any a0 a1 a2 a3 a4 a5 a6 a7 _ ha).mono ?_
    rintro e w3 ⟨rfl, hb⟩
    rw [HS.out]
    clear cX0_0 cX0_1 cX0_2 cX0_3 cX0_4 cX0_5 cX0_6 cX0_7
    replace HB := Lib.hid (below_then HB.out HB.out.size hb)
    replace XR := Lib.hid (XR.out.below hb)
    have hz3 := hb.size
    (try simp only [World.size_alloc] at hz3)
    clear hb
    go_wp2_with fail
    refine (makeYarn_t _ _ _ _ HY.out).mono ?_
    rintro e w4 ⟨rfl, hb⟩
    replace HB := Lib.hid (below_then HB.out HB.out.size hb)
    replace XR := Lib.hid (XR.out.below hb)
    have hz4 := hb.size
    (try simp only [World.size_alloc] at hz4)
    clear hb
    have Y : Hid (Row (w4.alloc (.cells #[.int .i16 (S * c), .int .i16 (S * c * r), .int .i16 S] 35)) w4.heap.size 35 [.int .i16 (S * c), .int .i16 (S * c * r), .int .i16 S]) := Lib.hid (Row.alloc w4 [.int .i16 (S * c), .int .i16 (S * c * r), .int .i16 S] 35)
    replace HB := Lib.hid (HB.out.alloc HB.out.size (.cells #[.int .i16 (S * c), .int .i16 (S * c * r), .int .i16 S] 35))
    replace XR := Lib.hid (XR.out.below (below_alloc1 _ (.cells #[.int .i16 (S * c), .int .i16 (S * c * r), .int .i16 S] 35)))
    obtain ⟨cY_0, cY_1, cY_2⟩ := Y.out.cells3
    have hB := HB.out
    obtain ⟨cXR_0, cXR_1, cXR_2⟩ := XR.out.cells3
    obtain ⟨fXR_0, fXR_1, fXR_2⟩ := XR.out.frozens3
    have SXR := (((XR.out.set 0 (.int .i16 (S * c))).set 1 (.int .i16 (S * c * r))).set 2 (.int .i16 S))
    simp only [List.set_cons_zero, List.set_cons_succ] at SXR
    obtain ⟨sXR_0, sXR_1, sXR_2⟩ := SXR.cells3
    clear SXR
    go_wp2_with fail
    refine bodyPost_ret (v := .tuple #[.agg #[.int .i16 (S * c), .int .i16 (S * c * r), .int .i16 S], .int .i64 0]) (by simp [results, Try.results25, go_sem, sXR_0, sXR_1, sXR_2]) rfl ⟨by rw [HC.out]; simp [jn], by go_grown⟩
  · have hc : spC [a0, a1, a2, a3, a4, a5, a6, a7] S c r = 3 := by simp [spC, ha1, hy]
    have HC := Lib.hid hc; clear hc ha1 ha2
    have HY := Lib.hid hy; clear hy
    go_enter Try.func25, Try.ntmps25
    obtain ⟨cX0_0, cX0_1, cX0_2, cX0_3, cX0_4, cX0_5, cX0_6, cX0_7⟩ := X0.out.cells8
    go_wp2_with fail
    refine (iValidHeap a0 a1 a2 a3 a4 a5 a6 a7 _ ha).mono ?_
    rintro e w1 ⟨rfl, hb⟩
    rw [H1.out]
    clear cX0_0 cX0_1 cX0_2 cX0_3 cX0_4 cX0_5 cX0_6 cX0_7
    replace HB := Lib.hid (below_then HB.out HB.out.size hb)
    replace X0 := Lib.hid (X0.out.below hb)
    replace XR := Lib.hid (XR.out.below hb)
    have hz1 := hb.size
    (try simp only [World.size_alloc] at hz1)
    clear hb
    obtain ⟨cX0_0, cX0_1, cX0_2, cX0_3, cX0_4, cX0_5, cX0_6, cX0_7⟩ := X0.out.cells8
    go_wp2_with (go_at_call 37; (refine (within_any _ _ _ _).mono ?_); rintro e w' ⟨rfl, rfl⟩; first | rw [g1] | rw [g2])
    refine (all_any a0 a1 a2 a3 a4 a5 a6 a7 _ ha).mono ?_
    rintro e w2 ⟨rfl, hb⟩
    rw [HS.out]
    clear cX0_0 cX0_1 cX0_2 cX0_3 cX0_4 cX0_5 cX0_6 cX0_7
    replace HB := Lib.hid (below_then HB.out HB.out.size hb)
    replace X0 := Lib.hid (X0.out.below hb)
    replace XR := Lib.hid (XR.out.below hb)
    have hz2 := hb.size
    clear hb
    obtain ⟨cX0_0, cX0_1, cX0_2, cX0_3, cX0_4, cX0_5, cX0_6, cX0_7⟩ := X0.out.cells8
    go_wp2_with fail
    refine (all_any a0 a1 a2 a3 a4 a5 a6 a7 _ ha).mono ?_
    rintro e w3 ⟨rfl, hb⟩
    rw [HS.out]
    clear cX0_0 cX0_1 cX0_2 cX0_3 cX0_4 cX0_5 cX0_6 cX0_7
    replace HB := Lib.hid (below_then HB.out HB.out.size hb)
    replace XR := Lib.hid (XR.out.below hb)
    have hz3 := hb.size
    (try simp only [World.size_alloc] at hz3)
    clear hb
    go_wp2_with fail
    refine (makeYarn_f _ _ _ _ HY.out).mono ?_
    rintro e w4 ⟨rfl, hb⟩
    replace HB := Lib.hid (below_then HB.out HB.out.size hb)
    replace XR := Lib.hid (XR.out.below hb)
    have hz4 := hb.size
    (try simp only [World.size_alloc] at hz4)
    clear hb
    have Y : Hid (Row (w4.alloc (.cells #[.int .i16 0, .int .i16 0, .int .i16 0] 35)) w4.heap.size 35 [.int .i16 0, .int .i16 0, .int .i16 0]) := Lib.hid (Row.alloc w4 [.int .i16 0, .int .i16 0, .int .i16 0] 35)
    replace HB := Lib.hid (HB.out.alloc HB.out.size (.cells #[.int .i16 0, .int .i16 0, .int .i16 0] 35))
    replace XR := Lib.hid (XR.out.below (below_alloc1 _ (.cells #[.int .i16 0, .int .i16 0, .int .i16 0] 35)))
    have hB := HB.out
    obtain ⟨cXR_0, cXR_1, cXR_2⟩ := XR.out.cells3
    obtain ⟨fXR_0, fXR_1, fXR_2⟩ := XR.out.frozens3
    have SXR := (((XR.out.set 0 (.int .i16 0)).set 1 (.int .i16 0)).set 2 (.int .i16 0))
    simp only [List.set_cons_zero, List.set_cons_succ] at SXR
    obtain ⟨sXR_0, sXR_1, sXR_2⟩ := SXR.cells3
    clear SXR
    go_wp2_with fail
    refine bodyPost_ret (v := .tuple #[.agg #[.int .i16 0, .int .i16 0, .int .i16 0], .int .i64 3]) (by simp [results, Try.results25, go_sem, sXR_0, sXR_1, sXR_2]) rfl ⟨by rw [HC.out]; simp [jn], by go_grown⟩
set_option maxHeartbeats 1000000 in
theorem sSpinHeap (a0 a1 a2 a3 a4 a5 a6 a7 c r : Int) (w : World) (ha : Hid (∀ x ∈ [a0, a1, a2, a3, a4, a5, a6, a7], (Lit.int .i32 x).wf = true)) (hc0 : -9223372036854775808 ≤ c ∧ c ≤ 9223372036854775807) (hr0 : -9223372036854775808 ≤ r ∧ r ≤ 9223372036854775807) :
    Calls Try.prog 23 #[.agg #[.int .i32 a0, .int .i32 a1, .int .i32 a2, .int .i32 a3, .int .i32 a4, .int .i32 a5, .int .i32 a6, .int .i32 a7], .int .i64 c, .int .i64 r] w fun e w' => e = .returned (.tuple #[.agg #[.int .i16 (jn (spC [a0, a1, a2, a3, a4, a5, a6, a7] (hS a0 a1 a2 a3 a4 a5 a6 a7) c r) ((hS a0 a1 a2 a3 a4 a5 a6 a7) * c)), .int .i16 (jn (spC [a0, a1, a2, a3, a4, a5, a6, a7] (hS a0 a1 a2 a3 a4 a5 a6 a7) c r) ((hS a0 a1 a2 a3 a4 a5 a6 a7) * c * r)), .int .i16 (jn (spC [a0, a1, a2, a3, a4, a5, a6, a7] (hS a0 a1 a2 a3 a4 a5 a6 a7) c r) (hS a0 a1 a2 a3 a4 a5 a6 a7))], .int .i64 (spC [a0, a1, a2, a3, a4, a5, a6, a7] (hS a0 a1 a2 a3 a4 a5 a6 a7) c r)]) ∧ Below w.heap.size w w' := by
  have X0 : Hid (Row ((w.alloc (.cells #[.int .i32 a0, .int .i32 a1, .int .i32 a2, .int .i32 a3, .int .i32 a4, .int .i32 a5, .int .i32 a6, .int .i32 a7] 46)).alloc (.cells #[.int .i16 0, .int .i16 0, .int .i16 0] 35)) (w.heap.size) 46 [.int .i32 a0, .int .i32 a1, .int .i32 a2, .int .i32 a3, .int .i32 a4, .int .i32 a5, .int .i32 a6, .int .i32 a7]) := Lib.hid (by have := ((Row.alloc w [.int .i32 a0, .int .i32 a1, .int .i32 a2, .int .i32 a3, .int .i32 a4, .int .i32 a5, .int .i32 a6, .int .i32 a7] 46).below (below_alloc1 _ (.cells #[.int .i16 0, .int .i16 0, .int .i16 0] 35))); (try simp only [World.size_alloc] at this); exact this)
  have XR : Hid (Row ((w.alloc (.cells #[.int .i32 a0, .int .i32 a1, .int .i32 a2, .int .i32 a3, .int .i32 a4, .int .i32 a5, .int .i32 a6, .int .i32 a7] 46)).alloc (.cells #[.int .i16 0, .int .i16 0, .int .i16 0] 35)) (w.heap.size + 1) 35 [.int .i16 0, .int .i16 0, .int .i16 0]) := Lib.hid (by have := (Row.alloc (w.alloc (.cells #[.int .i32 a0, .int .i32 a1, .int .i32 a2, .int .i32 a3, .int .i32 a4, .int .i32 a5, .int .i32 a6, .int .i32 a7] 46)) [.int .i16 0, .int .i16 0, .int .i16 0] 35); (try simp only [World.size_alloc] at this); exact this)
  have HB : Hid (Below w.heap.size w ((w.alloc (.cells #[.int .i32 a0, .int .i32 a1, .int .i32 a2, .int .i32 a3, .int .i32 a4, .int .i32 a5, .int .i32 a6, .int .i32 a7] 46)).alloc (.cells #[.int .i16 0, .int .i16 0, .int .i16 0] 35))) := Lib.hid (by go_grown)
  cases h1 : heapOk [a0, a1, a2, a3, a4, a5, a6, a7]
  · have ha1 : asC [a0, a1, a2, a3, a4, a5, a6, a7] (inB c 1 100 && inB r (-100) 100) = 1 := by simp [asC, h1]
    have hc : spC [a0, a1, a2, a3, a4, a5, a6, a7] (hS a0 a1 a2 a3 a4 a5 a6 a7) c r = 1 := by simp [spC, asC, h1]
    have HC := Lib.hid hc
    clear hc
    have H1 := Lib.hid h1; clear h1
    cases g1 : inB c 1 100 <;> cases g2 : inB r (-100) 100
    all_goals
      rw [g1, g2] at ha1
      simp only [Bool.and_true, Bool.and_false, Bool.true_and, Bool.false_and] at ha1
      have HA := Lib.hid ha1; clear ha1
      go_enter Try.func23, Try.ntmps23
      go_wp2_with (go_at_call 34; (refine (l00In_any _ _ _ _).mono ?_); rintro e w' ⟨rfl, rfl⟩; first | rw [g1] | rw [g2])
      refine (l01Asked_any _ _ [a0, a1, a2, a3, a4, a5, a6, a7] _ _ X0.out rfl ha).mono ?_
      rintro e w_ ⟨rfl, rfl⟩
      rw [HA.out]
      have hB := HB.out
      obtain ⟨cXR_0, cXR_1, cXR_2⟩ := XR.out.cells3
      obtain ⟨fXR_0, fXR_1, fXR_2⟩ := XR.out.frozens3
      have SXR := (((XR.out.set 0 (.int .i16 0)).set 1 (.int .i16 0)).set 2 (.int .i16 0))
      simp only [List.set_cons_zero, List.set_cons_succ] at SXR
      obtain ⟨sXR_0, sXR_1, sXR_2⟩ := SXR.cells3
      clear SXR
      go_wp2_with fail
      refine bodyPost_ret (v := .tuple #[.agg #[.int .i16 0, .int .i16 0, .int .i16 0], .int .i64 1]) (by simp [results, Try.results23, go_sem, sXR_0, sXR_1, sXR_2]) rfl ⟨by rw [HC.out]; simp [jn], by go_grown⟩
  cases g1 : inB c 1 100
  · have ha1 : asC [a0, a1, a2, a3, a4, a5, a6, a7] (inB c 1 100 && inB r (-100) 100) = 2 := by simp [asC, h1, g1]
    have hc : spC [a0, a1, a2, a3, a4, a5, a6, a7] (hS a0 a1 a2 a3 a4 a5 a6 a7) c r = 2 := by simp [spC, asC, h1, g1]
    have HC := Lib.hid hc
    have H1 := Lib.hid h1; clear h1 hc
    rw [g1] at ha1
    simp only [Bool.and_true, Bool.and_false, Bool.true_and, Bool.false_and] at ha1
    have HA := Lib.hid ha1; clear ha1
    go_enter Try.func23, Try.ntmps23
    go_wp2_with (go_at_call 34; (refine (l00In_any _ _ _ _).mono ?_); rintro e w' ⟨rfl, rfl⟩; first | rw [g1])
    refine (l01Asked_any _ _ [a0, a1, a2, a3, a4, a5, a6, a7] _ _ X0.out rfl ha).mono ?_
    rintro e w_ ⟨rfl, rfl⟩
    rw [HA.out]
    have hB := HB.out
    obtain ⟨cXR_0, cXR_1, cXR_2⟩ := XR.out.cells3
    obtain ⟨fXR_0, fXR_1, fXR_2⟩ := XR.out.frozens3
    have SXR := (((XR.out.set 0 (.int .i16 0)).set 1 (.int .i16 0)).set 2 (.int .i16 0))
    simp only [List.set_cons_zero, List.set_cons_succ] at SXR
    obtain ⟨sXR_0, sXR_1, sXR_2⟩ := SXR.cells3
    clear SXR
    go_wp2_with fail
    refine bodyPost_ret (v := .tuple #[.agg #[.int .i16 0, .int .i16 0, .int .i16 0], .int .i64 2]) (by simp [results, Try.results23, go_sem, sXR_0, sXR_1, sXR_2]) rfl ⟨by rw [HC.out]; simp [jn], by go_grown⟩
  cases g2 : inB r (-100) 100
  · have ha1 : asC [a0, a1, a2, a3, a4, a5, a6, a7] (inB c 1 100 && inB r (-100) 100) = 2 := by simp [asC, h1, g1, g2]
    have hc : spC [a0, a1, a2, a3, a4, a5, a6, a7] (hS a0 a1 a2 a3 a4 a5 a6 a7) c r = 2 := by simp [spC, asC, h1, g1, g2]
    have HC := Lib.hid hc
    have H1 := Lib.hid h1; clear h1 hc
    rw [g1, g2] at ha1
    simp only [Bool.and_true, Bool.and_false, Bool.true_and, Bool.false_and] at ha1
    have HA := Lib.hid ha1; clear ha1
    go_enter Try.func23, Try.ntmps23
    go_wp2_with (go_at_call 34; (refine (l00In_any _ _ _ _).mono ?_); rintro e w' ⟨rfl, rfl⟩; first | rw [g1] | rw [g2])
    refine (l01Asked_any _ _ [a0, a1, a2, a3, a4, a5, a6, a7] _ _ X0.out rfl ha).mono ?_
    rintro e w_ ⟨rfl, rfl⟩
    rw [HA.out]
    have hB := HB.out
    obtain ⟨cXR_0, cXR_1, cXR_2⟩ := XR.out.cells3
    obtain ⟨fXR_0, fXR_1, fXR_2⟩ := XR.out.frozens3
    have SXR := (((XR.out.set 0 (.int .i16 0)).set 1 (.int .i16 0)).set 2 (.int .i16 0))
    simp only [List.set_cons_zero, List.set_cons_succ] at SXR
    obtain ⟨sXR_0, sXR_1, sXR_2⟩ := SXR.cells3
    clear SXR
    go_wp2_with fail
    refine bodyPost_ret (v := .tuple #[.agg #[.int .i16 0, .int .i16 0, .int .i16 0], .int .i64 2]) (by simp [results, Try.results23, go_sem, sXR_0, sXR_1, sXR_2]) rfl ⟨by rw [HC.out]; simp [jn], by go_grown⟩
  have ha1 : asC [a0, a1, a2, a3, a4, a5, a6, a7] (inB c 1 100 && inB r (-100) 100) = 0 := by simp [asC, h1, g1, g2]
  have ha2 : asC [a0, a1, a2, a3, a4, a5, a6, a7] true = 0 := by simp [asC, h1]
  have HA := Lib.hid ha2
  obtain ⟨S, hS_⟩ : ∃ S, (hS a0 a1 a2 a3 a4 a5 a6 a7) = S := ⟨_, rfl⟩
  have hSr := hS_rng h1
  rw [hS_] at hSr ⊢
  have hcr : 1 ≤ c ∧ c ≤ 100 := by simpa [inB] using g1
  have hrr : -100 ≤ r ∧ r ≤ 100 := by simpa [inB] using g2
  have p0 := mul_rng hSr (show -100 ≤ c ∧ c ≤ 100 by omega)
  have p1 : 0 ≤ S * c ∧ S * c ≤ 800000 := ⟨Int.mul_nonneg hSr.1 (by omega), by omega⟩
  have p2 := mul_rng p1 hrr
  clear p0
  have HS := Lib.hid hS_; clear hS_
  have H1 := Lib.hid h1; clear h1
  cases hy : yarnOk (S * c) (S * c * r) S
  rotate_left
  · have hc : spC [a0, a1, a2, a3, a4, a5, a6, a7] S c r = 0 := by simp [spC, ha1, hy]
    have HC := Lib.hid hc; clear hc ha1 ha2
    have HY := Lib.hid hy; clear hy
    go_enter Try.func23, Try.ntmps23
    go_wp2_with (go_at_call 34; (refine (l00In_any _ _ _ _).mono ?_); rintro e w' ⟨rfl, rfl⟩; first | rw [g1] | rw [g2])
    refine (l01Asked_any _ _ [a0, a1, a2, a3, a4, a5, a6, a7] _ _ X0.out rfl ha).mono ?_
    rintro e w_ ⟨rfl, rfl⟩
    rw [HA.out]
    go_wp2_with fail
    refine (l01Grams_any _ _ a0 a1 a2 a3 a4 a5 a6 a7 _ X0.out ha).mono ?_
    rintro e w_ ⟨rfl, rfl⟩
    rw [HS.out]
    go_wp2_with fail
    refine (l03Make_t _ _ _ _ HY.out).mono ?_
    rintro e w1 ⟨rfl, hb⟩
    replace HB := Lib.hid (below_then HB.out HB.out.size hb)
    replace XR := Lib.hid (XR.out.below hb)
    have hz1 := hb.size
    (try simp only [World.size_alloc] at hz1)
    clear hb
    have Y : Hid (Row (w1.alloc (.cells #[.int .i16 (S * c), .int .i16 (S * c * r), .int .i16 S] 35)) w1.heap.size 35 [.int .i16 (S * c), .int .i16 (S * c * r), .int .i16 S]) := Lib.hid (Row.alloc w1 [.int .i16 (S * c), .int .i16 (S * c * r), .int .i16 S] 35)
    replace HB := Lib.hid (HB.out.alloc HB.out.size (.cells #[.int .i16 (S * c), .int .i16 (S * c * r), .int .i16 S] 35))
    replace XR := Lib.hid (XR.out.below (below_alloc1 _ (.cells #[.int .i16 (S * c), .int .i16 (S * c * r), .int .i16 S] 35)))
    obtain ⟨cY_0, cY_1, cY_2⟩ := Y.out.cells3
    have hB := HB.out
    obtain ⟨cXR_0, cXR_1, cXR_2⟩ := XR.out.cells3
    obtain ⟨fXR_0, fXR_1, fXR_2⟩ := XR.out.frozens3
    have SXR := (((XR.out.set 0 (.int .i16 (S * c))).set 1 (.int .i16 (S * c * r))).set 2 (.int .i16 S))
    simp only [List.set_cons_zero, List.set_cons_succ] at SXR
    obtain ⟨sXR_0, sXR_1, sXR_2⟩ := SXR.cells3
    clear SXR
    go_wp2_with fail
    refine bodyPost_ret (v := .tuple #[.agg #[.int .i16 (S * c), .int .i16 (S * c * r), .int .i16 S], .int .i64 0]) (by simp [results, Try.results23, go_sem, sXR_0, sXR_1, sXR_2]) rfl ⟨by rw [HC.out]; simp [jn], by go_grown⟩
  · have hc : spC [a0, a1, a2, a3, a4, a5, a6, a7] S c r = 3 := by simp [spC, ha1, hy]
    have HC := Lib.hid hc; clear hc ha1 ha2
    have HY := Lib.hid hy; clear hy
    go_enter Try.func23, Try.ntmps23
    go_wp2_with (go_at_call 34; (refine (l00In_any _ _ _ _).mono ?_); rintro e w' ⟨rfl, rfl⟩; first | rw [g1] | rw [g2])
    refine (l01Asked_any _ _ [a0, a1, a2, a3, a4, a5, a6, a7] _ _ X0.out rfl ha).mono ?_
    rintro e w_ ⟨rfl, rfl⟩
    rw [HA.out]
    go_wp2_with fail
    refine (l01Grams_any _ _ a0 a1 a2 a3 a4 a5 a6 a7 _ X0.out ha).mono ?_
    rintro e w_ ⟨rfl, rfl⟩
    rw [HS.out]
    go_wp2_with fail
    refine (l03Make_f _ _ _ _ HY.out).mono ?_
    rintro e w1 ⟨rfl, hb⟩
    replace HB := Lib.hid (below_then HB.out HB.out.size hb)
    replace XR := Lib.hid (XR.out.below hb)
    have hz1 := hb.size
    (try simp only [World.size_alloc] at hz1)
    clear hb
    have Y : Hid (Row (w1.alloc (.cells #[.int .i16 0, .int .i16 0, .int .i16 0] 35)) w1.heap.size 35 [.int .i16 0, .int .i16 0, .int .i16 0]) := Lib.hid (Row.alloc w1 [.int .i16 0, .int .i16 0, .int .i16 0] 35)
    replace HB := Lib.hid (HB.out.alloc HB.out.size (.cells #[.int .i16 0, .int .i16 0, .int .i16 0] 35))
    replace XR := Lib.hid (XR.out.below (below_alloc1 _ (.cells #[.int .i16 0, .int .i16 0, .int .i16 0] 35)))
    have hB := HB.out
    obtain ⟨cXR_0, cXR_1, cXR_2⟩ := XR.out.cells3
    obtain ⟨fXR_0, fXR_1, fXR_2⟩ := XR.out.frozens3
    have SXR := (((XR.out.set 0 (.int .i16 0)).set 1 (.int .i16 0)).set 2 (.int .i16 0))
    simp only [List.set_cons_zero, List.set_cons_succ] at SXR
    obtain ⟨sXR_0, sXR_1, sXR_2⟩ := SXR.cells3
    clear SXR
    go_wp2_with fail
    refine bodyPost_ret (v := .tuple #[.agg #[.int .i16 0, .int .i16 0, .int .i16 0], .int .i64 3]) (by simp [results, Try.results23, go_sem, sXR_0, sXR_1, sXR_2]) rfl ⟨by rw [HC.out]; simp [jn], by go_grown⟩
end Go.Proofs.Ythllecfbpipagaa
