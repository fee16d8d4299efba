/- Contracts: impl.SortOut. -/
import Derived.Test.YtbkhlcbnnjgdpaaGreatDoorH7
import Derived.Test.YtbkhlcbnnjgdpaaGreatDoorBh
import Derived.RegionTactic
import Derived.BigRegion
namespace Go.Proofs.YtbkhlcbnnjgdpaaGreatDoor
open Go.RowKit
set_option linter.unusedVariables false
set_option linter.unusedSimpArgs false
set_option maxRecDepth 100000 in
set_option maxHeartbeats 2000000 in
theorem iSortOut (a0 a1 a2 a3 a4 a5 a6 a7 lo hi : Int) (w : World) (ha : Hid (∀ x ∈ [a0, a1, a2, a3, a4, a5, a6, a7], (Lit.int .i32 x).wf = true)) (hl0 : -9223372036854775808 ≤ lo ∧ lo ≤ 9223372036854775807) (hh0 : -9223372036854775808 ≤ hi ∧ hi ≤ 9223372036854775807) :
    Calls Tryz.prog 10 #[.agg #[.int .i32 a0, .int .i32 a1, .int .i32 a2, .int .i32 a3, .int .i32 a4, .int .i32 a5, .int .i32 a6, .int .i32 a7], .int .i64 lo, .int .i64 hi] w fun e w' => e = .returned (.tuple #[.agg #[.int .i32 (jn (soC [a0, a1, a2, a3, a4, a5, a6, a7] lo hi) (soI 0 lo hi a0)), .int .i32 (jn (soC [a0, a1, a2, a3, a4, a5, a6, a7] lo hi) (soI 1 lo hi a1)), .int .i32 (jn (soC [a0, a1, a2, a3, a4, a5, a6, a7] lo hi) (soI 2 lo hi a2)), .int .i32 (jn (soC [a0, a1, a2, a3, a4, a5, a6, a7] lo hi) (soI 3 lo hi a3)), .int .i32 (jn (soC [a0, a1, a2, a3, a4, a5, a6, a7] lo hi) (soI 4 lo hi a4)), .int .i32 (jn (soC [a0, a1, a2, a3, a4, a5, a6, a7] lo hi) (soI 5 lo hi a5)), .int .i32 (jn (soC [a0, a1, a2, a3, a4, a5, a6, a7] lo hi) (soI 6 lo hi a6)), .int .i32 (jn (soC [a0, a1, a2, a3, a4, a5, a6, a7] lo hi) (soI 7 lo hi a7))], .agg #[.int .i32 (jn (soC [a0, a1, a2, a3, a4, a5, a6, a7] lo hi) (soO 0 lo hi a0)), .int .i32 (jn (soC [a0, a1, a2, a3, a4, a5, a6, a7] lo hi) (soO 1 lo hi a1)), .int .i32 (jn (soC [a0, a1, a2, a3, a4, a5, a6, a7] lo hi) (soO 2 lo hi a2)), .int .i32 (jn (soC [a0, a1, a2, a3, a4, a5, a6, a7] lo hi) (soO 3 lo hi a3)), .int .i32 (jn (soC [a0, a1, a2, a3, a4, a5, a6, a7] lo hi) (soO 4 lo hi a4)), .int .i32 (jn (soC [a0, a1, a2, a3, a4, a5, a6, a7] lo hi) (soO 5 lo hi a5)), .int .i32 (jn (soC [a0, a1, a2, a3, a4, a5, a6, a7] lo hi) (soO 6 lo hi a6)), .int .i32 (jn (soC [a0, a1, a2, a3, a4, a5, a6, a7] lo hi) (soO 7 lo hi a7))], .int .i64 (soC [a0, a1, a2, a3, a4, a5, a6, a7] lo hi)]) ∧ Below w.heap.size w w' := by
  have X0 : Hid (Row (((w.alloc (.cells #[.int .i32 a0, .int .i32 a1, .int .i32 a2, .int .i32 a3, .int .i32 a4, .int .i32 a5, .int .i32 a6, .int .i32 a7] 25)).alloc (.cells #[.int .i32 0, .int .i32 0, .int .i32 0, .int .i32 0, .int .i32 0, .int .i32 0, .int .i32 0, .int .i32 0] 25)).alloc (.cells #[.int .i32 0, .int .i32 0, .int .i32 0, .int .i32 0, .int .i32 0, .int .i32 0, .int .i32 0, .int .i32 0] 25)) (w.heap.size) 25 [.int .i32 a0, .int .i32 a1, .int .i32 a2, .int .i32 a3, .int .i32 a4, .int .i32 a5, .int .i32 a6, .int .i32 a7]) := Lib.hid (by have := (((Row.alloc w [.int .i32 a0, .int .i32 a1, .int .i32 a2, .int .i32 a3, .int .i32 a4, .int .i32 a5, .int .i32 a6, .int .i32 a7] 25).below (below_alloc1 _ (.cells #[.int .i32 0, .int .i32 0, .int .i32 0, .int .i32 0, .int .i32 0, .int .i32 0, .int .i32 0, .int .i32 0] 25))).below (below_alloc1 _ (.cells #[.int .i32 0, .int .i32 0, .int .i32 0, .int .i32 0, .int .i32 0, .int .i32 0, .int .i32 0, .int .i32 0] 25))); (try simp only [World.size_alloc] at this); exact this)
  have R1 : Hid (Row (((w.alloc (.cells #[.int .i32 a0, .int .i32 a1, .int .i32 a2, .int .i32 a3, .int .i32 a4, .int .i32 a5, .int .i32 a6, .int .i32 a7] 25)).alloc (.cells #[.int .i32 0, .int .i32 0, .int .i32 0, .int .i32 0, .int .i32 0, .int .i32 0, .int .i32 0, .int .i32 0] 25)).alloc (.cells #[.int .i32 0, .int .i32 0, .int .i32 0, .int .i32 0, .int .i32 0, .int .i32 0, .int .i32 0, .int .i32 0] 25)) (w.heap.size + 1) 25 [.int .i32 0, .int .i32 0, .int .i32 0, .int .i32 0, .int .i32 0, .int .i32 0, .int .i32 0, .int .i32 0]) := Lib.hid (by have := ((Row.alloc (w.alloc (.cells #[.int .i32 a0, .int .i32 a1, .int .i32 a2, .int .i32 a3, .int .i32 a4, .int .i32 a5, .int .i32 a6, .int .i32 a7] 25)) [.int .i32 0, .int .i32 0, .int .i32 0, .int .i32 0, .int .i32 0, .int .i32 0, .int .i32 0, .int .i32 0] 25).below (below_alloc1 _ (.cells #[.int .i32 0, .int .i32 0, .int .i32 0, .int .i32 0, .int .i32 0, .int .i32 0, .int .i32 0, .int .i32 0] 25))); (try simp only [World.size_alloc] at this); exact this)
  have R2 : Hid (Row (((w.alloc (.cells #[.int .i32 a0, .int .i32 a1, .int .i32 a2, .int .i32 a3, .int .i32 a4, .int .i32 a5, .int .i32 a6, .int .i32 a7] 25)).alloc (.cells #[.int .i32 0, .int .i32 0, .int .i32 0, .int .i32 0, .int .i32 0, .int .i32 0, .int .i32 0, .int .i32 0] 25)).alloc (.cells #[.int .i32 0, .int .i32 0, .int .i32 0, .int .i32 0, .int .i32 0, .int .i32 0, .int .i32 0, .int .i32 0] 25)) (w.heap.size + 2) 25 [.int .i32 0, .int .i32 0, .int .i32 0, .int .i32 0, .int .i32 0, .int .i32 0, .int .i32 0, .int .i32 0]) := Lib.hid (by have := (Row.alloc ((w.alloc (.cells #[.int .i32 a0, .int .i32 a1, .int .i32 a2, .int .i32 a3, .int .i32 a4, .int .i32 a5, .int .i32 a6, .int .i32 a7] 25)).alloc (.cells #[.int .i32 0, .int .i32 0, .int .i32 0, .int .i32 0, .int .i32 0, .int .i32 0, .int .i32 0, .int .i32 0] 25)) [.int .i32 0, .int .i32 0, .int .i32 0, .int .i32 0, .int .i32 0, .int .i32 0, .int .i32 0, .int .i32 0] 25); (try simp only [World.size_alloc] at this); exact this)
  have HB : Hid (Below w.heap.size w (((w.alloc (.cells #[.int .i32 a0, .int .i32 a1, .int .i32 a2, .int .i32 a3, .int .i32 a4, .int .i32 a5, .int .i32 a6, .int .i32 a7] 25)).alloc (.cells #[.int .i32 0, .int .i32 0, .int .i32 0, .int .i32 0, .int .i32 0, .int .i32 0, .int .i32 0, .int .i32 0] 25)).alloc (.cells #[.int .i32 0, .int .i32 0, .int .i32 0, .int .i32 0, .int .i32 0, .int .i32 0, .int .i32 0, .int .i32 0] 25))) := Lib.hid (by go_grown)
  cases h1 : heapOk [a0, a1, a2, a3, a4, a5, a6, a7]
  · have hc : soC [a0, a1, a2, a3, a4, a5, a6, a7] lo hi = 1 := by simp [soC, asC, h1]
    have HC := Lib.hid hc; have H1 := Lib.hid h1; clear hc
    clear h1
    go_enter Tryz.func10, Tryz.ntmps10
    obtain ⟨cX0_0, cX0_1, cX0_2, cX0_3, cX0_4, cX0_5, cX0_6, cX0_7⟩ := X0.out.cells8
    go_wp2_with fail
    refine (iValidHeap a0 a1 a2 a3 a4 a5 a6 a7 _ ha).mono ?_
    rintro e w1 ⟨rfl, hb⟩
    rw [H1.out]
    clear cX0_0 cX0_1 cX0_2 cX0_3 cX0_4 cX0_5 cX0_6 cX0_7
    replace HB := Lib.hid (below_then HB.out HB.out.size hb)
    replace X0 := Lib.hid (X0.out.below hb)
    replace R1 := Lib.hid (R1.out.below hb)
    replace R2 := Lib.hid (R2.out.below hb)
    have hz1 := hb.size
    (try simp only [World.size_alloc] at hz1)
    clear hb
    have hB := HB.out
    obtain ⟨cR1_0, cR1_1, cR1_2, cR1_3, cR1_4, cR1_5, cR1_6, cR1_7⟩ := R1.out.cells8
    obtain ⟨fR1_0, fR1_1, fR1_2, fR1_3, fR1_4, fR1_5, fR1_6, fR1_7⟩ := R1.out.frozens8
    obtain ⟨cR2_0, cR2_1, cR2_2, cR2_3, cR2_4, cR2_5, cR2_6, cR2_7⟩ := R2.out.cells8
    obtain ⟨fR2_0, fR2_1, fR2_2, fR2_3, fR2_4, fR2_5, fR2_6, fR2_7⟩ := R2.out.frozens8
    go_wp2_with fail
    have SR1 := ((((((((((((((((R1.out.set 0 (.int .i32 0)).set 1 (.int .i32 0)).set 2 (.int .i32 0)).set 3 (.int .i32 0)).set 4 (.int .i32 0)).set 5 (.int .i32 0)).set 6 (.int .i32 0)).set 7 (.int .i32 0)).apart (C := w.heap.size + 2) (by omega) 0 (.int .i32 0)).apart (C := w.heap.size + 2) (by omega) 1 (.int .i32 0)).apart (C := w.heap.size + 2) (by omega) 2 (.int .i32 0)).apart (C := w.heap.size + 2) (by omega) 3 (.int .i32 0)).apart (C := w.heap.size + 2) (by omega) 4 (.int .i32 0)).apart (C := w.heap.size + 2) (by omega) 5 (.int .i32 0)).apart (C := w.heap.size + 2) (by omega) 6 (.int .i32 0)).apart (C := w.heap.size + 2) (by omega) 7 (.int .i32 0))
    simp only [List.set_cons_zero, List.set_cons_succ] at SR1
    obtain ⟨sR1_0, sR1_1, sR1_2, sR1_3, sR1_4, sR1_5, sR1_6, sR1_7⟩ := SR1.cells8
    clear SR1
    have SR2 := ((((((((((((((((R2.out.apart (C := w.heap.size + 1) (by omega) 0 (.int .i32 0)).apart (C := w.heap.size + 1) (by omega) 1 (.int .i32 0)).apart (C := w.heap.size + 1) (by omega) 2 (.int .i32 0)).apart (C := w.heap.size + 1) (by omega) 3 (.int .i32 0)).apart (C := w.heap.size + 1) (by omega) 4 (.int .i32 0)).apart (C := w.heap.size + 1) (by omega) 5 (.int .i32 0)).apart (C := w.heap.size + 1) (by omega) 6 (.int .i32 0)).apart (C := w.heap.size + 1) (by omega) 7 (.int .i32 0)).set 0 (.int .i32 0)).set 1 (.int .i32 0)).set 2 (.int .i32 0)).set 3 (.int .i32 0)).set 4 (.int .i32 0)).set 5 (.int .i32 0)).set 6 (.int .i32 0)).set 7 (.int .i32 0))
    simp only [List.set_cons_zero, List.set_cons_succ] at SR2
    obtain ⟨sR2_0, sR2_1, sR2_2, sR2_3, sR2_4, sR2_5, sR2_6, sR2_7⟩ := SR2.cells8
    clear SR2
    refine bodyPost_ret (v := .tuple #[.agg #[.int .i32 0, .int .i32 0, .int .i32 0, .int .i32 0, .int .i32 0, .int .i32 0, .int .i32 0, .int .i32 0], .agg #[.int .i32 0, .int .i32 0, .int .i32 0, .int .i32 0, .int .i32 0, .int .i32 0, .int .i32 0, .int .i32 0], .int .i64 1]) (by simp [results, Tryz.results10, go_sem, sR1_0, sR1_1, sR1_2, sR1_3, sR1_4, sR1_5, sR1_6, sR1_7, sR2_0, sR2_1, sR2_2, sR2_3, sR2_4, sR2_5, sR2_6, sR2_7]) rfl ⟨by rw [HC.out]; simp [jn], by go_grown⟩
  cases g1 : inB lo 0 7
  · have hc : soC [a0, a1, a2, a3, a4, a5, a6, a7] lo hi = 2 := by
      simp [soC, asC, h1, g1]
    have HC := Lib.hid hc; have H1 := Lib.hid h1; clear hc h1
    go_enter Tryz.func10, Tryz.ntmps10
    obtain ⟨cX0_0, cX0_1, cX0_2, cX0_3, cX0_4, cX0_5, cX0_6, cX0_7⟩ := X0.out.cells8
    go_wp2_with fail
    refine (iValidHeap a0 a1 a2 a3 a4 a5 a6 a7 _ ha).mono ?_
    rintro e w1 ⟨rfl, hb⟩
    rw [H1.out]
    clear cX0_0 cX0_1 cX0_2 cX0_3 cX0_4 cX0_5 cX0_6 cX0_7
    replace HB := Lib.hid (below_then HB.out HB.out.size hb)
    replace X0 := Lib.hid (X0.out.below hb)
    replace R1 := Lib.hid (R1.out.below hb)
    replace R2 := Lib.hid (R2.out.below hb)
    have hz1 := hb.size
    (try simp only [World.size_alloc] at hz1)
    clear hb
    have hB := HB.out
    obtain ⟨cR1_0, cR1_1, cR1_2, cR1_3, cR1_4, cR1_5, cR1_6, cR1_7⟩ := R1.out.cells8
    obtain ⟨fR1_0, fR1_1, fR1_2, fR1_3, fR1_4, fR1_5, fR1_6, fR1_7⟩ := R1.out.frozens8
    obtain ⟨cR2_0, cR2_1, cR2_2, cR2_3, cR2_4, cR2_5, cR2_6, cR2_7⟩ := R2.out.cells8
    obtain ⟨fR2_0, fR2_1, fR2_2, fR2_3, fR2_4, fR2_5, fR2_6, fR2_7⟩ := R2.out.frozens8
    go_wp2_with (go_at_call 40; (refine (within_any _ _ _ _).mono ?_); rintro e w' ⟨rfl, rfl⟩; first | rw [g1])
    have SR1 := ((((((((((((((((R1.out.set 0 (.int .i32 0)).set 1 (.int .i32 0)).set 2 (.int .i32 0)).set 3 (.int .i32 0)).set 4 (.int .i32 0)).set 5 (.int .i32 0)).set 6 (.int .i32 0)).set 7 (.int .i32 0)).apart (C := w.heap.size + 2) (by omega) 0 (.int .i32 0)).apart (C := w.heap.size + 2) (by omega) 1 (.int .i32 0)).apart (C := w.heap.size + 2) (by omega) 2 (.int .i32 0)).apart (C := w.heap.size + 2) (by omega) 3 (.int .i32 0)).apart (C := w.heap.size + 2) (by omega) 4 (.int .i32 0)).apart (C := w.heap.size + 2) (by omega) 5 (.int .i32 0)).apart (C := w.heap.size + 2) (by omega) 6 (.int .i32 0)).apart (C := w.heap.size + 2) (by omega) 7 (.int .i32 0))
    simp only [List.set_cons_zero, List.set_cons_succ] at SR1
    obtain ⟨sR1_0, sR1_1, sR1_2, sR1_3, sR1_4, sR1_5, sR1_6, sR1_7⟩ := SR1.cells8
    clear SR1
    have SR2 := ((((((((((((((((R2.out.apart (C := w.heap.size + 1) (by omega) 0 (.int .i32 0)).apart (C := w.heap.size + 1) (by omega) 1 (.int .i32 0)).apart (C := w.heap.size + 1) (by omega) 2 (.int .i32 0)).apart (C := w.heap.size + 1) (by omega) 3 (.int .i32 0)).apart (C := w.heap.size + 1) (by omega) 4 (.int .i32 0)).apart (C := w.heap.size + 1) (by omega) 5 (.int .i32 0)).apart (C := w.heap.size + 1) (by omega) 6 (.int .i32 0)).apart (C := w.heap.size + 1) (by omega) 7 (.int .i32 0)).set 0 (.int .i32 0)).set 1 (.int .i32 0)).set 2 (.int .i32 0)).set 3 (.int .i32 0)).set 4 (.int .i32 0)).set 5 (.int .i32 0)).set 6 (.int .i32 0)).set 7 (.int .i32 0))
    simp only [List.set_cons_zero, List.set_cons_succ] at SR2
    obtain ⟨sR2_0, sR2_1, sR2_2, sR2_3, sR2_4, sR2_5, sR2_6, sR2_7⟩ := SR2.cells8
    clear SR2
    refine bodyPost_ret (v := .tuple #[.agg #[.int .i32 0, .int .i32 0, .int .i32 0, .int .i32 0, .int .i32 0, .int .i32 0, .int .i32 0, .int .i32 0], .agg #[.int .i32 0, .int .i32 0, .int .i32 0, .int .i32 0, .int .i32 0, .int .i32 0, .int .i32 0, .int .i32 0], .int .i64 2]) (by simp [results, Tryz.results10, go_sem, sR1_0, sR1_1, sR1_2, sR1_3, sR1_4, sR1_5, sR1_6, sR1_7, sR2_0, sR2_1, sR2_2, sR2_3, sR2_4, sR2_5, sR2_6, sR2_7]) rfl ⟨by rw [HC.out]; simp [jn], by go_grown⟩
  cases g2 : inB hi lo 7
  · have hc : soC [a0, a1, a2, a3, a4, a5, a6, a7] lo hi = 2 := by
      simp [soC, asC, h1, g1, g2]
    have HC := Lib.hid hc; have H1 := Lib.hid h1; clear hc h1
    go_enter Tryz.func10, Tryz.ntmps10
    obtain ⟨cX0_0, cX0_1, cX0_2, cX0_3, cX0_4, cX0_5, cX0_6, cX0_7⟩ := X0.out.cells8
    go_wp2_with fail
    refine (iValidHeap a0 a1 a2 a3 a4 a5 a6 a7 _ ha).mono ?_
    rintro e w1 ⟨rfl, hb⟩
    rw [H1.out]
    clear cX0_0 cX0_1 cX0_2 cX0_3 cX0_4 cX0_5 cX0_6 cX0_7
    replace HB := Lib.hid (below_then HB.out HB.out.size hb)
    replace X0 := Lib.hid (X0.out.below hb)
    replace R1 := Lib.hid (R1.out.below hb)
    replace R2 := Lib.hid (R2.out.below hb)
    have hz1 := hb.size
    (try simp only [World.size_alloc] at hz1)
    clear hb
    have hB := HB.out
    obtain ⟨cR1_0, cR1_1, cR1_2, cR1_3, cR1_4, cR1_5, cR1_6, cR1_7⟩ := R1.out.cells8
    obtain ⟨fR1_0, fR1_1, fR1_2, fR1_3, fR1_4, fR1_5, fR1_6, fR1_7⟩ := R1.out.frozens8
    obtain ⟨cR2_0, cR2_1, cR2_2, cR2_3, cR2_4, cR2_5, cR2_6, cR2_7⟩ := R2.out.cells8
    obtain ⟨fR2_0, fR2_1, fR2_2, fR2_3, fR2_4, fR2_5, fR2_6, fR2_7⟩ := R2.out.frozens8
    go_wp2_with (go_at_call 40; (refine (within_any _ _ _ _).mono ?_); rintro e w' ⟨rfl, rfl⟩; first | rw [g1] | rw [g2])
    have SR1 := ((((((((((((((((R1.out.set 0 (.int .i32 0)).set 1 (.int .i32 0)).set 2 (.int .i32 0)).set 3 (.int .i32 0)).set 4 (.int .i32 0)).set 5 (.int .i32 0)).set 6 (.int .i32 0)).set 7 (.int .i32 0)).apart (C := w.heap.size + 2) (by omega) 0 (.int .i32 0)).apart (C := w.heap.size + 2) (by omega) 1 (.int .i32 0)).apart (C := w.heap.size + 2) (by omega) 2 (.int .i32 0)).apart (C := w.heap.size + 2) (by omega) 3 (.int .i32 0)).apart (C := w.heap.size + 2) (by omega) 4 (.int .i32 0)).apart (C := w.heap.size + 2) (by omega) 5 (.int .i32 0)).apart (C := w.heap.size + 2) (by omega) 6 (.int .i32 0)).apart (C := w.heap.size + 2) (by omega) 7 (.int .i32 0))
    simp only [List.set_cons_zero, List.set_cons_succ] at SR1
    obtain ⟨sR1_0, sR1_1, sR1_2, sR1_3, sR1_4, sR1_5, sR1_6, sR1_7⟩ := SR1.cells8
    clear SR1
    have SR2 := ((((((((((((((((R2.out.apart (C := w.heap.size + 1) (by omega) 0 (.int .i32 0)).apart (C := w.heap.size + 1) (by omega) 1 (.int .i32 0)).apart (C := w.heap.size + 1) (by omega) 2 (.int .i32 0)).apart (C := w.heap.size + 1) (by omega) 3 (.int .i32 0)).apart (C := w.heap.size + 1) (by omega) 4 (.int .i32 0)).apart (C := w.heap.size + 1) (by omega) 5 (.int .i32 0)).apart (C := w.heap.size + 1) (by omega) 6 (.int .i32 0)).apart (C := w.heap.size + 1) (by omega) 7 (.int .i32 0)).set 0 (.int .i32 0)).set 1 (.int .i32 0)).set 2 (.int .i32 0)).set 3 (.int .i32 0)).set 4 (.int .i32 0)).set 5 (.int .i32 0)).set 6 (.int .i32 0)).set 7 (.int .i32 0))
    simp only [List.set_cons_zero, List.set_cons_succ] at SR2
    obtain ⟨sR2_0, sR2_1, sR2_2, sR2_3, sR2_4, sR2_5, sR2_6, sR2_7⟩ := SR2.cells8
    clear SR2
    refine bodyPost_ret (v := .tuple #[.agg #[.int .i32 0, .int .i32 0, .int .i32 0, .int .i32 0, .int .i32 0, .int .i32 0, .int .i32 0, .int .i32 0], .agg #[.int .i32 0, .int .i32 0, .int .i32 0, .int .i32 0, .int .i32 0, .int .i32 0, .int .i32 0, .int .i32 0], .int .i64 2]) (by simp [results, Tryz.results10, go_sem, sR1_0, sR1_1, sR1_2, sR1_3, sR1_4, sR1_5, sR1_6, sR1_7, sR2_0, sR2_1, sR2_2, sR2_3, sR2_4, sR2_5, sR2_6, sR2_7]) rfl ⟨by rw [HC.out]; simp [jn], by go_grown⟩
  have hc : soC [a0, a1, a2, a3, a4, a5, a6, a7] lo hi = 0 := by
    simp [soC, asC, h1, g1, g2]
  have HC := Lib.hid hc; have H1 := Lib.hid h1; clear hc h1
  have IX := Lib.hid (idxA a0 a1 a2 a3 a4 a5 a6 a7)
  go_enter Tryz.func10, Tryz.ntmps10
  obtain ⟨cX0_0, cX0_1, cX0_2, cX0_3, cX0_4, cX0_5, cX0_6, cX0_7⟩ := X0.out.cells8
  go_wp2_with fail
  refine (iValidHeap a0 a1 a2 a3 a4 a5 a6 a7 _ ha).mono ?_
  rintro e w1 ⟨rfl, hb⟩
  rw [H1.out]
  clear cX0_0 cX0_1 cX0_2 cX0_3 cX0_4 cX0_5 cX0_6 cX0_7
  replace HB := Lib.hid (below_then HB.out HB.out.size hb)
  replace X0 := Lib.hid (X0.out.below hb)
  replace R1 := Lib.hid (R1.out.below hb)
  replace R2 := Lib.hid (R2.out.below hb)
  have hz1 := hb.size
  (try simp only [World.size_alloc] at hz1)
  clear hb
  obtain ⟨cX0_0, cX0_1, cX0_2, cX0_3, cX0_4, cX0_5, cX0_6, cX0_7⟩ := X0.out.cells8
  go_upto_region 6 with (go_at_call 40; (refine (within_any _ _ _ _).mono ?_); rintro e w' ⟨rfl, rfl⟩; first | rw [g1] | rw [g2])
  clear cX0_0 cX0_1 cX0_2 cX0_3 cX0_4 cX0_5 cX0_6 cX0_7
  have YI : Hid (Row ((w1.alloc (.cells #[.int .i32 0, .int .i32 0, .int .i32 0, .int .i32 0, .int .i32 0, .int .i32 0, .int .i32 0, .int .i32 0] 25)).alloc (.cells #[.int .i32 0, .int .i32 0, .int .i32 0, .int .i32 0, .int .i32 0, .int .i32 0, .int .i32 0, .int .i32 0] 25)) (w1.heap.size) 25 [.int .i32 0, .int .i32 0, .int .i32 0, .int .i32 0, .int .i32 0, .int .i32 0, .int .i32 0, .int .i32 0]) := Lib.hid ((Row.alloc w1 [.int .i32 0, .int .i32 0, .int .i32 0, .int .i32 0, .int .i32 0, .int .i32 0, .int .i32 0, .int .i32 0] 25).below (below_alloc1 _ (.cells #[.int .i32 0, .int .i32 0, .int .i32 0, .int .i32 0, .int .i32 0, .int .i32 0, .int .i32 0, .int .i32 0] 25)))
  have YO : Hid (Row ((w1.alloc (.cells #[.int .i32 0, .int .i32 0, .int .i32 0, .int .i32 0, .int .i32 0, .int .i32 0, .int .i32 0, .int .i32 0] 25)).alloc (.cells #[.int .i32 0, .int .i32 0, .int .i32 0, .int .i32 0, .int .i32 0, .int .i32 0, .int .i32 0, .int .i32 0] 25)) (w1.heap.size + 1) 25 [.int .i32 0, .int .i32 0, .int .i32 0, .int .i32 0, .int .i32 0, .int .i32 0, .int .i32 0, .int .i32 0]) := Lib.hid (by have := Row.alloc (w1.alloc (.cells #[.int .i32 0, .int .i32 0, .int .i32 0, .int .i32 0, .int .i32 0, .int .i32 0, .int .i32 0, .int .i32 0] 25)) [.int .i32 0, .int .i32 0, .int .i32 0, .int .i32 0, .int .i32 0, .int .i32 0, .int .i32 0, .int .i32 0] 25; rw [World.size_alloc] at this; exact this)
  replace X0 := Lib.hid ((X0.out.below (below_alloc1 _ (.cells #[.int .i32 0, .int .i32 0, .int .i32 0, .int .i32 0, .int .i32 0, .int .i32 0, .int .i32 0, .int .i32 0] 25))).below (below_alloc1 _ (.cells #[.int .i32 0, .int .i32 0, .int .i32 0, .int .i32 0, .int .i32 0, .int .i32 0, .int .i32 0, .int .i32 0] 25)))
  replace R1 := Lib.hid ((R1.out.below (below_alloc1 _ (.cells #[.int .i32 0, .int .i32 0, .int .i32 0, .int .i32 0, .int .i32 0, .int .i32 0, .int .i32 0, .int .i32 0] 25))).below (below_alloc1 _ (.cells #[.int .i32 0, .int .i32 0, .int .i32 0, .int .i32 0, .int .i32 0, .int .i32 0, .int .i32 0, .int .i32 0] 25)))
  replace R2 := Lib.hid ((R2.out.below (below_alloc1 _ (.cells #[.int .i32 0, .int .i32 0, .int .i32 0, .int .i32 0, .int .i32 0, .int .i32 0, .int .i32 0, .int .i32 0] 25))).below (below_alloc1 _ (.cells #[.int .i32 0, .int .i32 0, .int .i32 0, .int .i32 0, .int .i32 0, .int .i32 0, .int .i32 0, .int .i32 0] 25)))
  replace HB := Lib.hid ((HB.out.alloc HB.out.size (.cells #[.int .i32 0, .int .i32 0, .int .i32 0, .int .i32 0, .int .i32 0, .int .i32 0, .int .i32 0, .int .i32 0] 25)).alloc (by have := HB.out.size; rw [World.size_alloc]; omega) (.cells #[.int .i32 0, .int .i32 0, .int .i32 0, .int .i32 0, .int .i32 0, .int .i32 0, .int .i32 0, .int .i32 0] 25))
  obtain ⟨cX0_0, cX0_1, cX0_2, cX0_3, cX0_4, cX0_5, cX0_6, cX0_7⟩ := X0.out.cells8
  go_wp2_with fail
  clear cX0_0 cX0_1 cX0_2 cX0_3 cX0_4 cX0_5 cX0_6 cX0_7
  obtain ⟨LA, hLA⟩ : ∃ L, L = [a0, a1, a2, a3, a4, a5, a6, a7] := ⟨_, rfl⟩
  obtain ⟨LZ, hLZ⟩ : ∃ L : List Int, L = [0, 0, 0, 0, 0, 0, 0, 0] := ⟨_, rfl⟩
  have hb0 := HB.out
  have hzz : w.heap.size + 3 ≤ w1.heap.size := by omega
  go_loopw [32] (fun v wr => ∃ k : Nat, k ≤ 8 ∧ v = .int .i64 k ∧ Hid (Row wr (w1.heap.size) 25 (nums .i32 (mixP (fun j => decide (j < k) && inB j lo hi) (fun j => LA.getD j 0) LZ))) ∧ Hid (Row wr (w1.heap.size + 1) 25 (nums .i32 (mixP (fun j => decide (j < k) && !inB j lo hi) (fun j => LA.getD j 0) LZ))) ∧ Hid (Row wr (w.heap.size + 1) 25 [.int .i32 0, .int .i32 0, .int .i32 0, .int .i32 0, .int .i32 0, .int .i32 0, .int .i32 0, .int .i32 0]) ∧ Hid (Row wr (w.heap.size + 2) 25 [.int .i32 0, .int .i32 0, .int .i32 0, .int .i32 0, .int .i32 0, .int .i32 0, .int .i32 0, .int .i32 0]) ∧ Below w.heap.size w wr) (fun v _ => 8 - (intOf v).toNat)
  case atStart =>
    refine ⟨0, by omega, rfl, ?_, ?_, R1, R2, hb0⟩
    · rw [mixP_none _ (by rw [hLZ]; rfl) (by intro j _; simp), hLZ]; exact YI
    · rw [mixP_none _ (by rw [hLZ]; rfl) (by intro j _; simp), hLZ]; exact YO
  case round =>
    obtain ⟨k, hk, rfl, ZI, ZO, Q1, Q2, hB⟩ := hrel
    clear YI YO R1 R2 HB hb0
    have R1 := Q1; have R2 := Q2; clear Q1 Q2
    by_cases hlt : k < 8
    · have ix := IX.out k hlt
      rw [← hLA] at ix
      have c0 := ZI.out.cell k
      have c1 := ZO.out.cell k
      have f0 := ZI.out.frozen k
      have f1 := ZO.out.frozen k
      rw [mixP_at _ _ hlt (by simp), hLZ, zeros_at] at c0 c1
      obtain ⟨x, hx⟩ : ∃ x, LA.getD k 0 = x := ⟨_, rfl⟩
      cases hin : inB k lo hi
      · have hI : Hid (mixP (fun j => decide (j < k) && inB j lo hi) (fun j => LA.getD j 0) LZ = mixP (fun j => decide (j < k + 1) && inB j lo hi) (fun j => LA.getD j 0) LZ) := by
          refine Lib.hid (mixP_congr fun j hj => ?_)
          by_cases hjk : j = k
          · subst hjk; simp [hin]
          · simp [show (j < k + 1) = (j < k) from by simp; omega]
        have hO : Hid ((nums .i32 (mixP (fun j => decide (j < k) && !inB j lo hi) (fun j => LA.getD j 0) LZ)).set k (.int .i32 x) = nums .i32 (mixP (fun j => decide (j < k + 1) && !inB j lo hi) (fun j => LA.getD j 0) LZ)) := by
          refine Lib.hid ?_
          rw [← hx]
          refine mixP_set _ _ hlt fun j hj => ?_
          by_cases hjk : j = k
          · subst hjk; simp [hin]
          · simp [hjk, show (j < k + 1) = (j < k) from by simp; omega]
        rw [hx] at ix
        have HL := Lib.hid hLA; have HX := Lib.hid hx; have HZ := Lib.hid hLZ; clear hLA hx hLZ
        go_wp2_with (go_at_call 40; (refine (within_any _ _ _ _).mono ?_); rintro e w' ⟨rfl, rfl⟩; rw [hin])
        go_roundw
        case rel => exact ⟨k + 1, by omega, by go_num, Lib.hid (by rw [← hI.out]; exact ZI.out.apart (by omega) k _), Lib.hid (by rw [← hO.out]; exact ZO.out.set k _), Lib.hid (R1.out.apart (by omega) k _), Lib.hid (R2.out.apart (by omega) k _), by go_grown⟩
        case measure => simp [intOf]; omega
      · have hO : Hid (mixP (fun j => decide (j < k) && !inB j lo hi) (fun j => LA.getD j 0) LZ = mixP (fun j => decide (j < k + 1) && !inB j lo hi) (fun j => LA.getD j 0) LZ) := by
          refine Lib.hid (mixP_congr fun j hj => ?_)
          by_cases hjk : j = k
          · subst hjk; simp [hin]
          · simp [show (j < k + 1) = (j < k) from by simp; omega]
        have hI : Hid ((nums .i32 (mixP (fun j => decide (j < k) && inB j lo hi) (fun j => LA.getD j 0) LZ)).set k (.int .i32 x) = nums .i32 (mixP (fun j => decide (j < k + 1) && inB j lo hi) (fun j => LA.getD j 0) LZ)) := by
          refine Lib.hid ?_
          rw [← hx]
          refine mixP_set _ _ hlt fun j hj => ?_
          by_cases hjk : j = k
          · subst hjk; simp [hin]
          · simp [hjk, show (j < k + 1) = (j < k) from by simp; omega]
        rw [hx] at ix
        have HL := Lib.hid hLA; have HX := Lib.hid hx; have HZ := Lib.hid hLZ; clear hLA hx hLZ
        go_wp2_with (go_at_call 40; (refine (within_any _ _ _ _).mono ?_); rintro e w' ⟨rfl, rfl⟩; rw [hin])
        go_roundw
        case rel => exact ⟨k + 1, by omega, by go_num, Lib.hid (by rw [← hI.out]; exact ZI.out.set k _), Lib.hid (by rw [← hO.out]; exact ZO.out.apart (by omega) k _), Lib.hid (R1.out.apart (by omega) k _), Lib.hid (R2.out.apart (by omega) k _), by go_grown⟩
        case measure => simp [intOf]; omega
    · obtain rfl : k = 8 := by omega
      have X1 : Hid (Row wr (w1.heap.size) 25 [.int .i32 (soI 0 lo hi a0), .int .i32 (soI 1 lo hi a1), .int .i32 (soI 2 lo hi a2), .int .i32 (soI 3 lo hi a3), .int .i32 (soI 4 lo hi a4), .int .i32 (soI 5 lo hi a5), .int .i32 (soI 6 lo hi a6), .int .i32 (soI 7 lo hi a7)]) := Lib.hid (by
        have := ZI.out
        rw [mixP_congr (Q := fun j => inB j lo hi) (g := fun j => LA.getD j 0) (M := LZ) (fun j hj => by simp [hj]), hLA, hLZ] at this
        exact this)
      have X2 : Hid (Row wr (w1.heap.size + 1) 25 [.int .i32 (soO 0 lo hi a0), .int .i32 (soO 1 lo hi a1), .int .i32 (soO 2 lo hi a2), .int .i32 (soO 3 lo hi a3), .int .i32 (soO 4 lo hi a4), .int .i32 (soO 5 lo hi a5), .int .i32 (soO 6 lo hi a6), .int .i32 (soO 7 lo hi a7)]) := Lib.hid (by
        have := ZO.out
        rw [mixP_congr (Q := fun j => inB j lo hi) (g := fun _ => 0) (M := LA) (fun j hj => by rw [hLZ, zeros_at]; cases inB j lo hi <;> simp [hj]), hLA] at this
        exact this)
      clear ZI ZO hLA hLZ
      have HB := Lib.hid hB
      have hB := HB.out
      go_wp2_with fail
      have gH := heap_size
      refine wp_region_held_drew (S := fun w' => Row w' (w1.heap.size) 25 [.int .i32 (soI 0 lo hi a0), .int .i32 (soI 1 lo hi a1), .int .i32 (soI 2 lo hi a2), .int .i32 (soI 3 lo hi a3), .int .i32 (soI 4 lo hi a4), .int .i32 (soI 5 lo hi a5), .int .i32 (soI 6 lo hi a6), .int .i32 (soI 7 lo hi a7)] ∧ Row w' (w1.heap.size + 1) 25 [.int .i32 (soO 0 lo hi a0), .int .i32 (soO 1 lo hi a1), .int .i32 (soO 2 lo hi a2), .int .i32 (soO 3 lo hi a3), .int .i32 (soO 4 lo hi a4), .int .i32 (soO 5 lo hi a5), .int .i32 (soO 6 lo hi a6), .int .i32 (soO 7 lo hi a7)] ∧ (∃ M, M.length = 8 ∧ Row w' (w.heap.size + 1) 25 M) ∧ (∃ M, M.length = 8 ∧ Row w' (w.heap.size + 1 + 1) 25 M)) (by kernel_rfl) ⟨X1.out.drew, X2.out.drew, ⟨_, rfl, R1.out.drew⟩, ⟨_, rfl, R2.out.drew⟩⟩ (fun hH => ?_)
      refine wpAnyH_take (i := 0) rfl (by kernel_rfl) (by kernel_rfl) (by kernel_rfl) (fun _ _ _ h => h) (yieldsIf_load_mid (by rfl) _ _ rfl _ _ rfl [.int .i32 (soI 0 lo hi a0), .int .i32 (soI 1 lo hi a1), .int .i32 (soI 2 lo hi a2), .int .i32 (soI 3 lo hi a3), .int .i32 (soI 4 lo hi a4), .int .i32 (soI 5 lo hi a5), .int .i32 (soI 6 lo hi a6), .int .i32 (soI 7 lo hi a7)] _ (fun w h => h.1.rangeAt) heap_type rfl gH) hH ?_
      simp only [Act.put, List.getElem_toArray, List.getElem_cons_zero, List.getElem_cons_succ, List.setIfInBounds_toArray, List.set_cons_zero, List.set_cons_succ]
      refine wpAnyH_take (i := 1) rfl (by kernel_rfl) (by kernel_rfl) (by kernel_rfl) (fun _ _ _ h => h) (yieldsIf_load_mid (by rfl) _ _ rfl _ _ rfl [.int .i32 (soO 0 lo hi a0), .int .i32 (soO 1 lo hi a1), .int .i32 (soO 2 lo hi a2), .int .i32 (soO 3 lo hi a3), .int .i32 (soO 4 lo hi a4), .int .i32 (soO 5 lo hi a5), .int .i32 (soO 6 lo hi a6), .int .i32 (soO 7 lo hi a7)] _ (fun w h => h.2.1.rangeAt) heap_type rfl gH) hH ?_
      simp only [Act.put, List.getElem_toArray, List.getElem_cons_zero, List.getElem_cons_succ, List.setIfInBounds_toArray, List.set_cons_zero, List.set_cons_succ]
      refine wpAnyH_ready (rs := [2]) (by kernel_rfl) (by simp) ?_
      refine AllReadyH.cons rfl (fun K hK => ?_) AllReadyH.nil
      simp only [List.getElem_toArray, List.getElem_cons_zero, List.getElem_cons_succ]
      rw [if_pos (by rfl)]
      refine wp_store_mid _ _ _ rfl _ _ (List.toArray [.int .i32 (soI 0 lo hi a0), .int .i32 (soI 1 lo hi a1), .int .i32 (soI 2 lo hi a2), .int .i32 (soI 3 lo hi a3), .int .i32 (soI 4 lo hi a4), .int .i32 (soI 5 lo hi a5), .int .i32 (soI 6 lo hi a6), .int .i32 (soI 7 lo hi a7)]) rfl rfl (by obtain ⟨M, hm, hr⟩ := hH.2.2.1; exact hr.there hm) gH (one8 _ _ _ _ _ _ _ _) ?_
      simp only [List.toList_toArray]
      refine hK.out _ _ ⟨hH.1.setAway (by omega) _ _, hH.2.1.setAway (by omega) _ _, (by obtain ⟨M, hm, hr⟩ := hH.2.2.1; exact ⟨_, rfl, hr.setAll [.int .i32 (soI 0 lo hi a0), .int .i32 (soI 1 lo hi a1), .int .i32 (soI 2 lo hi a2), .int .i32 (soI 3 lo hi a3), .int .i32 (soI 4 lo hi a4), .int .i32 (soI 5 lo hi a5), .int .i32 (soI 6 lo hi a6), .int .i32 (soI 7 lo hi a7)] (by rw [hm]; rfl)⟩), (by obtain ⟨M, hm, hr⟩ := hH.2.2.2; exact ⟨M, hm, hr.setAway (by omega) _ _⟩)⟩ (fun hH1 => ?_)
      clear hK K hH
      have hH := hH1; clear hH1
      simp only [Act.put, List.getElem_toArray, List.getElem_cons_zero, List.getElem_cons_succ, List.setIfInBounds_toArray, List.set_cons_zero, List.set_cons_succ]
      have G1 := R1.out.drew.setAll [.int .i32 (soI 0 lo hi a0), .int .i32 (soI 1 lo hi a1), .int .i32 (soI 2 lo hi a2), .int .i32 (soI 3 lo hi a3), .int .i32 (soI 4 lo hi a4), .int .i32 (soI 5 lo hi a5), .int .i32 (soI 6 lo hi a6), .int .i32 (soI 7 lo hi a7)] rfl
      have GR := R2.out.drew.setAway (C := w.heap.size + 1) (by omega) [.int .i32 (soI 0 lo hi a0), .int .i32 (soI 1 lo hi a1), .int .i32 (soI 2 lo hi a2), .int .i32 (soI 3 lo hi a3), .int .i32 (soI 4 lo hi a4), .int .i32 (soI 5 lo hi a5), .int .i32 (soI 6 lo hi a6), .int .i32 (soI 7 lo hi a7)] 0
      have hB2 := below_setCells (b := w.heap.size) (C := w.heap.size + 1) (by omega) [.int .i32 (soI 0 lo hi a0), .int .i32 (soI 1 lo hi a1), .int .i32 (soI 2 lo hi a2), .int .i32 (soI 3 lo hi a3), .int .i32 (soI 4 lo hi a4), .int .i32 (soI 5 lo hi a5), .int .i32 (soI 6 lo hi a6), .int .i32 (soI 7 lo hi a7)] 0 hB.drew
      generalize World.setCells _ (w.heap.size + 1) 0 [.int .i32 (soI 0 lo hi a0), .int .i32 (soI 1 lo hi a1), .int .i32 (soI 2 lo hi a2), .int .i32 (soI 3 lo hi a3), .int .i32 (soI 4 lo hi a4), .int .i32 (soI 5 lo hi a5), .int .i32 (soI 6 lo hi a6), .int .i32 (soI 7 lo hi a7)] = ww at G1 GR hB2 hH ⊢
      refine wpAnyH_ready (rs := [3]) (by kernel_rfl) (by simp) ?_
      refine AllReadyH.cons rfl (fun K hK => ?_) AllReadyH.nil
      simp only [List.getElem_toArray, List.getElem_cons_zero, List.getElem_cons_succ]
      rw [if_pos (by rfl)]
      refine wp_store_mid _ _ _ rfl _ _ (List.toArray [.int .i32 (soO 0 lo hi a0), .int .i32 (soO 1 lo hi a1), .int .i32 (soO 2 lo hi a2), .int .i32 (soO 3 lo hi a3), .int .i32 (soO 4 lo hi a4), .int .i32 (soO 5 lo hi a5), .int .i32 (soO 6 lo hi a6), .int .i32 (soO 7 lo hi a7)]) rfl rfl (by obtain ⟨M, hm, hr⟩ := hH.2.2.2; exact hr.there hm) gH (one8 _ _ _ _ _ _ _ _) ?_
      simp only [List.toList_toArray]
      refine hK.out _ _ ⟨hH.1.setAway (by omega) _ _, hH.2.1.setAway (by omega) _ _, (by obtain ⟨M, hm, hr⟩ := hH.2.2.1; exact ⟨M, hm, hr.setAway (by omega) _ _⟩), (by obtain ⟨M, hm, hr⟩ := hH.2.2.2; exact ⟨_, rfl, hr.setAll [.int .i32 (soO 0 lo hi a0), .int .i32 (soO 1 lo hi a1), .int .i32 (soO 2 lo hi a2), .int .i32 (soO 3 lo hi a3), .int .i32 (soO 4 lo hi a4), .int .i32 (soO 5 lo hi a5), .int .i32 (soO 6 lo hi a6), .int .i32 (soO 7 lo hi a7)] (by rw [hm]; rfl)⟩)⟩ (fun hH1 => ?_)
      clear hK K hH
      have hH := hH1; clear hH1
      simp only [Act.put, List.getElem_toArray, List.getElem_cons_zero, List.getElem_cons_succ, List.setIfInBounds_toArray, List.set_cons_zero, List.set_cons_succ]
      replace G1 := G1.setAway (C := w.heap.size + 1 + 1) (by omega) [.int .i32 (soO 0 lo hi a0), .int .i32 (soO 1 lo hi a1), .int .i32 (soO 2 lo hi a2), .int .i32 (soO 3 lo hi a3), .int .i32 (soO 4 lo hi a4), .int .i32 (soO 5 lo hi a5), .int .i32 (soO 6 lo hi a6), .int .i32 (soO 7 lo hi a7)] 0
      have G2 := GR.setAll [.int .i32 (soO 0 lo hi a0), .int .i32 (soO 1 lo hi a1), .int .i32 (soO 2 lo hi a2), .int .i32 (soO 3 lo hi a3), .int .i32 (soO 4 lo hi a4), .int .i32 (soO 5 lo hi a5), .int .i32 (soO 6 lo hi a6), .int .i32 (soO 7 lo hi a7)] rfl
      replace hB2 := below_setCells (b := w.heap.size) (C := w.heap.size + 1 + 1) (by omega) [.int .i32 (soO 0 lo hi a0), .int .i32 (soO 1 lo hi a1), .int .i32 (soO 2 lo hi a2), .int .i32 (soO 3 lo hi a3), .int .i32 (soO 4 lo hi a4), .int .i32 (soO 5 lo hi a5), .int .i32 (soO 6 lo hi a6), .int .i32 (soO 7 lo hi a7)] 0 hB2
      clear GR
      generalize World.setCells _ (w.heap.size + 1 + 1) 0 [.int .i32 (soO 0 lo hi a0), .int .i32 (soO 1 lo hi a1), .int .i32 (soO 2 lo hi a2), .int .i32 (soO 3 lo hi a3), .int .i32 (soO 4 lo hi a4), .int .i32 (soO 5 lo hi a5), .int .i32 (soO 6 lo hi a6), .int .i32 (soO 7 lo hi a7)] = ww2 at G1 G2 hB2 hH ⊢
      refine wpAnyH_take (i := 4) (v := .int .i64 0) rfl (by kernel_rfl) (by kernel_rfl) (by kernel_rfl) (fun _ _ _ h => h) (Or.inl ⟨by rfl, fun w h => by go_simp⟩) hH ?_
      simp only [Act.put, List.getElem_toArray, List.getElem_cons_zero, List.getElem_cons_succ, List.setIfInBounds_toArray, List.set_cons_zero, List.set_cons_succ]
      refine wpAnyH_done (by kernel_rfl) ?_ _
      clear hH
      obtain ⟨s1_0, s1_1, s1_2, s1_3, s1_4, s1_5, s1_6, s1_7⟩ := G1.cells8
      obtain ⟨s2_0, s2_1, s2_2, s2_3, s2_4, s2_5, s2_6, s2_7⟩ := G2.cells8
      clear G1 G2
      go_wp2_with fail
      refine bodyPost_ret (v := .tuple #[.agg #[.int .i32 (soI 0 lo hi a0), .int .i32 (soI 1 lo hi a1), .int .i32 (soI 2 lo hi a2), .int .i32 (soI 3 lo hi a3), .int .i32 (soI 4 lo hi a4), .int .i32 (soI 5 lo hi a5), .int .i32 (soI 6 lo hi a6), .int .i32 (soI 7 lo hi a7)], .agg #[.int .i32 (soO 0 lo hi a0), .int .i32 (soO 1 lo hi a1), .int .i32 (soO 2 lo hi a2), .int .i32 (soO 3 lo hi a3), .int .i32 (soO 4 lo hi a4), .int .i32 (soO 5 lo hi a5), .int .i32 (soO 6 lo hi a6), .int .i32 (soO 7 lo hi a7)], .int .i64 0]) (by simp [results, Tryz.results10, go_sem, s1_0, s1_1, s1_2, s1_3, s1_4, s1_5, s1_6, s1_7, s2_0, s2_1, s2_2, s2_3, s2_4, s2_5, s2_6, s2_7]) rfl ⟨by rw [HC.out]; simp [jn], hB2⟩
end Go.Proofs.YtbkhlcbnnjgdpaaGreatDoor
