/- Contracts: impl.TakeLongest. -/
import Derived.Test.YtbkhlcbnnjgdpaaGreatDoorR4
import Derived.RegionTactic
import Derived.BigRegion
import Derived.IntWalk
namespace Go.Proofs.YtbkhlcbnnjgdpaaGreatDoor
open Go.RowKit
set_option linter.unusedVariables false
set_option linter.unusedSimpArgs false
set_option maxRecDepth 100000 in
set_option maxHeartbeats 4000000 in
theorem iTakeLongest (a0 a1 a2 a3 a4 a5 a6 a7 g : Int) (w : World) (ha : Hid (∀ x ∈ [a0, a1, a2, a3, a4, a5, a6, a7], (Lit.int .i32 x).wf = true)) (hg0 : -9223372036854775808 ≤ g ∧ g ≤ 9223372036854775807) :
    Calls Tryz.prog 13 #[.agg #[.int .i32 a0, .int .i32 a1, .int .i32 a2, .int .i32 a3, .int .i32 a4, .int .i32 a5, .int .i32 a6, .int .i32 a7], .int .i64 g] w fun e w' => e = .returned (.tuple #[.agg #[.int .i32 (jn (tlC [a0, a1, a2, a3, a4, a5, a6, a7] g) (tk [a0, a1, a2, a3, a4, a5, a6, a7] g 0)), .int .i32 (jn (tlC [a0, a1, a2, a3, a4, a5, a6, a7] g) (tk [a0, a1, a2, a3, a4, a5, a6, a7] g 1)), .int .i32 (jn (tlC [a0, a1, a2, a3, a4, a5, a6, a7] g) (tk [a0, a1, a2, a3, a4, a5, a6, a7] g 2)), .int .i32 (jn (tlC [a0, a1, a2, a3, a4, a5, a6, a7] g) (tk [a0, a1, a2, a3, a4, a5, a6, a7] g 3)), .int .i32 (jn (tlC [a0, a1, a2, a3, a4, a5, a6, a7] g) (tk [a0, a1, a2, a3, a4, a5, a6, a7] g 4)), .int .i32 (jn (tlC [a0, a1, a2, a3, a4, a5, a6, a7] g) (tk [a0, a1, a2, a3, a4, a5, a6, a7] g 5)), .int .i32 (jn (tlC [a0, a1, a2, a3, a4, a5, a6, a7] g) (tk [a0, a1, a2, a3, a4, a5, a6, a7] g 6)), .int .i32 (jn (tlC [a0, a1, a2, a3, a4, a5, a6, a7] g) (tk [a0, a1, a2, a3, a4, a5, a6, a7] g 7))], .agg #[.int .i32 (jn (tlC [a0, a1, a2, a3, a4, a5, a6, a7] g) (a0 - tk [a0, a1, a2, a3, a4, a5, a6, a7] g 0)), .int .i32 (jn (tlC [a0, a1, a2, a3, a4, a5, a6, a7] g) (a1 - tk [a0, a1, a2, a3, a4, a5, a6, a7] g 1)), .int .i32 (jn (tlC [a0, a1, a2, a3, a4, a5, a6, a7] g) (a2 - tk [a0, a1, a2, a3, a4, a5, a6, a7] g 2)), .int .i32 (jn (tlC [a0, a1, a2, a3, a4, a5, a6, a7] g) (a3 - tk [a0, a1, a2, a3, a4, a5, a6, a7] g 3)), .int .i32 (jn (tlC [a0, a1, a2, a3, a4, a5, a6, a7] g) (a4 - tk [a0, a1, a2, a3, a4, a5, a6, a7] g 4)), .int .i32 (jn (tlC [a0, a1, a2, a3, a4, a5, a6, a7] g) (a5 - tk [a0, a1, a2, a3, a4, a5, a6, a7] g 5)), .int .i32 (jn (tlC [a0, a1, a2, a3, a4, a5, a6, a7] g) (a6 - tk [a0, a1, a2, a3, a4, a5, a6, a7] g 6)), .int .i32 (jn (tlC [a0, a1, a2, a3, a4, a5, a6, a7] g) (a7 - tk [a0, a1, a2, a3, a4, a5, a6, a7] g 7))], .int .i64 (tlC [a0, a1, a2, a3, a4, a5, a6, a7] g)]) ∧ Below w.heap.size w w' := by
  have X0 : Hid (Row (((w.alloc (.cells #[.int .i32 a0, .int .i32 a1, .int .i32 a2, .int .i32 a3, .int .i32 a4, .int .i32 a5, .int .i32 a6, .int .i32 a7] 25)).alloc (.cells #[.int .i32 0, .int .i32 0, .int .i32 0, .int .i32 0, .int .i32 0, .int .i32 0, .int .i32 0, .int .i32 0] 25)).alloc (.cells #[.int .i32 0, .int .i32 0, .int .i32 0, .int .i32 0, .int .i32 0, .int .i32 0, .int .i32 0, .int .i32 0] 25)) (w.heap.size) 25 [.int .i32 a0, .int .i32 a1, .int .i32 a2, .int .i32 a3, .int .i32 a4, .int .i32 a5, .int .i32 a6, .int .i32 a7]) := Lib.hid (by have := (((Row.alloc w [.int .i32 a0, .int .i32 a1, .int .i32 a2, .int .i32 a3, .int .i32 a4, .int .i32 a5, .int .i32 a6, .int .i32 a7] 25).below (below_alloc1 _ (.cells #[.int .i32 0, .int .i32 0, .int .i32 0, .int .i32 0, .int .i32 0, .int .i32 0, .int .i32 0, .int .i32 0] 25))).below (below_alloc1 _ (.cells #[.int .i32 0, .int .i32 0, .int .i32 0, .int .i32 0, .int .i32 0, .int .i32 0, .int .i32 0, .int .i32 0] 25))); (try simp only [World.size_alloc] at this); exact this)
  have R1 : Hid (Row (((w.alloc (.cells #[.int .i32 a0, .int .i32 a1, .int .i32 a2, .int .i32 a3, .int .i32 a4, .int .i32 a5, .int .i32 a6, .int .i32 a7] 25)).alloc (.cells #[.int .i32 0, .int .i32 0, .int .i32 0, .int .i32 0, .int .i32 0, .int .i32 0, .int .i32 0, .int .i32 0] 25)).alloc (.cells #[.int .i32 0, .int .i32 0, .int .i32 0, .int .i32 0, .int .i32 0, .int .i32 0, .int .i32 0, .int .i32 0] 25)) (w.heap.size + 1) 25 [.int .i32 0, .int .i32 0, .int .i32 0, .int .i32 0, .int .i32 0, .int .i32 0, .int .i32 0, .int .i32 0]) := Lib.hid (by have := ((Row.alloc (w.alloc (.cells #[.int .i32 a0, .int .i32 a1, .int .i32 a2, .int .i32 a3, .int .i32 a4, .int .i32 a5, .int .i32 a6, .int .i32 a7] 25)) [.int .i32 0, .int .i32 0, .int .i32 0, .int .i32 0, .int .i32 0, .int .i32 0, .int .i32 0, .int .i32 0] 25).below (below_alloc1 _ (.cells #[.int .i32 0, .int .i32 0, .int .i32 0, .int .i32 0, .int .i32 0, .int .i32 0, .int .i32 0, .int .i32 0] 25))); (try simp only [World.size_alloc] at this); exact this)
  have R2 : Hid (Row (((w.alloc (.cells #[.int .i32 a0, .int .i32 a1, .int .i32 a2, .int .i32 a3, .int .i32 a4, .int .i32 a5, .int .i32 a6, .int .i32 a7] 25)).alloc (.cells #[.int .i32 0, .int .i32 0, .int .i32 0, .int .i32 0, .int .i32 0, .int .i32 0, .int .i32 0, .int .i32 0] 25)).alloc (.cells #[.int .i32 0, .int .i32 0, .int .i32 0, .int .i32 0, .int .i32 0, .int .i32 0, .int .i32 0, .int .i32 0] 25)) (w.heap.size + 2) 25 [.int .i32 0, .int .i32 0, .int .i32 0, .int .i32 0, .int .i32 0, .int .i32 0, .int .i32 0, .int .i32 0]) := Lib.hid (by have := (Row.alloc ((w.alloc (.cells #[.int .i32 a0, .int .i32 a1, .int .i32 a2, .int .i32 a3, .int .i32 a4, .int .i32 a5, .int .i32 a6, .int .i32 a7] 25)).alloc (.cells #[.int .i32 0, .int .i32 0, .int .i32 0, .int .i32 0, .int .i32 0, .int .i32 0, .int .i32 0, .int .i32 0] 25)) [.int .i32 0, .int .i32 0, .int .i32 0, .int .i32 0, .int .i32 0, .int .i32 0, .int .i32 0, .int .i32 0] 25); (try simp only [World.size_alloc] at this); exact this)
  have HB : Hid (Below w.heap.size w (((w.alloc (.cells #[.int .i32 a0, .int .i32 a1, .int .i32 a2, .int .i32 a3, .int .i32 a4, .int .i32 a5, .int .i32 a6, .int .i32 a7] 25)).alloc (.cells #[.int .i32 0, .int .i32 0, .int .i32 0, .int .i32 0, .int .i32 0, .int .i32 0, .int .i32 0, .int .i32 0] 25)).alloc (.cells #[.int .i32 0, .int .i32 0, .int .i32 0, .int .i32 0, .int .i32 0, .int .i32 0, .int .i32 0, .int .i32 0] 25))) := Lib.hid (by go_grown)
  cases h1 : heapOk [a0, a1, a2, a3, a4, a5, a6, a7]
  · have hc : tlC [a0, a1, a2, a3, a4, a5, a6, a7] g = 1 := by simp [tlC, asC, h1]
    have HC := Lib.hid hc; have H1 := Lib.hid h1; have HA : ∀ f, Hid (asC [a0, a1, a2, a3, a4, a5, a6, a7] f = 1) := fun f => Lib.hid (by simp [asC, h1])
    clear hc h1
    go_enter Tryz.func13, Tryz.ntmps13
    obtain ⟨cX0_0, cX0_1, cX0_2, cX0_3, cX0_4, cX0_5, cX0_6, cX0_7⟩ := X0.out.cells8
    go_wp2_with fail
    refine (iValidHeap a0 a1 a2 a3 a4 a5 a6 a7 _ ha).mono ?_
    rintro e w1 ⟨rfl, hb⟩
    rw [H1.out]
    clear cX0_0 cX0_1 cX0_2 cX0_3 cX0_4 cX0_5 cX0_6 cX0_7
    replace HB := Lib.hid (below_then HB.out HB.out.size hb)
    replace X0 := Lib.hid (X0.out.below hb)
    replace R1 := Lib.hid (R1.out.below hb)
    replace R2 := Lib.hid (R2.out.below hb)
    have hz1 := hb.size
    (try simp only [World.size_alloc] at hz1)
    clear hb
    have hB := HB.out
    obtain ⟨cR1_0, cR1_1, cR1_2, cR1_3, cR1_4, cR1_5, cR1_6, cR1_7⟩ := R1.out.cells8
    obtain ⟨fR1_0, fR1_1, fR1_2, fR1_3, fR1_4, fR1_5, fR1_6, fR1_7⟩ := R1.out.frozens8
    obtain ⟨cR2_0, cR2_1, cR2_2, cR2_3, cR2_4, cR2_5, cR2_6, cR2_7⟩ := R2.out.cells8
    obtain ⟨fR2_0, fR2_1, fR2_2, fR2_3, fR2_4, fR2_5, fR2_6, fR2_7⟩ := R2.out.frozens8
    go_wp2_with fail
    have SR1 := ((((((((((((((((R1.out.set 0 (.int .i32 0)).set 1 (.int .i32 0)).set 2 (.int .i32 0)).set 3 (.int .i32 0)).set 4 (.int .i32 0)).set 5 (.int .i32 0)).set 6 (.int .i32 0)).set 7 (.int .i32 0)).apart (C := w.heap.size + 2) (by omega) 0 (.int .i32 0)).apart (C := w.heap.size + 2) (by omega) 1 (.int .i32 0)).apart (C := w.heap.size + 2) (by omega) 2 (.int .i32 0)).apart (C := w.heap.size + 2) (by omega) 3 (.int .i32 0)).apart (C := w.heap.size + 2) (by omega) 4 (.int .i32 0)).apart (C := w.heap.size + 2) (by omega) 5 (.int .i32 0)).apart (C := w.heap.size + 2) (by omega) 6 (.int .i32 0)).apart (C := w.heap.size + 2) (by omega) 7 (.int .i32 0))
    simp only [List.set_cons_zero, List.set_cons_succ] at SR1
    obtain ⟨sR1_0, sR1_1, sR1_2, sR1_3, sR1_4, sR1_5, sR1_6, sR1_7⟩ := SR1.cells8
    clear SR1
    have SR2 := ((((((((((((((((R2.out.apart (C := w.heap.size + 1) (by omega) 0 (.int .i32 0)).apart (C := w.heap.size + 1) (by omega) 1 (.int .i32 0)).apart (C := w.heap.size + 1) (by omega) 2 (.int .i32 0)).apart (C := w.heap.size + 1) (by omega) 3 (.int .i32 0)).apart (C := w.heap.size + 1) (by omega) 4 (.int .i32 0)).apart (C := w.heap.size + 1) (by omega) 5 (.int .i32 0)).apart (C := w.heap.size + 1) (by omega) 6 (.int .i32 0)).apart (C := w.heap.size + 1) (by omega) 7 (.int .i32 0)).set 0 (.int .i32 0)).set 1 (.int .i32 0)).set 2 (.int .i32 0)).set 3 (.int .i32 0)).set 4 (.int .i32 0)).set 5 (.int .i32 0)).set 6 (.int .i32 0)).set 7 (.int .i32 0))
    simp only [List.set_cons_zero, List.set_cons_succ] at SR2
    obtain ⟨sR2_0, sR2_1, sR2_2, sR2_3, sR2_4, sR2_5, sR2_6, sR2_7⟩ := SR2.cells8
    clear SR2
    refine bodyPost_ret (v := .tuple #[.agg #[.int .i32 0, .int .i32 0, .int .i32 0, .int .i32 0, .int .i32 0, .int .i32 0, .int .i32 0, .int .i32 0], .agg #[.int .i32 0, .int .i32 0, .int .i32 0, .int .i32 0, .int .i32 0, .int .i32 0, .int .i32 0, .int .i32 0], .int .i64 1]) (by simp [results, Tryz.results13, go_sem, sR1_0, sR1_1, sR1_2, sR1_3, sR1_4, sR1_5, sR1_6, sR1_7, sR2_0, sR2_1, sR2_2, sR2_3, sR2_4, sR2_5, sR2_6, sR2_7]) rfl ⟨by rw [HC.out]; simp [jn], by go_grown⟩
  by_cases hg : 0 ≤ g
  rotate_left
  · have hd : decide (0 ≤ g) = false := by simpa using hg
    have hc : tlC [a0, a1, a2, a3, a4, a5, a6, a7] g = 2 := by simp [tlC, asC, h1, hd]
    have HA : ∀ f, f = false → Hid (asC [a0, a1, a2, a3, a4, a5, a6, a7] f = 2) := fun f hf => Lib.hid (by simp [asC, h1, hf])
    have HC := Lib.hid hc; have H1 := Lib.hid h1; clear hc h1
    go_enter Tryz.func13, Tryz.ntmps13
    obtain ⟨cX0_0, cX0_1, cX0_2, cX0_3, cX0_4, cX0_5, cX0_6, cX0_7⟩ := X0.out.cells8
    go_wp2_with fail
    refine (iValidHeap a0 a1 a2 a3 a4 a5 a6 a7 _ ha).mono ?_
    rintro e w1 ⟨rfl, hb⟩
    rw [H1.out]
    clear cX0_0 cX0_1 cX0_2 cX0_3 cX0_4 cX0_5 cX0_6 cX0_7
    replace HB := Lib.hid (below_then HB.out HB.out.size hb)
    replace X0 := Lib.hid (X0.out.below hb)
    replace R1 := Lib.hid (R1.out.below hb)
    replace R2 := Lib.hid (R2.out.below hb)
    have hz1 := hb.size
    (try simp only [World.size_alloc] at hz1)
    clear hb
    have hB := HB.out
    obtain ⟨cR1_0, cR1_1, cR1_2, cR1_3, cR1_4, cR1_5, cR1_6, cR1_7⟩ := R1.out.cells8
    obtain ⟨fR1_0, fR1_1, fR1_2, fR1_3, fR1_4, fR1_5, fR1_6, fR1_7⟩ := R1.out.frozens8
    obtain ⟨cR2_0, cR2_1, cR2_2, cR2_3, cR2_4, cR2_5, cR2_6, cR2_7⟩ := R2.out.cells8
    obtain ⟨fR2_0, fR2_1, fR2_2, fR2_3, fR2_4, fR2_5, fR2_6, fR2_7⟩ := R2.out.frozens8
    go_wp2_with fail
    have SR1 := ((((((((((((((((R1.out.set 0 (.int .i32 0)).set 1 (.int .i32 0)).set 2 (.int .i32 0)).set 3 (.int .i32 0)).set 4 (.int .i32 0)).set 5 (.int .i32 0)).set 6 (.int .i32 0)).set 7 (.int .i32 0)).apart (C := w.heap.size + 2) (by omega) 0 (.int .i32 0)).apart (C := w.heap.size + 2) (by omega) 1 (.int .i32 0)).apart (C := w.heap.size + 2) (by omega) 2 (.int .i32 0)).apart (C := w.heap.size + 2) (by omega) 3 (.int .i32 0)).apart (C := w.heap.size + 2) (by omega) 4 (.int .i32 0)).apart (C := w.heap.size + 2) (by omega) 5 (.int .i32 0)).apart (C := w.heap.size + 2) (by omega) 6 (.int .i32 0)).apart (C := w.heap.size + 2) (by omega) 7 (.int .i32 0))
    simp only [List.set_cons_zero, List.set_cons_succ] at SR1
    obtain ⟨sR1_0, sR1_1, sR1_2, sR1_3, sR1_4, sR1_5, sR1_6, sR1_7⟩ := SR1.cells8
    clear SR1
    have SR2 := ((((((((((((((((R2.out.apart (C := w.heap.size + 1) (by omega) 0 (.int .i32 0)).apart (C := w.heap.size + 1) (by omega) 1 (.int .i32 0)).apart (C := w.heap.size + 1) (by omega) 2 (.int .i32 0)).apart (C := w.heap.size + 1) (by omega) 3 (.int .i32 0)).apart (C := w.heap.size + 1) (by omega) 4 (.int .i32 0)).apart (C := w.heap.size + 1) (by omega) 5 (.int .i32 0)).apart (C := w.heap.size + 1) (by omega) 6 (.int .i32 0)).apart (C := w.heap.size + 1) (by omega) 7 (.int .i32 0)).set 0 (.int .i32 0)).set 1 (.int .i32 0)).set 2 (.int .i32 0)).set 3 (.int .i32 0)).set 4 (.int .i32 0)).set 5 (.int .i32 0)).set 6 (.int .i32 0)).set 7 (.int .i32 0))
    simp only [List.set_cons_zero, List.set_cons_succ] at SR2
    obtain ⟨sR2_0, sR2_1, sR2_2, sR2_3, sR2_4, sR2_5, sR2_6, sR2_7⟩ := SR2.cells8
    clear SR2
    refine bodyPost_ret (v := .tuple #[.agg #[.int .i32 0, .int .i32 0, .int .i32 0, .int .i32 0, .int .i32 0, .int .i32 0, .int .i32 0, .int .i32 0], .agg #[.int .i32 0, .int .i32 0, .int .i32 0, .int .i32 0, .int .i32 0, .int .i32 0, .int .i32 0, .int .i32 0], .int .i64 2]) (by simp [results, Tryz.results13, go_sem, sR1_0, sR1_1, sR1_2, sR1_3, sR1_4, sR1_5, sR1_6, sR1_7, sR2_0, sR2_1, sR2_2, sR2_3, sR2_4, sR2_5, sR2_6, sR2_7]) rfl ⟨by rw [HC.out]; simp [jn], by go_grown⟩
  have hd : decide (0 ≤ g) = true := by simpa using hg
  have hsr := hS_rng h1
  obtain ⟨S, hS_⟩ : ∃ S, hS a0 a1 a2 a3 a4 a5 a6 a7 = S := ⟨_, rfl⟩
  rw [hS_] at hsr
  have hsl : hsL [a0, a1, a2, a3, a4, a5, a6, a7] = S := hS_
  have HA : ∀ f, f = true → Hid (asC [a0, a1, a2, a3, a4, a5, a6, a7] f = 0) := fun f hf => Lib.hid (by simp [asC, h1, hf])
  have HTK := Lib.hid (fun d => tkG_rng h1 hg d)
  have HAT := Lib.hid (fun k => heapOk_at h1 k)
  have HS := Lib.hid hS_
  by_cases hgs : S < g
  · have hc : tlC [a0, a1, a2, a3, a4, a5, a6, a7] g = 6 := by simp [tlC, asC, h1, hd, hsl, hgs]
    have HC := Lib.hid hc; have H1 := Lib.hid h1; clear hc h1 hsl hS_
    go_enter Tryz.func13, Tryz.ntmps13
    obtain ⟨cX0_0, cX0_1, cX0_2, cX0_3, cX0_4, cX0_5, cX0_6, cX0_7⟩ := X0.out.cells8
    go_wp2_with fail
    refine (iValidHeap a0 a1 a2 a3 a4 a5 a6 a7 _ ha).mono ?_
    rintro e w1 ⟨rfl, hb⟩
    rw [H1.out]
    clear cX0_0 cX0_1 cX0_2 cX0_3 cX0_4 cX0_5 cX0_6 cX0_7
    replace HB := Lib.hid (below_then HB.out HB.out.size hb)
    replace X0 := Lib.hid (X0.out.below hb)
    replace R1 := Lib.hid (R1.out.below hb)
    replace R2 := Lib.hid (R2.out.below hb)
    have hz1 := hb.size
    (try simp only [World.size_alloc] at hz1)
    clear hb
    obtain ⟨cX0_0, cX0_1, cX0_2, cX0_3, cX0_4, cX0_5, cX0_6, cX0_7⟩ := X0.out.cells8
    go_wp2_with fail
    refine (all_any a0 a1 a2 a3 a4 a5 a6 a7 _ ha).mono ?_
    rintro e w2 ⟨rfl, hb⟩
    rw [HS.out]
    clear cX0_0 cX0_1 cX0_2 cX0_3 cX0_4 cX0_5 cX0_6 cX0_7
    replace HB := Lib.hid (below_then HB.out HB.out.size hb)
    replace X0 := Lib.hid (X0.out.below hb)
    replace R1 := Lib.hid (R1.out.below hb)
    replace R2 := Lib.hid (R2.out.below hb)
    have hz2 := hb.size
    (try simp only [World.size_alloc] at hz2)
    clear hb
    have hB := HB.out
    obtain ⟨cR1_0, cR1_1, cR1_2, cR1_3, cR1_4, cR1_5, cR1_6, cR1_7⟩ := R1.out.cells8
    obtain ⟨fR1_0, fR1_1, fR1_2, fR1_3, fR1_4, fR1_5, fR1_6, fR1_7⟩ := R1.out.frozens8
    obtain ⟨cR2_0, cR2_1, cR2_2, cR2_3, cR2_4, cR2_5, cR2_6, cR2_7⟩ := R2.out.cells8
    obtain ⟨fR2_0, fR2_1, fR2_2, fR2_3, fR2_4, fR2_5, fR2_6, fR2_7⟩ := R2.out.frozens8
    go_wp2_with fail
    have SR1 := ((((((((((((((((R1.out.set 0 (.int .i32 0)).set 1 (.int .i32 0)).set 2 (.int .i32 0)).set 3 (.int .i32 0)).set 4 (.int .i32 0)).set 5 (.int .i32 0)).set 6 (.int .i32 0)).set 7 (.int .i32 0)).apart (C := w.heap.size + 2) (by omega) 0 (.int .i32 0)).apart (C := w.heap.size + 2) (by omega) 1 (.int .i32 0)).apart (C := w.heap.size + 2) (by omega) 2 (.int .i32 0)).apart (C := w.heap.size + 2) (by omega) 3 (.int .i32 0)).apart (C := w.heap.size + 2) (by omega) 4 (.int .i32 0)).apart (C := w.heap.size + 2) (by omega) 5 (.int .i32 0)).apart (C := w.heap.size + 2) (by omega) 6 (.int .i32 0)).apart (C := w.heap.size + 2) (by omega) 7 (.int .i32 0))
    simp only [List.set_cons_zero, List.set_cons_succ] at SR1
    obtain ⟨sR1_0, sR1_1, sR1_2, sR1_3, sR1_4, sR1_5, sR1_6, sR1_7⟩ := SR1.cells8
    clear SR1
    have SR2 := ((((((((((((((((R2.out.apart (C := w.heap.size + 1) (by omega) 0 (.int .i32 0)).apart (C := w.heap.size + 1) (by omega) 1 (.int .i32 0)).apart (C := w.heap.size + 1) (by omega) 2 (.int .i32 0)).apart (C := w.heap.size + 1) (by omega) 3 (.int .i32 0)).apart (C := w.heap.size + 1) (by omega) 4 (.int .i32 0)).apart (C := w.heap.size + 1) (by omega) 5 (.int .i32 0)).apart (C := w.heap.size + 1) (by omega) 6 (.int .i32 0)).apart (C := w.heap.size + 1) (by omega) 7 (.int .i32 0)).set 0 (.int .i32 0)).set 1 (.int .i32 0)).set 2 (.int .i32 0)).set 3 (.int .i32 0)).set 4 (.int .i32 0)).set 5 (.int .i32 0)).set 6 (.int .i32 0)).set 7 (.int .i32 0))
    simp only [List.set_cons_zero, List.set_cons_succ] at SR2
    obtain ⟨sR2_0, sR2_1, sR2_2, sR2_3, sR2_4, sR2_5, sR2_6, sR2_7⟩ := SR2.cells8
    clear SR2
    refine bodyPost_ret (v := .tuple #[.agg #[.int .i32 0, .int .i32 0, .int .i32 0, .int .i32 0, .int .i32 0, .int .i32 0, .int .i32 0, .int .i32 0], .agg #[.int .i32 0, .int .i32 0, .int .i32 0, .int .i32 0, .int .i32 0, .int .i32 0, .int .i32 0, .int .i32 0], .int .i64 6]) (by simp [results, Tryz.results13, go_sem, sR1_0, sR1_1, sR1_2, sR1_3, sR1_4, sR1_5, sR1_6, sR1_7, sR2_0, sR2_1, sR2_2, sR2_3, sR2_4, sR2_5, sR2_6, sR2_7]) rfl ⟨by rw [HC.out]; simp [jn], by go_grown⟩
  have hc : tlC [a0, a1, a2, a3, a4, a5, a6, a7] g = 0 := by simp [tlC, asC, h1, hd, hsl, hgs]
  have HC := Lib.hid hc; have H1 := Lib.hid h1; clear hc h1 hsl hS_
  go_enter Tryz.func13, Tryz.ntmps13
  obtain ⟨cX0_0, cX0_1, cX0_2, cX0_3, cX0_4, cX0_5, cX0_6, cX0_7⟩ := X0.out.cells8
  go_wp2_with fail
  refine (iValidHeap a0 a1 a2 a3 a4 a5 a6 a7 _ ha).mono ?_
  rintro e w1 ⟨rfl, hb⟩
  rw [H1.out]
  clear cX0_0 cX0_1 cX0_2 cX0_3 cX0_4 cX0_5 cX0_6 cX0_7
  replace HB := Lib.hid (below_then HB.out HB.out.size hb)
  replace X0 := Lib.hid (X0.out.below hb)
  replace R1 := Lib.hid (R1.out.below hb)
  replace R2 := Lib.hid (R2.out.below hb)
  have hz1 := hb.size
  (try simp only [World.size_alloc] at hz1)
  clear hb
  obtain ⟨cX0_0, cX0_1, cX0_2, cX0_3, cX0_4, cX0_5, cX0_6, cX0_7⟩ := X0.out.cells8
  go_wp2_with fail
  refine (all_any a0 a1 a2 a3 a4 a5 a6 a7 _ ha).mono ?_
  rintro e w2 ⟨rfl, hb⟩
  rw [HS.out]
  clear cX0_0 cX0_1 cX0_2 cX0_3 cX0_4 cX0_5 cX0_6 cX0_7
  replace HB := Lib.hid (below_then HB.out HB.out.size hb)
  replace X0 := Lib.hid (X0.out.below hb)
  replace R1 := Lib.hid (R1.out.below hb)
  replace R2 := Lib.hid (R2.out.below hb)
  have hz2 := hb.size
  (try simp only [World.size_alloc] at hz2)
  clear hb
  go_wp2_with fail
  have YI : Hid (Row (w2.alloc (.cells #[.int .i32 0, .int .i32 0, .int .i32 0, .int .i32 0, .int .i32 0, .int .i32 0, .int .i32 0, .int .i32 0] 25)) (w2.heap.size) 25 [.int .i32 0, .int .i32 0, .int .i32 0, .int .i32 0, .int .i32 0, .int .i32 0, .int .i32 0, .int .i32 0]) := Lib.hid (by have := Row.alloc w2 [.int .i32 0, .int .i32 0, .int .i32 0, .int .i32 0, .int .i32 0, .int .i32 0, .int .i32 0, .int .i32 0] 25; (try simp only [World.size_alloc] at this); exact this)
  replace X0 := Lib.hid (X0.out.below (below_alloc1 _ (.cells #[.int .i32 0, .int .i32 0, .int .i32 0, .int .i32 0, .int .i32 0, .int .i32 0, .int .i32 0, .int .i32 0] 25)))
  replace R1 := Lib.hid (R1.out.below (below_alloc1 _ (.cells #[.int .i32 0, .int .i32 0, .int .i32 0, .int .i32 0, .int .i32 0, .int .i32 0, .int .i32 0, .int .i32 0] 25)))
  replace R2 := Lib.hid (R2.out.below (below_alloc1 _ (.cells #[.int .i32 0, .int .i32 0, .int .i32 0, .int .i32 0, .int .i32 0, .int .i32 0, .int .i32 0, .int .i32 0] 25)))
  replace HB := Lib.hid (HB.out.alloc HB.out.size (.cells #[.int .i32 0, .int .i32 0, .int .i32 0, .int .i32 0, .int .i32 0, .int .i32 0, .int .i32 0, .int .i32 0] 25))
  obtain ⟨LA, hLA⟩ : ∃ L, L = [a0, a1, a2, a3, a4, a5, a6, a7] := ⟨_, rfl⟩
  obtain ⟨LZ, hLZ⟩ : ∃ L : List Int, L = [0, 0, 0, 0, 0, 0, 0, 0] := ⟨_, rfl⟩
  have hb0 := HB.out
  have hzz : w.heap.size + 3 ≤ w2.heap.size := by omega
  go_loopw [1, 8] (fun gv v wr => ∃ d : Nat, d ≤ 8 ∧ v = .int .i64 (7 - (d : Int)) ∧ gv = .int .i64 (tkG LA g d) ∧ Hid (Row wr (w2.heap.size) 25 (nums .i32 (mixP (fun j => decide (8 ≤ j + d)) (fun j => tk LA g j) LZ))) ∧ Hid (Row wr w.heap.size 25 (nums .i32 (mixP (fun j => decide (8 ≤ j + d)) (fun j => LA.getD j 0 - tk LA g j) LA))) ∧ Hid (Row wr (w.heap.size + 1) 25 [.int .i32 0, .int .i32 0, .int .i32 0, .int .i32 0, .int .i32 0, .int .i32 0, .int .i32 0, .int .i32 0]) ∧ Hid (Row wr (w.heap.size + 2) 25 [.int .i32 0, .int .i32 0, .int .i32 0, .int .i32 0, .int .i32 0, .int .i32 0, .int .i32 0, .int .i32 0]) ∧ Below w.heap.size w wr) (fun _ v _ => (intOf v + 1).toNat)
  case atStart =>
    refine ⟨0, by omega, by rfl, by simp only [tkG], ?_, ?_, R1, R2, hb0⟩
    · rw [mixP_none _ (by rw [hLZ]; rfl) (by intro j hj; simp; omega), hLZ]; exact YI
    · rw [mixP_none _ (by rw [hLA]; rfl) (by intro j hj; simp; omega), hLA]; exact X0
  case round =>
    obtain ⟨d, hdl, rfl, rfl, ZI, Y0, Q1, Q2, hB⟩ := hrel
    clear YI X0 R1 R2 HB hb0
    have R1 := Q1; have R2 := Q2; clear Q1 Q2
    by_cases hlt : d < 8
    · obtain ⟨k, hk⟩ : ∃ k : Nat, k = 7 - d := ⟨_, rfl⟩
      have hkd : (7 : Int) - (d : Int) = (k : Int) := by omega
      have hk8 : k < 8 := by omega
      have c0 := ZI.out.cell k
      have c1 := Y0.out.cell k
      have f0 := ZI.out.frozen k
      have f1 := Y0.out.frozen k
      rw [mixP_at _ _ hk8 (by simp; omega), hLZ, zeros_at] at c0
      rw [mixP_at _ _ hk8 (by simp; omega)] at c1
      have bx := HAT.out k
      rw [← hLA] at bx
      have bg := HTK.out d
      rw [← hLA] at bg
      obtain ⟨x, hx⟩ : ∃ x, LA.getD k 0 = x := ⟨_, rfl⟩
      obtain ⟨G, hG⟩ : ∃ G, tkG LA g d = G := ⟨_, rfl⟩
      have htk : tk LA g k = min G x := by unfold tk; rw [show 7 - k = d by omega, hG, hx]
      have hnx : tkG LA g (d + 1) = G - min G x := by simp only [tkG]; rw [← hk, hG, hx]
      obtain ⟨m, hm⟩ : ∃ m, min G x = m := ⟨_, rfl⟩
      rw [hx] at c1 bx
      rw [hG] at bg ⊢
      have bm : 0 ≤ m ∧ m ≤ 1000 ∧ m ≤ G ∧ m ≤ x := by omega
      rw [hm] at htk hnx
      have hI : Hid ((nums .i32 (mixP (fun j => decide (8 ≤ j + d)) (fun j => tk LA g j) LZ)).set k (.int .i32 m) = nums .i32 (mixP (fun j => decide (8 ≤ j + (d + 1))) (fun j => tk LA g j) LZ)) := by
        refine Lib.hid ?_
        rw [← htk]
        refine mixP_set _ _ hk8 fun j hj => ?_
        by_cases hjk : j = k
        · subst hjk; simp; omega
        · rw [show decide (j = k) = false by simpa using hjk, Bool.or_false]
          rw [decide_eq_decide]; omega
      have hO : Hid ((nums .i32 (mixP (fun j => decide (8 ≤ j + d)) (fun j => LA.getD j 0 - tk LA g j) LA)).set k (.int .i32 (x - m)) = nums .i32 (mixP (fun j => decide (8 ≤ j + (d + 1))) (fun j => LA.getD j 0 - tk LA g j) LA)) := by
        refine Lib.hid ?_
        rw [← htk, ← hx]
        refine mixP_set (fun j => LA.getD j 0 - tk LA g j) _ hk8 fun j hj => ?_
        by_cases hjk : j = k
        · subst hjk; simp; omega
        · rw [show decide (j = k) = false by simpa using hjk, Bool.or_false]
          rw [decide_eq_decide]; omega
      have HNX := Lib.hid hnx; have HMIN := Lib.hid hm; have HKD := Lib.hid hkd
      clear hx hG htk hnx hLA hLZ hk
      rw [hkd]
      clear hkd
      have hif : (if x < G then x else G) = m := by rw [← HMIN.out]; split <;> omega
      go_wp2_with fail
      all_goals try clear hif
      all_goals go_roundw
      case rel => exact ⟨d + 1, by omega, by have := HKD.out; show Value.int .i64 _ = Value.int .i64 _; congr 1; omega, by rw [HNX.out], Lib.hid (by rw [← hI.out]; exact ((ZI.out.set k _).apart (by omega) k _)), Lib.hid (by rw [← hO.out]; exact ((Y0.out.apart (by omega) k _).set k _)), Lib.hid ((R1.out.apart (by omega) k _).apart (by omega) k _), Lib.hid ((R2.out.apart (by omega) k _).apart (by omega) k _), by go_grown⟩
      case measure => have := HKD.out; simp [intOf]; try omega
    · obtain rfl : d = 8 := by omega
      have X1 : Hid (Row wr (w2.heap.size) 25 [.int .i32 (tk [a0, a1, a2, a3, a4, a5, a6, a7] g 0), .int .i32 (tk [a0, a1, a2, a3, a4, a5, a6, a7] g 1), .int .i32 (tk [a0, a1, a2, a3, a4, a5, a6, a7] g 2), .int .i32 (tk [a0, a1, a2, a3, a4, a5, a6, a7] g 3), .int .i32 (tk [a0, a1, a2, a3, a4, a5, a6, a7] g 4), .int .i32 (tk [a0, a1, a2, a3, a4, a5, a6, a7] g 5), .int .i32 (tk [a0, a1, a2, a3, a4, a5, a6, a7] g 6), .int .i32 (tk [a0, a1, a2, a3, a4, a5, a6, a7] g 7)]) := Lib.hid (by
        have := ZI.out
        rw [mixP_congr (Q := fun _ => true) (g := fun j => tk LA g j) (M := LZ) (fun j hj => by simp), hLA, hLZ] at this
        exact this)
      have X2 : Hid (Row wr w.heap.size 25 [.int .i32 (a0 - tk [a0, a1, a2, a3, a4, a5, a6, a7] g 0), .int .i32 (a1 - tk [a0, a1, a2, a3, a4, a5, a6, a7] g 1), .int .i32 (a2 - tk [a0, a1, a2, a3, a4, a5, a6, a7] g 2), .int .i32 (a3 - tk [a0, a1, a2, a3, a4, a5, a6, a7] g 3), .int .i32 (a4 - tk [a0, a1, a2, a3, a4, a5, a6, a7] g 4), .int .i32 (a5 - tk [a0, a1, a2, a3, a4, a5, a6, a7] g 5), .int .i32 (a6 - tk [a0, a1, a2, a3, a4, a5, a6, a7] g 6), .int .i32 (a7 - tk [a0, a1, a2, a3, a4, a5, a6, a7] g 7)]) := Lib.hid (by
        have := Y0.out
        rw [mixP_congr (Q := fun _ => true) (g := fun j => LA.getD j 0 - tk LA g j) (M := LA) (fun j hj => by simp), hLA] at this
        exact this)
      clear ZI Y0 hLA hLZ
      have HB := Lib.hid hB
      have hB := HB.out
      go_wp2_with fail
      have gH := heap_size
      refine wp_region_held_drew (S := fun w' => Row w' (w2.heap.size) 25 [.int .i32 (tk [a0, a1, a2, a3, a4, a5, a6, a7] g 0), .int .i32 (tk [a0, a1, a2, a3, a4, a5, a6, a7] g 1), .int .i32 (tk [a0, a1, a2, a3, a4, a5, a6, a7] g 2), .int .i32 (tk [a0, a1, a2, a3, a4, a5, a6, a7] g 3), .int .i32 (tk [a0, a1, a2, a3, a4, a5, a6, a7] g 4), .int .i32 (tk [a0, a1, a2, a3, a4, a5, a6, a7] g 5), .int .i32 (tk [a0, a1, a2, a3, a4, a5, a6, a7] g 6), .int .i32 (tk [a0, a1, a2, a3, a4, a5, a6, a7] g 7)] ∧ Row w' (w.heap.size) 25 [.int .i32 (a0 - tk [a0, a1, a2, a3, a4, a5, a6, a7] g 0), .int .i32 (a1 - tk [a0, a1, a2, a3, a4, a5, a6, a7] g 1), .int .i32 (a2 - tk [a0, a1, a2, a3, a4, a5, a6, a7] g 2), .int .i32 (a3 - tk [a0, a1, a2, a3, a4, a5, a6, a7] g 3), .int .i32 (a4 - tk [a0, a1, a2, a3, a4, a5, a6, a7] g 4), .int .i32 (a5 - tk [a0, a1, a2, a3, a4, a5, a6, a7] g 5), .int .i32 (a6 - tk [a0, a1, a2, a3, a4, a5, a6, a7] g 6), .int .i32 (a7 - tk [a0, a1, a2, a3, a4, a5, a6, a7] g 7)] ∧ (∃ M, M.length = 8 ∧ Row w' (w.heap.size + 1) 25 M) ∧ (∃ M, M.length = 8 ∧ Row w' (w.heap.size + 1 + 1) 25 M)) (by kernel_rfl) ⟨X1.out.drew, X2.out.drew, ⟨_, rfl, R1.out.drew⟩, ⟨_, rfl, R2.out.drew⟩⟩ (fun hH => ?_)
      refine wpAnyH_take (i := 0) rfl (by kernel_rfl) (by kernel_rfl) (by kernel_rfl) (fun _ _ _ h => h) (yieldsIf_load_mid (by rfl) _ _ rfl _ _ rfl [.int .i32 (tk [a0, a1, a2, a3, a4, a5, a6, a7] g 0), .int .i32 (tk [a0, a1, a2, a3, a4, a5, a6, a7] g 1), .int .i32 (tk [a0, a1, a2, a3, a4, a5, a6, a7] g 2), .int .i32 (tk [a0, a1, a2, a3, a4, a5, a6, a7] g 3), .int .i32 (tk [a0, a1, a2, a3, a4, a5, a6, a7] g 4), .int .i32 (tk [a0, a1, a2, a3, a4, a5, a6, a7] g 5), .int .i32 (tk [a0, a1, a2, a3, a4, a5, a6, a7] g 6), .int .i32 (tk [a0, a1, a2, a3, a4, a5, a6, a7] g 7)] _ (fun w h => h.1.rangeAt) heap_type rfl gH) hH ?_
      simp only [Act.put, List.getElem_toArray, List.getElem_cons_zero, List.getElem_cons_succ, List.setIfInBounds_toArray, List.set_cons_zero, List.set_cons_succ]
      refine wpAnyH_take (i := 1) rfl (by kernel_rfl) (by kernel_rfl) (by kernel_rfl) (fun _ _ _ h => h) (yieldsIf_load_mid (by rfl) _ _ rfl _ _ rfl [.int .i32 (a0 - tk [a0, a1, a2, a3, a4, a5, a6, a7] g 0), .int .i32 (a1 - tk [a0, a1, a2, a3, a4, a5, a6, a7] g 1), .int .i32 (a2 - tk [a0, a1, a2, a3, a4, a5, a6, a7] g 2), .int .i32 (a3 - tk [a0, a1, a2, a3, a4, a5, a6, a7] g 3), .int .i32 (a4 - tk [a0, a1, a2, a3, a4, a5, a6, a7] g 4), .int .i32 (a5 - tk [a0, a1, a2, a3, a4, a5, a6, a7] g 5), .int .i32 (a6 - tk [a0, a1, a2, a3, a4, a5, a6, a7] g 6), .int .i32 (a7 - tk [a0, a1, a2, a3, a4, a5, a6, a7] g 7)] _ (fun w h => h.2.1.rangeAt) heap_type rfl gH) hH ?_
      simp only [Act.put, List.getElem_toArray, List.getElem_cons_zero, List.getElem_cons_succ, List.setIfInBounds_toArray, List.set_cons_zero, List.set_cons_succ]
      refine wpAnyH_ready (rs := [2]) (by kernel_rfl) (by simp) ?_
      refine AllReadyH.cons rfl (fun K hK => ?_) AllReadyH.nil
      simp only [List.getElem_toArray, List.getElem_cons_zero, List.getElem_cons_succ]
      rw [if_pos (by rfl)]
      refine wp_store_mid _ _ _ rfl _ _ (List.toArray [.int .i32 (tk [a0, a1, a2, a3, a4, a5, a6, a7] g 0), .int .i32 (tk [a0, a1, a2, a3, a4, a5, a6, a7] g 1), .int .i32 (tk [a0, a1, a2, a3, a4, a5, a6, a7] g 2), .int .i32 (tk [a0, a1, a2, a3, a4, a5, a6, a7] g 3), .int .i32 (tk [a0, a1, a2, a3, a4, a5, a6, a7] g 4), .int .i32 (tk [a0, a1, a2, a3, a4, a5, a6, a7] g 5), .int .i32 (tk [a0, a1, a2, a3, a4, a5, a6, a7] g 6), .int .i32 (tk [a0, a1, a2, a3, a4, a5, a6, a7] g 7)]) rfl rfl (by obtain ⟨M, hm, hr⟩ := hH.2.2.1; exact hr.there hm) gH (one8 _ _ _ _ _ _ _ _) ?_
      simp only [List.toList_toArray]
      refine hK.out _ _ ⟨hH.1.setAway (by omega) _ _, hH.2.1.setAway (by omega) _ _, (by obtain ⟨M, hm, hr⟩ := hH.2.2.1; exact ⟨_, rfl, hr.setAll [.int .i32 (tk [a0, a1, a2, a3, a4, a5, a6, a7] g 0), .int .i32 (tk [a0, a1, a2, a3, a4, a5, a6, a7] g 1), .int .i32 (tk [a0, a1, a2, a3, a4, a5, a6, a7] g 2), .int .i32 (tk [a0, a1, a2, a3, a4, a5, a6, a7] g 3), .int .i32 (tk [a0, a1, a2, a3, a4, a5, a6, a7] g 4), .int .i32 (tk [a0, a1, a2, a3, a4, a5, a6, a7] g 5), .int .i32 (tk [a0, a1, a2, a3, a4, a5, a6, a7] g 6), .int .i32 (tk [a0, a1, a2, a3, a4, a5, a6, a7] g 7)] (by rw [hm]; rfl)⟩), (by obtain ⟨M, hm, hr⟩ := hH.2.2.2; exact ⟨M, hm, hr.setAway (by omega) _ _⟩)⟩ (fun hH1 => ?_)
      clear hK K hH
      have hH := hH1; clear hH1
      simp only [Act.put, List.getElem_toArray, List.getElem_cons_zero, List.getElem_cons_succ, List.setIfInBounds_toArray, List.set_cons_zero, List.set_cons_succ]
      have G1 := R1.out.drew.setAll [.int .i32 (tk [a0, a1, a2, a3, a4, a5, a6, a7] g 0), .int .i32 (tk [a0, a1, a2, a3, a4, a5, a6, a7] g 1), .int .i32 (tk [a0, a1, a2, a3, a4, a5, a6, a7] g 2), .int .i32 (tk [a0, a1, a2, a3, a4, a5, a6, a7] g 3), .int .i32 (tk [a0, a1, a2, a3, a4, a5, a6, a7] g 4), .int .i32 (tk [a0, a1, a2, a3, a4, a5, a6, a7] g 5), .int .i32 (tk [a0, a1, a2, a3, a4, a5, a6, a7] g 6), .int .i32 (tk [a0, a1, a2, a3, a4, a5, a6, a7] g 7)] rfl
      have GR := R2.out.drew.setAway (C := w.heap.size + 1) (by omega) [.int .i32 (tk [a0, a1, a2, a3, a4, a5, a6, a7] g 0), .int .i32 (tk [a0, a1, a2, a3, a4, a5, a6, a7] g 1), .int .i32 (tk [a0, a1, a2, a3, a4, a5, a6, a7] g 2), .int .i32 (tk [a0, a1, a2, a3, a4, a5, a6, a7] g 3), .int .i32 (tk [a0, a1, a2, a3, a4, a5, a6, a7] g 4), .int .i32 (tk [a0, a1, a2, a3, a4, a5, a6, a7] g 5), .int .i32 (tk [a0, a1, a2, a3, a4, a5, a6, a7] g 6), .int .i32 (tk [a0, a1, a2, a3, a4, a5, a6, a7] g 7)] 0
      have hB2 := below_setCells (b := w.heap.size) (C := w.heap.size + 1) (by omega) [.int .i32 (tk [a0, a1, a2, a3, a4, a5, a6, a7] g 0), .int .i32 (tk [a0, a1, a2, a3, a4, a5, a6, a7] g 1), .int .i32 (tk [a0, a1, a2, a3, a4, a5, a6, a7] g 2), .int .i32 (tk [a0, a1, a2, a3, a4, a5, a6, a7] g 3), .int .i32 (tk [a0, a1, a2, a3, a4, a5, a6, a7] g 4), .int .i32 (tk [a0, a1, a2, a3, a4, a5, a6, a7] g 5), .int .i32 (tk [a0, a1, a2, a3, a4, a5, a6, a7] g 6), .int .i32 (tk [a0, a1, a2, a3, a4, a5, a6, a7] g 7)] 0 hB.drew
      generalize World.setCells _ (w.heap.size + 1) 0 [.int .i32 (tk [a0, a1, a2, a3, a4, a5, a6, a7] g 0), .int .i32 (tk [a0, a1, a2, a3, a4, a5, a6, a7] g 1), .int .i32 (tk [a0, a1, a2, a3, a4, a5, a6, a7] g 2), .int .i32 (tk [a0, a1, a2, a3, a4, a5, a6, a7] g 3), .int .i32 (tk [a0, a1, a2, a3, a4, a5, a6, a7] g 4), .int .i32 (tk [a0, a1, a2, a3, a4, a5, a6, a7] g 5), .int .i32 (tk [a0, a1, a2, a3, a4, a5, a6, a7] g 6), .int .i32 (tk [a0, a1, a2, a3, a4, a5, a6, a7] g 7)] = ww at G1 GR hB2 hH ⊢
      refine wpAnyH_ready (rs := [3]) (by kernel_rfl) (by simp) ?_
      refine AllReadyH.cons rfl (fun K hK => ?_) AllReadyH.nil
      simp only [List.getElem_toArray, List.getElem_cons_zero, List.getElem_cons_succ]
      rw [if_pos (by rfl)]
      refine wp_store_mid _ _ _ rfl _ _ (List.toArray [.int .i32 (a0 - tk [a0, a1, a2, a3, a4, a5, a6, a7] g 0), .int .i32 (a1 - tk [a0, a1, a2, a3, a4, a5, a6, a7] g 1), .int .i32 (a2 - tk [a0, a1, a2, a3, a4, a5, a6, a7] g 2), .int .i32 (a3 - tk [a0, a1, a2, a3, a4, a5, a6, a7] g 3), .int .i32 (a4 - tk [a0, a1, a2, a3, a4, a5, a6, a7] g 4), .int .i32 (a5 - tk [a0, a1, a2, a3, a4, a5, a6, a7] g 5), .int .i32 (a6 - tk [a0, a1, a2, a3, a4, a5, a6, a7] g 6), .int .i32 (a7 - tk [a0, a1, a2, a3, a4, a5, a6, a7] g 7)]) rfl rfl (by obtain ⟨M, hm, hr⟩ := hH.2.2.2; exact hr.there hm) gH (one8 _ _ _ _ _ _ _ _) ?_
      simp only [List.toList_toArray]
      refine hK.out _ _ ⟨hH.1.setAway (by omega) _ _, hH.2.1.setAway (by omega) _ _, (by obtain ⟨M, hm, hr⟩ := hH.2.2.1; exact ⟨M, hm, hr.setAway (by omega) _ _⟩), (by obtain ⟨M, hm, hr⟩ := hH.2.2.2; exact ⟨_, rfl, hr.setAll [.int .i32 (a0 - tk [a0, a1, a2, a3, a4, a5, a6, a7] g 0), .int .i32 (a1 - tk [a0, a1, a2, a3, a4, a5, a6, a7] g 1), .int .i32 (a2 - tk [a0, a1, a2, a3, a4, a5, a6, a7] g 2), .int .i32 (a3 - tk [a0, a1, a2, a3, a4, a5, a6, a7] g 3), .int .i32 (a4 - tk [a0, a1, a2, a3, a4, a5, a6, a7] g 4), .int .i32 (a5 - tk [a0, a1, a2, a3, a4, a5, a6, a7] g 5), .int .i32 (a6 - tk [a0, a1, a2, a3, a4, a5, a6, a7] g 6), .int .i32 (a7 - tk [a0, a1, a2, a3, a4, a5, a6, a7] g 7)] (by rw [hm]; rfl)⟩)⟩ (fun hH1 => ?_)
      clear hK K hH
      have hH := hH1; clear hH1
      simp only [Act.put, List.getElem_toArray, List.getElem_cons_zero, List.getElem_cons_succ, List.setIfInBounds_toArray, List.set_cons_zero, List.set_cons_succ]
      replace G1 := G1.setAway (C := w.heap.size + 1 + 1) (by omega) [.int .i32 (a0 - tk [a0, a1, a2, a3, a4, a5, a6, a7] g 0), .int .i32 (a1 - tk [a0, a1, a2, a3, a4, a5, a6, a7] g 1), .int .i32 (a2 - tk [a0, a1, a2, a3, a4, a5, a6, a7] g 2), .int .i32 (a3 - tk [a0, a1, a2, a3, a4, a5, a6, a7] g 3), .int .i32 (a4 - tk [a0, a1, a2, a3, a4, a5, a6, a7] g 4), .int .i32 (a5 - tk [a0, a1, a2, a3, a4, a5, a6, a7] g 5), .int .i32 (a6 - tk [a0, a1, a2, a3, a4, a5, a6, a7] g 6), .int .i32 (a7 - tk [a0, a1, a2, a3, a4, a5, a6, a7] g 7)] 0
      have G2 := GR.setAll [.int .i32 (a0 - tk [a0, a1, a2, a3, a4, a5, a6, a7] g 0), .int .i32 (a1 - tk [a0, a1, a2, a3, a4, a5, a6, a7] g 1), .int .i32 (a2 - tk [a0, a1, a2, a3, a4, a5, a6, a7] g 2), .int .i32 (a3 - tk [a0, a1, a2, a3, a4, a5, a6, a7] g 3), .int .i32 (a4 - tk [a0, a1, a2, a3, a4, a5, a6, a7] g 4), .int .i32 (a5 - tk [a0, a1, a2, a3, a4, a5, a6, a7] g 5), .int .i32 (a6 - tk [a0, a1, a2, a3, a4, a5, a6, a7] g 6), .int .i32 (a7 - tk [a0, a1, a2, a3, a4, a5, a6, a7] g 7)] rfl
      replace hB2 := below_setCells (b := w.heap.size) (C := w.heap.size + 1 + 1) (by omega) [.int .i32 (a0 - tk [a0, a1, a2, a3, a4, a5, a6, a7] g 0), .int .i32 (a1 - tk [a0, a1, a2, a3, a4, a5, a6, a7] g 1), .int .i32 (a2 - tk [a0, a1, a2, a3, a4, a5, a6, a7] g 2), .int .i32 (a3 - tk [a0, a1, a2, a3, a4, a5, a6, a7] g 3), .int .i32 (a4 - tk [a0, a1, a2, a3, a4, a5, a6, a7] g 4), .int .i32 (a5 - tk [a0, a1, a2, a3, a4, a5, a6, a7] g 5), .int .i32 (a6 - tk [a0, a1, a2, a3, a4, a5, a6, a7] g 6), .int .i32 (a7 - tk [a0, a1, a2, a3, a4, a5, a6, a7] g 7)] 0 hB2
      clear GR
      generalize World.setCells _ (w.heap.size + 1 + 1) 0 [.int .i32 (a0 - tk [a0, a1, a2, a3, a4, a5, a6, a7] g 0), .int .i32 (a1 - tk [a0, a1, a2, a3, a4, a5, a6, a7] g 1), .int .i32 (a2 - tk [a0, a1, a2, a3, a4, a5, a6, a7] g 2), .int .i32 (a3 - tk [a0, a1, a2, a3, a4, a5, a6, a7] g 3), .int .i32 (a4 - tk [a0, a1, a2, a3, a4, a5, a6, a7] g 4), .int .i32 (a5 - tk [a0, a1, a2, a3, a4, a5, a6, a7] g 5), .int .i32 (a6 - tk [a0, a1, a2, a3, a4, a5, a6, a7] g 6), .int .i32 (a7 - tk [a0, a1, a2, a3, a4, a5, a6, a7] g 7)] = ww2 at G1 G2 hB2 hH ⊢
      refine wpAnyH_take (i := 4) (v := .int .i64 0) rfl (by kernel_rfl) (by kernel_rfl) (by kernel_rfl) (fun _ _ _ h => h) (Or.inl ⟨by rfl, fun w h => by go_simp⟩) hH ?_
      simp only [Act.put, List.getElem_toArray, List.getElem_cons_zero, List.getElem_cons_succ, List.setIfInBounds_toArray, List.set_cons_zero, List.set_cons_succ]
      refine wpAnyH_done (by kernel_rfl) ?_ _
      clear hH
      obtain ⟨s1_0, s1_1, s1_2, s1_3, s1_4, s1_5, s1_6, s1_7⟩ := G1.cells8
      obtain ⟨s2_0, s2_1, s2_2, s2_3, s2_4, s2_5, s2_6, s2_7⟩ := G2.cells8
      clear G1 G2
      go_wp2_with fail
      refine bodyPost_ret (v := .tuple #[.agg #[.int .i32 (tk [a0, a1, a2, a3, a4, a5, a6, a7] g 0), .int .i32 (tk [a0, a1, a2, a3, a4, a5, a6, a7] g 1), .int .i32 (tk [a0, a1, a2, a3, a4, a5, a6, a7] g 2), .int .i32 (tk [a0, a1, a2, a3, a4, a5, a6, a7] g 3), .int .i32 (tk [a0, a1, a2, a3, a4, a5, a6, a7] g 4), .int .i32 (tk [a0, a1, a2, a3, a4, a5, a6, a7] g 5), .int .i32 (tk [a0, a1, a2, a3, a4, a5, a6, a7] g 6), .int .i32 (tk [a0, a1, a2, a3, a4, a5, a6, a7] g 7)], .agg #[.int .i32 (a0 - tk [a0, a1, a2, a3, a4, a5, a6, a7] g 0), .int .i32 (a1 - tk [a0, a1, a2, a3, a4, a5, a6, a7] g 1), .int .i32 (a2 - tk [a0, a1, a2, a3, a4, a5, a6, a7] g 2), .int .i32 (a3 - tk [a0, a1, a2, a3, a4, a5, a6, a7] g 3), .int .i32 (a4 - tk [a0, a1, a2, a3, a4, a5, a6, a7] g 4), .int .i32 (a5 - tk [a0, a1, a2, a3, a4, a5, a6, a7] g 5), .int .i32 (a6 - tk [a0, a1, a2, a3, a4, a5, a6, a7] g 6), .int .i32 (a7 - tk [a0, a1, a2, a3, a4, a5, a6, a7] g 7)], .int .i64 0]) (by simp [results, Tryz.results13, go_sem, s1_0, s1_1, s1_2, s1_3, s1_4, s1_5, s1_6, s1_7, s2_0, s2_1, s2_2, s2_3, s2_4, s2_5, s2_6, s2_7]) rfl ⟨by rw [HC.out]; simp [jn], hB2⟩
end Go.Proofs.YtbkhlcbnnjgdpaaGreatDoor
