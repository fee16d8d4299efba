/- Contracts: JoinHeaps. -/
import Derived.Test.YtbkhlcbnnjgdpaaGreatDoorBh
import Derived.Test.YtbkhlcbnnjgdpaaGreatDoorBa
namespace Go.Proofs.YtbkhlcbnnjgdpaaGreatDoor
open Go.RowKit
set_option linter.unusedVariables false
set_option linter.unusedSimpArgs false
theorem heapOk_bounds {a0 a1 a2 a3 a4 a5 a6 a7 : Int} (h : heapOk [a0, a1, a2, a3, a4, a5, a6, a7] = true) : (0 ≤ a0 ∧ a0 ≤ 1000) ∧ (0 ≤ a1 ∧ a1 ≤ 1000) ∧ (0 ≤ a2 ∧ a2 ≤ 1000) ∧ (0 ≤ a3 ∧ a3 ≤ 1000) ∧ (0 ≤ a4 ∧ a4 ≤ 1000) ∧ (0 ≤ a5 ∧ a5 ≤ 1000) ∧ (0 ≤ a6 ∧ a6 ≤ 1000) ∧ (0 ≤ a7 ∧ a7 ≤ 1000) := by
  simpa [heapOk, inB] using h
theorem wf_i32 {n : Int} (h : -2147483648 ≤ n ∧ n ≤ 2147483647) : (Lit.int .i32 n).wf = true := by
  simp [Lit.wf, IntKind.min, IntKind.max, IntKind.signed, IntKind.bits]
  omega
theorem hid_wf8 {a0 a1 a2 a3 a4 a5 a6 a7 : Int} (h : (-2147483648 ≤ a0 ∧ a0 ≤ 2147483647) ∧ (-2147483648 ≤ a1 ∧ a1 ≤ 2147483647) ∧ (-2147483648 ≤ a2 ∧ a2 ≤ 2147483647) ∧ (-2147483648 ≤ a3 ∧ a3 ≤ 2147483647) ∧ (-2147483648 ≤ a4 ∧ a4 ≤ 2147483647) ∧ (-2147483648 ≤ a5 ∧ a5 ≤ 2147483647) ∧ (-2147483648 ≤ a6 ∧ a6 ≤ 2147483647) ∧ (-2147483648 ≤ a7 ∧ a7 ≤ 2147483647)) : Hid (∀ x ∈ [a0, a1, a2, a3, a4, a5, a6, a7], (Lit.int .i32 x).wf = true) := by
  obtain ⟨h0, h1, h2, h3, h4, h5, h6, h7⟩ := h
  refine Lib.hid fun x hx => ?_
  simp only [List.mem_cons, List.not_mem_nil, or_false] at hx
  rcases hx with rfl | rfl | rfl | rfl | rfl | rfl | rfl | rfl
  all_goals exact wf_i32 (by assumption)
def joC (A B : List Int) : Int := if heapOk A = false then 1 else if heapOk B = false then 1 else if heapOk (List.zipWith (· + ·) A B) = false then 3 else 0
set_option maxHeartbeats 4000000 in
theorem sumOf_any (a0 a1 a2 a3 a4 a5 a6 a7 b0 b1 b2 b3 b4 b5 b6 b7 : Int) (w : World) (d0 : 0 ≤ a0 ∧ a0 ≤ 1000000) (e0 : 0 ≤ b0 ∧ b0 ≤ 1000) (d1 : 0 ≤ a1 ∧ a1 ≤ 1000000) (e1 : 0 ≤ b1 ∧ b1 ≤ 1000) (d2 : 0 ≤ a2 ∧ a2 ≤ 1000000) (e2 : 0 ≤ b2 ∧ b2 ≤ 1000) (d3 : 0 ≤ a3 ∧ a3 ≤ 1000000) (e3 : 0 ≤ b3 ∧ b3 ≤ 1000) (d4 : 0 ≤ a4 ∧ a4 ≤ 1000000) (e4 : 0 ≤ b4 ∧ b4 ≤ 1000) (d5 : 0 ≤ a5 ∧ a5 ≤ 1000000) (e5 : 0 ≤ b5 ∧ b5 ≤ 1000) (d6 : 0 ≤ a6 ∧ a6 ≤ 1000000) (e6 : 0 ≤ b6 ∧ b6 ≤ 1000) (d7 : 0 ≤ a7 ∧ a7 ≤ 1000000) (e7 : 0 ≤ b7 ∧ b7 ≤ 1000) :
    Calls Tryz.prog 43 #[.agg #[.int .i32 a0, .int .i32 a1, .int .i32 a2, .int .i32 a3, .int .i32 a4, .int .i32 a5, .int .i32 a6, .int .i32 a7], .agg #[.int .i32 b0, .int .i32 b1, .int .i32 b2, .int .i32 b3, .int .i32 b4, .int .i32 b5, .int .i32 b6, .int .i32 b7]] w fun e w' => e = .returned (.agg #[.int .i32 (a0 + b0), .int .i32 (a1 + b1), .int .i32 (a2 + b2), .int .i32 (a3 + b3), .int .i32 (a4 + b4), .int .i32 (a5 + b5), .int .i32 (a6 + b6), .int .i32 (a7 + b7)]) ∧ Below w.heap.size w w' := by
  obtain ⟨i0, i1, i2, i3, i4, i5, i6, i7⟩ := idxH b0 b1 b2 b3 b4 b5 b6 b7
  go_enter Tryz.func43, Tryz.ntmps43
  go_wp2_with fail
  go_rounds 9
  go_returns
  exact ⟨rfl, by go_grown⟩
set_option maxHeartbeats 4000000 in
theorem iJoinHeaps (a0 a1 a2 a3 a4 a5 a6 a7 b0 b1 b2 b3 b4 b5 b6 b7 : Int) (w : World) (ha : Hid (∀ x ∈ [a0, a1, a2, a3, a4, a5, a6, a7], (Lit.int .i32 x).wf = true)) (hq : Hid (∀ x ∈ [b0, b1, b2, b3, b4, b5, b6, b7], (Lit.int .i32 x).wf = true)) :
    Calls Tryz.prog 12 #[.agg #[.int .i32 a0, .int .i32 a1, .int .i32 a2, .int .i32 a3, .int .i32 a4, .int .i32 a5, .int .i32 a6, .int .i32 a7], .agg #[.int .i32 b0, .int .i32 b1, .int .i32 b2, .int .i32 b3, .int .i32 b4, .int .i32 b5, .int .i32 b6, .int .i32 b7]] w fun e w' => e = .returned (.tuple #[.agg #[.int .i32 (jn (joC [a0, a1, a2, a3, a4, a5, a6, a7] [b0, b1, b2, b3, b4, b5, b6, b7]) (a0 + b0)), .int .i32 (jn (joC [a0, a1, a2, a3, a4, a5, a6, a7] [b0, b1, b2, b3, b4, b5, b6, b7]) (a1 + b1)), .int .i32 (jn (joC [a0, a1, a2, a3, a4, a5, a6, a7] [b0, b1, b2, b3, b4, b5, b6, b7]) (a2 + b2)), .int .i32 (jn (joC [a0, a1, a2, a3, a4, a5, a6, a7] [b0, b1, b2, b3, b4, b5, b6, b7]) (a3 + b3)), .int .i32 (jn (joC [a0, a1, a2, a3, a4, a5, a6, a7] [b0, b1, b2, b3, b4, b5, b6, b7]) (a4 + b4)), .int .i32 (jn (joC [a0, a1, a2, a3, a4, a5, a6, a7] [b0, b1, b2, b3, b4, b5, b6, b7]) (a5 + b5)), .int .i32 (jn (joC [a0, a1, a2, a3, a4, a5, a6, a7] [b0, b1, b2, b3, b4, b5, b6, b7]) (a6 + b6)), .int .i32 (jn (joC [a0, a1, a2, a3, a4, a5, a6, a7] [b0, b1, b2, b3, b4, b5, b6, b7]) (a7 + b7))], .int .i64 (joC [a0, a1, a2, a3, a4, a5, a6, a7] [b0, b1, b2, b3, b4, b5, b6, b7])]) ∧ Below w.heap.size w w' := by
  have X0 : Hid (Row (((w.alloc (.cells #[.int .i32 a0, .int .i32 a1, .int .i32 a2, .int .i32 a3, .int .i32 a4, .int .i32 a5, .int .i32 a6, .int .i32 a7] 25)).alloc (.cells #[.int .i32 b0, .int .i32 b1, .int .i32 b2, .int .i32 b3, .int .i32 b4, .int .i32 b5, .int .i32 b6, .int .i32 b7] 25)).alloc (.cells #[.int .i32 0, .int .i32 0, .int .i32 0, .int .i32 0, .int .i32 0, .int .i32 0, .int .i32 0, .int .i32 0] 25)) w.heap.size 25 [.int .i32 a0, .int .i32 a1, .int .i32 a2, .int .i32 a3, .int .i32 a4, .int .i32 a5, .int .i32 a6, .int .i32 a7]) := Lib.hid (((Row.alloc w [.int .i32 a0, .int .i32 a1, .int .i32 a2, .int .i32 a3, .int .i32 a4, .int .i32 a5, .int .i32 a6, .int .i32 a7] 25).below (below_alloc1 _ (.cells #[.int .i32 b0, .int .i32 b1, .int .i32 b2, .int .i32 b3, .int .i32 b4, .int .i32 b5, .int .i32 b6, .int .i32 b7] 25))).below (below_alloc1 _ (.cells #[.int .i32 0, .int .i32 0, .int .i32 0, .int .i32 0, .int .i32 0, .int .i32 0, .int .i32 0, .int .i32 0] 25)))
  have X1 : Hid (Row (((w.alloc (.cells #[.int .i32 a0, .int .i32 a1, .int .i32 a2, .int .i32 a3, .int .i32 a4, .int .i32 a5, .int .i32 a6, .int .i32 a7] 25)).alloc (.cells #[.int .i32 b0, .int .i32 b1, .int .i32 b2, .int .i32 b3, .int .i32 b4, .int .i32 b5, .int .i32 b6, .int .i32 b7] 25)).alloc (.cells #[.int .i32 0, .int .i32 0, .int .i32 0, .int .i32 0, .int .i32 0, .int .i32 0, .int .i32 0, .int .i32 0] 25)) (w.heap.size + 1) 25 [.int .i32 b0, .int .i32 b1, .int .i32 b2, .int .i32 b3, .int .i32 b4, .int .i32 b5, .int .i32 b6, .int .i32 b7]) := Lib.hid (by have := (Row.alloc (w.alloc (.cells #[.int .i32 a0, .int .i32 a1, .int .i32 a2, .int .i32 a3, .int .i32 a4, .int .i32 a5, .int .i32 a6, .int .i32 a7] 25)) [.int .i32 b0, .int .i32 b1, .int .i32 b2, .int .i32 b3, .int .i32 b4, .int .i32 b5, .int .i32 b6, .int .i32 b7] 25).below (below_alloc1 _ (.cells #[.int .i32 0, .int .i32 0, .int .i32 0, .int .i32 0, .int .i32 0, .int .i32 0, .int .i32 0, .int .i32 0] 25)); simp only [World.size_alloc] at this; exact this)
  have XR : Hid (Row (((w.alloc (.cells #[.int .i32 a0, .int .i32 a1, .int .i32 a2, .int .i32 a3, .int .i32 a4, .int .i32 a5, .int .i32 a6, .int .i32 a7] 25)).alloc (.cells #[.int .i32 b0, .int .i32 b1, .int .i32 b2, .int .i32 b3, .int .i32 b4, .int .i32 b5, .int .i32 b6, .int .i32 b7] 25)).alloc (.cells #[.int .i32 0, .int .i32 0, .int .i32 0, .int .i32 0, .int .i32 0, .int .i32 0, .int .i32 0, .int .i32 0] 25)) (w.heap.size + 2) 25 [.int .i32 0, .int .i32 0, .int .i32 0, .int .i32 0, .int .i32 0, .int .i32 0, .int .i32 0, .int .i32 0]) := Lib.hid (by have := Row.alloc ((w.alloc (.cells #[.int .i32 a0, .int .i32 a1, .int .i32 a2, .int .i32 a3, .int .i32 a4, .int .i32 a5, .int .i32 a6, .int .i32 a7] 25)).alloc (.cells #[.int .i32 b0, .int .i32 b1, .int .i32 b2, .int .i32 b3, .int .i32 b4, .int .i32 b5, .int .i32 b6, .int .i32 b7] 25)) [.int .i32 0, .int .i32 0, .int .i32 0, .int .i32 0, .int .i32 0, .int .i32 0, .int .i32 0, .int .i32 0] 25; simp only [World.size_alloc] at this; exact this)
  have HB : Hid (Below w.heap.size w (((w.alloc (.cells #[.int .i32 a0, .int .i32 a1, .int .i32 a2, .int .i32 a3, .int .i32 a4, .int .i32 a5, .int .i32 a6, .int .i32 a7] 25)).alloc (.cells #[.int .i32 b0, .int .i32 b1, .int .i32 b2, .int .i32 b3, .int .i32 b4, .int .i32 b5, .int .i32 b6, .int .i32 b7] 25)).alloc (.cells #[.int .i32 0, .int .i32 0, .int .i32 0, .int .i32 0, .int .i32 0, .int .i32 0, .int .i32 0, .int .i32 0] 25))) := Lib.hid (by go_grown)
  cases h1 : heapOk [a0, a1, a2, a3, a4, a5, a6, a7]
  · go_enter Tryz.func12, Tryz.ntmps12
    go_wp2_with fail
    refine (iValidHeap a0 a1 a2 a3 a4 a5 a6 a7 _ ha).mono ?_
    rintro e w1 ⟨rfl, hb⟩
    rw [h1]
    replace HB := Lib.hid (below_then HB.out HB.out.size hb)
    replace X0 := Lib.hid (X0.out.below hb)
    replace X1 := Lib.hid (X1.out.below hb)
    replace XR := Lib.hid (XR.out.below hb)
    have hz1 := hb.size
    (try simp only [World.size_alloc] at hz1)
    clear hb
    have hB := HB.out
    have c0 := XR.out.cell 0
    have c1 := XR.out.cell 1
    have c2 := XR.out.cell 2
    have c3 := XR.out.cell 3
    have c4 := XR.out.cell 4
    have c5 := XR.out.cell 5
    have c6 := XR.out.cell 6
    have c7 := XR.out.cell 7
    simp only [List.getElem?_cons_zero, List.getElem?_cons_succ] at c0 c1 c2 c3 c4 c5 c6 c7
    have f0 := XR.out.frozen 0
    have f1 := XR.out.frozen 1
    have f2 := XR.out.frozen 2
    have f3 := XR.out.frozen 3
    have f4 := XR.out.frozen 4
    have f5 := XR.out.frozen 5
    have f6 := XR.out.frozen 6
    have f7 := XR.out.frozen 7
    have S8 := XR.out.set8 (.int .i32 0) (.int .i32 0) (.int .i32 0) (.int .i32 0) (.int .i32 0) (.int .i32 0) (.int .i32 0) (.int .i32 0)
    have s0 := S8.cell 0
    have s1 := S8.cell 1
    have s2 := S8.cell 2
    have s3 := S8.cell 3
    have s4 := S8.cell 4
    have s5 := S8.cell 5
    have s6 := S8.cell 6
    have s7 := S8.cell 7
    simp only [List.getElem?_cons_zero, List.getElem?_cons_succ] at s0 s1 s2 s3 s4 s5 s6 s7
    clear S8
    go_wp2_with fail
    refine bodyPost_ret (v := .tuple #[.agg #[.int .i32 0, .int .i32 0, .int .i32 0, .int .i32 0, .int .i32 0, .int .i32 0, .int .i32 0, .int .i32 0], .int .i64 1]) (by simp [results, Tryz.results12, go_sem, s0, s1, s2, s3, s4, s5, s6, s7]) rfl ⟨by simp [joC, jn, h1], by go_grown⟩
  cases h2 : heapOk [b0, b1, b2, b3, b4, b5, b6, b7]
  · go_enter Tryz.func12, Tryz.ntmps12
    go_wp2_with fail
    refine (iValidHeap a0 a1 a2 a3 a4 a5 a6 a7 _ ha).mono ?_
    rintro e w1 ⟨rfl, hb⟩
    rw [h1]
    replace HB := Lib.hid (below_then HB.out HB.out.size hb)
    replace X0 := Lib.hid (X0.out.below hb)
    replace X1 := Lib.hid (X1.out.below hb)
    replace XR := Lib.hid (XR.out.below hb)
    have hz1 := hb.size
    (try simp only [World.size_alloc] at hz1)
    clear hb
    have g0 := X1.out.cell 0
    have g1 := X1.out.cell 1
    have g2 := X1.out.cell 2
    have g3 := X1.out.cell 3
    have g4 := X1.out.cell 4
    have g5 := X1.out.cell 5
    have g6 := X1.out.cell 6
    have g7 := X1.out.cell 7
    simp only [List.getElem?_cons_zero, List.getElem?_cons_succ] at g0 g1 g2 g3 g4 g5 g6 g7
    go_wp2_with fail
    refine (iValidHeap b0 b1 b2 b3 b4 b5 b6 b7 _ hq).mono ?_
    rintro e w2 ⟨rfl, hb⟩
    rw [h2]
    clear g0 g1 g2 g3 g4 g5 g6 g7
    replace HB := Lib.hid (below_then HB.out HB.out.size hb)
    replace X0 := Lib.hid (X0.out.below hb)
    replace X1 := Lib.hid (X1.out.below hb)
    replace XR := Lib.hid (XR.out.below hb)
    have hz2 := hb.size
    (try simp only [World.size_alloc] at hz2)
    clear hb
    have hB := HB.out
    have c0 := XR.out.cell 0
    have c1 := XR.out.cell 1
    have c2 := XR.out.cell 2
    have c3 := XR.out.cell 3
    have c4 := XR.out.cell 4
    have c5 := XR.out.cell 5
    have c6 := XR.out.cell 6
    have c7 := XR.out.cell 7
    simp only [List.getElem?_cons_zero, List.getElem?_cons_succ] at c0 c1 c2 c3 c4 c5 c6 c7
    have f0 := XR.out.frozen 0
    have f1 := XR.out.frozen 1
    have f2 := XR.out.frozen 2
    have f3 := XR.out.frozen 3
    have f4 := XR.out.frozen 4
    have f5 := XR.out.frozen 5
    have f6 := XR.out.frozen 6
    have f7 := XR.out.frozen 7
    have S8 := XR.out.set8 (.int .i32 0) (.int .i32 0) (.int .i32 0) (.int .i32 0) (.int .i32 0) (.int .i32 0) (.int .i32 0) (.int .i32 0)
    have s0 := S8.cell 0
    have s1 := S8.cell 1
    have s2 := S8.cell 2
    have s3 := S8.cell 3
    have s4 := S8.cell 4
    have s5 := S8.cell 5
    have s6 := S8.cell 6
    have s7 := S8.cell 7
    simp only [List.getElem?_cons_zero, List.getElem?_cons_succ] at s0 s1 s2 s3 s4 s5 s6 s7
    clear S8
    go_wp2_with fail
    refine bodyPost_ret (v := .tuple #[.agg #[.int .i32 0, .int .i32 0, .int .i32 0, .int .i32 0, .int .i32 0, .int .i32 0, .int .i32 0, .int .i32 0], .int .i64 1]) (by simp [results, Tryz.results12, go_sem, s0, s1, s2, s3, s4, s5, s6, s7]) rfl ⟨by simp [joC, jn, h1, h2], by go_grown⟩
  obtain ⟨d0, d1, d2, d3, d4, d5, d6, d7⟩ := heapOk_bounds h1
  obtain ⟨e0, e1, e2, e3, e4, e5, e6, e7⟩ := heapOk_bounds h2
  have hs : Hid (∀ x ∈ [a0 + b0, a1 + b1, a2 + b2, a3 + b3, a4 + b4, a5 + b5, a6 + b6, a7 + b7], (Lit.int .i32 x).wf = true) := hid_wf8 ⟨by omega, by omega, by omega, by omega, by omega, by omega, by omega, by omega⟩
  have D0 : Hid (0 ≤ a0 ∧ a0 ≤ 1000000) := Lib.hid (by omega)
  have E0 : Hid (0 ≤ b0 ∧ b0 ≤ 1000) := Lib.hid (by omega)
  have D1 : Hid (0 ≤ a1 ∧ a1 ≤ 1000000) := Lib.hid (by omega)
  have E1 : Hid (0 ≤ b1 ∧ b1 ≤ 1000) := Lib.hid (by omega)
  have D2 : Hid (0 ≤ a2 ∧ a2 ≤ 1000000) := Lib.hid (by omega)
  have E2 : Hid (0 ≤ b2 ∧ b2 ≤ 1000) := Lib.hid (by omega)
  have D3 : Hid (0 ≤ a3 ∧ a3 ≤ 1000000) := Lib.hid (by omega)
  have E3 : Hid (0 ≤ b3 ∧ b3 ≤ 1000) := Lib.hid (by omega)
  have D4 : Hid (0 ≤ a4 ∧ a4 ≤ 1000000) := Lib.hid (by omega)
  have E4 : Hid (0 ≤ b4 ∧ b4 ≤ 1000) := Lib.hid (by omega)
  have D5 : Hid (0 ≤ a5 ∧ a5 ≤ 1000000) := Lib.hid (by omega)
  have E5 : Hid (0 ≤ b5 ∧ b5 ≤ 1000) := Lib.hid (by omega)
  have D6 : Hid (0 ≤ a6 ∧ a6 ≤ 1000000) := Lib.hid (by omega)
  have E6 : Hid (0 ≤ b6 ∧ b6 ≤ 1000) := Lib.hid (by omega)
  have D7 : Hid (0 ≤ a7 ∧ a7 ≤ 1000000) := Lib.hid (by omega)
  have E7 : Hid (0 ≤ b7 ∧ b7 ≤ 1000) := Lib.hid (by omega)
  clear d0 d1 d2 d3 d4 d5 d6 d7
  clear e0 e1 e2 e3 e4 e5 e6 e7
  cases h3 : heapOk [a0 + b0, a1 + b1, a2 + b2, a3 + b3, a4 + b4, a5 + b5, a6 + b6, a7 + b7]
  · have hc : joC [a0, a1, a2, a3, a4, a5, a6, a7] [b0, b1, b2, b3, b4, b5, b6, b7] = 3 := by simp [joC, h1, h2, h3]
    have H3 := Lib.hid h3; clear h3
    have HC := Lib.hid hc; clear hc
    go_enter Tryz.func12, Tryz.ntmps12
    go_wp2_with fail
    refine (iValidHeap a0 a1 a2 a3 a4 a5 a6 a7 _ ha).mono ?_
    rintro e w1 ⟨rfl, hb⟩
    rw [h1]
    replace HB := Lib.hid (below_then HB.out HB.out.size hb)
    replace X0 := Lib.hid (X0.out.below hb)
    replace X1 := Lib.hid (X1.out.below hb)
    replace XR := Lib.hid (XR.out.below hb)
    have hz1 := hb.size
    (try simp only [World.size_alloc] at hz1)
    clear hb
    have g0 := X1.out.cell 0
    have g1 := X1.out.cell 1
    have g2 := X1.out.cell 2
    have g3 := X1.out.cell 3
    have g4 := X1.out.cell 4
    have g5 := X1.out.cell 5
    have g6 := X1.out.cell 6
    have g7 := X1.out.cell 7
    simp only [List.getElem?_cons_zero, List.getElem?_cons_succ] at g0 g1 g2 g3 g4 g5 g6 g7
    go_wp2_with fail
    refine (iValidHeap b0 b1 b2 b3 b4 b5 b6 b7 _ hq).mono ?_
    rintro e w2 ⟨rfl, hb⟩
    rw [h2]
    clear g0 g1 g2 g3 g4 g5 g6 g7
    replace HB := Lib.hid (below_then HB.out HB.out.size hb)
    replace X0 := Lib.hid (X0.out.below hb)
    replace X1 := Lib.hid (X1.out.below hb)
    replace XR := Lib.hid (XR.out.below hb)
    have hz2 := hb.size
    (try simp only [World.size_alloc] at hz2)
    clear hb
    have k0 := X0.out.cell 0
    have k1 := X0.out.cell 1
    have k2 := X0.out.cell 2
    have k3 := X0.out.cell 3
    have k4 := X0.out.cell 4
    have k5 := X0.out.cell 5
    have k6 := X0.out.cell 6
    have k7 := X0.out.cell 7
    simp only [List.getElem?_cons_zero, List.getElem?_cons_succ] at k0 k1 k2 k3 k4 k5 k6 k7
    have g0 := X1.out.cell 0
    have g1 := X1.out.cell 1
    have g2 := X1.out.cell 2
    have g3 := X1.out.cell 3
    have g4 := X1.out.cell 4
    have g5 := X1.out.cell 5
    have g6 := X1.out.cell 6
    have g7 := X1.out.cell 7
    simp only [List.getElem?_cons_zero, List.getElem?_cons_succ] at g0 g1 g2 g3 g4 g5 g6 g7
    go_wp2_with fail
    refine (sumOf_any a0 a1 a2 a3 a4 a5 a6 a7 b0 b1 b2 b3 b4 b5 b6 b7 _ D0.out E0.out D1.out E1.out D2.out E2.out D3.out E3.out D4.out E4.out D5.out E5.out D6.out E6.out D7.out E7.out).mono ?_
    rintro e w3 ⟨rfl, hb⟩
    clear g0 g1 g2 g3 g4 g5 g6 g7 k0 k1 k2 k3 k4 k5 k6 k7
    replace HB := Lib.hid (below_then HB.out HB.out.size hb)
    replace X0 := Lib.hid (X0.out.below hb)
    replace X1 := Lib.hid (X1.out.below hb)
    replace XR := Lib.hid (XR.out.below hb)
    have hz3 := hb.size
    (try simp only [World.size_alloc] at hz3)
    clear hb
    go_wp2_with fail
    refine (iValidHeap (a0 + b0) (a1 + b1) (a2 + b2) (a3 + b3) (a4 + b4) (a5 + b5) (a6 + b6) (a7 + b7) _ hs).mono ?_
    rintro e w4 ⟨rfl, hb⟩
    rw [H3.out]
    replace HB := Lib.hid (below_then HB.out HB.out.size hb)
    replace X0 := Lib.hid (X0.out.below hb)
    replace X1 := Lib.hid (X1.out.below hb)
    replace XR := Lib.hid (XR.out.below hb)
    have hz4 := hb.size
    (try simp only [World.size_alloc] at hz4)
    clear hb
    have hB := HB.out
    have c0 := XR.out.cell 0
    have c1 := XR.out.cell 1
    have c2 := XR.out.cell 2
    have c3 := XR.out.cell 3
    have c4 := XR.out.cell 4
    have c5 := XR.out.cell 5
    have c6 := XR.out.cell 6
    have c7 := XR.out.cell 7
    simp only [List.getElem?_cons_zero, List.getElem?_cons_succ] at c0 c1 c2 c3 c4 c5 c6 c7
    have f0 := XR.out.frozen 0
    have f1 := XR.out.frozen 1
    have f2 := XR.out.frozen 2
    have f3 := XR.out.frozen 3
    have f4 := XR.out.frozen 4
    have f5 := XR.out.frozen 5
    have f6 := XR.out.frozen 6
    have f7 := XR.out.frozen 7
    have S8 := XR.out.set8 (.int .i32 0) (.int .i32 0) (.int .i32 0) (.int .i32 0) (.int .i32 0) (.int .i32 0) (.int .i32 0) (.int .i32 0)
    have s0 := S8.cell 0
    have s1 := S8.cell 1
    have s2 := S8.cell 2
    have s3 := S8.cell 3
    have s4 := S8.cell 4
    have s5 := S8.cell 5
    have s6 := S8.cell 6
    have s7 := S8.cell 7
    simp only [List.getElem?_cons_zero, List.getElem?_cons_succ] at s0 s1 s2 s3 s4 s5 s6 s7
    clear S8
    go_wp2_with fail
    refine bodyPost_ret (v := .tuple #[.agg #[.int .i32 0, .int .i32 0, .int .i32 0, .int .i32 0, .int .i32 0, .int .i32 0, .int .i32 0, .int .i32 0], .int .i64 3]) (by simp [results, Tryz.results12, go_sem, s0, s1, s2, s3, s4, s5, s6, s7]) rfl ⟨by rw [HC.out]; simp [jn], by go_grown⟩
  · have hc : joC [a0, a1, a2, a3, a4, a5, a6, a7] [b0, b1, b2, b3, b4, b5, b6, b7] = 0 := by simp [joC, h1, h2, h3]
    have H3 := Lib.hid h3; clear h3
    have HC := Lib.hid hc; clear hc
    go_enter Tryz.func12, Tryz.ntmps12
    go_wp2_with fail
    refine (iValidHeap a0 a1 a2 a3 a4 a5 a6 a7 _ ha).mono ?_
    rintro e w1 ⟨rfl, hb⟩
    rw [h1]
    replace HB := Lib.hid (below_then HB.out HB.out.size hb)
    replace X0 := Lib.hid (X0.out.below hb)
    replace X1 := Lib.hid (X1.out.below hb)
    replace XR := Lib.hid (XR.out.below hb)
    have hz1 := hb.size
    (try simp only [World.size_alloc] at hz1)
    clear hb
    have g0 := X1.out.cell 0
    have g1 := X1.out.cell 1
    have g2 := X1.out.cell 2
    have g3 := X1.out.cell 3
    have g4 := X1.out.cell 4
    have g5 := X1.out.cell 5
    have g6 := X1.out.cell 6
    have g7 := X1.out.cell 7
    simp only [List.getElem?_cons_zero, List.getElem?_cons_succ] at g0 g1 g2 g3 g4 g5 g6 g7
    go_wp2_with fail
    refine (iValidHeap b0 b1 b2 b3 b4 b5 b6 b7 _ hq).mono ?_
    rintro e w2 ⟨rfl, hb⟩
    rw [h2]
    clear g0 g1 g2 g3 g4 g5 g6 g7
    replace HB := Lib.hid (below_then HB.out HB.out.size hb)
    replace X0 := Lib.hid (X0.out.below hb)
    replace X1 := Lib.hid (X1.out.below hb)
    replace XR := Lib.hid (XR.out.below hb)
    have hz2 := hb.size
    (try simp only [World.size_alloc] at hz2)
    clear hb
    have k0 := X0.out.cell 0
    have k1 := X0.out.cell 1
    have k2 := X0.out.cell 2
    have k3 := X0.out.cell 3
    have k4 := X0.out.cell 4
    have k5 := X0.out.cell 5
    have k6 := X0.out.cell 6
    have k7 := X0.out.cell 7
    simp only [List.getElem?_cons_zero, List.getElem?_cons_succ] at k0 k1 k2 k3 k4 k5 k6 k7
    have g0 := X1.out.cell 0
    have g1 := X1.out.cell 1
    have g2 := X1.out.cell 2
    have g3 := X1.out.cell 3
    have g4 := X1.out.cell 4
    have g5 := X1.out.cell 5
    have g6 := X1.out.cell 6
    have g7 := X1.out.cell 7
    simp only [List.getElem?_cons_zero, List.getElem?_cons_succ] at g0 g1 g2 g3 g4 g5 g6 g7
    go_wp2_with fail
    refine (sumOf_any a0 a1 a2 a3 a4 a5 a6 a7 b0 b1 b2 b3 b4 b5 b6 b7 _ D0.out E0.out D1.out E1.out D2.out E2.out D3.out E3.out D4.out E4.out D5.out E5.out D6.out E6.out D7.out E7.out).mono ?_
    rintro e w3 ⟨rfl, hb⟩
    clear g0 g1 g2 g3 g4 g5 g6 g7 k0 k1 k2 k3 k4 k5 k6 k7
    replace HB := Lib.hid (below_then HB.out HB.out.size hb)
    replace X0 := Lib.hid (X0.out.below hb)
    replace X1 := Lib.hid (X1.out.below hb)
    replace XR := Lib.hid (XR.out.below hb)
    have hz3 := hb.size
    (try simp only [World.size_alloc] at hz3)
    clear hb
    go_wp2_with fail
    refine (iValidHeap (a0 + b0) (a1 + b1) (a2 + b2) (a3 + b3) (a4 + b4) (a5 + b5) (a6 + b6) (a7 + b7) _ hs).mono ?_
    rintro e w4 ⟨rfl, hb⟩
    rw [H3.out]
    replace HB := Lib.hid (below_then HB.out HB.out.size hb)
    replace X0 := Lib.hid (X0.out.below hb)
    replace X1 := Lib.hid (X1.out.below hb)
    replace XR := Lib.hid (XR.out.below hb)
    have hz4 := hb.size
    (try simp only [World.size_alloc] at hz4)
    clear hb
    have k0 := X0.out.cell 0
    have k1 := X0.out.cell 1
    have k2 := X0.out.cell 2
    have k3 := X0.out.cell 3
    have k4 := X0.out.cell 4
    have k5 := X0.out.cell 5
    have k6 := X0.out.cell 6
    have k7 := X0.out.cell 7
    simp only [List.getElem?_cons_zero, List.getElem?_cons_succ] at k0 k1 k2 k3 k4 k5 k6 k7
    have g0 := X1.out.cell 0
    have g1 := X1.out.cell 1
    have g2 := X1.out.cell 2
    have g3 := X1.out.cell 3
    have g4 := X1.out.cell 4
    have g5 := X1.out.cell 5
    have g6 := X1.out.cell 6
    have g7 := X1.out.cell 7
    simp only [List.getElem?_cons_zero, List.getElem?_cons_succ] at g0 g1 g2 g3 g4 g5 g6 g7
    go_wp2_with fail
    refine (sumOf_any a0 a1 a2 a3 a4 a5 a6 a7 b0 b1 b2 b3 b4 b5 b6 b7 _ D0.out E0.out D1.out E1.out D2.out E2.out D3.out E3.out D4.out E4.out D5.out E5.out D6.out E6.out D7.out E7.out).mono ?_
    rintro e w5 ⟨rfl, hb⟩
    clear g0 g1 g2 g3 g4 g5 g6 g7 k0 k1 k2 k3 k4 k5 k6 k7
    replace HB := Lib.hid (below_then HB.out HB.out.size hb)
    replace XR := Lib.hid (XR.out.below hb)
    have hz5 := hb.size
    (try simp only [World.size_alloc] at hz5)
    clear hb
    have hB := HB.out
    have c0 := XR.out.cell 0
    have c1 := XR.out.cell 1
    have c2 := XR.out.cell 2
    have c3 := XR.out.cell 3
    have c4 := XR.out.cell 4
    have c5 := XR.out.cell 5
    have c6 := XR.out.cell 6
    have c7 := XR.out.cell 7
    simp only [List.getElem?_cons_zero, List.getElem?_cons_succ] at c0 c1 c2 c3 c4 c5 c6 c7
    have f0 := XR.out.frozen 0
    have f1 := XR.out.frozen 1
    have f2 := XR.out.frozen 2
    have f3 := XR.out.frozen 3
    have f4 := XR.out.frozen 4
    have f5 := XR.out.frozen 5
    have f6 := XR.out.frozen 6
    have f7 := XR.out.frozen 7
    have S8 := XR.out.set8 (.int .i32 (a0 + b0)) (.int .i32 (a1 + b1)) (.int .i32 (a2 + b2)) (.int .i32 (a3 + b3)) (.int .i32 (a4 + b4)) (.int .i32 (a5 + b5)) (.int .i32 (a6 + b6)) (.int .i32 (a7 + b7))
    have s0 := S8.cell 0
    have s1 := S8.cell 1
    have s2 := S8.cell 2
    have s3 := S8.cell 3
    have s4 := S8.cell 4
    have s5 := S8.cell 5
    have s6 := S8.cell 6
    have s7 := S8.cell 7
    simp only [List.getElem?_cons_zero, List.getElem?_cons_succ] at s0 s1 s2 s3 s4 s5 s6 s7
    clear S8
    go_wp2_with fail
    refine bodyPost_ret (v := .tuple #[.agg #[.int .i32 (a0 + b0), .int .i32 (a1 + b1), .int .i32 (a2 + b2), .int .i32 (a3 + b3), .int .i32 (a4 + b4), .int .i32 (a5 + b5), .int .i32 (a6 + b6), .int .i32 (a7 + b7)], .int .i64 0]) (by simp [results, Tryz.results12, go_sem, s0, s1, s2, s3, s4, s5, s6, s7]) rfl ⟨by rw [HC.out]; simp [jn], by go_grown⟩
end Go.Proofs.YtbkhlcbnnjgdpaaGreatDoor
