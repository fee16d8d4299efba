/- Contracts: spec.OffBy. -/
import Derived.Test.YtjbaaomodcgdgaaR7
import Derived.Deep.RegionHeld3
import Derived.IntWalk
namespace Go.Proofs.Ytjbaaomodcgdgaa
open Go.RowKit
set_option linter.unusedVariables false
set_option linter.unusedSimpArgs false
set_option maxHeartbeats 4000000 in
theorem sOffBy (a0 a1 a2 a3 a4 a5 a6 a7 b0 b1 b2 b3 b4 b5 b6 b7 : Int) (w : World) (ha : Hid (∀ x ∈ [a0, a1, a2, a3, a4, a5, a6, a7], (Lit.int .i32 x).wf = true)) (hq : Hid (∀ x ∈ [b0, b1, b2, b3, b4, b5, b6, b7], (Lit.int .i32 x).wf = true)) :
    Calls Try.prog 20 #[.agg #[.int .i32 a0, .int .i32 a1, .int .i32 a2, .int .i32 a3, .int .i32 a4, .int .i32 a5, .int .i32 a6, .int .i32 a7], .agg #[.int .i32 b0, .int .i32 b1, .int .i32 b2, .int .i32 b3, .int .i32 b4, .int .i32 b5, .int .i32 b6, .int .i32 b7]] w fun e w' => e = .returned (.tuple #[Fr (jn (woC [[a0, a1, a2, a3, a4, a5, a6, a7], [b0, b1, b2, b3, b4, b5, b6, b7]]) (frN (offS [a0, a1, a2, a3, a4, a5, a6, a7] [b0, b1, b2, b3, b4, b5, b6, b7] (hsL [a0, a1, a2, a3, a4, a5, a6, a7]) (hsL [b0, b1, b2, b3, b4, b5, b6, b7]) 8) ((hsL [a0, a1, a2, a3, a4, a5, a6, a7]) * (hsL [b0, b1, b2, b3, b4, b5, b6, b7])))) (jn (woC [[a0, a1, a2, a3, a4, a5, a6, a7], [b0, b1, b2, b3, b4, b5, b6, b7]]) (frD (offS [a0, a1, a2, a3, a4, a5, a6, a7] [b0, b1, b2, b3, b4, b5, b6, b7] (hsL [a0, a1, a2, a3, a4, a5, a6, a7]) (hsL [b0, b1, b2, b3, b4, b5, b6, b7]) 8) ((hsL [a0, a1, a2, a3, a4, a5, a6, a7]) * (hsL [b0, b1, b2, b3, b4, b5, b6, b7])))), .int .i64 (woC [[a0, a1, a2, a3, a4, a5, a6, a7], [b0, b1, b2, b3, b4, b5, b6, b7]])]) ∧ Below w.heap.size w w' := by
  have X0 : Hid (Row (((w.alloc (.cells #[.int .i32 a0, .int .i32 a1, .int .i32 a2, .int .i32 a3, .int .i32 a4, .int .i32 a5, .int .i32 a6, .int .i32 a7] 27)).alloc (.cells #[.int .i32 b0, .int .i32 b1, .int .i32 b2, .int .i32 b3, .int .i32 b4, .int .i32 b5, .int .i32 b6, .int .i32 b7] 27)).alloc (.cells #[.int .i64 0, .int .i64 0] 34)) (w.heap.size) 27 [.int .i32 a0, .int .i32 a1, .int .i32 a2, .int .i32 a3, .int .i32 a4, .int .i32 a5, .int .i32 a6, .int .i32 a7]) := Lib.hid (by have := (((Row.alloc w [.int .i32 a0, .int .i32 a1, .int .i32 a2, .int .i32 a3, .int .i32 a4, .int .i32 a5, .int .i32 a6, .int .i32 a7] 27).below (below_alloc1 _ (.cells #[.int .i32 b0, .int .i32 b1, .int .i32 b2, .int .i32 b3, .int .i32 b4, .int .i32 b5, .int .i32 b6, .int .i32 b7] 27))).below (below_alloc1 _ (.cells #[.int .i64 0, .int .i64 0] 34))); (try simp only [World.size_alloc] at this); exact this)
  have X1 : Hid (Row (((w.alloc (.cells #[.int .i32 a0, .int .i32 a1, .int .i32 a2, .int .i32 a3, .int .i32 a4, .int .i32 a5, .int .i32 a6, .int .i32 a7] 27)).alloc (.cells #[.int .i32 b0, .int .i32 b1, .int .i32 b2, .int .i32 b3, .int .i32 b4, .int .i32 b5, .int .i32 b6, .int .i32 b7] 27)).alloc (.cells #[.int .i64 0, .int .i64 0] 34)) (w.heap.size + 1) 27 [.int .i32 b0, .int .i32 b1, .int .i32 b2, .int .i32 b3, .int .i32 b4, .int .i32 b5, .int .i32 b6, .int .i32 b7]) := Lib.hid (by have := ((Row.alloc (w.alloc (.cells #[.int .i32 a0, .int .i32 a1, .int .i32 a2, .int .i32 a3, .int .i32 a4, .int .i32 a5, .int .i32 a6, .int .i32 a7] 27)) [.int .i32 b0, .int .i32 b1, .int .i32 b2, .int .i32 b3, .int .i32 b4, .int .i32 b5, .int .i32 b6, .int .i32 b7] 27).below (below_alloc1 _ (.cells #[.int .i64 0, .int .i64 0] 34))); (try simp only [World.size_alloc] at this); exact this)
  have XR : Hid (Row (((w.alloc (.cells #[.int .i32 a0, .int .i32 a1, .int .i32 a2, .int .i32 a3, .int .i32 a4, .int .i32 a5, .int .i32 a6, .int .i32 a7] 27)).alloc (.cells #[.int .i32 b0, .int .i32 b1, .int .i32 b2, .int .i32 b3, .int .i32 b4, .int .i32 b5, .int .i32 b6, .int .i32 b7] 27)).alloc (.cells #[.int .i64 0, .int .i64 0] 34)) (w.heap.size + 2) 34 [.int .i64 0, .int .i64 0]) := Lib.hid (by have := (Row.alloc ((w.alloc (.cells #[.int .i32 a0, .int .i32 a1, .int .i32 a2, .int .i32 a3, .int .i32 a4, .int .i32 a5, .int .i32 a6, .int .i32 a7] 27)).alloc (.cells #[.int .i32 b0, .int .i32 b1, .int .i32 b2, .int .i32 b3, .int .i32 b4, .int .i32 b5, .int .i32 b6, .int .i32 b7] 27)) [.int .i64 0, .int .i64 0] 34); (try simp only [World.size_alloc] at this); exact this)
  have HB : Hid (Below w.heap.size w (((w.alloc (.cells #[.int .i32 a0, .int .i32 a1, .int .i32 a2, .int .i32 a3, .int .i32 a4, .int .i32 a5, .int .i32 a6, .int .i32 a7] 27)).alloc (.cells #[.int .i32 b0, .int .i32 b1, .int .i32 b2, .int .i32 b3, .int .i32 b4, .int .i32 b5, .int .i32 b6, .int .i32 b7] 27)).alloc (.cells #[.int .i64 0, .int .i64 0] 34))) := Lib.hid (by go_grown)
  cases k1 : heapOk [a0, a1, a2, a3, a4, a5, a6, a7]
  · have HC_ := Lib.hid (show woC [[a0, a1, a2, a3, a4, a5, a6, a7], [b0, b1, b2, b3, b4, b5, b6, b7]] = 1 by simp [woC, k1]); have H1 := Lib.hid k1; clear k1
    go_enter Try.func20, Try.ntmps20
    go_wp2_with fail
    refine (l01Heap_any _ _ [a0, a1, a2, a3, a4, a5, a6, a7] _ X0.out rfl ha).mono ?_
    rintro e w_ ⟨rfl, rfl⟩
    rw [H1.out]
    have hB := HB.out
    obtain ⟨cXR_0, cXR_1⟩ := XR.out.cells2
    obtain ⟨fXR_0, fXR_1⟩ := XR.out.frozens2
    go_wp2_with fail
    have SXR := ((XR.out.set 0 (.int .i64 0)).set 1 (.int .i64 0))
    simp only [List.set_cons_zero, List.set_cons_succ] at SXR
    obtain ⟨sXR_0, sXR_1⟩ := SXR.cells2
    clear SXR
    refine bodyPost_ret (v := .tuple #[.agg #[.int .i64 0, .int .i64 0], .int .i64 1]) (by simp [results, Try.results20, go_sem, sXR_0, sXR_1]) rfl ⟨by rw [HC_.out]; simp [jn], by go_grown⟩
  cases k2 : heapOk [b0, b1, b2, b3, b4, b5, b6, b7]
  · have HC_ := Lib.hid (show woC [[a0, a1, a2, a3, a4, a5, a6, a7], [b0, b1, b2, b3, b4, b5, b6, b7]] = 1 by simp [woC, k1, k2]); have H1 := Lib.hid k1; have H2 := Lib.hid k2; clear k1 k2
    go_enter Try.func20, Try.ntmps20
    go_wp2_with fail
    refine (l01Heap_any _ _ [a0, a1, a2, a3, a4, a5, a6, a7] _ X0.out rfl ha).mono ?_
    rintro e w_ ⟨rfl, rfl⟩
    rw [H1.out]
    go_wp2_with fail
    refine (l01Heap_any _ _ [b0, b1, b2, b3, b4, b5, b6, b7] _ X1.out rfl hq).mono ?_
    rintro e w_ ⟨rfl, rfl⟩
    rw [H2.out]
    have hB := HB.out
    obtain ⟨cXR_0, cXR_1⟩ := XR.out.cells2
    obtain ⟨fXR_0, fXR_1⟩ := XR.out.frozens2
    go_wp2_with fail
    have SXR := ((XR.out.set 0 (.int .i64 0)).set 1 (.int .i64 0))
    simp only [List.set_cons_zero, List.set_cons_succ] at SXR
    obtain ⟨sXR_0, sXR_1⟩ := SXR.cells2
    clear SXR
    refine bodyPost_ret (v := .tuple #[.agg #[.int .i64 0, .int .i64 0], .int .i64 1]) (by simp [results, Try.results20, go_sem, sXR_0, sXR_1]) rfl ⟨by rw [HC_.out]; simp [jn], by go_grown⟩
  by_cases k3 : 0 < hsL [a0, a1, a2, a3, a4, a5, a6, a7]
  rotate_left
  · have HC_ := Lib.hid (show woC [[a0, a1, a2, a3, a4, a5, a6, a7], [b0, b1, b2, b3, b4, b5, b6, b7]] = 6 by simp [woC, k1, k2, k3]); have H1 := Lib.hid k1; have H2 := Lib.hid k2
    have r1 := hS_rng k1
    have r2 := hS_rng k2
    obtain ⟨P, hP⟩ : ∃ P, hS a0 a1 a2 a3 a4 a5 a6 a7 = P := ⟨_, rfl⟩
    obtain ⟨Q, hQ⟩ : ∃ Q, hS b0 b1 b2 b3 b4 b5 b6 b7 = Q := ⟨_, rfl⟩
    have za : P = 0 := by have h : ¬ 0 < P := by rw [← hP]; exact k3
                          have := r1; rw [hP] at this; omega
    have HP := Lib.hid hP; have HQ := Lib.hid hQ
    clear k1 k2 k3 r1 r2 hP hQ
    subst za
    go_enter Try.func20, Try.ntmps20
    go_wp2_with fail
    refine (l01Heap_any _ _ [a0, a1, a2, a3, a4, a5, a6, a7] _ X0.out rfl ha).mono ?_
    rintro e w_ ⟨rfl, rfl⟩
    rw [H1.out]
    go_wp2_with fail
    refine (l01Heap_any _ _ [b0, b1, b2, b3, b4, b5, b6, b7] _ X1.out rfl hq).mono ?_
    rintro e w_ ⟨rfl, rfl⟩
    rw [H2.out]
    go_wp2_with fail
    refine (l01Grams_any _ _ a0 a1 a2 a3 a4 a5 a6 a7 _ X0.out ha).mono ?_
    rintro e w_ ⟨rfl, rfl⟩
    rw [HP.out]
    go_wp2_with fail
    refine (l01Grams_any _ _ b0 b1 b2 b3 b4 b5 b6 b7 _ X1.out hq).mono ?_
    rintro e w_ ⟨rfl, rfl⟩
    rw [HQ.out]
    have hB := HB.out
    obtain ⟨cXR_0, cXR_1⟩ := XR.out.cells2
    obtain ⟨fXR_0, fXR_1⟩ := XR.out.frozens2
    go_wp2_with fail
    have SXR := ((XR.out.set 0 (.int .i64 0)).set 1 (.int .i64 0))
    simp only [List.set_cons_zero, List.set_cons_succ] at SXR
    obtain ⟨sXR_0, sXR_1⟩ := SXR.cells2
    clear SXR
    refine bodyPost_ret (v := .tuple #[.agg #[.int .i64 0, .int .i64 0], .int .i64 6]) (by simp [results, Try.results20, go_sem, sXR_0, sXR_1]) rfl ⟨by rw [HC_.out]; simp [jn], by go_grown⟩
  by_cases k4 : 0 < hsL [b0, b1, b2, b3, b4, b5, b6, b7]
  rotate_left
  · have HC_ := Lib.hid (show woC [[a0, a1, a2, a3, a4, a5, a6, a7], [b0, b1, b2, b3, b4, b5, b6, b7]] = 6 by simp [woC, k1, k2, k4, k3]); have H1 := Lib.hid k1; have H2 := Lib.hid k2
    have r1 := hS_rng k1
    have r2 := hS_rng k2
    obtain ⟨P, hP⟩ : ∃ P, hS a0 a1 a2 a3 a4 a5 a6 a7 = P := ⟨_, rfl⟩
    obtain ⟨Q, hQ⟩ : ∃ Q, hS b0 b1 b2 b3 b4 b5 b6 b7 = Q := ⟨_, rfl⟩
    have zb : Q = 0 := by have h : ¬ 0 < Q := by rw [← hQ]; exact k4
                          have := r2; rw [hQ] at this; omega
    have HP := Lib.hid hP; have HQ := Lib.hid hQ
    have hp0 : (P == 0) = false := by have h : 0 < P := by rw [← hP]; exact k3
                                      simp; omega
    clear k1 k2 k3 k4 r1 r2 hP hQ
    subst zb
    go_enter Try.func20, Try.ntmps20
    go_wp2_with fail
    refine (l01Heap_any _ _ [a0, a1, a2, a3, a4, a5, a6, a7] _ X0.out rfl ha).mono ?_
    rintro e w_ ⟨rfl, rfl⟩
    rw [H1.out]
    go_wp2_with fail
    refine (l01Heap_any _ _ [b0, b1, b2, b3, b4, b5, b6, b7] _ X1.out rfl hq).mono ?_
    rintro e w_ ⟨rfl, rfl⟩
    rw [H2.out]
    go_wp2_with fail
    refine (l01Grams_any _ _ a0 a1 a2 a3 a4 a5 a6 a7 _ X0.out ha).mono ?_
    rintro e w_ ⟨rfl, rfl⟩
    rw [HP.out]
    go_wp2_with fail
    refine (l01Grams_any _ _ b0 b1 b2 b3 b4 b5 b6 b7 _ X1.out hq).mono ?_
    rintro e w_ ⟨rfl, rfl⟩
    rw [HQ.out]
    have hB := HB.out
    obtain ⟨cXR_0, cXR_1⟩ := XR.out.cells2
    obtain ⟨fXR_0, fXR_1⟩ := XR.out.frozens2
    go_wp2_with fail
    have SXR := ((XR.out.set 0 (.int .i64 0)).set 1 (.int .i64 0))
    simp only [List.set_cons_zero, List.set_cons_succ] at SXR
    obtain ⟨sXR_0, sXR_1⟩ := SXR.cells2
    clear SXR
    refine bodyPost_ret (v := .tuple #[.agg #[.int .i64 0, .int .i64 0], .int .i64 6]) (by simp [results, Try.results20, go_sem, sXR_0, sXR_1]) rfl ⟨by rw [HC_.out]; simp [jn], by go_grown⟩
  have hc : woC [[a0, a1, a2, a3, a4, a5, a6, a7], [b0, b1, b2, b3, b4, b5, b6, b7]] = 0 := by simp [woC, k1, k2, k3, k4]
  have r1 := hS_rng k1
  have r2 := hS_rng k2
  have l1 : hsL [a0, a1, a2, a3, a4, a5, a6, a7] = hS a0 a1 a2 a3 a4 a5 a6 a7 := rfl
  have l2 : hsL [b0, b1, b2, b3, b4, b5, b6, b7] = hS b0 b1 b2 b3 b4 b5 b6 b7 := rfl
  rw [← l1] at r1
  rw [← l2] at r2
  obtain ⟨P, hP⟩ : ∃ P, hsL [a0, a1, a2, a3, a4, a5, a6, a7] = P := ⟨_, rfl⟩
  obtain ⟨Q, hQ⟩ : ∃ Q, hsL [b0, b1, b2, b3, b4, b5, b6, b7] = Q := ⟨_, rfl⟩
  rw [hP] at r1 k3 l1
  rw [hQ] at r2 k4 l2
  rw [hP, hQ]
  have HP := Lib.hid l1.symm; have HQ := Lib.hid l2.symm
  have HO := Lib.hid (fun k => offS_rng k1 k2 r1 r2 k)
  have HA := Lib.hid (fun k => heapOk_at2 k1 k); have HB2 := Lib.hid (fun k => heapOk_at2 k2 k)
  have HC_ := Lib.hid hc; have H1 := Lib.hid k1; have H2 := Lib.hid k2
  have pq : 1 ≤ P * Q ∧ P * Q ≤ 64000000 := by
    have h1 : 1 * 1 ≤ P * Q := Int.mul_le_mul (by omega) (by omega) (by omega) (by omega)
    have h2 : P * Q ≤ 8000 * 8000 := Int.mul_le_mul (by omega) (by omega) (by omega) (by omega)
    omega
  have mPQ : Mid (P * Q) := by unfold Mid; omega
  have mN : Mid (offS [a0, a1, a2, a3, a4, a5, a6, a7] [b0, b1, b2, b3, b4, b5, b6, b7] P Q 8) := by have := offS_rng k1 k2 r1 r2 8; unfold Mid; omega
  have hp0 : (P == 0) = false := by simp; omega
  have hq0 : (Q == 0) = false := by simp; omega
  clear hc k1 k2 l1 l2 hP hQ
  go_enter Try.func20, Try.ntmps20
  go_wp2_with fail
  refine (l01Heap_any _ _ [a0, a1, a2, a3, a4, a5, a6, a7] _ X0.out rfl ha).mono ?_
  rintro e w_ ⟨rfl, rfl⟩
  rw [H1.out]
  go_wp2_with fail
  refine (l01Heap_any _ _ [b0, b1, b2, b3, b4, b5, b6, b7] _ X1.out rfl hq).mono ?_
  rintro e w_ ⟨rfl, rfl⟩
  rw [H2.out]
  go_wp2_with fail
  refine (l01Grams_any _ _ a0 a1 a2 a3 a4 a5 a6 a7 _ X0.out ha).mono ?_
  rintro e w_ ⟨rfl, rfl⟩
  rw [HP.out]
  go_wp2_with fail
  refine (l01Grams_any _ _ b0 b1 b2 b3 b4 b5 b6 b7 _ X1.out hq).mono ?_
  rintro e w_ ⟨rfl, rfl⟩
  rw [HQ.out]
  go_wp2_with fail
  have hb0 := HB.out
  obtain ⟨LA, hLA⟩ : ∃ L, L = [a0, a1, a2, a3, a4, a5, a6, a7] := ⟨_, rfl⟩
  obtain ⟨LB, hLB⟩ : ∃ L, L = [b0, b1, b2, b3, b4, b5, b6, b7] := ⟨_, rfl⟩
  go_loopw [8, 9] (fun s v wr => ∃ k : Nat, k ≤ 8 ∧ v = .int .i64 k ∧ s = .int .i64 (offS LA LB P Q k) ∧ Hid (Row wr w.heap.size 27 [.int .i32 a0, .int .i32 a1, .int .i32 a2, .int .i32 a3, .int .i32 a4, .int .i32 a5, .int .i32 a6, .int .i32 a7]) ∧ Hid (Row wr (w.heap.size + 1) 27 [.int .i32 b0, .int .i32 b1, .int .i32 b2, .int .i32 b3, .int .i32 b4, .int .i32 b5, .int .i32 b6, .int .i32 b7]) ∧ Hid (Row wr (w.heap.size + 2) 34 [.int .i64 0, .int .i64 0]) ∧ Below w.heap.size w wr) (fun _ v _ => 8 - (intOf v).toNat)
  case atStart => exact ⟨0, by omega, rfl, rfl, X0, X1, XR, hb0⟩
  case round =>
    obtain ⟨k, hk, rfl, rfl, Y0, Y1, YR, hB⟩ := hrel
    clear X0 X1 XR HB hb0
    by_cases hlt : k < 8
    · have ca : wr.cell? ⟨w.heap.size, k, none⟩ = some (.int .i32 (LA.getD k 0)) := by rw [Y0.out.cell, show ([.int .i32 a0, .int .i32 a1, .int .i32 a2, .int .i32 a3, .int .i32 a4, .int .i32 a5, .int .i32 a6, .int .i32 a7] : List Value) = nums .i32 LA from by rw [hLA]; rfl, list_at2 (by rw [hLA]; rfl) hlt]
      have cb : wr.cell? ⟨w.heap.size + 1, k, none⟩ = some (.int .i32 (LB.getD k 0)) := by rw [Y1.out.cell, show ([.int .i32 b0, .int .i32 b1, .int .i32 b2, .int .i32 b3, .int .i32 b4, .int .i32 b5, .int .i32 b6, .int .i32 b7] : List Value) = nums .i32 LB from by rw [hLB]; rfl, list_at2 (by rw [hLB]; rfl) hlt]
      have bx := HA.out k
      have by_ := HB2.out k
      have bo := HO.out k
      rw [← hLA, ← hLB] at bo
      rw [← hLA] at bx
      rw [← hLB] at by_
      obtain ⟨x, hx⟩ : ∃ x, LA.getD k 0 = x := ⟨_, rfl⟩
      obtain ⟨y, hy⟩ : ∃ y, LB.getD k 0 = y := ⟨_, rfl⟩
      obtain ⟨T, hT⟩ : ∃ T, offS LA LB P Q k = T := ⟨_, rfl⟩
      have hst : offS LA LB P Q (k + 1) = T + ((x * Q - y * P).natAbs : Int) := by simp only [offS]; rw [hT, hx, hy]
      rw [hx] at ca bx
      rw [hy] at cb by_
      rw [hT] at bo ⊢
      have p1 := prod_rng bx r2
      have p2 := prod_rng by_ r1
      have hm : Mid (x * Q - y * P) := by unfold Mid; omega
      have v1 : IntKind.i64.wrap (x * Q) = x * Q := IntWalk.i64_in _ (by omega)
      have v2 : IntKind.i64.wrap (y * P) = y * P := IntWalk.i64_in _ (by omega)
      have v3 : IntKind.i64.wrap (x * Q - y * P) = x * Q - y * P := IntWalk.i64_in _ (by omega)
      have v4 : IntKind.i64.wrap (T + ((x * Q - y * P).natAbs : Int)) = T + ((x * Q - y * P).natAbs : Int) := IntWalk.i64_in _ (by omega)
      have v5 : IntKind.i64.wrap x = x := IntWalk.i64_in _ (by omega)
      have v6 : IntKind.i64.wrap y = y := IntWalk.i64_in _ (by omega)
      have HST := Lib.hid hst
      have hk1 : (k : Int) < 8 := by omega
      clear hst hx hy hT hLA hLB p1 p2 bo
      go_wp2_with fail
      have Z0 := Y0.out.drew; have Z1 := Y1.out.drew; have ZR := YR.out.drew; have hB1 := hB.drew
      clear Y0 Y1 YR
      go_region_held3 (fun w' => w'.cell? ⟨w.heap.size, k, none⟩ = some (.int .i32 x) ∧ w'.cell? ⟨w.heap.size + 1, k, none⟩ = some (.int .i32 y))
        (first | exact ⟨ca, cb⟩ | go_keep)
        ((go_at_call 59; refine (l01Size_any _ _ hm).mono ?_; rintro e w_ ⟨rfl, rfl⟩))
      clear v1 v2 v3 v4 v5 v6 ca cb
      go_wp2_with fail
      go_roundw
      case rel => exact ⟨k + 1, by omega, by go_num, by rw [HST.out], Lib.hid Z0, Lib.hid Z1, Lib.hid ZR, hB1⟩
      case measure => simp [intOf]; omega
    · obtain rfl : k = 8 := by omega
      rw [hLA, hLB]
      clear hLA hLB
      have X0 := Y0; have X1 := Y1; have XR := YR; have HB := Lib.hid hB; clear Y0 Y1 YR
      have v1 : IntKind.i64.wrap (P * Q) = P * Q := IntWalk.i64_in _ (by omega)
      go_wp2_with fail
      refine (l01Make_any _ _ _ mN mPQ (by omega)).mono ?_
      rintro e w1 ⟨rfl, hb⟩
      replace HB := Lib.hid (below_then HB.out HB.out.size hb)
      replace XR := Lib.hid (XR.out.below hb)
      have hz1 := hb.size
      (try simp only [World.size_alloc] at hz1)
      clear hb
      have hB := HB.out
      obtain ⟨cXR_0, cXR_1⟩ := XR.out.cells2
      obtain ⟨fXR_0, fXR_1⟩ := XR.out.frozens2
      go_wp2_with fail
      have SXR := ((XR.out.set 0 (.int .i64 (frN (offS [a0, a1, a2, a3, a4, a5, a6, a7] [b0, b1, b2, b3, b4, b5, b6, b7] P Q 8) (P * Q)))).set 1 (.int .i64 (frD (offS [a0, a1, a2, a3, a4, a5, a6, a7] [b0, b1, b2, b3, b4, b5, b6, b7] P Q 8) (P * Q))))
      simp only [List.set_cons_zero, List.set_cons_succ] at SXR
      obtain ⟨sXR_0, sXR_1⟩ := SXR.cells2
      clear SXR
      refine bodyPost_ret (v := .tuple #[.agg #[.int .i64 (frN (offS [a0, a1, a2, a3, a4, a5, a6, a7] [b0, b1, b2, b3, b4, b5, b6, b7] P Q 8) (P * Q)), .int .i64 (frD (offS [a0, a1, a2, a3, a4, a5, a6, a7] [b0, b1, b2, b3, b4, b5, b6, b7] P Q 8) (P * Q))], .int .i64 0]) (by simp [results, Try.results20, go_sem, sXR_0, sXR_1]) rfl ⟨by rw [HC_.out]; simp [jn], by go_grown⟩
end Go.Proofs.Ytjbaaomodcgdgaa
