/- Contracts: impl.GradeHeaps. -/
import Derived.Test.YtbkhlcbnnjgdpaaGreatDoorU6
import Derived.Test.YtbkhlcbnnjgdpaaGreatDoorH5
import Derived.Deep.RegionWith
namespace Go.Proofs.YtbkhlcbnnjgdpaaGreatDoor
open Go.RowKit
set_option linter.unusedVariables false
set_option linter.unusedSimpArgs false
set_option maxHeartbeats 8000000 in
theorem iGradeHeaps (A : Option Addr) (n c : Nat) (xs : List (Int × List Int)) (B : Option Addr) (m d : Nat) (bs : List Int) (w : World) (R : Rds w A n 9 FlC xs) (hF : Hid (FlOk xs)) (R2 : Rds w B m 1 (fun x : Int => [.int .i64 x]) bs) :
    Calls Tryz.prog 30 #[.slice A n c, .slice B m d] w (RetOwnT 25 8 (ghR xs bs).length ((ghR xs bs).flatMap HE) [.int .i64 (ghC xs bs)] w) := by
  have hn := R.2.1
  have HXL := Lib.hid R.1
  have HBL := Lib.hid R2.1
  obtain ⟨C, hC⟩ : ∃ C, gfC xs bs = C := ⟨_, rfl⟩
  have HC_ := Lib.hid hC
  by_cases h0 : C = 0
  rotate_left
  · have hr : ghR xs bs = [] := by unfold ghR ghC; rw [hC, if_neg h0, if_neg h0]
    have hc2 : ghC xs bs = C := by unfold ghC; rw [hC, if_neg h0]
    rw [hr, hc2]
    have h0i : ¬ (C : Int) = 0 := h0
    clear hC hr hc2
    go_enter Tryz.func30, Tryz.ntmps30
    go_wp2_with fail
    refine (gradesCode_any A B n c m d xs bs _ R hF R2).mono ?_
    rintro e w1 ⟨rfl, hb⟩
    rw [show flC xs (risOk bs) = C from HC_.out]
    go_wp2_with fail
    go_ret2
    exact ⟨none, 0, rfl, own_nil _ _ _ _, hb⟩
  subst h0
  obtain ⟨hfl, hri, h6⟩ := flC_0 hC
  rw [HXL.out] at h6
  have hm9 := ris_len hri
  rw [HBL.out] at hm9
  have HFL := Lib.hid hfl
  have HGC := Lib.hid hC
  clear hC hfl hri
  have hmk := run_make_n (P := Tryz.prog) 42 25 (z := .agg #[.int .i32 0, .int .i32 0, .int .i32 0, .int .i32 0, .int .i32 0, .int .i32 0, .int .i32 0, .int .i32 0]) (sz := 8) (by_ := 32) Tryz.underlying42 (by kernel_rfl) (m + 1) (by omega) (by omega)
  rw [madeCells_heap, List.toArray_replicate] at hmk
  rw [show ((m + 1 : Nat) : Int) = (m : Int) + 1 by omega] at hmk
  go_enter Tryz.func30, Tryz.ntmps30
  go_wp2_with fail
  refine (gradesCode_any A B n c m d xs bs _ R hF R2).mono ?_
  rintro e w1 ⟨rfl, hb⟩
  rw [show flC xs (risOk bs) = 0 from HC_.out]
  have hbs := hb.size
  have hb2 := hb.alloc hbs (.cells (List.replicate ((m + 1) * 8) (.int .i32 0)).toArray 25)
  have R0 : Hid (Row (w1.alloc (.cells (List.replicate ((m + 1) * 8) (.int .i32 0)).toArray 25)) w1.heap.size 25 (nums .i32 (gen ((m + 1) * 8) (ghF xs bs 0)))) := Lib.hid (by rw [show gen ((m + 1) * 8) (ghF xs bs 0) = gen ((m + 1) * 8) (fun _ => 0) from rfl, gen_zero]; exact Row.alloc w1 (List.replicate ((m + 1) * 8) (.int .i32 0)) 25)
  rw [List.toArray_replicate] at hb2 R0
  go_wp2_with fail
  have HB := Lib.hid hb2
  generalize w1.alloc (.cells (Array.replicate ((m + 1) * 8) (.int .i32 0)) 25) = WM at R0 HB ⊢
  clear hmk hb2 hb
  obtain ⟨K, hK⟩ : ∃ K, w1.heap.size = K := ⟨_, rfl⟩
  rw [hK] at R0 hbs
  rw [hK]
  go_loopw [23] (fun v wr => ∃ i : Nat, i ≤ n ∧ v = .int .i64 i ∧ Hid (Row wr K 25 (nums .i32 (gen ((m + 1) * 8) (ghF xs bs i)))) ∧ Hid (Below w.heap.size w wr)) (fun v _ => n - (intOf v).toNat)
  case atStart => exact ⟨0, by omega, rfl, R0, HB⟩
  case round =>
    obtain ⟨i, hi, rfl, hr, hB⟩ := hrel
    clear R0 HB
    by_cases hlt : i < n
    · obtain ⟨ad, f, a0, a1, a2, a3, a4, a5, a6, a7, rfl, hx, e0, e1, e2, e3, e4, e5, e6, e7, e8⟩ := (R.below hB.out).fleece hF.out.len hlt
      have HX := Lib.hid hx
      have gf := i8_rng (hF.out _ (List.mem_of_getElem? hx)).1
      obtain ⟨q, hq⟩ : ∃ q : Nat, cntL bs f = (q : Int) := ⟨(cntL bs f).toNat, by have : 0 ≤ cntL bs f := (cntTo_bd bs f bs.length).1; omega⟩
      have hqm : q < m + 1 := by have : cntL bs f ≤ (bs.length : Int) := (cntTo_bd bs f bs.length).2; rw [HBL.out] at this; omega
      have HQ := Lib.hid hq
      clear hx hq
      have hsz := hr.out.lt
      have hB1 := below_alloc1 wr (.cells #[.int .i8 f, .int .i32 a0, .int .i32 a1, .int .i32 a2, .int .i32 a3, .int .i32 a4, .int .i32 a5, .int .i32 a6, .int .i32 a7] 58)
      have X0 := Row.alloc wr [.int .i8 f, .int .i32 a0, .int .i32 a1, .int .i32 a2, .int .i32 a3, .int .i32 a4, .int .i32 a5, .int .i32 a6, .int .i32 a7] 58
      have hr1 := Lib.hid (hr.out.below hB1)
      have hBB := Lib.hid (below_then hB.out hB.out.size hB1)
      go_wp2_with fail
      refine (grade_any B m d bs f a0 a1 a2 a3 a4 a5 a6 a7 _ ((R2.below hB.out).below hB1) gf).mono ?_
      rintro e w3 ⟨rfl, hb3⟩
      rw [HQ.out]
      have X3 := X0.below hb3
      have hr3 := Lib.hid (hr1.out.below hb3)
      have hB3 := Lib.hid (below_then hBB.out hBB.out.size hb3)
      clear hB1 X0 hr1 hBB hb3 e0 e1 e2 e3 e4 e5 e6 e7 e8 hr hB
      obtain ⟨x0, x1, x2, x3, x4, x5, x6, x7, x8⟩ := X3.cells9
      clear X3
      have c0 : w3.cell? ⟨K, q * 8, none⟩ = some (.int .i32 (ghS xs bs q 0 i)) := by rw [hr3.out.cell]; exact ghF_at (d := 0) hqm (by omega)
      have c1 : w3.cell? ⟨K, q * 8 + 1, none⟩ = some (.int .i32 (ghS xs bs q 1 i)) := by rw [hr3.out.cell]; exact ghF_at (d := 1) hqm (by omega)
      have c2 : w3.cell? ⟨K, q * 8 + 2, none⟩ = some (.int .i32 (ghS xs bs q 2 i)) := by rw [hr3.out.cell]; exact ghF_at (d := 2) hqm (by omega)
      have c3 : w3.cell? ⟨K, q * 8 + 3, none⟩ = some (.int .i32 (ghS xs bs q 3 i)) := by rw [hr3.out.cell]; exact ghF_at (d := 3) hqm (by omega)
      have c4 : w3.cell? ⟨K, q * 8 + 4, none⟩ = some (.int .i32 (ghS xs bs q 4 i)) := by rw [hr3.out.cell]; exact ghF_at (d := 4) hqm (by omega)
      have c5 : w3.cell? ⟨K, q * 8 + 5, none⟩ = some (.int .i32 (ghS xs bs q 5 i)) := by rw [hr3.out.cell]; exact ghF_at (d := 5) hqm (by omega)
      have c6 : w3.cell? ⟨K, q * 8 + 6, none⟩ = some (.int .i32 (ghS xs bs q 6 i)) := by rw [hr3.out.cell]; exact ghF_at (d := 6) hqm (by omega)
      have c7 : w3.cell? ⟨K, q * 8 + 7, none⟩ = some (.int .i32 (ghS xs bs q 7 i)) := by rw [hr3.out.cell]; exact ghF_at (d := 7) hqm (by omega)
      have D0 := Lib.hid (ghS_bd HFL.out bs q 0 i)
      have E0 : Hid (0 ≤ a0 ∧ a0 ≤ 1000) := Lib.hid (fl_bd HFL.out HX.out 0)
      have D1 := Lib.hid (ghS_bd HFL.out bs q 1 i)
      have E1 : Hid (0 ≤ a1 ∧ a1 ≤ 1000) := Lib.hid (fl_bd HFL.out HX.out 1)
      have D2 := Lib.hid (ghS_bd HFL.out bs q 2 i)
      have E2 : Hid (0 ≤ a2 ∧ a2 ≤ 1000) := Lib.hid (fl_bd HFL.out HX.out 2)
      have D3 := Lib.hid (ghS_bd HFL.out bs q 3 i)
      have E3 : Hid (0 ≤ a3 ∧ a3 ≤ 1000) := Lib.hid (fl_bd HFL.out HX.out 3)
      have D4 := Lib.hid (ghS_bd HFL.out bs q 4 i)
      have E4 : Hid (0 ≤ a4 ∧ a4 ≤ 1000) := Lib.hid (fl_bd HFL.out HX.out 4)
      have D5 := Lib.hid (ghS_bd HFL.out bs q 5 i)
      have E5 : Hid (0 ≤ a5 ∧ a5 ≤ 1000) := Lib.hid (fl_bd HFL.out HX.out 5)
      have D6 := Lib.hid (ghS_bd HFL.out bs q 6 i)
      have E6 : Hid (0 ≤ a6 ∧ a6 ≤ 1000) := Lib.hid (fl_bd HFL.out HX.out 6)
      have D7 := Lib.hid (ghS_bd HFL.out bs q 7 i)
      have E7 : Hid (0 ≤ a7 ∧ a7 ≤ 1000) := Lib.hid (fl_bd HFL.out HX.out 7)
      obtain ⟨z0, hz0⟩ : ∃ z, ghS xs bs q 0 i = z := ⟨_, rfl⟩
      rw [hz0] at c0 D0
      have HZ0 := Lib.hid hz0; clear hz0
      replace D0 : Hid (0 ≤ z0 ∧ z0 ≤ 1000000) := Lib.hid (by have := D0.out; omega)
      obtain ⟨z1, hz1⟩ : ∃ z, ghS xs bs q 1 i = z := ⟨_, rfl⟩
      rw [hz1] at c1 D1
      have HZ1 := Lib.hid hz1; clear hz1
      replace D1 : Hid (0 ≤ z1 ∧ z1 ≤ 1000000) := Lib.hid (by have := D1.out; omega)
      obtain ⟨z2, hz2⟩ : ∃ z, ghS xs bs q 2 i = z := ⟨_, rfl⟩
      rw [hz2] at c2 D2
      have HZ2 := Lib.hid hz2; clear hz2
      replace D2 : Hid (0 ≤ z2 ∧ z2 ≤ 1000000) := Lib.hid (by have := D2.out; omega)
      obtain ⟨z3, hz3⟩ : ∃ z, ghS xs bs q 3 i = z := ⟨_, rfl⟩
      rw [hz3] at c3 D3
      have HZ3 := Lib.hid hz3; clear hz3
      replace D3 : Hid (0 ≤ z3 ∧ z3 ≤ 1000000) := Lib.hid (by have := D3.out; omega)
      obtain ⟨z4, hz4⟩ : ∃ z, ghS xs bs q 4 i = z := ⟨_, rfl⟩
      rw [hz4] at c4 D4
      have HZ4 := Lib.hid hz4; clear hz4
      replace D4 : Hid (0 ≤ z4 ∧ z4 ≤ 1000000) := Lib.hid (by have := D4.out; omega)
      obtain ⟨z5, hz5⟩ : ∃ z, ghS xs bs q 5 i = z := ⟨_, rfl⟩
      rw [hz5] at c5 D5
      have HZ5 := Lib.hid hz5; clear hz5
      replace D5 : Hid (0 ≤ z5 ∧ z5 ≤ 1000000) := Lib.hid (by have := D5.out; omega)
      obtain ⟨z6, hz6⟩ : ∃ z, ghS xs bs q 6 i = z := ⟨_, rfl⟩
      rw [hz6] at c6 D6
      have HZ6 := Lib.hid hz6; clear hz6
      replace D6 : Hid (0 ≤ z6 ∧ z6 ≤ 1000000) := Lib.hid (by have := D6.out; omega)
      obtain ⟨z7, hz7⟩ : ∃ z, ghS xs bs q 7 i = z := ⟨_, rfl⟩
      rw [hz7] at c7 D7
      have HZ7 := Lib.hid hz7; clear hz7
      replace D7 : Hid (0 ≤ z7 ∧ z7 ≤ 1000000) := Lib.hid (by have := D7.out; omega)
      have f0 := hr3.out.frozen (q * 8)
      have f1 := hr3.out.frozen (q * 8 + 1)
      have f2 := hr3.out.frozen (q * 8 + 2)
      have f3 := hr3.out.frozen (q * 8 + 3)
      have f4 := hr3.out.frozen (q * 8 + 4)
      have f5 := hr3.out.frozen (q * 8 + 5)
      have f6 := hr3.out.frozen (q * 8 + 6)
      have f7 := hr3.out.frozen (q * 8 + 7)
      go_wp2_with fail
      go_region_with (go_at_call 43; refine (sumOf_any z0 z1 z2 z3 z4 z5 z6 z7 a0 a1 a2 a3 a4 a5 a6 a7 _ D0.out E0.out D1.out E1.out D2.out E2.out D3.out E3.out D4.out E4.out D5.out E5.out D6.out E6.out D7.out E7.out).mono ?_; rintro e w4 ⟨rfl, hb4⟩; have k0 := (hb4.cell (World.block_lt_of_cell? _ _ c0)).trans c0; have g0 := (hb4.frozen (p := ⟨K, q * 8, none⟩) (World.block_lt_of_cell? _ _ c0)).trans f0; have k1 := (hb4.cell (World.block_lt_of_cell? _ _ c1)).trans c1; have g1 := (hb4.frozen (p := ⟨K, q * 8 + 1, none⟩) (World.block_lt_of_cell? _ _ c1)).trans f1; have k2 := (hb4.cell (World.block_lt_of_cell? _ _ c2)).trans c2; have g2 := (hb4.frozen (p := ⟨K, q * 8 + 2, none⟩) (World.block_lt_of_cell? _ _ c2)).trans f2; have k3 := (hb4.cell (World.block_lt_of_cell? _ _ c3)).trans c3; have g3 := (hb4.frozen (p := ⟨K, q * 8 + 3, none⟩) (World.block_lt_of_cell? _ _ c3)).trans f3; have k4 := (hb4.cell (World.block_lt_of_cell? _ _ c4)).trans c4; have g4 := (hb4.frozen (p := ⟨K, q * 8 + 4, none⟩) (World.block_lt_of_cell? _ _ c4)).trans f4; have k5 := (hb4.cell (World.block_lt_of_cell? _ _ c5)).trans c5; have g5 := (hb4.frozen (p := ⟨K, q * 8 + 5, none⟩) (World.block_lt_of_cell? _ _ c5)).trans f5; have k6 := (hb4.cell (World.block_lt_of_cell? _ _ c6)).trans c6; have g6 := (hb4.frozen (p := ⟨K, q * 8 + 6, none⟩) (World.block_lt_of_cell? _ _ c6)).trans f6; have k7 := (hb4.cell (World.block_lt_of_cell? _ _ c7)).trans c7; have g7 := (hb4.frozen (p := ⟨K, q * 8 + 7, none⟩) (World.block_lt_of_cell? _ _ c7)).trans f7; clear c0 c1 c2 c3 c4 c5 c6 c7 f0 f1 f2 f3 f4 f5 f6 f7 x0 x1 x2 x3 x4 x5 x6 x7 x8)
      all_goals go_wp2_with fail
      all_goals (
        go_roundw
        case rel =>
          have b0 := below_then hB3.out.drew hB3.out.drew.size hb4
          have s0 := hr3.out.drew.below hb4
          rw [← ghD_zero xs bs i q] at s0
          have b1 := b0.setCell (p := ⟨K, q * 8, none⟩) hbs (.int .i32 (z0 + a0))
          have s1 := s0.set (q * 8) (.int .i32 (z0 + a0))
          rw [show (nums .i32 (gen ((m + 1) * 8) (ghD xs bs i q 0))).set (q * 8) (.int .i32 (z0 + a0)) = nums .i32 (gen ((m + 1) * 8) (ghD xs bs i q 1)) from ghD_set (d := 0) HX.out HQ.out hqm (by omega) (by rw [HZ0.out]; rfl)] at s1
          have b2 := b1.setCell (p := ⟨K, q * 8 + 1, none⟩) hbs (.int .i32 (z1 + a1))
          have s2 := s1.set (q * 8 + 1) (.int .i32 (z1 + a1))
          rw [show (nums .i32 (gen ((m + 1) * 8) (ghD xs bs i q 1))).set (q * 8 + 1) (.int .i32 (z1 + a1)) = nums .i32 (gen ((m + 1) * 8) (ghD xs bs i q 2)) from ghD_set (d := 1) HX.out HQ.out hqm (by omega) (by rw [HZ1.out]; rfl)] at s2
          have b3 := b2.setCell (p := ⟨K, q * 8 + 2, none⟩) hbs (.int .i32 (z2 + a2))
          have s3 := s2.set (q * 8 + 2) (.int .i32 (z2 + a2))
          rw [show (nums .i32 (gen ((m + 1) * 8) (ghD xs bs i q 2))).set (q * 8 + 2) (.int .i32 (z2 + a2)) = nums .i32 (gen ((m + 1) * 8) (ghD xs bs i q 3)) from ghD_set (d := 2) HX.out HQ.out hqm (by omega) (by rw [HZ2.out]; rfl)] at s3
          have b4 := b3.setCell (p := ⟨K, q * 8 + 3, none⟩) hbs (.int .i32 (z3 + a3))
          have s4 := s3.set (q * 8 + 3) (.int .i32 (z3 + a3))
          rw [show (nums .i32 (gen ((m + 1) * 8) (ghD xs bs i q 3))).set (q * 8 + 3) (.int .i32 (z3 + a3)) = nums .i32 (gen ((m + 1) * 8) (ghD xs bs i q 4)) from ghD_set (d := 3) HX.out HQ.out hqm (by omega) (by rw [HZ3.out]; rfl)] at s4
          have b5 := b4.setCell (p := ⟨K, q * 8 + 4, none⟩) hbs (.int .i32 (z4 + a4))
          have s5 := s4.set (q * 8 + 4) (.int .i32 (z4 + a4))
          rw [show (nums .i32 (gen ((m + 1) * 8) (ghD xs bs i q 4))).set (q * 8 + 4) (.int .i32 (z4 + a4)) = nums .i32 (gen ((m + 1) * 8) (ghD xs bs i q 5)) from ghD_set (d := 4) HX.out HQ.out hqm (by omega) (by rw [HZ4.out]; rfl)] at s5
          have b6 := b5.setCell (p := ⟨K, q * 8 + 5, none⟩) hbs (.int .i32 (z5 + a5))
          have s6 := s5.set (q * 8 + 5) (.int .i32 (z5 + a5))
          rw [show (nums .i32 (gen ((m + 1) * 8) (ghD xs bs i q 5))).set (q * 8 + 5) (.int .i32 (z5 + a5)) = nums .i32 (gen ((m + 1) * 8) (ghD xs bs i q 6)) from ghD_set (d := 5) HX.out HQ.out hqm (by omega) (by rw [HZ5.out]; rfl)] at s6
          have b7 := b6.setCell (p := ⟨K, q * 8 + 6, none⟩) hbs (.int .i32 (z6 + a6))
          have s7 := s6.set (q * 8 + 6) (.int .i32 (z6 + a6))
          rw [show (nums .i32 (gen ((m + 1) * 8) (ghD xs bs i q 6))).set (q * 8 + 6) (.int .i32 (z6 + a6)) = nums .i32 (gen ((m + 1) * 8) (ghD xs bs i q 7)) from ghD_set (d := 6) HX.out HQ.out hqm (by omega) (by rw [HZ6.out]; rfl)] at s7
          have b8 := b7.setCell (p := ⟨K, q * 8 + 7, none⟩) hbs (.int .i32 (z7 + a7))
          have s8 := s7.set (q * 8 + 7) (.int .i32 (z7 + a7))
          rw [show (nums .i32 (gen ((m + 1) * 8) (ghD xs bs i q 7))).set (q * 8 + 7) (.int .i32 (z7 + a7)) = nums .i32 (gen ((m + 1) * 8) (ghD xs bs i q 8)) from ghD_set (d := 7) HX.out HQ.out hqm (by omega) (by rw [HZ7.out]; rfl)] at s8
          rw [ghD_end HX.out HQ.out] at s8
          exact ⟨i + 1, by omega, by go_num, Lib.hid (by first | exact s8 | exact s8.drew), Lib.hid (by first | exact b8 | exact b8.drew)⟩
        case measure => simp [intOf]; omega)
    · have hin : i = n := by omega
      subst i
      have O0 : wr.ownsRow w.heap.size 25 8 (.slice (some ⟨K, 0, none⟩) (m + 1) (m + 1)) (m + 1) ((ghL xs bs n (m + 1)).flatMap HE) := by
        have hr' := hr.out
        rw [ghL_flat] at hr'
        exact hr'.own (n := m + 1) hbs (by unfold maxLen; omega) (by rw [HE_len, ghL_len])
      have RH : Rds wr (some ⟨K, 0, none⟩) (m + 1) 8 HC (ghL xs bs n (m + 1)) := own_rds (E := 25) (base := w.heap.size) (c := m + 1) (by rw [← flat_HC ghL_8]; exact O0) (fun x hx => by show (nums .i32 x).length = 8; rw [nums_length]; exact ghL_8 x hx) (by omega) (by omega)
      have hall := areAll_H (p := heapOk) (xs := ghL xs bs n (m + 1)) (k := 18) (enters_of Tryz.func18 rfl (by decide)) (Lib.hid fun a0 a1 a2 a3 a4 a5 a6 a7 w' hm => iValidHeap a0 a1 a2 a3 a4 a5 a6 a7 w' (Lib.hid (ghL_wf HFL.out h6 _ hm))) (Lib.hid ghL_8) (some ⟨K, 0, none⟩) (m + 1) (m + 1) wr RH
      have HALL := Lib.hid hall
      have HO := Lib.hid O0
      clear hall RH O0 hr
      have hok2 : (ghL xs bs n (m + 1)).all heapOk = ghOk xs bs := by unfold ghOk ghT; rw [HXL.out, HBL.out]
      have HOK := Lib.hid hok2; clear hok2
      go_wp2_with fail
      refine HALL.out.mono ?_
      rintro e w5 ⟨rfl, hb5⟩
      rw [HOK.out]
      have hB5 := Lib.hid (below_then hB.out hB.out.size hb5)
      have HO5 := Lib.hid (own_below HO.out hb5)
      cases hok : ghOk xs bs
      · have e2 : ghC xs bs = 3 := by unfold ghC; rw [HGC.out, if_pos rfl, hok]; rfl
        have e3 : ghR xs bs = [] := by unfold ghR; rw [e2]; rfl
        have E2 := Lib.hid e2; have E3 := Lib.hid e3; clear e2 e3
        go_wp2_with fail
        go_ret2
        rw [E2.out, E3.out]
        exact ⟨none, 0, rfl, own_nil _ _ _ _, hB5.out⟩
      · have e2 : ghC xs bs = 0 := by unfold ghC; rw [HGC.out, if_pos rfl, hok]; rfl
        have e3 : ghR xs bs = ghL xs bs n (m + 1) := by unfold ghR ghT; rw [e2, HXL.out, HBL.out]; rfl
        have E2 := Lib.hid e2; have E3 := Lib.hid e3; clear e2 e3
        go_wp2_with fail
        go_ret2
        rw [E2.out, E3.out, ghL_len]
        exact ⟨some ⟨K, 0, none⟩, m + 1, rfl, HO5.out, hB5.out⟩
end Go.Proofs.YtbkhlcbnnjgdpaaGreatDoor
