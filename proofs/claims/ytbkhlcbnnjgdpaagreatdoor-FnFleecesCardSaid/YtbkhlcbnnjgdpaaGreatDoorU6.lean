/- Contracts: spec.GradeHeaps. -/
import Derived.Test.YtbkhlcbnnjgdpaaGreatDoorBu
import Derived.IntWalk
namespace Go.Proofs.YtbkhlcbnnjgdpaaGreatDoor
open Go.RowKit
set_option linter.unusedVariables false
set_option linter.unusedSimpArgs false
set_option maxHeartbeats 4000000 in
theorem sGradeHeaps (A : Option Addr) (n c : Nat) (xs : List (Int × List Int)) (B : Option Addr) (m d : Nat) (bs : List Int) (w : World) (R : Rds w A n 9 FlC xs) (hF : Hid (FlOk xs)) (R2 : Rds w B m 1 (fun x : Int => [.int .i64 x]) bs) :
    Calls Tryz.prog 31 #[.slice A n c, .slice B m d] w (RetOwnT 25 8 (ghR xs bs).length ((ghR xs bs).flatMap HE) [.int .i64 (ghC xs bs)] w) := by
  have hn := R.2.1
  have HXL := Lib.hid R.1
  have HBL := Lib.hid R2.1
  have hbd := (l01Bounds_any B m d bs _ R2)
  obtain ⟨C, hC⟩ : ∃ C, gfC xs bs = C := ⟨_, rfl⟩
  have HC_ := Lib.hid hC
  have HBD := Lib.hid hbd
  clear hbd
  by_cases h0 : C = 0
  rotate_left
  · have hr : ghR xs bs = [] := by unfold ghR ghC; rw [hC, if_neg h0, if_neg h0]
    have hc2 : ghC xs bs = C := by unfold ghC; rw [hC, if_neg h0]
    rw [hr, hc2]
    have h0i : ¬ (C : Int) = 0 := h0
    clear hC hr hc2
    go_enter Tryz.func31, Tryz.ntmps31
    go_wp2_with fail
    refine HBD.out.mono ?_
    rintro e w1 ⟨rfl, hb⟩
    go_wp2_with fail
    refine (l01Fleeces_any A n c xs _ _ (R.below hb) hF).mono ?_
    rintro e w2 ⟨rfl, rfl⟩
    rw [show flC xs (risOk bs) = C from HC_.out]
    have hbs := hb.size
    go_wp2_with fail
    go_ret2
    exact ⟨_, _, rfl, own_lower (own_empty _ _ _) hbs, hb.alloc hbs _⟩
  subst h0
  obtain ⟨hfl, hri, h6⟩ := flC_0 hC
  rw [HXL.out] at h6
  have hm9 := ris_len hri
  rw [HBL.out] at hm9
  have HFL := Lib.hid hfl
  have HGC := Lib.hid hC
  clear hC hfl hri
  have hmk := run_make_n (P := Tryz.prog) 42 25 (z := .agg #[.int .i32 0, .int .i32 0, .int .i32 0, .int .i32 0, .int .i32 0, .int .i32 0, .int .i32 0, .int .i32 0]) (sz := 8) (by_ := 32) Tryz.underlying42 (by kernel_rfl) (m + 1) (by omega) (by omega)
  rw [madeCells_heap, List.toArray_replicate] at hmk
  rw [show ((m + 1 : Nat) : Int) = (m : Int) + 1 by omega] at hmk
  go_enter Tryz.func31, Tryz.ntmps31
  go_wp2_with fail
  refine HBD.out.mono ?_
  rintro e w1 ⟨rfl, hb⟩
  go_wp2_with fail
  refine (l01Fleeces_any A n c xs _ _ (R.below hb) hF).mono ?_
  rintro e w2 ⟨rfl, rfl⟩
  rw [show flC xs (risOk bs) = 0 from HC_.out]
  have hbs := hb.size
  have hb2 := hb.alloc hbs (.cells (List.replicate ((m + 1) * 8) (.int .i32 0)).toArray 25)
  have R0 : Hid (Row (w1.alloc (.cells (List.replicate ((m + 1) * 8) (.int .i32 0)).toArray 25)) w1.heap.size 25 (nums .i32 (gen ((m + 1) * 8) (ghF xs bs 0)))) := Lib.hid (by rw [show gen ((m + 1) * 8) (ghF xs bs 0) = gen ((m + 1) * 8) (fun _ => 0) from rfl, gen_zero]; exact Row.alloc w1 (List.replicate ((m + 1) * 8) (.int .i32 0)) 25)
  rw [List.toArray_replicate] at hb2 R0
  go_wp2_with fail
  have HB := Lib.hid hb2
  generalize w1.alloc (.cells (Array.replicate ((m + 1) * 8) (.int .i32 0)) 25) = WM at R0 HB ⊢
  clear hmk hb2 hb
  obtain ⟨K, hK⟩ : ∃ K, w1.heap.size = K := ⟨_, rfl⟩
  rw [hK] at R0 hbs
  rw [hK]
  go_loopw [8] (fun v wr => ∃ i : Nat, i ≤ n ∧ v = .int .i64 i ∧ Hid (Row wr K 25 (nums .i32 (gen ((m + 1) * 8) (ghF xs bs i)))) ∧ Hid (Below w.heap.size w wr)) (fun v _ => n - (intOf v).toNat)
  case atStart => exact ⟨0, by omega, rfl, R0, HB⟩
  case round =>
    obtain ⟨i, hi, rfl, hr, hB⟩ := hrel
    clear R0 HB
    by_cases hlt : i < n
    · obtain ⟨ad, x, rfl, hx, hm, hc0, hc⟩ := (R.below hB.out).cells hlt
      have gf := i8_rng (hF.out x hm).1
      have c0 := hc0 _ rfl
      have HX := Lib.hid hx
      have hq0 := cntTo_bd bs x.1 bs.length
      rw [HBL.out] at hq0
      obtain ⟨q, hq⟩ : ∃ q : Nat, cntL bs x.1 = (q : Int) := ⟨(cntL bs x.1).toNat, by have : 0 ≤ cntL bs x.1 := (cntTo_bd bs x.1 bs.length).1; omega⟩
      have hqm : q ≤ m := by have : cntL bs x.1 ≤ (bs.length : Int) := (cntTo_bd bs x.1 bs.length).2; rw [HBL.out] at this; omega
      have HQ := Lib.hid hq
      clear hx hm hc0 hc hq hq0
      go_wp2_with fail
      refine (l01Grade_any B m d bs x.1 _ (R2.below hB.out)).mono ?_
      rintro e w3 ⟨rfl, rfl⟩
      rw [HQ.out]
      clear c0
      go_wp2_with fail
      rename World => W0
      go_loopw [10] (fun v wr => ∃ k : Nat, k ≤ 8 ∧ v = .int .i64 k ∧ Hid (Row wr K 25 (nums .i32 (gen ((m + 1) * 8) (ghD xs bs i q k)))) ∧ Hid (Below w.heap.size w wr)) (fun v _ => 8 - (intOf v).toNat)
      case atStart => exact ⟨0, by omega, rfl, Lib.hid (by rw [ghD_zero]; exact hr.out), hB⟩
      case round =>
        clear hr hB
        obtain ⟨k, hk, rfl, hr, hB⟩ := hrel
        by_cases hkt : k < 8
        · have hk1 : (k : Int) < 8 := by omega
          obtain ⟨ad_, x_, hA, hx_, hm, hc0, hc⟩ := (R.below hB.out).cells hlt
          cases hA
          rw [HX.out] at hx_
          cases hx_
          have hl8 := (hF.out x hm).2.1
          have e0 : wr.cell? ⟨(ad.add (i * 9)).block, (ad.add (i * 9)).off + 1 + k, none⟩ = some (.int .i32 (x.2.getD k 0)) := by
            have h := hc k (.int .i32 (x.2.getD k 0)) (by
              show (nums .i32 x.2)[k]? = _
              rw [nums_get, List.getElem?_eq_getElem (by omega), List.getD_eq_getElem?_getD, List.getElem?_eq_getElem (by omega)]
              rfl)
            rw [show (ad.add (i * 9)).off + 1 + k = (ad.add (i * 9)).off + (k + 1) by omega]
            exact h
          have c0 : wr.cell? ⟨K, q * 8 + k, none⟩ = some (.int .i32 (ghS xs bs q k i)) := by rw [hr.out.cell]; exact ghD_at (by omega) hkt
          have f0 := hr.out.frozen (q * 8 + k)
          have hb1 := ghS_bd HFL.out bs q k i
          have hb2 := fl_bd HFL.out HX.out k
          obtain ⟨u, hu⟩ : ∃ u, x.2.getD k 0 = u := ⟨_, rfl⟩
          rw [hu] at e0 hb2
          obtain ⟨z, hz⟩ : ∃ z, ghS xs bs q k i = z := ⟨_, rfl⟩
          rw [hz] at c0 hb1
          have hst := Lib.hid (ghD_set (n := m + 1) HX.out HQ.out (by omega) hkt (show ghS xs bs q k i + x.2.getD k 0 = z + u by rw [hz, hu]))
          have v1 : IntKind.i32.wrap (z + u) = z + u := IntWalk.i32_in _ (by omega)
          clear hc0 hc hm hl8 hu hz
          go_wp2_with fail
          go_region
          all_goals clear v1
          all_goals go_wp2_with fail
          all_goals go_roundw
          case rel => exact ⟨k + 1, by omega, by go_num, Lib.hid (by have := hr.out.set (q * 8 + k) (.int .i32 (z + u)); rw [hst.out] at this; exact this), Lib.hid (by have h1 : Below w.heap.size w (wr.setCell ⟨K, q * 8 + k, none⟩ (.int .i32 (z + u))) := hB.out.setCell hbs _; exact h1.drew)⟩
          case measure => simp [intOf]; omega
        · have hk1 : ¬ (k : Int) < 8 := by omega
          obtain rfl : k = 8 := by omega
          go_wp2_with fail
          go_roundw
          case rel => exact ⟨i + 1, by omega, by go_num, Lib.hid (by rw [← ghD_end HX.out HQ.out]; exact hr.out), hB⟩
          case measure => simp [intOf]; omega
    · have hin : i = n := by omega
      subst i
      go_wp2_with fail
      clear hlt hi
      go_loop [11] (fun v => ∃ g : Nat, g ≤ m + 1 ∧ v = .int .i64 g ∧ Hid (∀ j, j < g → heapOk (ghH xs bs n j) = true)) (fun v => m + 1 - (intOf v).toNat)
      case atStart => exact ⟨0, by omega, rfl, Lib.hid (fun j h => absurd h (Nat.not_lt_zero _))⟩
      case round =>
        obtain ⟨g, hg, rfl, H⟩ := hrel
        by_cases hgt : g < m + 1
        · have rr : Hid (∀ k y, (ghH xs bs n g)[k]? = some y → wr.cell? ⟨K, g * 8 + k, none⟩ = some (.int .i32 y)) := Lib.hid fun k y hy => by
            have hk8 : k < 8 := by
              rcases Nat.lt_or_ge k 8 with h | h
              · exact h
              · rw [List.getElem?_eq_none (by show (8 : Nat) ≤ k; exact h)] at hy; simp at hy
            rw [hr.out.cell, ghF_at hgt hk8]
            have h8 : k = 0 ∨ k = 1 ∨ k = 2 ∨ k = 3 ∨ k = 4 ∨ k = 5 ∨ k = 6 ∨ k = 7 := by omega
            rcases h8 with rfl | rfl | rfl | rfl | rfl | rfl | rfl | rfl <;> (simp [ghH] at hy; rw [hy])
          have hwf : Hid (∀ y ∈ ghH xs bs n g, (Lit.int .i32 y).wf = true) := Lib.hid (ghL_wf (n := m + 1) HFL.out h6 _ (List.mem_of_getElem? (ghL_at hgt)))
          cases hok : heapOk (ghH xs bs n g)
          · have e1 := gh_no (xs := xs) (bs := bs) (g := g) (by rw [HBL.out]; exact hgt) (by rw [HXL.out]; exact hok)
            have e2 : ghC xs bs = 3 := by unfold ghC; rw [HGC.out, if_pos rfl, e1]; rfl
            have e3 : ghR xs bs = [] := by unfold ghR; rw [e2]; rfl
            rw [e2, e3]
            clear e1 e2 e3
            go_wp2_with (go_at_call 38; (refine (l01Heap_at K (g * 8) (ghH xs bs n g) _ rr rfl hwf).mono ?_); rintro e w' ⟨rfl, rfl⟩; rw [hok])
            go_ret2
            exact ⟨_, _, rfl, own_lower (own_empty _ _ _) hB.out.size, hB.out.alloc hB.out.size _⟩
          · go_wp2_with (go_at_call 38; (refine (l01Heap_at K (g * 8) (ghH xs bs n g) _ rr rfl hwf).mono ?_); rintro e w' ⟨rfl, rfl⟩; rw [hok])
            go_round
            case rel => exact ⟨g + 1, by omega, by go_num, Lib.hid (upto_succ H.out hok)⟩
            case measure => simp [intOf]; omega
        · obtain rfl : g = m + 1 := by omega
          have e1 := gh_yes (xs := xs) (bs := bs) (fun j hj => by rw [HXL.out]; exact H.out j (by rw [HBL.out] at hj; exact hj))
          have e2 : ghC xs bs = 0 := by unfold ghC; rw [HGC.out, if_pos rfl, e1]; rfl
          have e3 : ghR xs bs = ghL xs bs n (m + 1) := by unfold ghR ghT; rw [e2, HXL.out, HBL.out]; rfl
          have E2 := Lib.hid e2; have E3 := Lib.hid e3
          clear e1 e2 e3
          go_wp2_with fail
          go_ret2
          rw [E2.out, E3.out, ghL_len]
          have hr' := hr.out
          rw [ghL_flat] at hr'
          exact ⟨some ⟨K, 0, none⟩, m + 1, rfl, hr'.own (n := m + 1) hbs (by unfold maxLen; omega) (by rw [HE_len, ghL_len]), hB.out⟩
end Go.Proofs.YtbkhlcbnnjgdpaaGreatDoor
