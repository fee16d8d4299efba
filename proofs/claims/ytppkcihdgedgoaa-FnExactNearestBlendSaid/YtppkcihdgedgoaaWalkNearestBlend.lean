/- The walk of the law FnExactNearestBlend: its calls one after the other, each by its contract. -/
import Derived.Test.YtppkcihdgedgoaaP7
import Derived.Test.YtppkcihdgedgoaaP8
import Derived.Test.YtppkcihdgedgoaaHR
namespace Go.Proofs.Ytppkcihdgedgoaa
open Go.RowKit
set_option linter.unusedVariables false
set_option linter.unusedSimpArgs false
set_option maxRecDepth 100000 in
set_option maxHeartbeats 1000000 in
theorem walk_NearestBlend (w : World) (A0 : Option Addr) (n0 c0 : Nat) (x0 : List (Int × List Int)) (hc0 : n0 ≤ c0) (R0 : Rds w A0 n0 9 FlC x0) (g0 : ∀ x ∈ x0, ((Lit.int .i8 x.1).wf = true ∧ x.2.length = 8 ∧ ∀ y ∈ x.2, (Lit.int .i32 y).wf = true)) (b0 : n0 * 36 ≤ 140737488351232) (x1 : List Int) (g1 : x1.length = 8 ∧ ∀ x ∈ x1, (Lit.int .i32 x).wf = true) (x2 : Int) (g2 : (Lit.int .i64 x2).wf = true) :
    Calls Try.prog 6 #[.slice A0 n0 c0, .agg (nums .i32 x1).toArray, .int .i64 x2] w fun e w' => e = .returned (.bool true) ∧ Below w.heap.size w w' := by
  have hR0 := R0.2.1
  have G0 := Lib.hid g0; clear g0 b0
  by_cases hn0 : n0 ≤ 1048576
  rotate_left
  · go_enter Try.func6, Try.ntmps6
    go_wp2_with fail
    refine (szFleeceS_gt A0 n0 c0 _ _ (by omega) (by omega) (by omega)).mono ?_
    rintro e w_ ⟨rfl, rfl⟩
    go_wp2_with fail
    go_ret
    exact ⟨rfl, by first | exact Below.refl _ _ | go_grown⟩
  have hm0 : n0 ≤ 1048576 := by omega
  obtain ⟨hl1, hw1⟩ := g1
  obtain ⟨a0_1, a1_1, a2_1, a3_1, a4_1, a5_1, a6_1, a7_1, rfl⟩ := heap8 hl1
  have HW1 := Lib.hid hw1; clear hw1 hl1
  change Calls Try.prog 6 #[.slice A0 n0 c0, .agg #[.int .i32 a0_1, .int .i32 a1_1, .int .i32 a2_1, .int .i32 a3_1, .int .i32 a4_1, .int .i32 a5_1, .int .i32 a6_1, .int .i32 a7_1], .int .i64 x2] w _
  · have HB := Below.refl w.heap.size w
    go_enter Try.func6, Try.ntmps6
    go_wp2_with fail
    replace HB := HB.alloc HB.size (.cells #[.int .i32 a0_1, .int .i32 a1_1, .int .i32 a2_1, .int .i32 a3_1, .int .i32 a4_1, .int .i32 a5_1, .int .i32 a6_1, .int .i32 a7_1] 45)
    have X0 := Row.alloc w [.int .i32 a0_1, .int .i32 a1_1, .int .i32 a2_1, .int .i32 a3_1, .int .i32 a4_1, .int .i32 a5_1, .int .i32 a6_1, .int .i32 a7_1] 45
    refine (szFleeceS_le A0 n0 c0 _ _ (by omega) (by omega)).mono ?_
    rintro e w1 ⟨rfl, rfl⟩
    go_wp2_with fail
    obtain ⟨wg1, hwg⟩ : ∃ x, x = w.alloc (.cells #[.int .i32 a0_1, .int .i32 a1_1, .int .i32 a2_1, .int .i32 a3_1, .int .i32 a4_1, .int .i32 a5_1, .int .i32 a6_1, .int .i32 a7_1] 45) := ⟨_, rfl⟩
    rw [← hwg] at X0 HB ⊢
    clear hwg
    go_cut [8, 9, 10] (fun s8 s9 s10 wx => ∃ (A : Option Addr) (c gz : Nat), s8 = .slice A (nbR x0 [a0_1, a1_1, a2_1, a3_1, a4_1, a5_1, a6_1, a7_1] x2).length c ∧ s9 = .pointer (some ⟨gz, 0, none⟩) ∧ s10 = .int .i64 (nbC x0 [a0_1, a1_1, a2_1, a3_1, a4_1, a5_1, a6_1, a7_1] x2) ∧ Hid (wx.ownsRow wg1.heap.size 2 1 (.slice A (nbR x0 [a0_1, a1_1, a2_1, a3_1, a4_1, a5_1, a6_1, a7_1] x2).length c) (nbR x0 [a0_1, a1_1, a2_1, a3_1, a4_1, a5_1, a6_1, a7_1] x2).length (nums .i64 (nbR x0 [a0_1, a1_1, a2_1, a3_1, a4_1, a5_1, a6_1, a7_1] x2))) ∧ Hid (Row wx gz 47 [.int .i64 (nbN x0 [a0_1, a1_1, a2_1, a3_1, a4_1, a5_1, a6_1, a7_1] x2), .int .i64 (nbD x0 [a0_1, a1_1, a2_1, a3_1, a4_1, a5_1, a6_1, a7_1] x2)]) ∧ wg1.heap.size ≤ gz ∧ Hid (Below wg1.heap.size wg1 wx))
    case first =>
      have hlX := X0.lt
      refine wp_region_held_drew (S := fun w' => Row w' (w.heap.size) 45 [.int .i32 a0_1, .int .i32 a1_1, .int .i32 a2_1, .int .i32 a3_1, .int .i32 a4_1, .int .i32 a5_1, .int .i32 a6_1, .int .i32 a7_1]) (by kernel_rfl) X0.drew (fun hH => ?_)
      refine wpAnyH_take (i := 0) (v := .slice A0 n0 c0) rfl (by kernel_rfl) (by kernel_rfl) (by kernel_rfl) (fun _ _ _ h => h) (Or.inl ⟨by rfl, fun w h => by go_simp⟩) hH ?_
      try simp only [Act.put, List.getElem_toArray, List.getElem_cons_zero, List.getElem_cons_succ, List.setIfInBounds_toArray, List.set_cons_zero, List.set_cons_succ]
      refine wpAnyH_take (i := 2) rfl (by kernel_rfl) (by kernel_rfl) (by kernel_rfl) (fun _ _ _ h => h) (yieldsIf_load_mid (by rfl) _ _ rfl _ _ rfl [.int .i32 a0_1, .int .i32 a1_1, .int .i32 a2_1, .int .i32 a3_1, .int .i32 a4_1, .int .i32 a5_1, .int .i32 a6_1, .int .i32 a7_1] _ (fun w h => h.rangeAt) heapA_type rfl heapA_size) hH ?_
      try simp only [Act.put, List.getElem_toArray, List.getElem_cons_zero, List.getElem_cons_succ, List.setIfInBounds_toArray, List.set_cons_zero, List.set_cons_succ]
      refine wpAnyH_take (i := 4) (v := .int .i64 x2) rfl (by kernel_rfl) (by kernel_rfl) (by kernel_rfl) (fun _ _ _ h => h) (Or.inl ⟨by rfl, fun w h => by go_simp⟩) hH ?_
      try simp only [Act.put, List.getElem_toArray, List.getElem_cons_zero, List.getElem_cons_succ, List.setIfInBounds_toArray, List.set_cons_zero, List.set_cons_succ]
      have Y0 := X0.drew
      clear hH
      have B0 := HB
      have HBt := (Below.refl wg1.heap.size wg1).drew
      obtain ⟨wd, hwd⟩ : ∃ x, x = World.drew wg1 := ⟨_, rfl⟩
      rw [← hwd] at Y0 HBt ⊢
      clear hwd
      refine wpAnyH_ready (rs := [1, 10]) (by kernel_rfl) (by simp) ?_
      refine AllReadyH.cons rfl (fun K hK => ?_) ?_
      · try simp only [List.getElem_toArray, List.getElem_cons_zero, List.getElem_cons_succ]
        rw [if_pos (by rfl)]
        go_simp
        refine (toFleeceS_any A0 n0 c0 x0 _ (R0.below (below_then B0 B0.size HBt)) (Lib.hid (FlOk.len G0.out)) hm0).mono ?_
        rintro e we ⟨A_1, c_1, rfl, O1, hb⟩
        refine hK.out _ _ (Y0.below hb) (fun _ => ?_)
        clear hK K
        try simp only [Act.put, List.getElem_toArray, List.getElem_cons_zero, List.getElem_cons_succ, List.setIfInBounds_toArray, List.set_cons_zero, List.set_cons_succ]
        replace Y0 := Y0.below hb
        replace HBt := below_then HBt HBt.size hb
        clear hb
        obtain ⟨wd, hwd⟩ : ∃ x, x = we := ⟨_, rfl⟩
        subst hwd
        refine wpAnyH_ready (rs := [3, 10]) (by kernel_rfl) (by simp) ?_
        refine AllReadyH.cons rfl (fun K hK => ?_) ?_
        · try simp only [List.getElem_toArray, List.getElem_cons_zero, List.getElem_cons_succ]
          rw [if_pos (by rfl)]
          go_simp
          refine (toHeap_any a0_1 a1_1 a2_1 a3_1 a4_1 a5_1 a6_1 a7_1 _).mono ?_
          rintro e we ⟨rfl, hb⟩
          refine hK.out _ _ (Y0.below hb) (fun _ => ?_)
          clear hK K
          try simp only [Act.put, List.getElem_toArray, List.getElem_cons_zero, List.getElem_cons_succ, List.setIfInBounds_toArray, List.set_cons_zero, List.set_cons_succ]
          replace O1 := own_below O1 hb
          replace Y0 := Y0.below hb
          replace HBt := below_then HBt HBt.size hb
          clear hb
          obtain ⟨wd, hwd⟩ : ∃ x, x = we := ⟨_, rfl⟩
          subst hwd
          refine wpAnyH_ready (rs := [5, 10]) (by kernel_rfl) (by simp) ?_
          refine AllReadyH.cons rfl (fun K hK => ?_) ?_
          · try simp only [List.getElem_toArray, List.getElem_cons_zero, List.getElem_cons_succ]
            rw [if_pos (by rfl)]
            go_simp
            refine (sNearestBlend A_1 n0 c_1 x0 a0_1 a1_1 a2_1 a3_1 a4_1 a5_1 a6_1 a7_1 x2 _ (own_rdsFl O1 (FlOk.len G0.out) (by omega)) G0 (by omega) HW1).mono ?_
            rintro e we ⟨A_2, c_2, rfl, O2, hb⟩
            refine hK.out _ _ (Y0.below hb) (fun _ => ?_)
            clear hK K
            try simp only [Act.put, List.getElem_toArray, List.getElem_cons_zero, List.getElem_cons_succ, List.setIfInBounds_toArray, List.set_cons_zero, List.set_cons_succ]
            replace O2 := own_lower (b' := wg1.heap.size) O2 HBt.size
            clear O1
            replace Y0 := Y0.below hb
            replace HBt := below_then HBt HBt.size hb
            clear hb
            obtain ⟨wd, hwd⟩ : ∃ x, x = we := ⟨_, rfl⟩
            subst hwd
            have hH := Y0
            refine wpAnyH_take (i := 6) (v := .tuple #[.slice A_2 (nbR x0 [a0_1, a1_1, a2_1, a3_1, a4_1, a5_1, a6_1, a7_1] x2).length c_2, .agg #[.int .i64 (nbN x0 [a0_1, a1_1, a2_1, a3_1, a4_1, a5_1, a6_1, a7_1] x2), .int .i64 (nbD x0 [a0_1, a1_1, a2_1, a3_1, a4_1, a5_1, a6_1, a7_1] x2)], .int .i64 (nbC x0 [a0_1, a1_1, a2_1, a3_1, a4_1, a5_1, a6_1, a7_1] x2)]) rfl (by kernel_rfl) (by kernel_rfl) (by kernel_rfl) (fun _ _ _ h => h) (Or.inl ⟨by rfl, fun w h => by go_simp⟩) hH ?_
            try simp only [Act.put, List.getElem_toArray, List.getElem_cons_zero, List.getElem_cons_succ, List.setIfInBounds_toArray, List.set_cons_zero, List.set_cons_succ]
            refine wpAnyH_take (i := 7) (v := .slice A_2 (nbR x0 [a0_1, a1_1, a2_1, a3_1, a4_1, a5_1, a6_1, a7_1] x2).length c_2) rfl (by kernel_rfl) (by kernel_rfl) (by kernel_rfl) (fun _ _ _ h => h) (Or.inl ⟨by rfl, fun w h => by go_simp⟩) hH ?_
            try simp only [Act.put, List.getElem_toArray, List.getElem_cons_zero, List.getElem_cons_succ, List.setIfInBounds_toArray, List.set_cons_zero, List.set_cons_succ]
            refine wpAnyH_take (i := 8) (v := .agg #[.int .i64 (nbN x0 [a0_1, a1_1, a2_1, a3_1, a4_1, a5_1, a6_1, a7_1] x2), .int .i64 (nbD x0 [a0_1, a1_1, a2_1, a3_1, a4_1, a5_1, a6_1, a7_1] x2)]) rfl (by kernel_rfl) (by kernel_rfl) (by kernel_rfl) (fun _ _ _ h => h) (Or.inl ⟨by rfl, fun w h => by go_simp⟩) hH ?_
            try simp only [Act.put, List.getElem_toArray, List.getElem_cons_zero, List.getElem_cons_succ, List.setIfInBounds_toArray, List.set_cons_zero, List.set_cons_succ]
            refine wpAnyH_take (i := 9) (v := .int .i64 (nbC x0 [a0_1, a1_1, a2_1, a3_1, a4_1, a5_1, a6_1, a7_1] x2)) rfl (by kernel_rfl) (by kernel_rfl) (by kernel_rfl) (fun _ _ _ h => h) (Or.inl ⟨by rfl, fun w h => by go_simp⟩) hH ?_
            try simp only [Act.put, List.getElem_toArray, List.getElem_cons_zero, List.getElem_cons_succ, List.setIfInBounds_toArray, List.set_cons_zero, List.set_cons_succ]
            clear hH
            refine wpAnyH_ready (rs := [10]) (by kernel_rfl) (by simp) ?_
            refine AllReadyH.cons rfl (fun K hK => ?_) ?_
            · try simp only [List.getElem_toArray, List.getElem_cons_zero, List.getElem_cons_succ]
              rw [if_pos (by rfl)]
              go_simp
              refine hK.out _ _ (Y0.below (below_alloc1 _ _)) (fun _ => ?_)
              clear hK K
              try simp only [Act.put, List.getElem_toArray, List.getElem_cons_zero, List.getElem_cons_succ, List.setIfInBounds_toArray, List.set_cons_zero, List.set_cons_succ]
              have Z := Row.alloc wd [.int .i64 0, .int .i64 0] 47
              have hz0 := HBt.size
              have hy0 := Y0.lt
              have HN := Lib.hid (fun k h => (show k ≠ wd.heap.size by have := (own_base O2 k h).2; omega))
              replace O2 := own_below O2 (below_alloc1 _ (.cells #[.int .i64 0, .int .i64 0] 47))
              replace Y0 := Y0.below (below_alloc1 _ (.cells #[.int .i64 0, .int .i64 0] 47))
              replace HBt := HBt.alloc HBt.size (.cells #[.int .i64 0, .int .i64 0] 47)
              generalize World.alloc wd (.cells #[.int .i64 0, .int .i64 0] 47) = wz at Y0 HBt Z O2 ⊢
              generalize wd.heap.size = gz at *
              obtain ⟨wd, hwd⟩ : ∃ x, x = wz := ⟨_, rfl⟩
              subst hwd
              have hH := Y0
              refine wpAnyH_take (i := 11) (v := .slice A_2 (nbR x0 [a0_1, a1_1, a2_1, a3_1, a4_1, a5_1, a6_1, a7_1] x2).length c_2) rfl (by kernel_rfl) (by kernel_rfl) (by kernel_rfl) (fun _ _ _ h => h) (Or.inl ⟨by rfl, fun w h => by go_simp⟩) hH ?_
              try simp only [Act.put, List.getElem_toArray, List.getElem_cons_zero, List.getElem_cons_succ, List.setIfInBounds_toArray, List.set_cons_zero, List.set_cons_succ]
              clear hH
              refine wpAnyH_ready (rs := [12]) (by kernel_rfl) (by simp) ?_
              refine AllReadyH.cons rfl (fun K hK => ?_) AllReadyH.nil
              try simp only [List.getElem_toArray, List.getElem_cons_zero, List.getElem_cons_succ]
              rw [if_pos (by rfl)]
              refine wp_store_mid _ _ _ rfl _ _ (List.toArray [.int .i64 (nbN x0 [a0_1, a1_1, a2_1, a3_1, a4_1, a5_1, a6_1, a7_1] x2), .int .i64 (nbD x0 [a0_1, a1_1, a2_1, a3_1, a4_1, a5_1, a6_1, a7_1] x2)]) rfl rfl (Z.there rfl) frac_size (one2 _ _) ?_
              simp only [List.toList_toArray]
              refine hK.out _ _ (Y0.setAway (by omega) _ _) (fun _ => ?_)
              clear hK K
              try simp only [Act.put, List.getElem_toArray, List.getElem_cons_zero, List.getElem_cons_succ, List.setIfInBounds_toArray, List.set_cons_zero, List.set_cons_succ]
              have hg : wd.grownBy (World.setCells wd gz 0 [.int .i64 (nbN x0 [a0_1, a1_1, a2_1, a3_1, a4_1, a5_1, a6_1, a7_1] x2), .int .i64 (nbD x0 [a0_1, a1_1, a2_1, a3_1, a4_1, a5_1, a6_1, a7_1] x2)]) (some gz) := grown_set9 (grown_set9 (World.grownBy.refl _ _) 0 _) 1 _
              replace O2 := own_apart (v' := .slice (some ⟨gz, 0, none⟩) 0 0) O2 hg (fun k k' h1 h2 => by have h3 : gz = k' := (by simpa [Value.ownBlock] using h2); have h4 := HN.out k h1; omega)
              clear hg
              replace Y0 := Y0.setAway (C := gz) (by omega) [.int .i64 (nbN x0 [a0_1, a1_1, a2_1, a3_1, a4_1, a5_1, a6_1, a7_1] x2), .int .i64 (nbD x0 [a0_1, a1_1, a2_1, a3_1, a4_1, a5_1, a6_1, a7_1] x2)] 0
              replace HBt := below_setCells (b := wg1.heap.size) (C := gz) (by omega) [.int .i64 (nbN x0 [a0_1, a1_1, a2_1, a3_1, a4_1, a5_1, a6_1, a7_1] x2), .int .i64 (nbD x0 [a0_1, a1_1, a2_1, a3_1, a4_1, a5_1, a6_1, a7_1] x2)] 0 HBt
              replace Z := Z.setAll [.int .i64 (nbN x0 [a0_1, a1_1, a2_1, a3_1, a4_1, a5_1, a6_1, a7_1] x2), .int .i64 (nbD x0 [a0_1, a1_1, a2_1, a3_1, a4_1, a5_1, a6_1, a7_1] x2)] rfl
              generalize World.setCells _ gz 0 [.int .i64 (nbN x0 [a0_1, a1_1, a2_1, a3_1, a4_1, a5_1, a6_1, a7_1] x2), .int .i64 (nbD x0 [a0_1, a1_1, a2_1, a3_1, a4_1, a5_1, a6_1, a7_1] x2)] = ws at Y0 HBt Z O2 ⊢
              have hH := Y0
              refine wpAnyH_take (i := 13) (v := .int .i64 (nbC x0 [a0_1, a1_1, a2_1, a3_1, a4_1, a5_1, a6_1, a7_1] x2)) rfl (by kernel_rfl) (by kernel_rfl) (by kernel_rfl) (fun _ _ _ h => h) (Or.inl ⟨by rfl, fun w h => by go_simp⟩) hH ?_
              try simp only [Act.put, List.getElem_toArray, List.getElem_cons_zero, List.getElem_cons_succ, List.setIfInBounds_toArray, List.set_cons_zero, List.set_cons_succ]
              clear hH
              refine wpAnyH_done (by kernel_rfl) ?_ _
              go_wp2_with fail
              go_meet
              exact ⟨A_2, c_2, gz, rfl, rfl, rfl, Lib.hid O2, Lib.hid Z, by omega, Lib.hid HBt⟩
            exact AllReadyH.nil
          refine AllReadyH.cons rfl (fun K hK => ?_) ?_
          · try simp only [List.getElem_toArray, List.getElem_cons_zero, List.getElem_cons_succ]
            rw [if_pos (by rfl)]
            go_simp
            refine hK.out _ _ (Y0.below (below_alloc1 _ _)) (fun _ => ?_)
            clear hK K
            try simp only [Act.put, List.getElem_toArray, List.getElem_cons_zero, List.getElem_cons_succ, List.setIfInBounds_toArray, List.set_cons_zero, List.set_cons_succ]
            have Z := Row.alloc wd [.int .i64 0, .int .i64 0] 47
            have hz0 := HBt.size
            have hy0 := Y0.lt
            replace O1 := own_below O1 (below_alloc1 _ (.cells #[.int .i64 0, .int .i64 0] 47))
            replace Y0 := Y0.below (below_alloc1 _ (.cells #[.int .i64 0, .int .i64 0] 47))
            replace HBt := HBt.alloc HBt.size (.cells #[.int .i64 0, .int .i64 0] 47)
            generalize World.alloc wd (.cells #[.int .i64 0, .int .i64 0] 47) = wz at Y0 HBt Z O1 ⊢
            generalize wd.heap.size = gz at *
            obtain ⟨wd, hwd⟩ : ∃ x, x = wz := ⟨_, rfl⟩
            subst hwd
            refine wpAnyH_ready (rs := [5]) (by kernel_rfl) (by simp) ?_
            refine AllReadyH.cons rfl (fun K hK => ?_) ?_
            · try simp only [List.getElem_toArray, List.getElem_cons_zero, List.getElem_cons_succ]
              rw [if_pos (by rfl)]
              go_simp
              have hzl := Z.lt
              refine (sNearestBlend A_1 n0 c_1 x0 a0_1 a1_1 a2_1 a3_1 a4_1 a5_1 a6_1 a7_1 x2 _ (own_rdsFl O1 (FlOk.len G0.out) (by omega)) G0 (by omega) HW1).mono ?_
              rintro e we ⟨A_2, c_2, rfl, O2, hb⟩
              refine hK.out _ _ (Y0.below hb) (fun _ => ?_)
              clear hK K
              try simp only [Act.put, List.getElem_toArray, List.getElem_cons_zero, List.getElem_cons_succ, List.setIfInBounds_toArray, List.set_cons_zero, List.set_cons_succ]
              have HN := Lib.hid (fun k h => (show k ≠ gz by have := (own_base O2 k h).1; omega))
              replace O2 := own_lower (b' := wg1.heap.size) O2 HBt.size
              clear O1
              replace Y0 := Y0.below hb
              replace Z := Z.below hb
              replace HBt := below_then HBt HBt.size hb
              clear hb
              obtain ⟨wd, hwd⟩ : ∃ x, x = we := ⟨_, rfl⟩
              subst hwd
              have hH := Y0
              refine wpAnyH_take (i := 6) (v := .tuple #[.slice A_2 (nbR x0 [a0_1, a1_1, a2_1, a3_1, a4_1, a5_1, a6_1, a7_1] x2).length c_2, .agg #[.int .i64 (nbN x0 [a0_1, a1_1, a2_1, a3_1, a4_1, a5_1, a6_1, a7_1] x2), .int .i64 (nbD x0 [a0_1, a1_1, a2_1, a3_1, a4_1, a5_1, a6_1, a7_1] x2)], .int .i64 (nbC x0 [a0_1, a1_1, a2_1, a3_1, a4_1, a5_1, a6_1, a7_1] x2)]) rfl (by kernel_rfl) (by kernel_rfl) (by kernel_rfl) (fun _ _ _ h => h) (Or.inl ⟨by rfl, fun w h => by go_simp⟩) hH ?_
              try simp only [Act.put, List.getElem_toArray, List.getElem_cons_zero, List.getElem_cons_succ, List.setIfInBounds_toArray, List.set_cons_zero, List.set_cons_succ]
              refine wpAnyH_take (i := 7) (v := .slice A_2 (nbR x0 [a0_1, a1_1, a2_1, a3_1, a4_1, a5_1, a6_1, a7_1] x2).length c_2) rfl (by kernel_rfl) (by kernel_rfl) (by kernel_rfl) (fun _ _ _ h => h) (Or.inl ⟨by rfl, fun w h => by go_simp⟩) hH ?_
              try simp only [Act.put, List.getElem_toArray, List.getElem_cons_zero, List.getElem_cons_succ, List.setIfInBounds_toArray, List.set_cons_zero, List.set_cons_succ]
              refine wpAnyH_take (i := 8) (v := .agg #[.int .i64 (nbN x0 [a0_1, a1_1, a2_1, a3_1, a4_1, a5_1, a6_1, a7_1] x2), .int .i64 (nbD x0 [a0_1, a1_1, a2_1, a3_1, a4_1, a5_1, a6_1, a7_1] x2)]) rfl (by kernel_rfl) (by kernel_rfl) (by kernel_rfl) (fun _ _ _ h => h) (Or.inl ⟨by rfl, fun w h => by go_simp⟩) hH ?_
              try simp only [Act.put, List.getElem_toArray, List.getElem_cons_zero, List.getElem_cons_succ, List.setIfInBounds_toArray, List.set_cons_zero, List.set_cons_succ]
              refine wpAnyH_take (i := 9) (v := .int .i64 (nbC x0 [a0_1, a1_1, a2_1, a3_1, a4_1, a5_1, a6_1, a7_1] x2)) rfl (by kernel_rfl) (by kernel_rfl) (by kernel_rfl) (fun _ _ _ h => h) (Or.inl ⟨by rfl, fun w h => by go_simp⟩) hH ?_
              try simp only [Act.put, List.getElem_toArray, List.getElem_cons_zero, List.getElem_cons_succ, List.setIfInBounds_toArray, List.set_cons_zero, List.set_cons_succ]
              clear hH
              have hH := Y0
              refine wpAnyH_take (i := 11) (v := .slice A_2 (nbR x0 [a0_1, a1_1, a2_1, a3_1, a4_1, a5_1, a6_1, a7_1] x2).length c_2) rfl (by kernel_rfl) (by kernel_rfl) (by kernel_rfl) (fun _ _ _ h => h) (Or.inl ⟨by rfl, fun w h => by go_simp⟩) hH ?_
              try simp only [Act.put, List.getElem_toArray, List.getElem_cons_zero, List.getElem_cons_succ, List.setIfInBounds_toArray, List.set_cons_zero, List.set_cons_succ]
              clear hH
              refine wpAnyH_ready (rs := [12]) (by kernel_rfl) (by simp) ?_
              refine AllReadyH.cons rfl (fun K hK => ?_) AllReadyH.nil
              try simp only [List.getElem_toArray, List.getElem_cons_zero, List.getElem_cons_succ]
              rw [if_pos (by rfl)]
              refine wp_store_mid _ _ _ rfl _ _ (List.toArray [.int .i64 (nbN x0 [a0_1, a1_1, a2_1, a3_1, a4_1, a5_1, a6_1, a7_1] x2), .int .i64 (nbD x0 [a0_1, a1_1, a2_1, a3_1, a4_1, a5_1, a6_1, a7_1] x2)]) rfl rfl (Z.there rfl) frac_size (one2 _ _) ?_
              simp only [List.toList_toArray]
              refine hK.out _ _ (Y0.setAway (by omega) _ _) (fun _ => ?_)
              clear hK K
              try simp only [Act.put, List.getElem_toArray, List.getElem_cons_zero, List.getElem_cons_succ, List.setIfInBounds_toArray, List.set_cons_zero, List.set_cons_succ]
              have hg : wd.grownBy (World.setCells wd gz 0 [.int .i64 (nbN x0 [a0_1, a1_1, a2_1, a3_1, a4_1, a5_1, a6_1, a7_1] x2), .int .i64 (nbD x0 [a0_1, a1_1, a2_1, a3_1, a4_1, a5_1, a6_1, a7_1] x2)]) (some gz) := grown_set9 (grown_set9 (World.grownBy.refl _ _) 0 _) 1 _
              replace O2 := own_apart (v' := .slice (some ⟨gz, 0, none⟩) 0 0) O2 hg (fun k k' h1 h2 => by have h3 : gz = k' := (by simpa [Value.ownBlock] using h2); have h4 := HN.out k h1; omega)
              clear hg
              replace Y0 := Y0.setAway (C := gz) (by omega) [.int .i64 (nbN x0 [a0_1, a1_1, a2_1, a3_1, a4_1, a5_1, a6_1, a7_1] x2), .int .i64 (nbD x0 [a0_1, a1_1, a2_1, a3_1, a4_1, a5_1, a6_1, a7_1] x2)] 0
              replace HBt := below_setCells (b := wg1.heap.size) (C := gz) (by omega) [.int .i64 (nbN x0 [a0_1, a1_1, a2_1, a3_1, a4_1, a5_1, a6_1, a7_1] x2), .int .i64 (nbD x0 [a0_1, a1_1, a2_1, a3_1, a4_1, a5_1, a6_1, a7_1] x2)] 0 HBt
              replace Z := Z.setAll [.int .i64 (nbN x0 [a0_1, a1_1, a2_1, a3_1, a4_1, a5_1, a6_1, a7_1] x2), .int .i64 (nbD x0 [a0_1, a1_1, a2_1, a3_1, a4_1, a5_1, a6_1, a7_1] x2)] rfl
              generalize World.setCells _ gz 0 [.int .i64 (nbN x0 [a0_1, a1_1, a2_1, a3_1, a4_1, a5_1, a6_1, a7_1] x2), .int .i64 (nbD x0 [a0_1, a1_1, a2_1, a3_1, a4_1, a5_1, a6_1, a7_1] x2)] = ws at Y0 HBt Z O2 ⊢
              have hH := Y0
              refine wpAnyH_take (i := 13) (v := .int .i64 (nbC x0 [a0_1, a1_1, a2_1, a3_1, a4_1, a5_1, a6_1, a7_1] x2)) rfl (by kernel_rfl) (by kernel_rfl) (by kernel_rfl) (fun _ _ _ h => h) (Or.inl ⟨by rfl, fun w h => by go_simp⟩) hH ?_
              try simp only [Act.put, List.getElem_toArray, List.getElem_cons_zero, List.getElem_cons_succ, List.setIfInBounds_toArray, List.set_cons_zero, List.set_cons_succ]
              clear hH
              refine wpAnyH_done (by kernel_rfl) ?_ _
              go_wp2_with fail
              go_meet
              exact ⟨A_2, c_2, gz, rfl, rfl, rfl, Lib.hid O2, Lib.hid Z, by omega, Lib.hid HBt⟩
            exact AllReadyH.nil
          exact AllReadyH.nil
        refine AllReadyH.cons rfl (fun K hK => ?_) ?_
        · try simp only [List.getElem_toArray, List.getElem_cons_zero, List.getElem_cons_succ]
          rw [if_pos (by rfl)]
          go_simp
          refine hK.out _ _ (Y0.below (below_alloc1 _ _)) (fun _ => ?_)
          clear hK K
          try simp only [Act.put, List.getElem_toArray, List.getElem_cons_zero, List.getElem_cons_succ, List.setIfInBounds_toArray, List.set_cons_zero, List.set_cons_succ]
          have Z := Row.alloc wd [.int .i64 0, .int .i64 0] 47
          have hz0 := HBt.size
          have hy0 := Y0.lt
          replace O1 := own_below O1 (below_alloc1 _ (.cells #[.int .i64 0, .int .i64 0] 47))
          replace Y0 := Y0.below (below_alloc1 _ (.cells #[.int .i64 0, .int .i64 0] 47))
          replace HBt := HBt.alloc HBt.size (.cells #[.int .i64 0, .int .i64 0] 47)
          generalize World.alloc wd (.cells #[.int .i64 0, .int .i64 0] 47) = wz at Y0 HBt Z O1 ⊢
          generalize wd.heap.size = gz at *
          obtain ⟨wd, hwd⟩ : ∃ x, x = wz := ⟨_, rfl⟩
          subst hwd
          refine wpAnyH_ready (rs := [3]) (by kernel_rfl) (by simp) ?_
          refine AllReadyH.cons rfl (fun K hK => ?_) ?_
          · try simp only [List.getElem_toArray, List.getElem_cons_zero, List.getElem_cons_succ]
            rw [if_pos (by rfl)]
            go_simp
            refine (toHeap_any a0_1 a1_1 a2_1 a3_1 a4_1 a5_1 a6_1 a7_1 _).mono ?_
            rintro e we ⟨rfl, hb⟩
            refine hK.out _ _ (Y0.below hb) (fun _ => ?_)
            clear hK K
            try simp only [Act.put, List.getElem_toArray, List.getElem_cons_zero, List.getElem_cons_succ, List.setIfInBounds_toArray, List.set_cons_zero, List.set_cons_succ]
            replace O1 := own_below O1 hb
            replace Y0 := Y0.below hb
            replace Z := Z.below hb
            replace HBt := below_then HBt HBt.size hb
            clear hb
            obtain ⟨wd, hwd⟩ : ∃ x, x = we := ⟨_, rfl⟩
            subst hwd
            refine wpAnyH_ready (rs := [5]) (by kernel_rfl) (by simp) ?_
            refine AllReadyH.cons rfl (fun K hK => ?_) ?_
            · try simp only [List.getElem_toArray, List.getElem_cons_zero, List.getElem_cons_succ]
              rw [if_pos (by rfl)]
              go_simp
              have hzl := Z.lt
              refine (sNearestBlend A_1 n0 c_1 x0 a0_1 a1_1 a2_1 a3_1 a4_1 a5_1 a6_1 a7_1 x2 _ (own_rdsFl O1 (FlOk.len G0.out) (by omega)) G0 (by omega) HW1).mono ?_
              rintro e we ⟨A_2, c_2, rfl, O2, hb⟩
              refine hK.out _ _ (Y0.below hb) (fun _ => ?_)
              clear hK K
              try simp only [Act.put, List.getElem_toArray, List.getElem_cons_zero, List.getElem_cons_succ, List.setIfInBounds_toArray, List.set_cons_zero, List.set_cons_succ]
              have HN := Lib.hid (fun k h => (show k ≠ gz by have := (own_base O2 k h).1; omega))
              replace O2 := own_lower (b' := wg1.heap.size) O2 HBt.size
              clear O1
              replace Y0 := Y0.below hb
              replace Z := Z.below hb
              replace HBt := below_then HBt HBt.size hb
              clear hb
              obtain ⟨wd, hwd⟩ : ∃ x, x = we := ⟨_, rfl⟩
              subst hwd
              have hH := Y0
              refine wpAnyH_take (i := 6) (v := .tuple #[.slice A_2 (nbR x0 [a0_1, a1_1, a2_1, a3_1, a4_1, a5_1, a6_1, a7_1] x2).length c_2, .agg #[.int .i64 (nbN x0 [a0_1, a1_1, a2_1, a3_1, a4_1, a5_1, a6_1, a7_1] x2), .int .i64 (nbD x0 [a0_1, a1_1, a2_1, a3_1, a4_1, a5_1, a6_1, a7_1] x2)], .int .i64 (nbC x0 [a0_1, a1_1, a2_1, a3_1, a4_1, a5_1, a6_1, a7_1] x2)]) rfl (by kernel_rfl) (by kernel_rfl) (by kernel_rfl) (fun _ _ _ h => h) (Or.inl ⟨by rfl, fun w h => by go_simp⟩) hH ?_
              try simp only [Act.put, List.getElem_toArray, List.getElem_cons_zero, List.getElem_cons_succ, List.setIfInBounds_toArray, List.set_cons_zero, List.set_cons_succ]
              refine wpAnyH_take (i := 7) (v := .slice A_2 (nbR x0 [a0_1, a1_1, a2_1, a3_1, a4_1, a5_1, a6_1, a7_1] x2).length c_2) rfl (by kernel_rfl) (by kernel_rfl) (by kernel_rfl) (fun _ _ _ h => h) (Or.inl ⟨by rfl, fun w h => by go_simp⟩) hH ?_
              try simp only [Act.put, List.getElem_toArray, List.getElem_cons_zero, List.getElem_cons_succ, List.setIfInBounds_toArray, List.set_cons_zero, List.set_cons_succ]
              refine wpAnyH_take (i := 8) (v := .agg #[.int .i64 (nbN x0 [a0_1, a1_1, a2_1, a3_1, a4_1, a5_1, a6_1, a7_1] x2), .int .i64 (nbD x0 [a0_1, a1_1, a2_1, a3_1, a4_1, a5_1, a6_1, a7_1] x2)]) rfl (by kernel_rfl) (by kernel_rfl) (by kernel_rfl) (fun _ _ _ h => h) (Or.inl ⟨by rfl, fun w h => by go_simp⟩) hH ?_
              try simp only [Act.put, List.getElem_toArray, List.getElem_cons_zero, List.getElem_cons_succ, List.setIfInBounds_toArray, List.set_cons_zero, List.set_cons_succ]
              refine wpAnyH_take (i := 9) (v := .int .i64 (nbC x0 [a0_1, a1_1, a2_1, a3_1, a4_1, a5_1, a6_1, a7_1] x2)) rfl (by kernel_rfl) (by kernel_rfl) (by kernel_rfl) (fun _ _ _ h => h) (Or.inl ⟨by rfl, fun w h => by go_simp⟩) hH ?_
              try simp only [Act.put, List.getElem_toArray, List.getElem_cons_zero, List.getElem_cons_succ, List.setIfInBounds_toArray, List.set_cons_zero, List.set_cons_succ]
              clear hH
              have hH := Y0
              refine wpAnyH_take (i := 11) (v := .slice A_2 (nbR x0 [a0_1, a1_1, a2_1, a3_1, a4_1, a5_1, a6_1, a7_1] x2).length c_2) rfl (by kernel_rfl) (by kernel_rfl) (by kernel_rfl) (fun _ _ _ h => h) (Or.inl ⟨by rfl, fun w h => by go_simp⟩) hH ?_
              try simp only [Act.put, List.getElem_toArray, List.getElem_cons_zero, List.getElem_cons_succ, List.setIfInBounds_toArray, List.set_cons_zero, List.set_cons_succ]
              clear hH
              refine wpAnyH_ready (rs := [12]) (by kernel_rfl) (by simp) ?_
              refine AllReadyH.cons rfl (fun K hK => ?_) AllReadyH.nil
              try simp only [List.getElem_toArray, List.getElem_cons_zero, List.getElem_cons_succ]
              rw [if_pos (by rfl)]
              refine wp_store_mid _ _ _ rfl _ _ (List.toArray [.int .i64 (nbN x0 [a0_1, a1_1, a2_1, a3_1, a4_1, a5_1, a6_1, a7_1] x2), .int .i64 (nbD x0 [a0_1, a1_1, a2_1, a3_1, a4_1, a5_1, a6_1, a7_1] x2)]) rfl rfl (Z.there rfl) frac_size (one2 _ _) ?_
              simp only [List.toList_toArray]
              refine hK.out _ _ (Y0.setAway (by omega) _ _) (fun _ => ?_)
              clear hK K
              try simp only [Act.put, List.getElem_toArray, List.getElem_cons_zero, List.getElem_cons_succ, List.setIfInBounds_toArray, List.set_cons_zero, List.set_cons_succ]
              have hg : wd.grownBy (World.setCells wd gz 0 [.int .i64 (nbN x0 [a0_1, a1_1, a2_1, a3_1, a4_1, a5_1, a6_1, a7_1] x2), .int .i64 (nbD x0 [a0_1, a1_1, a2_1, a3_1, a4_1, a5_1, a6_1, a7_1] x2)]) (some gz) := grown_set9 (grown_set9 (World.grownBy.refl _ _) 0 _) 1 _
              replace O2 := own_apart (v' := .slice (some ⟨gz, 0, none⟩) 0 0) O2 hg (fun k k' h1 h2 => by have h3 : gz = k' := (by simpa [Value.ownBlock] using h2); have h4 := HN.out k h1; omega)
              clear hg
              replace Y0 := Y0.setAway (C := gz) (by omega) [.int .i64 (nbN x0 [a0_1, a1_1, a2_1, a3_1, a4_1, a5_1, a6_1, a7_1] x2), .int .i64 (nbD x0 [a0_1, a1_1, a2_1, a3_1, a4_1, a5_1, a6_1, a7_1] x2)] 0
              replace HBt := below_setCells (b := wg1.heap.size) (C := gz) (by omega) [.int .i64 (nbN x0 [a0_1, a1_1, a2_1, a3_1, a4_1, a5_1, a6_1, a7_1] x2), .int .i64 (nbD x0 [a0_1, a1_1, a2_1, a3_1, a4_1, a5_1, a6_1, a7_1] x2)] 0 HBt
              replace Z := Z.setAll [.int .i64 (nbN x0 [a0_1, a1_1, a2_1, a3_1, a4_1, a5_1, a6_1, a7_1] x2), .int .i64 (nbD x0 [a0_1, a1_1, a2_1, a3_1, a4_1, a5_1, a6_1, a7_1] x2)] rfl
              generalize World.setCells _ gz 0 [.int .i64 (nbN x0 [a0_1, a1_1, a2_1, a3_1, a4_1, a5_1, a6_1, a7_1] x2), .int .i64 (nbD x0 [a0_1, a1_1, a2_1, a3_1, a4_1, a5_1, a6_1, a7_1] x2)] = ws at Y0 HBt Z O2 ⊢
              have hH := Y0
              refine wpAnyH_take (i := 13) (v := .int .i64 (nbC x0 [a0_1, a1_1, a2_1, a3_1, a4_1, a5_1, a6_1, a7_1] x2)) rfl (by kernel_rfl) (by kernel_rfl) (by kernel_rfl) (fun _ _ _ h => h) (Or.inl ⟨by rfl, fun w h => by go_simp⟩) hH ?_
              try simp only [Act.put, List.getElem_toArray, List.getElem_cons_zero, List.getElem_cons_succ, List.setIfInBounds_toArray, List.set_cons_zero, List.set_cons_succ]
              clear hH
              refine wpAnyH_done (by kernel_rfl) ?_ _
              go_wp2_with fail
              go_meet
              exact ⟨A_2, c_2, gz, rfl, rfl, rfl, Lib.hid O2, Lib.hid Z, by omega, Lib.hid HBt⟩
            exact AllReadyH.nil
          exact AllReadyH.nil
        exact AllReadyH.nil
      refine AllReadyH.cons rfl (fun K hK => ?_) ?_
      · try simp only [List.getElem_toArray, List.getElem_cons_zero, List.getElem_cons_succ]
        rw [if_pos (by rfl)]
        go_simp
        refine hK.out _ _ (Y0.below (below_alloc1 _ _)) (fun _ => ?_)
        clear hK K
        try simp only [Act.put, List.getElem_toArray, List.getElem_cons_zero, List.getElem_cons_succ, List.setIfInBounds_toArray, List.set_cons_zero, List.set_cons_succ]
        have Z := Row.alloc wd [.int .i64 0, .int .i64 0] 47
        have hz0 := HBt.size
        have hy0 := Y0.lt
        replace Y0 := Y0.below (below_alloc1 _ (.cells #[.int .i64 0, .int .i64 0] 47))
        replace HBt := HBt.alloc HBt.size (.cells #[.int .i64 0, .int .i64 0] 47)
        generalize World.alloc wd (.cells #[.int .i64 0, .int .i64 0] 47) = wz at Y0 HBt Z  ⊢
        generalize wd.heap.size = gz at *
        obtain ⟨wd, hwd⟩ : ∃ x, x = wz := ⟨_, rfl⟩
        subst hwd
        refine wpAnyH_ready (rs := [1]) (by kernel_rfl) (by simp) ?_
        refine AllReadyH.cons rfl (fun K hK => ?_) ?_
        · try simp only [List.getElem_toArray, List.getElem_cons_zero, List.getElem_cons_succ]
          rw [if_pos (by rfl)]
          go_simp
          refine (toFleeceS_any A0 n0 c0 x0 _ (R0.below (below_then B0 B0.size HBt)) (Lib.hid (FlOk.len G0.out)) hm0).mono ?_
          rintro e we ⟨A_1, c_1, rfl, O1, hb⟩
          refine hK.out _ _ (Y0.below hb) (fun _ => ?_)
          clear hK K
          try simp only [Act.put, List.getElem_toArray, List.getElem_cons_zero, List.getElem_cons_succ, List.setIfInBounds_toArray, List.set_cons_zero, List.set_cons_succ]
          replace Y0 := Y0.below hb
          replace Z := Z.below hb
          replace HBt := below_then HBt HBt.size hb
          clear hb
          obtain ⟨wd, hwd⟩ : ∃ x, x = we := ⟨_, rfl⟩
          subst hwd
          refine wpAnyH_ready (rs := [3]) (by kernel_rfl) (by simp) ?_
          refine AllReadyH.cons rfl (fun K hK => ?_) ?_
          · try simp only [List.getElem_toArray, List.getElem_cons_zero, List.getElem_cons_succ]
            rw [if_pos (by rfl)]
            go_simp
            refine (toHeap_any a0_1 a1_1 a2_1 a3_1 a4_1 a5_1 a6_1 a7_1 _).mono ?_
            rintro e we ⟨rfl, hb⟩
            refine hK.out _ _ (Y0.below hb) (fun _ => ?_)
            clear hK K
            try simp only [Act.put, List.getElem_toArray, List.getElem_cons_zero, List.getElem_cons_succ, List.setIfInBounds_toArray, List.set_cons_zero, List.set_cons_succ]
            replace O1 := own_below O1 hb
            replace Y0 := Y0.below hb
            replace Z := Z.below hb
            replace HBt := below_then HBt HBt.size hb
            clear hb
            obtain ⟨wd, hwd⟩ : ∃ x, x = we := ⟨_, rfl⟩
            subst hwd
            refine wpAnyH_ready (rs := [5]) (by kernel_rfl) (by simp) ?_
            refine AllReadyH.cons rfl (fun K hK => ?_) ?_
            · try simp only [List.getElem_toArray, List.getElem_cons_zero, List.getElem_cons_succ]
              rw [if_pos (by rfl)]
              go_simp
              have hzl := Z.lt
              refine (sNearestBlend A_1 n0 c_1 x0 a0_1 a1_1 a2_1 a3_1 a4_1 a5_1 a6_1 a7_1 x2 _ (own_rdsFl O1 (FlOk.len G0.out) (by omega)) G0 (by omega) HW1).mono ?_
              rintro e we ⟨A_2, c_2, rfl, O2, hb⟩
              refine hK.out _ _ (Y0.below hb) (fun _ => ?_)
              clear hK K
              try simp only [Act.put, List.getElem_toArray, List.getElem_cons_zero, List.getElem_cons_succ, List.setIfInBounds_toArray, List.set_cons_zero, List.set_cons_succ]
              have HN := Lib.hid (fun k h => (show k ≠ gz by have := (own_base O2 k h).1; omega))
              replace O2 := own_lower (b' := wg1.heap.size) O2 HBt.size
              clear O1
              replace Y0 := Y0.below hb
              replace Z := Z.below hb
              replace HBt := below_then HBt HBt.size hb
              clear hb
              obtain ⟨wd, hwd⟩ : ∃ x, x = we := ⟨_, rfl⟩
              subst hwd
              have hH := Y0
              refine wpAnyH_take (i := 6) (v := .tuple #[.slice A_2 (nbR x0 [a0_1, a1_1, a2_1, a3_1, a4_1, a5_1, a6_1, a7_1] x2).length c_2, .agg #[.int .i64 (nbN x0 [a0_1, a1_1, a2_1, a3_1, a4_1, a5_1, a6_1, a7_1] x2), .int .i64 (nbD x0 [a0_1, a1_1, a2_1, a3_1, a4_1, a5_1, a6_1, a7_1] x2)], .int .i64 (nbC x0 [a0_1, a1_1, a2_1, a3_1, a4_1, a5_1, a6_1, a7_1] x2)]) rfl (by kernel_rfl) (by kernel_rfl) (by kernel_rfl) (fun _ _ _ h => h) (Or.inl ⟨by rfl, fun w h => by go_simp⟩) hH ?_
              try simp only [Act.put, List.getElem_toArray, List.getElem_cons_zero, List.getElem_cons_succ, List.setIfInBounds_toArray, List.set_cons_zero, List.set_cons_succ]
              refine wpAnyH_take (i := 7) (v := .slice A_2 (nbR x0 [a0_1, a1_1, a2_1, a3_1, a4_1, a5_1, a6_1, a7_1] x2).length c_2) rfl (by kernel_rfl) (by kernel_rfl) (by kernel_rfl) (fun _ _ _ h => h) (Or.inl ⟨by rfl, fun w h => by go_simp⟩) hH ?_
              try simp only [Act.put, List.getElem_toArray, List.getElem_cons_zero, List.getElem_cons_succ, List.setIfInBounds_toArray, List.set_cons_zero, List.set_cons_succ]
              refine wpAnyH_take (i := 8) (v := .agg #[.int .i64 (nbN x0 [a0_1, a1_1, a2_1, a3_1, a4_1, a5_1, a6_1, a7_1] x2), .int .i64 (nbD x0 [a0_1, a1_1, a2_1, a3_1, a4_1, a5_1, a6_1, a7_1] x2)]) rfl (by kernel_rfl) (by kernel_rfl) (by kernel_rfl) (fun _ _ _ h => h) (Or.inl ⟨by rfl, fun w h => by go_simp⟩) hH ?_
              try simp only [Act.put, List.getElem_toArray, List.getElem_cons_zero, List.getElem_cons_succ, List.setIfInBounds_toArray, List.set_cons_zero, List.set_cons_succ]
              refine wpAnyH_take (i := 9) (v := .int .i64 (nbC x0 [a0_1, a1_1, a2_1, a3_1, a4_1, a5_1, a6_1, a7_1] x2)) rfl (by kernel_rfl) (by kernel_rfl) (by kernel_rfl) (fun _ _ _ h => h) (Or.inl ⟨by rfl, fun w h => by go_simp⟩) hH ?_
              try simp only [Act.put, List.getElem_toArray, List.getElem_cons_zero, List.getElem_cons_succ, List.setIfInBounds_toArray, List.set_cons_zero, List.set_cons_succ]
              clear hH
              have hH := Y0
              refine wpAnyH_take (i := 11) (v := .slice A_2 (nbR x0 [a0_1, a1_1, a2_1, a3_1, a4_1, a5_1, a6_1, a7_1] x2).length c_2) rfl (by kernel_rfl) (by kernel_rfl) (by kernel_rfl) (fun _ _ _ h => h) (Or.inl ⟨by rfl, fun w h => by go_simp⟩) hH ?_
              try simp only [Act.put, List.getElem_toArray, List.getElem_cons_zero, List.getElem_cons_succ, List.setIfInBounds_toArray, List.set_cons_zero, List.set_cons_succ]
              clear hH
              refine wpAnyH_ready (rs := [12]) (by kernel_rfl) (by simp) ?_
              refine AllReadyH.cons rfl (fun K hK => ?_) AllReadyH.nil
              try simp only [List.getElem_toArray, List.getElem_cons_zero, List.getElem_cons_succ]
              rw [if_pos (by rfl)]
              refine wp_store_mid _ _ _ rfl _ _ (List.toArray [.int .i64 (nbN x0 [a0_1, a1_1, a2_1, a3_1, a4_1, a5_1, a6_1, a7_1] x2), .int .i64 (nbD x0 [a0_1, a1_1, a2_1, a3_1, a4_1, a5_1, a6_1, a7_1] x2)]) rfl rfl (Z.there rfl) frac_size (one2 _ _) ?_
              simp only [List.toList_toArray]
              refine hK.out _ _ (Y0.setAway (by omega) _ _) (fun _ => ?_)
              clear hK K
              try simp only [Act.put, List.getElem_toArray, List.getElem_cons_zero, List.getElem_cons_succ, List.setIfInBounds_toArray, List.set_cons_zero, List.set_cons_succ]
              have hg : wd.grownBy (World.setCells wd gz 0 [.int .i64 (nbN x0 [a0_1, a1_1, a2_1, a3_1, a4_1, a5_1, a6_1, a7_1] x2), .int .i64 (nbD x0 [a0_1, a1_1, a2_1, a3_1, a4_1, a5_1, a6_1, a7_1] x2)]) (some gz) := grown_set9 (grown_set9 (World.grownBy.refl _ _) 0 _) 1 _
              replace O2 := own_apart (v' := .slice (some ⟨gz, 0, none⟩) 0 0) O2 hg (fun k k' h1 h2 => by have h3 : gz = k' := (by simpa [Value.ownBlock] using h2); have h4 := HN.out k h1; omega)
              clear hg
              replace Y0 := Y0.setAway (C := gz) (by omega) [.int .i64 (nbN x0 [a0_1, a1_1, a2_1, a3_1, a4_1, a5_1, a6_1, a7_1] x2), .int .i64 (nbD x0 [a0_1, a1_1, a2_1, a3_1, a4_1, a5_1, a6_1, a7_1] x2)] 0
              replace HBt := below_setCells (b := wg1.heap.size) (C := gz) (by omega) [.int .i64 (nbN x0 [a0_1, a1_1, a2_1, a3_1, a4_1, a5_1, a6_1, a7_1] x2), .int .i64 (nbD x0 [a0_1, a1_1, a2_1, a3_1, a4_1, a5_1, a6_1, a7_1] x2)] 0 HBt
              replace Z := Z.setAll [.int .i64 (nbN x0 [a0_1, a1_1, a2_1, a3_1, a4_1, a5_1, a6_1, a7_1] x2), .int .i64 (nbD x0 [a0_1, a1_1, a2_1, a3_1, a4_1, a5_1, a6_1, a7_1] x2)] rfl
              generalize World.setCells _ gz 0 [.int .i64 (nbN x0 [a0_1, a1_1, a2_1, a3_1, a4_1, a5_1, a6_1, a7_1] x2), .int .i64 (nbD x0 [a0_1, a1_1, a2_1, a3_1, a4_1, a5_1, a6_1, a7_1] x2)] = ws at Y0 HBt Z O2 ⊢
              have hH := Y0
              refine wpAnyH_take (i := 13) (v := .int .i64 (nbC x0 [a0_1, a1_1, a2_1, a3_1, a4_1, a5_1, a6_1, a7_1] x2)) rfl (by kernel_rfl) (by kernel_rfl) (by kernel_rfl) (fun _ _ _ h => h) (Or.inl ⟨by rfl, fun w h => by go_simp⟩) hH ?_
              try simp only [Act.put, List.getElem_toArray, List.getElem_cons_zero, List.getElem_cons_succ, List.setIfInBounds_toArray, List.set_cons_zero, List.set_cons_succ]
              clear hH
              refine wpAnyH_done (by kernel_rfl) ?_ _
              go_wp2_with fail
              go_meet
              exact ⟨A_2, c_2, gz, rfl, rfl, rfl, Lib.hid O2, Lib.hid Z, by omega, Lib.hid HBt⟩
            exact AllReadyH.nil
          exact AllReadyH.nil
        exact AllReadyH.nil
      exact AllReadyH.nil
    case rest =>
    obtain ⟨A_1, c_1, gz1, rfl, rfl, rfl, QO, QX, hgz1, QB⟩ := hcut
    obtain ⟨w1, hwk⟩ : ∃ x, x = wc := ⟨_, rfl⟩
    subst hwk
    have O1 := QO.out
    have hb := QB.out
    have hz1 := hb.size
    (try simp only [World.size_alloc] at hz1)
    replace HB := below_then HB HB.size hb
    replace X0 := X0.below hb
    have hl_0 := X0.lt
    have e0_0 := X0.cell 0
    have e0_1 := X0.cell 1
    have e0_2 := X0.cell 2
    have e0_3 := X0.cell 3
    have e0_4 := X0.cell 4
    have e0_5 := X0.cell 5
    have e0_6 := X0.cell 6
    have e0_7 := X0.cell 7
    simp only [List.getElem?_cons_zero, List.getElem?_cons_succ, Nat.add_zero] at e0_0 e0_1 e0_2 e0_3 e0_4 e0_5 e0_6 e0_7
    have U1 := Lib.hid (own_base O1)
    clear hb
    have X1 := QX.out
    have hl_1 := X1.lt
    have e1_0 := X1.cell 0
    have e1_1 := X1.cell 1
    simp only [List.getElem?_cons_zero, List.getElem?_cons_succ, Nat.add_zero] at e1_0 e1_1
    clear QO QX QB
    go_wp2_with fail
    refine (toFleeceS_any A0 n0 c0 x0 _ (R0.below HB) (Lib.hid (FlOk.len G0.out)) hm0).mono ?_
    rintro e w2 ⟨A_2, c_2, rfl, O2, hb⟩
    replace O1 := own_below O1 hb
    have hz2 := hb.size
    (try simp only [World.size_alloc] at hz2)
    replace HB := below_then HB HB.size hb
    replace X0 := X0.below hb
    have hl_0 := X0.lt
    have e0_0 := X0.cell 0
    have e0_1 := X0.cell 1
    have e0_2 := X0.cell 2
    have e0_3 := X0.cell 3
    have e0_4 := X0.cell 4
    have e0_5 := X0.cell 5
    have e0_6 := X0.cell 6
    have e0_7 := X0.cell 7
    simp only [List.getElem?_cons_zero, List.getElem?_cons_succ, Nat.add_zero] at e0_0 e0_1 e0_2 e0_3 e0_4 e0_5 e0_6 e0_7
    replace X1 := X1.below hb
    have hl_1 := X1.lt
    have e1_0 := X1.cell 0
    have e1_1 := X1.cell 1
    simp only [List.getElem?_cons_zero, List.getElem?_cons_succ, Nat.add_zero] at e1_0 e1_1
    have U2 := Lib.hid (own_base O2)
    clear hb
    go_wp2_with fail
    refine (toHeap_any a0_1 a1_1 a2_1 a3_1 a4_1 a5_1 a6_1 a7_1 _).mono ?_
    rintro e w3 ⟨rfl, hb⟩
    replace O1 := own_below O1 hb
    replace O2 := own_below O2 hb
    have hz3 := hb.size
    (try simp only [World.size_alloc] at hz3)
    replace HB := below_then HB HB.size hb
    replace X0 := X0.below hb
    have hl_0 := X0.lt
    have e0_0 := X0.cell 0
    have e0_1 := X0.cell 1
    have e0_2 := X0.cell 2
    have e0_3 := X0.cell 3
    have e0_4 := X0.cell 4
    have e0_5 := X0.cell 5
    have e0_6 := X0.cell 6
    have e0_7 := X0.cell 7
    simp only [List.getElem?_cons_zero, List.getElem?_cons_succ, Nat.add_zero] at e0_0 e0_1 e0_2 e0_3 e0_4 e0_5 e0_6 e0_7
    replace X1 := X1.below hb
    have hl_1 := X1.lt
    have e1_0 := X1.cell 0
    have e1_1 := X1.cell 1
    simp only [List.getElem?_cons_zero, List.getElem?_cons_succ, Nat.add_zero] at e1_0 e1_1
    clear hb
    go_wp2_with fail
    refine (iNearestBlend A_2 n0 c_2 x0 a0_1 a1_1 a2_1 a3_1 a4_1 a5_1 a6_1 a7_1 x2 _ (own_rdsFl O2 (FlOk.len G0.out) (by have := hm0; omega)) G0 (by have := hm0; omega) HW1).mono ?_
    rintro e w4 ⟨A_4, c_4, rfl, O4, hb⟩
    replace O1 := own_below O1 hb
    replace O2 := own_below O2 hb
    have hz4 := hb.size
    (try simp only [World.size_alloc] at hz4)
    replace HB := below_then HB HB.size hb
    replace X0 := X0.below hb
    have hl_0 := X0.lt
    have e0_0 := X0.cell 0
    have e0_1 := X0.cell 1
    have e0_2 := X0.cell 2
    have e0_3 := X0.cell 3
    have e0_4 := X0.cell 4
    have e0_5 := X0.cell 5
    have e0_6 := X0.cell 6
    have e0_7 := X0.cell 7
    simp only [List.getElem?_cons_zero, List.getElem?_cons_succ, Nat.add_zero] at e0_0 e0_1 e0_2 e0_3 e0_4 e0_5 e0_6 e0_7
    replace X1 := X1.below hb
    have hl_1 := X1.lt
    have e1_0 := X1.cell 0
    have e1_1 := X1.cell 1
    simp only [List.getElem?_cons_zero, List.getElem?_cons_succ, Nat.add_zero] at e1_0 e1_1
    have U4 := Lib.hid (own_base O4)
    clear hb
    go_wp2_with fail
    replace HB := HB.alloc HB.size (.cells #[.int .i64 (nbN x0 [a0_1, a1_1, a2_1, a3_1, a4_1, a5_1, a6_1, a7_1] x2), .int .i64 (nbD x0 [a0_1, a1_1, a2_1, a3_1, a4_1, a5_1, a6_1, a7_1] x2)] 47)
    replace O1 := own_below O1 (below_alloc1 _ (.cells #[.int .i64 (nbN x0 [a0_1, a1_1, a2_1, a3_1, a4_1, a5_1, a6_1, a7_1] x2), .int .i64 (nbD x0 [a0_1, a1_1, a2_1, a3_1, a4_1, a5_1, a6_1, a7_1] x2)] 47))
    replace O2 := own_below O2 (below_alloc1 _ (.cells #[.int .i64 (nbN x0 [a0_1, a1_1, a2_1, a3_1, a4_1, a5_1, a6_1, a7_1] x2), .int .i64 (nbD x0 [a0_1, a1_1, a2_1, a3_1, a4_1, a5_1, a6_1, a7_1] x2)] 47))
    replace O4 := own_below O4 (below_alloc1 _ (.cells #[.int .i64 (nbN x0 [a0_1, a1_1, a2_1, a3_1, a4_1, a5_1, a6_1, a7_1] x2), .int .i64 (nbD x0 [a0_1, a1_1, a2_1, a3_1, a4_1, a5_1, a6_1, a7_1] x2)] 47))
    replace X0 := X0.below (below_alloc1 _ (.cells #[.int .i64 (nbN x0 [a0_1, a1_1, a2_1, a3_1, a4_1, a5_1, a6_1, a7_1] x2), .int .i64 (nbD x0 [a0_1, a1_1, a2_1, a3_1, a4_1, a5_1, a6_1, a7_1] x2)] 47))
    replace X1 := X1.below (below_alloc1 _ (.cells #[.int .i64 (nbN x0 [a0_1, a1_1, a2_1, a3_1, a4_1, a5_1, a6_1, a7_1] x2), .int .i64 (nbD x0 [a0_1, a1_1, a2_1, a3_1, a4_1, a5_1, a6_1, a7_1] x2)] 47))
    have X2 := Row.alloc w4 [.int .i64 (nbN x0 [a0_1, a1_1, a2_1, a3_1, a4_1, a5_1, a6_1, a7_1] x2), .int .i64 (nbD x0 [a0_1, a1_1, a2_1, a3_1, a4_1, a5_1, a6_1, a7_1] x2)] 47
    refine (eqInt64S_true A_4 A_1 (nbR x0 [a0_1, a1_1, a2_1, a3_1, a4_1, a5_1, a6_1, a7_1] x2).length c_4 c_1 (nbR x0 [a0_1, a1_1, a2_1, a3_1, a4_1, a5_1, a6_1, a7_1] x2) _ (own_rds1 O4 (by have := (nbR_len x0 [a0_1, a1_1, a2_1, a3_1, a4_1, a5_1, a6_1, a7_1] x2 G0.out rfl); omega)) (own_rds1 O1 (by have := (nbR_len x0 [a0_1, a1_1, a2_1, a3_1, a4_1, a5_1, a6_1, a7_1] x2 G0.out rfl); omega))).mono ?_
    rintro e w5 ⟨rfl, hb⟩
    replace O1 := own_below O1 hb
    replace O2 := own_below O2 hb
    replace O4 := own_below O4 hb
    have hz5 := hb.size
    (try simp only [World.size_alloc] at hz5)
    replace HB := below_then HB HB.size hb
    replace X0 := X0.below hb
    have hl_0 := X0.lt
    have e0_0 := X0.cell 0
    have e0_1 := X0.cell 1
    have e0_2 := X0.cell 2
    have e0_3 := X0.cell 3
    have e0_4 := X0.cell 4
    have e0_5 := X0.cell 5
    have e0_6 := X0.cell 6
    have e0_7 := X0.cell 7
    simp only [List.getElem?_cons_zero, List.getElem?_cons_succ, Nat.add_zero] at e0_0 e0_1 e0_2 e0_3 e0_4 e0_5 e0_6 e0_7
    replace X1 := X1.below hb
    have hl_1 := X1.lt
    have e1_0 := X1.cell 0
    have e1_1 := X1.cell 1
    simp only [List.getElem?_cons_zero, List.getElem?_cons_succ, Nat.add_zero] at e1_0 e1_1
    replace X2 := X2.below hb
    have hl_2 := X2.lt
    have e2_0 := X2.cell 0
    have e2_1 := X2.cell 1
    simp only [List.getElem?_cons_zero, List.getElem?_cons_succ, Nat.add_zero] at e2_0 e2_1
    clear hb
    go_wp2_with fail
    refine (eqFraction_true _ _ _).mono ?_
    rintro e w6 ⟨rfl, hb⟩
    replace O1 := own_below O1 hb
    replace O2 := own_below O2 hb
    replace O4 := own_below O4 hb
    have hz6 := hb.size
    (try simp only [World.size_alloc] at hz6)
    replace HB := below_then HB HB.size hb
    replace X0 := X0.below hb
    have hl_0 := X0.lt
    have e0_0 := X0.cell 0
    have e0_1 := X0.cell 1
    have e0_2 := X0.cell 2
    have e0_3 := X0.cell 3
    have e0_4 := X0.cell 4
    have e0_5 := X0.cell 5
    have e0_6 := X0.cell 6
    have e0_7 := X0.cell 7
    simp only [List.getElem?_cons_zero, List.getElem?_cons_succ, Nat.add_zero] at e0_0 e0_1 e0_2 e0_3 e0_4 e0_5 e0_6 e0_7
    replace X1 := X1.below hb
    have hl_1 := X1.lt
    have e1_0 := X1.cell 0
    have e1_1 := X1.cell 1
    simp only [List.getElem?_cons_zero, List.getElem?_cons_succ, Nat.add_zero] at e1_0 e1_1
    replace X2 := X2.below hb
    have hl_2 := X2.lt
    have e2_0 := X2.cell 0
    have e2_1 := X2.cell 1
    simp only [List.getElem?_cons_zero, List.getElem?_cons_succ, Nat.add_zero] at e2_0 e2_1
    clear hb
    go_wp2_with fail
    refine (toFleeceS_any A0 n0 c0 x0 _ (R0.below HB) (Lib.hid (FlOk.len G0.out)) hm0).mono ?_
    rintro e w7 ⟨A_7, c_7, rfl, O7, hb⟩
    replace O1 := own_below O1 hb
    replace O2 := own_below O2 hb
    replace O4 := own_below O4 hb
    have hz7 := hb.size
    (try simp only [World.size_alloc] at hz7)
    replace HB := below_then HB HB.size hb
    replace X0 := X0.below hb
    have hl_0 := X0.lt
    have e0_0 := X0.cell 0
    have e0_1 := X0.cell 1
    have e0_2 := X0.cell 2
    have e0_3 := X0.cell 3
    have e0_4 := X0.cell 4
    have e0_5 := X0.cell 5
    have e0_6 := X0.cell 6
    have e0_7 := X0.cell 7
    simp only [List.getElem?_cons_zero, List.getElem?_cons_succ, Nat.add_zero] at e0_0 e0_1 e0_2 e0_3 e0_4 e0_5 e0_6 e0_7
    replace X1 := X1.below hb
    have hl_1 := X1.lt
    have e1_0 := X1.cell 0
    have e1_1 := X1.cell 1
    simp only [List.getElem?_cons_zero, List.getElem?_cons_succ, Nat.add_zero] at e1_0 e1_1
    replace X2 := X2.below hb
    have hl_2 := X2.lt
    have e2_0 := X2.cell 0
    have e2_1 := X2.cell 1
    simp only [List.getElem?_cons_zero, List.getElem?_cons_succ, Nat.add_zero] at e2_0 e2_1
    have U7 := Lib.hid (own_base O7)
    clear hb
    go_wp2_with fail
    refine (eqFleeceS_true A_2 A_7 n0 c_2 c_7 x0 _ (own_rdsFl O2 (FlOk.len G0.out) (by have := hm0; omega)) (own_rdsFl O7 (FlOk.len G0.out) (by have := hm0; omega)) (Lib.hid (FlOk.len G0.out))).mono ?_
    rintro e w8 ⟨rfl, hb⟩
    replace O1 := own_below O1 hb
    replace O2 := own_below O2 hb
    replace O4 := own_below O4 hb
    replace O7 := own_below O7 hb
    have hz8 := hb.size
    (try simp only [World.size_alloc] at hz8)
    replace HB := below_then HB HB.size hb
    replace X0 := X0.below hb
    have hl_0 := X0.lt
    have e0_0 := X0.cell 0
    have e0_1 := X0.cell 1
    have e0_2 := X0.cell 2
    have e0_3 := X0.cell 3
    have e0_4 := X0.cell 4
    have e0_5 := X0.cell 5
    have e0_6 := X0.cell 6
    have e0_7 := X0.cell 7
    simp only [List.getElem?_cons_zero, List.getElem?_cons_succ, Nat.add_zero] at e0_0 e0_1 e0_2 e0_3 e0_4 e0_5 e0_6 e0_7
    replace X1 := X1.below hb
    have hl_1 := X1.lt
    have e1_0 := X1.cell 0
    have e1_1 := X1.cell 1
    simp only [List.getElem?_cons_zero, List.getElem?_cons_succ, Nat.add_zero] at e1_0 e1_1
    replace X2 := X2.below hb
    have hl_2 := X2.lt
    have e2_0 := X2.cell 0
    have e2_1 := X2.cell 1
    simp only [List.getElem?_cons_zero, List.getElem?_cons_succ, Nat.add_zero] at e2_0 e2_1
    clear hb
    go_wp2_with fail
    refine (markFleeceS_any _ _ A_2 n0 c_2 _ 1 _ O2 (by have := hm0; omega) (by omega) (by omega)).mono ?_
    rintro e w9 ⟨rfl, hg⟩
    replace O1 := own_apart O1 hg (fun k1 k2 h1 h2 => by have q1 := U1.out k1 h1; have q2 := U2.out k2 h2; omega)
    replace O4 := own_apart O4 hg (fun k1 k2 h1 h2 => by have q1 := U4.out k1 h1; have q2 := U2.out k2 h2; omega)
    replace O7 := own_apart O7 hg (fun k1 k2 h1 h2 => by have q1 := U7.out k1 h1; have q2 := U2.out k2 h2; omega)
    replace HB := HB.grown hg HB.size (fun k1 h1 => by have q1 := U2.out k1 h1; omega)
    replace X0 : Row _ _ _ _ := (hg.block _ X0.lt (by intro e; first | (have q1 := U2.out _ e; omega) | (have q1 := U2.out _ e.symm; omega))).trans X0
    have hl_0 := X0.lt
    have e0_0 := X0.cell 0
    have e0_1 := X0.cell 1
    have e0_2 := X0.cell 2
    have e0_3 := X0.cell 3
    have e0_4 := X0.cell 4
    have e0_5 := X0.cell 5
    have e0_6 := X0.cell 6
    have e0_7 := X0.cell 7
    simp only [List.getElem?_cons_zero, List.getElem?_cons_succ, Nat.add_zero] at e0_0 e0_1 e0_2 e0_3 e0_4 e0_5 e0_6 e0_7
    replace X1 : Row _ _ _ _ := (hg.block _ X1.lt (by intro e; first | (have q1 := U2.out _ e; omega) | (have q1 := U2.out _ e.symm; omega))).trans X1
    have hl_1 := X1.lt
    have e1_0 := X1.cell 0
    have e1_1 := X1.cell 1
    simp only [List.getElem?_cons_zero, List.getElem?_cons_succ, Nat.add_zero] at e1_0 e1_1
    replace X2 : Row _ _ _ _ := (hg.block _ X2.lt (by intro e; first | (have q1 := U2.out _ e; omega) | (have q1 := U2.out _ e.symm; omega))).trans X2
    have hl_2 := X2.lt
    have e2_0 := X2.cell 0
    have e2_1 := X2.cell 1
    simp only [List.getElem?_cons_zero, List.getElem?_cons_succ, Nat.add_zero] at e2_0 e2_1
    have hz9 := hg.size
    clear hg O2 U2
    go_wp2_with fail
    refine (eqInt64S_true A_4 A_1 (nbR x0 [a0_1, a1_1, a2_1, a3_1, a4_1, a5_1, a6_1, a7_1] x2).length c_4 c_1 (nbR x0 [a0_1, a1_1, a2_1, a3_1, a4_1, a5_1, a6_1, a7_1] x2) _ (own_rds1 O4 (by have := (nbR_len x0 [a0_1, a1_1, a2_1, a3_1, a4_1, a5_1, a6_1, a7_1] x2 G0.out rfl); omega)) (own_rds1 O1 (by have := (nbR_len x0 [a0_1, a1_1, a2_1, a3_1, a4_1, a5_1, a6_1, a7_1] x2 G0.out rfl); omega))).mono ?_
    rintro e w10 ⟨rfl, hb⟩
    replace O1 := own_below O1 hb
    replace O4 := own_below O4 hb
    replace O7 := own_below O7 hb
    have hz10 := hb.size
    (try simp only [World.size_alloc] at hz10)
    replace HB := below_then HB HB.size hb
    replace X0 := X0.below hb
    have hl_0 := X0.lt
    have e0_0 := X0.cell 0
    have e0_1 := X0.cell 1
    have e0_2 := X0.cell 2
    have e0_3 := X0.cell 3
    have e0_4 := X0.cell 4
    have e0_5 := X0.cell 5
    have e0_6 := X0.cell 6
    have e0_7 := X0.cell 7
    simp only [List.getElem?_cons_zero, List.getElem?_cons_succ, Nat.add_zero] at e0_0 e0_1 e0_2 e0_3 e0_4 e0_5 e0_6 e0_7
    replace X1 := X1.below hb
    have hl_1 := X1.lt
    have e1_0 := X1.cell 0
    have e1_1 := X1.cell 1
    simp only [List.getElem?_cons_zero, List.getElem?_cons_succ, Nat.add_zero] at e1_0 e1_1
    replace X2 := X2.below hb
    have hl_2 := X2.lt
    have e2_0 := X2.cell 0
    have e2_1 := X2.cell 1
    simp only [List.getElem?_cons_zero, List.getElem?_cons_succ, Nat.add_zero] at e2_0 e2_1
    clear hb
    go_wp2_with fail
    refine (eqFraction_true _ _ _).mono ?_
    rintro e w11 ⟨rfl, hb⟩
    replace O1 := own_below O1 hb
    replace O4 := own_below O4 hb
    replace O7 := own_below O7 hb
    have hz11 := hb.size
    (try simp only [World.size_alloc] at hz11)
    replace HB := below_then HB HB.size hb
    replace X0 := X0.below hb
    have hl_0 := X0.lt
    have e0_0 := X0.cell 0
    have e0_1 := X0.cell 1
    have e0_2 := X0.cell 2
    have e0_3 := X0.cell 3
    have e0_4 := X0.cell 4
    have e0_5 := X0.cell 5
    have e0_6 := X0.cell 6
    have e0_7 := X0.cell 7
    simp only [List.getElem?_cons_zero, List.getElem?_cons_succ, Nat.add_zero] at e0_0 e0_1 e0_2 e0_3 e0_4 e0_5 e0_6 e0_7
    replace X1 := X1.below hb
    have hl_1 := X1.lt
    have e1_0 := X1.cell 0
    have e1_1 := X1.cell 1
    simp only [List.getElem?_cons_zero, List.getElem?_cons_succ, Nat.add_zero] at e1_0 e1_1
    replace X2 := X2.below hb
    have hl_2 := X2.lt
    have e2_0 := X2.cell 0
    have e2_1 := X2.cell 1
    simp only [List.getElem?_cons_zero, List.getElem?_cons_succ, Nat.add_zero] at e2_0 e2_1
    clear hb
    go_wp2_with fail
    refine (markInt64S_any _ _ A_4 (nbR x0 [a0_1, a1_1, a2_1, a3_1, a4_1, a5_1, a6_1, a7_1] x2).length c_4 (nbR x0 [a0_1, a1_1, a2_1, a3_1, a4_1, a5_1, a6_1, a7_1] x2) 1 _ O4 (by have := (nbR_len x0 [a0_1, a1_1, a2_1, a3_1, a4_1, a5_1, a6_1, a7_1] x2 G0.out rfl); omega) (by omega) (by omega)).mono ?_
    rintro e w12 ⟨rfl, O_, hg⟩
    replace O1 := own_apart O1 hg (fun k1 k2 h1 h2 => by have q1 := U1.out k1 h1; have q2 := U4.out k2 h2; omega)
    replace O7 := own_apart O7 hg (fun k1 k2 h1 h2 => by have q1 := U7.out k1 h1; have q2 := U4.out k2 h2; omega)
    replace HB := HB.grown hg HB.size (fun k1 h1 => by have q1 := U4.out k1 h1; omega)
    replace X0 : Row _ _ _ _ := (hg.block _ X0.lt (by intro e; first | (have q1 := U4.out _ e; omega) | (have q1 := U4.out _ e.symm; omega))).trans X0
    have hl_0 := X0.lt
    have e0_0 := X0.cell 0
    have e0_1 := X0.cell 1
    have e0_2 := X0.cell 2
    have e0_3 := X0.cell 3
    have e0_4 := X0.cell 4
    have e0_5 := X0.cell 5
    have e0_6 := X0.cell 6
    have e0_7 := X0.cell 7
    simp only [List.getElem?_cons_zero, List.getElem?_cons_succ, Nat.add_zero] at e0_0 e0_1 e0_2 e0_3 e0_4 e0_5 e0_6 e0_7
    replace X1 : Row _ _ _ _ := (hg.block _ X1.lt (by intro e; first | (have q1 := U4.out _ e; omega) | (have q1 := U4.out _ e.symm; omega))).trans X1
    have hl_1 := X1.lt
    have e1_0 := X1.cell 0
    have e1_1 := X1.cell 1
    simp only [List.getElem?_cons_zero, List.getElem?_cons_succ, Nat.add_zero] at e1_0 e1_1
    replace X2 : Row _ _ _ _ := (hg.block _ X2.lt (by intro e; first | (have q1 := U4.out _ e; omega) | (have q1 := U4.out _ e.symm; omega))).trans X2
    have hl_2 := X2.lt
    have e2_0 := X2.cell 0
    have e2_1 := X2.cell 1
    simp only [List.getElem?_cons_zero, List.getElem?_cons_succ, Nat.add_zero] at e2_0 e2_1
    have hz12 := hg.size
    replace O4 := O_
    clear hg O_
    go_wp2_with fail
    refine (heldInt64S_any A_4 (nbR x0 [a0_1, a1_1, a2_1, a3_1, a4_1, a5_1, a6_1, a7_1] x2).length c_4 1 _ (own_rds1 O4 (by have := (nbR_len x0 [a0_1, a1_1, a2_1, a3_1, a4_1, a5_1, a6_1, a7_1] x2 G0.out rfl); omega)) (by have := (nbR_len x0 [a0_1, a1_1, a2_1, a3_1, a4_1, a5_1, a6_1, a7_1] x2 G0.out rfl); omega) (by omega) (by omega)).mono ?_
    rintro e w13 ⟨rfl, rfl⟩
    go_wp2_with fail
    go_cut [18, 19, 20] (fun s8 s9 s10 wx => ∃ (A : Option Addr) (c gz : Nat), s8 = .slice A (nbR x0 [a0_1, a1_1, a2_1, a3_1, a4_1, a5_1, a6_1, a7_1] x2).length c ∧ s9 = .pointer (some ⟨gz, 0, none⟩) ∧ s10 = .int .i64 (nbC x0 [a0_1, a1_1, a2_1, a3_1, a4_1, a5_1, a6_1, a7_1] x2) ∧ Hid (wx.ownsRow w12.heap.size 2 1 (.slice A (nbR x0 [a0_1, a1_1, a2_1, a3_1, a4_1, a5_1, a6_1, a7_1] x2).length c) (nbR x0 [a0_1, a1_1, a2_1, a3_1, a4_1, a5_1, a6_1, a7_1] x2).length (nums .i64 (nbR x0 [a0_1, a1_1, a2_1, a3_1, a4_1, a5_1, a6_1, a7_1] x2))) ∧ Hid (Row wx gz 47 [.int .i64 (nbN x0 [a0_1, a1_1, a2_1, a3_1, a4_1, a5_1, a6_1, a7_1] x2), .int .i64 (nbD x0 [a0_1, a1_1, a2_1, a3_1, a4_1, a5_1, a6_1, a7_1] x2)]) ∧ w12.heap.size ≤ gz ∧ Hid (Below w12.heap.size w12 wx))
    case first =>
      have hlX := X0.lt
      refine wp_region_held_drew (S := fun w' => Row w' (w.heap.size) 45 [.int .i32 a0_1, .int .i32 a1_1, .int .i32 a2_1, .int .i32 a3_1, .int .i32 a4_1, .int .i32 a5_1, .int .i32 a6_1, .int .i32 a7_1]) (by kernel_rfl) X0.drew (fun hH => ?_)
      refine wpAnyH_take (i := 0) (v := .slice A0 n0 c0) rfl (by kernel_rfl) (by kernel_rfl) (by kernel_rfl) (fun _ _ _ h => h) (Or.inl ⟨by rfl, fun w h => by go_simp⟩) hH ?_
      try simp only [Act.put, List.getElem_toArray, List.getElem_cons_zero, List.getElem_cons_succ, List.setIfInBounds_toArray, List.set_cons_zero, List.set_cons_succ]
      refine wpAnyH_take (i := 2) rfl (by kernel_rfl) (by kernel_rfl) (by kernel_rfl) (fun _ _ _ h => h) (yieldsIf_load_mid (by rfl) _ _ rfl _ _ rfl [.int .i32 a0_1, .int .i32 a1_1, .int .i32 a2_1, .int .i32 a3_1, .int .i32 a4_1, .int .i32 a5_1, .int .i32 a6_1, .int .i32 a7_1] _ (fun w h => h.rangeAt) heapA_type rfl heapA_size) hH ?_
      try simp only [Act.put, List.getElem_toArray, List.getElem_cons_zero, List.getElem_cons_succ, List.setIfInBounds_toArray, List.set_cons_zero, List.set_cons_succ]
      refine wpAnyH_take (i := 4) (v := .int .i64 x2) rfl (by kernel_rfl) (by kernel_rfl) (by kernel_rfl) (fun _ _ _ h => h) (Or.inl ⟨by rfl, fun w h => by go_simp⟩) hH ?_
      try simp only [Act.put, List.getElem_toArray, List.getElem_cons_zero, List.getElem_cons_succ, List.setIfInBounds_toArray, List.set_cons_zero, List.set_cons_succ]
      have Y0 := X0.drew
      clear hH
      have B0 := HB
      have HBt := (Below.refl w12.heap.size w12).drew
      obtain ⟨wd, hwd⟩ : ∃ x, x = World.drew w12 := ⟨_, rfl⟩
      rw [← hwd] at Y0 HBt ⊢
      clear hwd
      refine wpAnyH_ready (rs := [1, 10]) (by kernel_rfl) (by simp) ?_
      refine AllReadyH.cons rfl (fun K hK => ?_) ?_
      · try simp only [List.getElem_toArray, List.getElem_cons_zero, List.getElem_cons_succ]
        rw [if_pos (by rfl)]
        go_simp
        refine (toFleeceS_any A0 n0 c0 x0 _ (R0.below (below_then B0 B0.size HBt)) (Lib.hid (FlOk.len G0.out)) hm0).mono ?_
        rintro e we ⟨A_1, c_1, rfl, O1, hb⟩
        refine hK.out _ _ (Y0.below hb) (fun _ => ?_)
        clear hK K
        try simp only [Act.put, List.getElem_toArray, List.getElem_cons_zero, List.getElem_cons_succ, List.setIfInBounds_toArray, List.set_cons_zero, List.set_cons_succ]
        replace Y0 := Y0.below hb
        replace HBt := below_then HBt HBt.size hb
        clear hb
        obtain ⟨wd, hwd⟩ : ∃ x, x = we := ⟨_, rfl⟩
        subst hwd
        refine wpAnyH_ready (rs := [3, 10]) (by kernel_rfl) (by simp) ?_
        refine AllReadyH.cons rfl (fun K hK => ?_) ?_
        · try simp only [List.getElem_toArray, List.getElem_cons_zero, List.getElem_cons_succ]
          rw [if_pos (by rfl)]
          go_simp
          refine (toHeap_any a0_1 a1_1 a2_1 a3_1 a4_1 a5_1 a6_1 a7_1 _).mono ?_
          rintro e we ⟨rfl, hb⟩
          refine hK.out _ _ (Y0.below hb) (fun _ => ?_)
          clear hK K
          try simp only [Act.put, List.getElem_toArray, List.getElem_cons_zero, List.getElem_cons_succ, List.setIfInBounds_toArray, List.set_cons_zero, List.set_cons_succ]
          replace O1 := own_below O1 hb
          replace Y0 := Y0.below hb
          replace HBt := below_then HBt HBt.size hb
          clear hb
          obtain ⟨wd, hwd⟩ : ∃ x, x = we := ⟨_, rfl⟩
          subst hwd
          refine wpAnyH_ready (rs := [5, 10]) (by kernel_rfl) (by simp) ?_
          refine AllReadyH.cons rfl (fun K hK => ?_) ?_
          · try simp only [List.getElem_toArray, List.getElem_cons_zero, List.getElem_cons_succ]
            rw [if_pos (by rfl)]
            go_simp
            refine (iNearestBlend A_1 n0 c_1 x0 a0_1 a1_1 a2_1 a3_1 a4_1 a5_1 a6_1 a7_1 x2 _ (own_rdsFl O1 (FlOk.len G0.out) (by omega)) G0 (by omega) HW1).mono ?_
            rintro e we ⟨A_2, c_2, rfl, O2, hb⟩
            refine hK.out _ _ (Y0.below hb) (fun _ => ?_)
            clear hK K
            try simp only [Act.put, List.getElem_toArray, List.getElem_cons_zero, List.getElem_cons_succ, List.setIfInBounds_toArray, List.set_cons_zero, List.set_cons_succ]
            replace O2 := own_lower (b' := w12.heap.size) O2 HBt.size
            clear O1
            replace Y0 := Y0.below hb
            replace HBt := below_then HBt HBt.size hb
            clear hb
            obtain ⟨wd, hwd⟩ : ∃ x, x = we := ⟨_, rfl⟩
            subst hwd
            have hH := Y0
            refine wpAnyH_take (i := 6) (v := .tuple #[.slice A_2 (nbR x0 [a0_1, a1_1, a2_1, a3_1, a4_1, a5_1, a6_1, a7_1] x2).length c_2, .agg #[.int .i64 (nbN x0 [a0_1, a1_1, a2_1, a3_1, a4_1, a5_1, a6_1, a7_1] x2), .int .i64 (nbD x0 [a0_1, a1_1, a2_1, a3_1, a4_1, a5_1, a6_1, a7_1] x2)], .int .i64 (nbC x0 [a0_1, a1_1, a2_1, a3_1, a4_1, a5_1, a6_1, a7_1] x2)]) rfl (by kernel_rfl) (by kernel_rfl) (by kernel_rfl) (fun _ _ _ h => h) (Or.inl ⟨by rfl, fun w h => by go_simp⟩) hH ?_
            try simp only [Act.put, List.getElem_toArray, List.getElem_cons_zero, List.getElem_cons_succ, List.setIfInBounds_toArray, List.set_cons_zero, List.set_cons_succ]
            refine wpAnyH_take (i := 7) (v := .slice A_2 (nbR x0 [a0_1, a1_1, a2_1, a3_1, a4_1, a5_1, a6_1, a7_1] x2).length c_2) rfl (by kernel_rfl) (by kernel_rfl) (by kernel_rfl) (fun _ _ _ h => h) (Or.inl ⟨by rfl, fun w h => by go_simp⟩) hH ?_
            try simp only [Act.put, List.getElem_toArray, List.getElem_cons_zero, List.getElem_cons_succ, List.setIfInBounds_toArray, List.set_cons_zero, List.set_cons_succ]
            refine wpAnyH_take (i := 8) (v := .agg #[.int .i64 (nbN x0 [a0_1, a1_1, a2_1, a3_1, a4_1, a5_1, a6_1, a7_1] x2), .int .i64 (nbD x0 [a0_1, a1_1, a2_1, a3_1, a4_1, a5_1, a6_1, a7_1] x2)]) rfl (by kernel_rfl) (by kernel_rfl) (by kernel_rfl) (fun _ _ _ h => h) (Or.inl ⟨by rfl, fun w h => by go_simp⟩) hH ?_
            try simp only [Act.put, List.getElem_toArray, List.getElem_cons_zero, List.getElem_cons_succ, List.setIfInBounds_toArray, List.set_cons_zero, List.set_cons_succ]
            refine wpAnyH_take (i := 9) (v := .int .i64 (nbC x0 [a0_1, a1_1, a2_1, a3_1, a4_1, a5_1, a6_1, a7_1] x2)) rfl (by kernel_rfl) (by kernel_rfl) (by kernel_rfl) (fun _ _ _ h => h) (Or.inl ⟨by rfl, fun w h => by go_simp⟩) hH ?_
            try simp only [Act.put, List.getElem_toArray, List.getElem_cons_zero, List.getElem_cons_succ, List.setIfInBounds_toArray, List.set_cons_zero, List.set_cons_succ]
            clear hH
            refine wpAnyH_ready (rs := [10]) (by kernel_rfl) (by simp) ?_
            refine AllReadyH.cons rfl (fun K hK => ?_) ?_
            · try simp only [List.getElem_toArray, List.getElem_cons_zero, List.getElem_cons_succ]
              rw [if_pos (by rfl)]
              go_simp
              refine hK.out _ _ (Y0.below (below_alloc1 _ _)) (fun _ => ?_)
              clear hK K
              try simp only [Act.put, List.getElem_toArray, List.getElem_cons_zero, List.getElem_cons_succ, List.setIfInBounds_toArray, List.set_cons_zero, List.set_cons_succ]
              have Z := Row.alloc wd [.int .i64 0, .int .i64 0] 47
              have hz0 := HBt.size
              have hy0 := Y0.lt
              have HN := Lib.hid (fun k h => (show k ≠ wd.heap.size by have := (own_base O2 k h).2; omega))
              replace O2 := own_below O2 (below_alloc1 _ (.cells #[.int .i64 0, .int .i64 0] 47))
              replace Y0 := Y0.below (below_alloc1 _ (.cells #[.int .i64 0, .int .i64 0] 47))
              replace HBt := HBt.alloc HBt.size (.cells #[.int .i64 0, .int .i64 0] 47)
              generalize World.alloc wd (.cells #[.int .i64 0, .int .i64 0] 47) = wz at Y0 HBt Z O2 ⊢
              generalize wd.heap.size = gz at *
              obtain ⟨wd, hwd⟩ : ∃ x, x = wz := ⟨_, rfl⟩
              subst hwd
              have hH := Y0
              refine wpAnyH_take (i := 11) (v := .slice A_2 (nbR x0 [a0_1, a1_1, a2_1, a3_1, a4_1, a5_1, a6_1, a7_1] x2).length c_2) rfl (by kernel_rfl) (by kernel_rfl) (by kernel_rfl) (fun _ _ _ h => h) (Or.inl ⟨by rfl, fun w h => by go_simp⟩) hH ?_
              try simp only [Act.put, List.getElem_toArray, List.getElem_cons_zero, List.getElem_cons_succ, List.setIfInBounds_toArray, List.set_cons_zero, List.set_cons_succ]
              clear hH
              refine wpAnyH_ready (rs := [12]) (by kernel_rfl) (by simp) ?_
              refine AllReadyH.cons rfl (fun K hK => ?_) AllReadyH.nil
              try simp only [List.getElem_toArray, List.getElem_cons_zero, List.getElem_cons_succ]
              rw [if_pos (by rfl)]
              refine wp_store_mid _ _ _ rfl _ _ (List.toArray [.int .i64 (nbN x0 [a0_1, a1_1, a2_1, a3_1, a4_1, a5_1, a6_1, a7_1] x2), .int .i64 (nbD x0 [a0_1, a1_1, a2_1, a3_1, a4_1, a5_1, a6_1, a7_1] x2)]) rfl rfl (Z.there rfl) frac_size (one2 _ _) ?_
              simp only [List.toList_toArray]
              refine hK.out _ _ (Y0.setAway (by omega) _ _) (fun _ => ?_)
              clear hK K
              try simp only [Act.put, List.getElem_toArray, List.getElem_cons_zero, List.getElem_cons_succ, List.setIfInBounds_toArray, List.set_cons_zero, List.set_cons_succ]
              have hg : wd.grownBy (World.setCells wd gz 0 [.int .i64 (nbN x0 [a0_1, a1_1, a2_1, a3_1, a4_1, a5_1, a6_1, a7_1] x2), .int .i64 (nbD x0 [a0_1, a1_1, a2_1, a3_1, a4_1, a5_1, a6_1, a7_1] x2)]) (some gz) := grown_set9 (grown_set9 (World.grownBy.refl _ _) 0 _) 1 _
              replace O2 := own_apart (v' := .slice (some ⟨gz, 0, none⟩) 0 0) O2 hg (fun k k' h1 h2 => by have h3 : gz = k' := (by simpa [Value.ownBlock] using h2); have h4 := HN.out k h1; omega)
              clear hg
              replace Y0 := Y0.setAway (C := gz) (by omega) [.int .i64 (nbN x0 [a0_1, a1_1, a2_1, a3_1, a4_1, a5_1, a6_1, a7_1] x2), .int .i64 (nbD x0 [a0_1, a1_1, a2_1, a3_1, a4_1, a5_1, a6_1, a7_1] x2)] 0
              replace HBt := below_setCells (b := w12.heap.size) (C := gz) (by omega) [.int .i64 (nbN x0 [a0_1, a1_1, a2_1, a3_1, a4_1, a5_1, a6_1, a7_1] x2), .int .i64 (nbD x0 [a0_1, a1_1, a2_1, a3_1, a4_1, a5_1, a6_1, a7_1] x2)] 0 HBt
              replace Z := Z.setAll [.int .i64 (nbN x0 [a0_1, a1_1, a2_1, a3_1, a4_1, a5_1, a6_1, a7_1] x2), .int .i64 (nbD x0 [a0_1, a1_1, a2_1, a3_1, a4_1, a5_1, a6_1, a7_1] x2)] rfl
              generalize World.setCells _ gz 0 [.int .i64 (nbN x0 [a0_1, a1_1, a2_1, a3_1, a4_1, a5_1, a6_1, a7_1] x2), .int .i64 (nbD x0 [a0_1, a1_1, a2_1, a3_1, a4_1, a5_1, a6_1, a7_1] x2)] = ws at Y0 HBt Z O2 ⊢
              have hH := Y0
              refine wpAnyH_take (i := 13) (v := .int .i64 (nbC x0 [a0_1, a1_1, a2_1, a3_1, a4_1, a5_1, a6_1, a7_1] x2)) rfl (by kernel_rfl) (by kernel_rfl) (by kernel_rfl) (fun _ _ _ h => h) (Or.inl ⟨by rfl, fun w h => by go_simp⟩) hH ?_
              try simp only [Act.put, List.getElem_toArray, List.getElem_cons_zero, List.getElem_cons_succ, List.setIfInBounds_toArray, List.set_cons_zero, List.set_cons_succ]
              clear hH
              refine wpAnyH_done (by kernel_rfl) ?_ _
              go_wp2_with fail
              go_meet
              exact ⟨A_2, c_2, gz, rfl, rfl, rfl, Lib.hid O2, Lib.hid Z, by omega, Lib.hid HBt⟩
            exact AllReadyH.nil
          refine AllReadyH.cons rfl (fun K hK => ?_) ?_
          · try simp only [List.getElem_toArray, List.getElem_cons_zero, List.getElem_cons_succ]
            rw [if_pos (by rfl)]
            go_simp
            refine hK.out _ _ (Y0.below (below_alloc1 _ _)) (fun _ => ?_)
            clear hK K
            try simp only [Act.put, List.getElem_toArray, List.getElem_cons_zero, List.getElem_cons_succ, List.setIfInBounds_toArray, List.set_cons_zero, List.set_cons_succ]
            have Z := Row.alloc wd [.int .i64 0, .int .i64 0] 47
            have hz0 := HBt.size
            have hy0 := Y0.lt
            replace O1 := own_below O1 (below_alloc1 _ (.cells #[.int .i64 0, .int .i64 0] 47))
            replace Y0 := Y0.below (below_alloc1 _ (.cells #[.int .i64 0, .int .i64 0] 47))
            replace HBt := HBt.alloc HBt.size (.cells #[.int .i64 0, .int .i64 0] 47)
            generalize World.alloc wd (.cells #[.int .i64 0, .int .i64 0] 47) = wz at Y0 HBt Z O1 ⊢
            generalize wd.heap.size = gz at *
            obtain ⟨wd, hwd⟩ : ∃ x, x = wz := ⟨_, rfl⟩
            subst hwd
            refine wpAnyH_ready (rs := [5]) (by kernel_rfl) (by simp) ?_
            refine AllReadyH.cons rfl (fun K hK => ?_) ?_
            · try simp only [List.getElem_toArray, List.getElem_cons_zero, List.getElem_cons_succ]
              rw [if_pos (by rfl)]
              go_simp
              have hzl := Z.lt
              refine (iNearestBlend A_1 n0 c_1 x0 a0_1 a1_1 a2_1 a3_1 a4_1 a5_1 a6_1 a7_1 x2 _ (own_rdsFl O1 (FlOk.len G0.out) (by omega)) G0 (by omega) HW1).mono ?_
              rintro e we ⟨A_2, c_2, rfl, O2, hb⟩
              refine hK.out _ _ (Y0.below hb) (fun _ => ?_)
              clear hK K
              try simp only [Act.put, List.getElem_toArray, List.getElem_cons_zero, List.getElem_cons_succ, List.setIfInBounds_toArray, List.set_cons_zero, List.set_cons_succ]
              have HN := Lib.hid (fun k h => (show k ≠ gz by have := (own_base O2 k h).1; omega))
              replace O2 := own_lower (b' := w12.heap.size) O2 HBt.size
              clear O1
              replace Y0 := Y0.below hb
              replace Z := Z.below hb
              replace HBt := below_then HBt HBt.size hb
              clear hb
              obtain ⟨wd, hwd⟩ : ∃ x, x = we := ⟨_, rfl⟩
              subst hwd
              have hH := Y0
              refine wpAnyH_take (i := 6) (v := .tuple #[.slice A_2 (nbR x0 [a0_1, a1_1, a2_1, a3_1, a4_1, a5_1, a6_1, a7_1] x2).length c_2, .agg #[.int .i64 (nbN x0 [a0_1, a1_1, a2_1, a3_1, a4_1, a5_1, a6_1, a7_1] x2), .int .i64 (nbD x0 [a0_1, a1_1, a2_1, a3_1, a4_1, a5_1, a6_1, a7_1] x2)], .int .i64 (nbC x0 [a0_1, a1_1, a2_1, a3_1, a4_1, a5_1, a6_1, a7_1] x2)]) rfl (by kernel_rfl) (by kernel_rfl) (by kernel_rfl) (fun _ _ _ h => h) (Or.inl ⟨by rfl, fun w h => by go_simp⟩) hH ?_
              try simp only [Act.put, List.getElem_toArray, List.getElem_cons_zero, List.getElem_cons_succ, List.setIfInBounds_toArray, List.set_cons_zero, List.set_cons_succ]
              refine wpAnyH_take (i := 7) (v := .slice A_2 (nbR x0 [a0_1, a1_1, a2_1, a3_1, a4_1, a5_1, a6_1, a7_1] x2).length c_2) rfl (by kernel_rfl) (by kernel_rfl) (by kernel_rfl) (fun _ _ _ h => h) (Or.inl ⟨by rfl, fun w h => by go_simp⟩) hH ?_
              try simp only [Act.put, List.getElem_toArray, List.getElem_cons_zero, List.getElem_cons_succ, List.setIfInBounds_toArray, List.set_cons_zero, List.set_cons_succ]
              refine wpAnyH_take (i := 8) (v := .agg #[.int .i64 (nbN x0 [a0_1, a1_1, a2_1, a3_1, a4_1, a5_1, a6_1, a7_1] x2), .int .i64 (nbD x0 [a0_1, a1_1, a2_1, a3_1, a4_1, a5_1, a6_1, a7_1] x2)]) rfl (by kernel_rfl) (by kernel_rfl) (by kernel_rfl) (fun _ _ _ h => h) (Or.inl ⟨by rfl, fun w h => by go_simp⟩) hH ?_
              try simp only [Act.put, List.getElem_toArray, List.getElem_cons_zero, List.getElem_cons_succ, List.setIfInBounds_toArray, List.set_cons_zero, List.set_cons_succ]
              refine wpAnyH_take (i := 9) (v := .int .i64 (nbC x0 [a0_1, a1_1, a2_1, a3_1, a4_1, a5_1, a6_1, a7_1] x2)) rfl (by kernel_rfl) (by kernel_rfl) (by kernel_rfl) (fun _ _ _ h => h) (Or.inl ⟨by rfl, fun w h => by go_simp⟩) hH ?_
              try simp only [Act.put, List.getElem_toArray, List.getElem_cons_zero, List.getElem_cons_succ, List.setIfInBounds_toArray, List.set_cons_zero, List.set_cons_succ]
              clear hH
              have hH := Y0
              refine wpAnyH_take (i := 11) (v := .slice A_2 (nbR x0 [a0_1, a1_1, a2_1, a3_1, a4_1, a5_1, a6_1, a7_1] x2).length c_2) rfl (by kernel_rfl) (by kernel_rfl) (by kernel_rfl) (fun _ _ _ h => h) (Or.inl ⟨by rfl, fun w h => by go_simp⟩) hH ?_
              try simp only [Act.put, List.getElem_toArray, List.getElem_cons_zero, List.getElem_cons_succ, List.setIfInBounds_toArray, List.set_cons_zero, List.set_cons_succ]
              clear hH
              refine wpAnyH_ready (rs := [12]) (by kernel_rfl) (by simp) ?_
              refine AllReadyH.cons rfl (fun K hK => ?_) AllReadyH.nil
              try simp only [List.getElem_toArray, List.getElem_cons_zero, List.getElem_cons_succ]
              rw [if_pos (by rfl)]
              refine wp_store_mid _ _ _ rfl _ _ (List.toArray [.int .i64 (nbN x0 [a0_1, a1_1, a2_1, a3_1, a4_1, a5_1, a6_1, a7_1] x2), .int .i64 (nbD x0 [a0_1, a1_1, a2_1, a3_1, a4_1, a5_1, a6_1, a7_1] x2)]) rfl rfl (Z.there rfl) frac_size (one2 _ _) ?_
              simp only [List.toList_toArray]
              refine hK.out _ _ (Y0.setAway (by omega) _ _) (fun _ => ?_)
              clear hK K
              try simp only [Act.put, List.getElem_toArray, List.getElem_cons_zero, List.getElem_cons_succ, List.setIfInBounds_toArray, List.set_cons_zero, List.set_cons_succ]
              have hg : wd.grownBy (World.setCells wd gz 0 [.int .i64 (nbN x0 [a0_1, a1_1, a2_1, a3_1, a4_1, a5_1, a6_1, a7_1] x2), .int .i64 (nbD x0 [a0_1, a1_1, a2_1, a3_1, a4_1, a5_1, a6_1, a7_1] x2)]) (some gz) := grown_set9 (grown_set9 (World.grownBy.refl _ _) 0 _) 1 _
              replace O2 := own_apart (v' := .slice (some ⟨gz, 0, none⟩) 0 0) O2 hg (fun k k' h1 h2 => by have h3 : gz = k' := (by simpa [Value.ownBlock] using h2); have h4 := HN.out k h1; omega)
              clear hg
              replace Y0 := Y0.setAway (C := gz) (by omega) [.int .i64 (nbN x0 [a0_1, a1_1, a2_1, a3_1, a4_1, a5_1, a6_1, a7_1] x2), .int .i64 (nbD x0 [a0_1, a1_1, a2_1, a3_1, a4_1, a5_1, a6_1, a7_1] x2)] 0
              replace HBt := below_setCells (b := w12.heap.size) (C := gz) (by omega) [.int .i64 (nbN x0 [a0_1, a1_1, a2_1, a3_1, a4_1, a5_1, a6_1, a7_1] x2), .int .i64 (nbD x0 [a0_1, a1_1, a2_1, a3_1, a4_1, a5_1, a6_1, a7_1] x2)] 0 HBt
              replace Z := Z.setAll [.int .i64 (nbN x0 [a0_1, a1_1, a2_1, a3_1, a4_1, a5_1, a6_1, a7_1] x2), .int .i64 (nbD x0 [a0_1, a1_1, a2_1, a3_1, a4_1, a5_1, a6_1, a7_1] x2)] rfl
              generalize World.setCells _ gz 0 [.int .i64 (nbN x0 [a0_1, a1_1, a2_1, a3_1, a4_1, a5_1, a6_1, a7_1] x2), .int .i64 (nbD x0 [a0_1, a1_1, a2_1, a3_1, a4_1, a5_1, a6_1, a7_1] x2)] = ws at Y0 HBt Z O2 ⊢
              have hH := Y0
              refine wpAnyH_take (i := 13) (v := .int .i64 (nbC x0 [a0_1, a1_1, a2_1, a3_1, a4_1, a5_1, a6_1, a7_1] x2)) rfl (by kernel_rfl) (by kernel_rfl) (by kernel_rfl) (fun _ _ _ h => h) (Or.inl ⟨by rfl, fun w h => by go_simp⟩) hH ?_
              try simp only [Act.put, List.getElem_toArray, List.getElem_cons_zero, List.getElem_cons_succ, List.setIfInBounds_toArray, List.set_cons_zero, List.set_cons_succ]
              clear hH
              refine wpAnyH_done (by kernel_rfl) ?_ _
              go_wp2_with fail
              go_meet
              exact ⟨A_2, c_2, gz, rfl, rfl, rfl, Lib.hid O2, Lib.hid Z, by omega, Lib.hid HBt⟩
            exact AllReadyH.nil
          exact AllReadyH.nil
        refine AllReadyH.cons rfl (fun K hK => ?_) ?_
        · try simp only [List.getElem_toArray, List.getElem_cons_zero, List.getElem_cons_succ]
          rw [if_pos (by rfl)]
          go_simp
          refine hK.out _ _ (Y0.below (below_alloc1 _ _)) (fun _ => ?_)
          clear hK K
          try simp only [Act.put, List.getElem_toArray, List.getElem_cons_zero, List.getElem_cons_succ, List.setIfInBounds_toArray, List.set_cons_zero, List.set_cons_succ]
          have Z := Row.alloc wd [.int .i64 0, .int .i64 0] 47
          have hz0 := HBt.size
          have hy0 := Y0.lt
          replace O1 := own_below O1 (below_alloc1 _ (.cells #[.int .i64 0, .int .i64 0] 47))
          replace Y0 := Y0.below (below_alloc1 _ (.cells #[.int .i64 0, .int .i64 0] 47))
          replace HBt := HBt.alloc HBt.size (.cells #[.int .i64 0, .int .i64 0] 47)
          generalize World.alloc wd (.cells #[.int .i64 0, .int .i64 0] 47) = wz at Y0 HBt Z O1 ⊢
          generalize wd.heap.size = gz at *
          obtain ⟨wd, hwd⟩ : ∃ x, x = wz := ⟨_, rfl⟩
          subst hwd
          refine wpAnyH_ready (rs := [3]) (by kernel_rfl) (by simp) ?_
          refine AllReadyH.cons rfl (fun K hK => ?_) ?_
          · try simp only [List.getElem_toArray, List.getElem_cons_zero, List.getElem_cons_succ]
            rw [if_pos (by rfl)]
            go_simp
            refine (toHeap_any a0_1 a1_1 a2_1 a3_1 a4_1 a5_1 a6_1 a7_1 _).mono ?_
            rintro e we ⟨rfl, hb⟩
            refine hK.out _ _ (Y0.below hb) (fun _ => ?_)
            clear hK K
            try simp only [Act.put, List.getElem_toArray, List.getElem_cons_zero, List.getElem_cons_succ, List.setIfInBounds_toArray, List.set_cons_zero, List.set_cons_succ]
            replace O1 := own_below O1 hb
            replace Y0 := Y0.below hb
            replace Z := Z.below hb
            replace HBt := below_then HBt HBt.size hb
            clear hb
            obtain ⟨wd, hwd⟩ : ∃ x, x = we := ⟨_, rfl⟩
            subst hwd
            refine wpAnyH_ready (rs := [5]) (by kernel_rfl) (by simp) ?_
            refine AllReadyH.cons rfl (fun K hK => ?_) ?_
            · try simp only [List.getElem_toArray, List.getElem_cons_zero, List.getElem_cons_succ]
              rw [if_pos (by rfl)]
              go_simp
              have hzl := Z.lt
              refine (iNearestBlend A_1 n0 c_1 x0 a0_1 a1_1 a2_1 a3_1 a4_1 a5_1 a6_1 a7_1 x2 _ (own_rdsFl O1 (FlOk.len G0.out) (by omega)) G0 (by omega) HW1).mono ?_
              rintro e we ⟨A_2, c_2, rfl, O2, hb⟩
              refine hK.out _ _ (Y0.below hb) (fun _ => ?_)
              clear hK K
              try simp only [Act.put, List.getElem_toArray, List.getElem_cons_zero, List.getElem_cons_succ, List.setIfInBounds_toArray, List.set_cons_zero, List.set_cons_succ]
              have HN := Lib.hid (fun k h => (show k ≠ gz by have := (own_base O2 k h).1; omega))
              replace O2 := own_lower (b' := w12.heap.size) O2 HBt.size
              clear O1
              replace Y0 := Y0.below hb
              replace Z := Z.below hb
              replace HBt := below_then HBt HBt.size hb
              clear hb
              obtain ⟨wd, hwd⟩ : ∃ x, x = we := ⟨_, rfl⟩
              subst hwd
              have hH := Y0
              refine wpAnyH_take (i := 6) (v := .tuple #[.slice A_2 (nbR x0 [a0_1, a1_1, a2_1, a3_1, a4_1, a5_1, a6_1, a7_1] x2).length c_2, .agg #[.int .i64 (nbN x0 [a0_1, a1_1, a2_1, a3_1, a4_1, a5_1, a6_1, a7_1] x2), .int .i64 (nbD x0 [a0_1, a1_1, a2_1, a3_1, a4_1, a5_1, a6_1, a7_1] x2)], .int .i64 (nbC x0 [a0_1, a1_1, a2_1, a3_1, a4_1, a5_1, a6_1, a7_1] x2)]) rfl (by kernel_rfl) (by kernel_rfl) (by kernel_rfl) (fun _ _ _ h => h) (Or.inl ⟨by rfl, fun w h => by go_simp⟩) hH ?_
              try simp only [Act.put, List.getElem_toArray, List.getElem_cons_zero, List.getElem_cons_succ, List.setIfInBounds_toArray, List.set_cons_zero, List.set_cons_succ]
              refine wpAnyH_take (i := 7) (v := .slice A_2 (nbR x0 [a0_1, a1_1, a2_1, a3_1, a4_1, a5_1, a6_1, a7_1] x2).length c_2) rfl (by kernel_rfl) (by kernel_rfl) (by kernel_rfl) (fun _ _ _ h => h) (Or.inl ⟨by rfl, fun w h => by go_simp⟩) hH ?_
              try simp only [Act.put, List.getElem_toArray, List.getElem_cons_zero, List.getElem_cons_succ, List.setIfInBounds_toArray, List.set_cons_zero, List.set_cons_succ]
              refine wpAnyH_take (i := 8) (v := .agg #[.int .i64 (nbN x0 [a0_1, a1_1, a2_1, a3_1, a4_1, a5_1, a6_1, a7_1] x2), .int .i64 (nbD x0 [a0_1, a1_1, a2_1, a3_1, a4_1, a5_1, a6_1, a7_1] x2)]) rfl (by kernel_rfl) (by kernel_rfl) (by kernel_rfl) (fun _ _ _ h => h) (Or.inl ⟨by rfl, fun w h => by go_simp⟩) hH ?_
              try simp only [Act.put, List.getElem_toArray, List.getElem_cons_zero, List.getElem_cons_succ, List.setIfInBounds_toArray, List.set_cons_zero, List.set_cons_succ]
              refine wpAnyH_take (i := 9) (v := .int .i64 (nbC x0 [a0_1, a1_1, a2_1, a3_1, a4_1, a5_1, a6_1, a7_1] x2)) rfl (by kernel_rfl) (by kernel_rfl) (by kernel_rfl) (fun _ _ _ h => h) (Or.inl ⟨by rfl, fun w h => by go_simp⟩) hH ?_
              try simp only [Act.put, List.getElem_toArray, List.getElem_cons_zero, List.getElem_cons_succ, List.setIfInBounds_toArray, List.set_cons_zero, List.set_cons_succ]
              clear hH
              have hH := Y0
              refine wpAnyH_take (i := 11) (v := .slice A_2 (nbR x0 [a0_1, a1_1, a2_1, a3_1, a4_1, a5_1, a6_1, a7_1] x2).length c_2) rfl (by kernel_rfl) (by kernel_rfl) (by kernel_rfl) (fun _ _ _ h => h) (Or.inl ⟨by rfl, fun w h => by go_simp⟩) hH ?_
              try simp only [Act.put, List.getElem_toArray, List.getElem_cons_zero, List.getElem_cons_succ, List.setIfInBounds_toArray, List.set_cons_zero, List.set_cons_succ]
              clear hH
              refine wpAnyH_ready (rs := [12]) (by kernel_rfl) (by simp) ?_
              refine AllReadyH.cons rfl (fun K hK => ?_) AllReadyH.nil
              try simp only [List.getElem_toArray, List.getElem_cons_zero, List.getElem_cons_succ]
              rw [if_pos (by rfl)]
              refine wp_store_mid _ _ _ rfl _ _ (List.toArray [.int .i64 (nbN x0 [a0_1, a1_1, a2_1, a3_1, a4_1, a5_1, a6_1, a7_1] x2), .int .i64 (nbD x0 [a0_1, a1_1, a2_1, a3_1, a4_1, a5_1, a6_1, a7_1] x2)]) rfl rfl (Z.there rfl) frac_size (one2 _ _) ?_
              simp only [List.toList_toArray]
              refine hK.out _ _ (Y0.setAway (by omega) _ _) (fun _ => ?_)
              clear hK K
              try simp only [Act.put, List.getElem_toArray, List.getElem_cons_zero, List.getElem_cons_succ, List.setIfInBounds_toArray, List.set_cons_zero, List.set_cons_succ]
              have hg : wd.grownBy (World.setCells wd gz 0 [.int .i64 (nbN x0 [a0_1, a1_1, a2_1, a3_1, a4_1, a5_1, a6_1, a7_1] x2), .int .i64 (nbD x0 [a0_1, a1_1, a2_1, a3_1, a4_1, a5_1, a6_1, a7_1] x2)]) (some gz) := grown_set9 (grown_set9 (World.grownBy.refl _ _) 0 _) 1 _
              replace O2 := own_apart (v' := .slice (some ⟨gz, 0, none⟩) 0 0) O2 hg (fun k k' h1 h2 => by have h3 : gz = k' := (by simpa [Value.ownBlock] using h2); have h4 := HN.out k h1; omega)
              clear hg
              replace Y0 := Y0.setAway (C := gz) (by omega) [.int .i64 (nbN x0 [a0_1, a1_1, a2_1, a3_1, a4_1, a5_1, a6_1, a7_1] x2), .int .i64 (nbD x0 [a0_1, a1_1, a2_1, a3_1, a4_1, a5_1, a6_1, a7_1] x2)] 0
              replace HBt := below_setCells (b := w12.heap.size) (C := gz) (by omega) [.int .i64 (nbN x0 [a0_1, a1_1, a2_1, a3_1, a4_1, a5_1, a6_1, a7_1] x2), .int .i64 (nbD x0 [a0_1, a1_1, a2_1, a3_1, a4_1, a5_1, a6_1, a7_1] x2)] 0 HBt
              replace Z := Z.setAll [.int .i64 (nbN x0 [a0_1, a1_1, a2_1, a3_1, a4_1, a5_1, a6_1, a7_1] x2), .int .i64 (nbD x0 [a0_1, a1_1, a2_1, a3_1, a4_1, a5_1, a6_1, a7_1] x2)] rfl
              generalize World.setCells _ gz 0 [.int .i64 (nbN x0 [a0_1, a1_1, a2_1, a3_1, a4_1, a5_1, a6_1, a7_1] x2), .int .i64 (nbD x0 [a0_1, a1_1, a2_1, a3_1, a4_1, a5_1, a6_1, a7_1] x2)] = ws at Y0 HBt Z O2 ⊢
              have hH := Y0
              refine wpAnyH_take (i := 13) (v := .int .i64 (nbC x0 [a0_1, a1_1, a2_1, a3_1, a4_1, a5_1, a6_1, a7_1] x2)) rfl (by kernel_rfl) (by kernel_rfl) (by kernel_rfl) (fun _ _ _ h => h) (Or.inl ⟨by rfl, fun w h => by go_simp⟩) hH ?_
              try simp only [Act.put, List.getElem_toArray, List.getElem_cons_zero, List.getElem_cons_succ, List.setIfInBounds_toArray, List.set_cons_zero, List.set_cons_succ]
              clear hH
              refine wpAnyH_done (by kernel_rfl) ?_ _
              go_wp2_with fail
              go_meet
              exact ⟨A_2, c_2, gz, rfl, rfl, rfl, Lib.hid O2, Lib.hid Z, by omega, Lib.hid HBt⟩
            exact AllReadyH.nil
          exact AllReadyH.nil
        exact AllReadyH.nil
      refine AllReadyH.cons rfl (fun K hK => ?_) ?_
      · try simp only [List.getElem_toArray, List.getElem_cons_zero, List.getElem_cons_succ]
        rw [if_pos (by rfl)]
        go_simp
        refine hK.out _ _ (Y0.below (below_alloc1 _ _)) (fun _ => ?_)
        clear hK K
        try simp only [Act.put, List.getElem_toArray, List.getElem_cons_zero, List.getElem_cons_succ, List.setIfInBounds_toArray, List.set_cons_zero, List.set_cons_succ]
        have Z := Row.alloc wd [.int .i64 0, .int .i64 0] 47
        have hz0 := HBt.size
        have hy0 := Y0.lt
        replace Y0 := Y0.below (below_alloc1 _ (.cells #[.int .i64 0, .int .i64 0] 47))
        replace HBt := HBt.alloc HBt.size (.cells #[.int .i64 0, .int .i64 0] 47)
        generalize World.alloc wd (.cells #[.int .i64 0, .int .i64 0] 47) = wz at Y0 HBt Z  ⊢
        generalize wd.heap.size = gz at *
        obtain ⟨wd, hwd⟩ : ∃ x, x = wz := ⟨_, rfl⟩
        subst hwd
        refine wpAnyH_ready (rs := [1]) (by kernel_rfl) (by simp) ?_
        refine AllReadyH.cons rfl (fun K hK => ?_) ?_
        · try simp only [List.getElem_toArray, List.getElem_cons_zero, List.getElem_cons_succ]
          rw [if_pos (by rfl)]
          go_simp
          refine (toFleeceS_any A0 n0 c0 x0 _ (R0.below (below_then B0 B0.size HBt)) (Lib.hid (FlOk.len G0.out)) hm0).mono ?_
          rintro e we ⟨A_1, c_1, rfl, O1, hb⟩
          refine hK.out _ _ (Y0.below hb) (fun _ => ?_)
          clear hK K
          try simp only [Act.put, List.getElem_toArray, List.getElem_cons_zero, List.getElem_cons_succ, List.setIfInBounds_toArray, List.set_cons_zero, List.set_cons_succ]
          replace Y0 := Y0.below hb
          replace Z := Z.below hb
          replace HBt := below_then HBt HBt.size hb
          clear hb
          obtain ⟨wd, hwd⟩ : ∃ x, x = we := ⟨_, rfl⟩
          subst hwd
          refine wpAnyH_ready (rs := [3]) (by kernel_rfl) (by simp) ?_
          refine AllReadyH.cons rfl (fun K hK => ?_) ?_
          · try simp only [List.getElem_toArray, List.getElem_cons_zero, List.getElem_cons_succ]
            rw [if_pos (by rfl)]
            go_simp
            refine (toHeap_any a0_1 a1_1 a2_1 a3_1 a4_1 a5_1 a6_1 a7_1 _).mono ?_
            rintro e we ⟨rfl, hb⟩
            refine hK.out _ _ (Y0.below hb) (fun _ => ?_)
            clear hK K
            try simp only [Act.put, List.getElem_toArray, List.getElem_cons_zero, List.getElem_cons_succ, List.setIfInBounds_toArray, List.set_cons_zero, List.set_cons_succ]
            replace O1 := own_below O1 hb
            replace Y0 := Y0.below hb
            replace Z := Z.below hb
            replace HBt := below_then HBt HBt.size hb
            clear hb
            obtain ⟨wd, hwd⟩ : ∃ x, x = we := ⟨_, rfl⟩
            subst hwd
            refine wpAnyH_ready (rs := [5]) (by kernel_rfl) (by simp) ?_
            refine AllReadyH.cons rfl (fun K hK => ?_) ?_
            · try simp only [List.getElem_toArray, List.getElem_cons_zero, List.getElem_cons_succ]
              rw [if_pos (by rfl)]
              go_simp
              have hzl := Z.lt
              refine (iNearestBlend A_1 n0 c_1 x0 a0_1 a1_1 a2_1 a3_1 a4_1 a5_1 a6_1 a7_1 x2 _ (own_rdsFl O1 (FlOk.len G0.out) (by omega)) G0 (by omega) HW1).mono ?_
              rintro e we ⟨A_2, c_2, rfl, O2, hb⟩
              refine hK.out _ _ (Y0.below hb) (fun _ => ?_)
              clear hK K
              try simp only [Act.put, List.getElem_toArray, List.getElem_cons_zero, List.getElem_cons_succ, List.setIfInBounds_toArray, List.set_cons_zero, List.set_cons_succ]
              have HN := Lib.hid (fun k h => (show k ≠ gz by have := (own_base O2 k h).1; omega))
              replace O2 := own_lower (b' := w12.heap.size) O2 HBt.size
              clear O1
              replace Y0 := Y0.below hb
              replace Z := Z.below hb
              replace HBt := below_then HBt HBt.size hb
              clear hb
              obtain ⟨wd, hwd⟩ : ∃ x, x = we := ⟨_, rfl⟩
              subst hwd
              have hH := Y0
              refine wpAnyH_take (i := 6) (v := .tuple #[.slice A_2 (nbR x0 [a0_1, a1_1, a2_1, a3_1, a4_1, a5_1, a6_1, a7_1] x2).length c_2, .agg #[.int .i64 (nbN x0 [a0_1, a1_1, a2_1, a3_1, a4_1, a5_1, a6_1, a7_1] x2), .int .i64 (nbD x0 [a0_1, a1_1, a2_1, a3_1, a4_1, a5_1, a6_1, a7_1] x2)], .int .i64 (nbC x0 [a0_1, a1_1, a2_1, a3_1, a4_1, a5_1, a6_1, a7_1] x2)]) rfl (by kernel_rfl) (by kernel_rfl) (by kernel_rfl) (fun _ _ _ h => h) (Or.inl ⟨by rfl, fun w h => by go_simp⟩) hH ?_
              try simp only [Act.put, List.getElem_toArray, List.getElem_cons_zero, List.getElem_cons_succ, List.setIfInBounds_toArray, List.set_cons_zero, List.set_cons_succ]
              refine wpAnyH_take (i := 7) (v := .slice A_2 (nbR x0 [a0_1, a1_1, a2_1, a3_1, a4_1, a5_1, a6_1, a7_1] x2).length c_2) rfl (by kernel_rfl) (by kernel_rfl) (by kernel_rfl) (fun _ _ _ h => h) (Or.inl ⟨by rfl, fun w h => by go_simp⟩) hH ?_
              try simp only [Act.put, List.getElem_toArray, List.getElem_cons_zero, List.getElem_cons_succ, List.setIfInBounds_toArray, List.set_cons_zero, List.set_cons_succ]
              refine wpAnyH_take (i := 8) (v := .agg #[.int .i64 (nbN x0 [a0_1, a1_1, a2_1, a3_1, a4_1, a5_1, a6_1, a7_1] x2), .int .i64 (nbD x0 [a0_1, a1_1, a2_1, a3_1, a4_1, a5_1, a6_1, a7_1] x2)]) rfl (by kernel_rfl) (by kernel_rfl) (by kernel_rfl) (fun _ _ _ h => h) (Or.inl ⟨by rfl, fun w h => by go_simp⟩) hH ?_
              try simp only [Act.put, List.getElem_toArray, List.getElem_cons_zero, List.getElem_cons_succ, List.setIfInBounds_toArray, List.set_cons_zero, List.set_cons_succ]
              refine wpAnyH_take (i := 9) (v := .int .i64 (nbC x0 [a0_1, a1_1, a2_1, a3_1, a4_1, a5_1, a6_1, a7_1] x2)) rfl (by kernel_rfl) (by kernel_rfl) (by kernel_rfl) (fun _ _ _ h => h) (Or.inl ⟨by rfl, fun w h => by go_simp⟩) hH ?_
              try simp only [Act.put, List.getElem_toArray, List.getElem_cons_zero, List.getElem_cons_succ, List.setIfInBounds_toArray, List.set_cons_zero, List.set_cons_succ]
              clear hH
              have hH := Y0
              refine wpAnyH_take (i := 11) (v := .slice A_2 (nbR x0 [a0_1, a1_1, a2_1, a3_1, a4_1, a5_1, a6_1, a7_1] x2).length c_2) rfl (by kernel_rfl) (by kernel_rfl) (by kernel_rfl) (fun _ _ _ h => h) (Or.inl ⟨by rfl, fun w h => by go_simp⟩) hH ?_
              try simp only [Act.put, List.getElem_toArray, List.getElem_cons_zero, List.getElem_cons_succ, List.setIfInBounds_toArray, List.set_cons_zero, List.set_cons_succ]
              clear hH
              refine wpAnyH_ready (rs := [12]) (by kernel_rfl) (by simp) ?_
              refine AllReadyH.cons rfl (fun K hK => ?_) AllReadyH.nil
              try simp only [List.getElem_toArray, List.getElem_cons_zero, List.getElem_cons_succ]
              rw [if_pos (by rfl)]
              refine wp_store_mid _ _ _ rfl _ _ (List.toArray [.int .i64 (nbN x0 [a0_1, a1_1, a2_1, a3_1, a4_1, a5_1, a6_1, a7_1] x2), .int .i64 (nbD x0 [a0_1, a1_1, a2_1, a3_1, a4_1, a5_1, a6_1, a7_1] x2)]) rfl rfl (Z.there rfl) frac_size (one2 _ _) ?_
              simp only [List.toList_toArray]
              refine hK.out _ _ (Y0.setAway (by omega) _ _) (fun _ => ?_)
              clear hK K
              try simp only [Act.put, List.getElem_toArray, List.getElem_cons_zero, List.getElem_cons_succ, List.setIfInBounds_toArray, List.set_cons_zero, List.set_cons_succ]
              have hg : wd.grownBy (World.setCells wd gz 0 [.int .i64 (nbN x0 [a0_1, a1_1, a2_1, a3_1, a4_1, a5_1, a6_1, a7_1] x2), .int .i64 (nbD x0 [a0_1, a1_1, a2_1, a3_1, a4_1, a5_1, a6_1, a7_1] x2)]) (some gz) := grown_set9 (grown_set9 (World.grownBy.refl _ _) 0 _) 1 _
              replace O2 := own_apart (v' := .slice (some ⟨gz, 0, none⟩) 0 0) O2 hg (fun k k' h1 h2 => by have h3 : gz = k' := (by simpa [Value.ownBlock] using h2); have h4 := HN.out k h1; omega)
              clear hg
              replace Y0 := Y0.setAway (C := gz) (by omega) [.int .i64 (nbN x0 [a0_1, a1_1, a2_1, a3_1, a4_1, a5_1, a6_1, a7_1] x2), .int .i64 (nbD x0 [a0_1, a1_1, a2_1, a3_1, a4_1, a5_1, a6_1, a7_1] x2)] 0
              replace HBt := below_setCells (b := w12.heap.size) (C := gz) (by omega) [.int .i64 (nbN x0 [a0_1, a1_1, a2_1, a3_1, a4_1, a5_1, a6_1, a7_1] x2), .int .i64 (nbD x0 [a0_1, a1_1, a2_1, a3_1, a4_1, a5_1, a6_1, a7_1] x2)] 0 HBt
              replace Z := Z.setAll [.int .i64 (nbN x0 [a0_1, a1_1, a2_1, a3_1, a4_1, a5_1, a6_1, a7_1] x2), .int .i64 (nbD x0 [a0_1, a1_1, a2_1, a3_1, a4_1, a5_1, a6_1, a7_1] x2)] rfl
              generalize World.setCells _ gz 0 [.int .i64 (nbN x0 [a0_1, a1_1, a2_1, a3_1, a4_1, a5_1, a6_1, a7_1] x2), .int .i64 (nbD x0 [a0_1, a1_1, a2_1, a3_1, a4_1, a5_1, a6_1, a7_1] x2)] = ws at Y0 HBt Z O2 ⊢
              have hH := Y0
              refine wpAnyH_take (i := 13) (v := .int .i64 (nbC x0 [a0_1, a1_1, a2_1, a3_1, a4_1, a5_1, a6_1, a7_1] x2)) rfl (by kernel_rfl) (by kernel_rfl) (by kernel_rfl) (fun _ _ _ h => h) (Or.inl ⟨by rfl, fun w h => by go_simp⟩) hH ?_
              try simp only [Act.put, List.getElem_toArray, List.getElem_cons_zero, List.getElem_cons_succ, List.setIfInBounds_toArray, List.set_cons_zero, List.set_cons_succ]
              clear hH
              refine wpAnyH_done (by kernel_rfl) ?_ _
              go_wp2_with fail
              go_meet
              exact ⟨A_2, c_2, gz, rfl, rfl, rfl, Lib.hid O2, Lib.hid Z, by omega, Lib.hid HBt⟩
            exact AllReadyH.nil
          exact AllReadyH.nil
        exact AllReadyH.nil
      exact AllReadyH.nil
    case rest =>
    obtain ⟨A_13, c_13, gz13, rfl, rfl, rfl, QO, QX, hgz13, QB⟩ := hcut
    obtain ⟨w13, hwk⟩ : ∃ x, x = wc := ⟨_, rfl⟩
    subst hwk
    have O13 := QO.out
    have hb := QB.out
    replace O1 := own_below O1 hb
    replace O4 := own_below O4 hb
    replace O7 := own_below O7 hb
    have hz13 := hb.size
    (try simp only [World.size_alloc] at hz13)
    replace HB := below_then HB HB.size hb
    replace X0 := X0.below hb
    have hl_0 := X0.lt
    have e0_0 := X0.cell 0
    have e0_1 := X0.cell 1
    have e0_2 := X0.cell 2
    have e0_3 := X0.cell 3
    have e0_4 := X0.cell 4
    have e0_5 := X0.cell 5
    have e0_6 := X0.cell 6
    have e0_7 := X0.cell 7
    simp only [List.getElem?_cons_zero, List.getElem?_cons_succ, Nat.add_zero] at e0_0 e0_1 e0_2 e0_3 e0_4 e0_5 e0_6 e0_7
    replace X1 := X1.below hb
    have hl_1 := X1.lt
    have e1_0 := X1.cell 0
    have e1_1 := X1.cell 1
    simp only [List.getElem?_cons_zero, List.getElem?_cons_succ, Nat.add_zero] at e1_0 e1_1
    replace X2 := X2.below hb
    have hl_2 := X2.lt
    have e2_0 := X2.cell 0
    have e2_1 := X2.cell 1
    simp only [List.getElem?_cons_zero, List.getElem?_cons_succ, Nat.add_zero] at e2_0 e2_1
    have U13 := Lib.hid (own_base O13)
    clear hb
    have X3 := QX.out
    have hl_3 := X3.lt
    have e3_0 := X3.cell 0
    have e3_1 := X3.cell 1
    simp only [List.getElem?_cons_zero, List.getElem?_cons_succ, Nat.add_zero] at e3_0 e3_1
    clear QO QX QB
    go_wp2_with fail
    refine (eqInt64S_true A_13 A_1 (nbR x0 [a0_1, a1_1, a2_1, a3_1, a4_1, a5_1, a6_1, a7_1] x2).length c_13 c_1 (nbR x0 [a0_1, a1_1, a2_1, a3_1, a4_1, a5_1, a6_1, a7_1] x2) _ (own_rds1 O13 (by have := (nbR_len x0 [a0_1, a1_1, a2_1, a3_1, a4_1, a5_1, a6_1, a7_1] x2 G0.out rfl); omega)) (own_rds1 O1 (by have := (nbR_len x0 [a0_1, a1_1, a2_1, a3_1, a4_1, a5_1, a6_1, a7_1] x2 G0.out rfl); omega))).mono ?_
    rintro e w14 ⟨rfl, hb⟩
    replace O1 := own_below O1 hb
    replace O4 := own_below O4 hb
    replace O7 := own_below O7 hb
    replace O13 := own_below O13 hb
    have hz14 := hb.size
    (try simp only [World.size_alloc] at hz14)
    replace HB := below_then HB HB.size hb
    replace X0 := X0.below hb
    have hl_0 := X0.lt
    have e0_0 := X0.cell 0
    have e0_1 := X0.cell 1
    have e0_2 := X0.cell 2
    have e0_3 := X0.cell 3
    have e0_4 := X0.cell 4
    have e0_5 := X0.cell 5
    have e0_6 := X0.cell 6
    have e0_7 := X0.cell 7
    simp only [List.getElem?_cons_zero, List.getElem?_cons_succ, Nat.add_zero] at e0_0 e0_1 e0_2 e0_3 e0_4 e0_5 e0_6 e0_7
    replace X1 := X1.below hb
    have hl_1 := X1.lt
    have e1_0 := X1.cell 0
    have e1_1 := X1.cell 1
    simp only [List.getElem?_cons_zero, List.getElem?_cons_succ, Nat.add_zero] at e1_0 e1_1
    replace X2 := X2.below hb
    have hl_2 := X2.lt
    have e2_0 := X2.cell 0
    have e2_1 := X2.cell 1
    simp only [List.getElem?_cons_zero, List.getElem?_cons_succ, Nat.add_zero] at e2_0 e2_1
    replace X3 := X3.below hb
    have hl_3 := X3.lt
    have e3_0 := X3.cell 0
    have e3_1 := X3.cell 1
    simp only [List.getElem?_cons_zero, List.getElem?_cons_succ, Nat.add_zero] at e3_0 e3_1
    clear hb
    go_wp2_with fail
    refine (eqFraction_true _ _ _).mono ?_
    rintro e w15 ⟨rfl, hb⟩
    replace O1 := own_below O1 hb
    replace O4 := own_below O4 hb
    replace O7 := own_below O7 hb
    replace O13 := own_below O13 hb
    have hz15 := hb.size
    (try simp only [World.size_alloc] at hz15)
    replace HB := below_then HB HB.size hb
    replace X0 := X0.below hb
    have hl_0 := X0.lt
    have e0_0 := X0.cell 0
    have e0_1 := X0.cell 1
    have e0_2 := X0.cell 2
    have e0_3 := X0.cell 3
    have e0_4 := X0.cell 4
    have e0_5 := X0.cell 5
    have e0_6 := X0.cell 6
    have e0_7 := X0.cell 7
    simp only [List.getElem?_cons_zero, List.getElem?_cons_succ, Nat.add_zero] at e0_0 e0_1 e0_2 e0_3 e0_4 e0_5 e0_6 e0_7
    replace X1 := X1.below hb
    have hl_1 := X1.lt
    have e1_0 := X1.cell 0
    have e1_1 := X1.cell 1
    simp only [List.getElem?_cons_zero, List.getElem?_cons_succ, Nat.add_zero] at e1_0 e1_1
    replace X2 := X2.below hb
    have hl_2 := X2.lt
    have e2_0 := X2.cell 0
    have e2_1 := X2.cell 1
    simp only [List.getElem?_cons_zero, List.getElem?_cons_succ, Nat.add_zero] at e2_0 e2_1
    replace X3 := X3.below hb
    have hl_3 := X3.lt
    have e3_0 := X3.cell 0
    have e3_1 := X3.cell 1
    simp only [List.getElem?_cons_zero, List.getElem?_cons_succ, Nat.add_zero] at e3_0 e3_1
    clear hb
    go_wp2_with fail
    refine (heldInt64S_any A_4 (nbR x0 [a0_1, a1_1, a2_1, a3_1, a4_1, a5_1, a6_1, a7_1] x2).length c_4 1 _ (own_rds1 O4 (by have := (nbR_len x0 [a0_1, a1_1, a2_1, a3_1, a4_1, a5_1, a6_1, a7_1] x2 G0.out rfl); omega)) (by have := (nbR_len x0 [a0_1, a1_1, a2_1, a3_1, a4_1, a5_1, a6_1, a7_1] x2 G0.out rfl); omega) (by omega) (by omega)).mono ?_
    rintro e w16 ⟨rfl, rfl⟩
    go_wp2_with fail
    go_ret
    exact ⟨rfl, HB⟩
end Go.Proofs.Ytppkcihdgedgoaa
