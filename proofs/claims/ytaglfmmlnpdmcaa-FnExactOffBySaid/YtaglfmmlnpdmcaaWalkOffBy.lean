/- The walk of the law FnExactOffBy: its two statements are regions that draw their order. -/
import Derived.Test.YtaglfmmlnpdmcaaR8
import Derived.Test.YtaglfmmlnpdmcaaR9
import Derived.Test.YtaglfmmlnpdmcaaHR
import Derived.Deep.DeepCutAuto
namespace Go.Proofs.Ytaglfmmlnpdmcaa
open Go.RowKit
set_option linter.unusedVariables false
set_option linter.unusedSimpArgs false
set_option maxHeartbeats 4000000 in
theorem walk_OffBy (w : World) (x0 : List Int) (g0 : x0.length = 8 ∧ ∀ x ∈ x0, (Lit.int .i32 x).wf = true) (x1 : List Int) (g1 : x1.length = 8 ∧ ∀ x ∈ x1, (Lit.int .i32 x).wf = true) :
    Calls Try.prog 6 #[.agg (nums .i32 x0).toArray, .agg (nums .i32 x1).toArray] w fun e w' => e = .returned (.bool true) ∧ Below w.heap.size w w' := by
  obtain ⟨hl0, hw0⟩ := g0
  obtain ⟨a0, a1, a2, a3, a4, a5, a6, a7, rfl⟩ := heap8 hl0
  have HW0 := Lib.hid hw0; clear hw0 hl0
  obtain ⟨hl1, hw1⟩ := g1
  obtain ⟨a0_1, a1_1, a2_1, a3_1, a4_1, a5_1, a6_1, a7_1, rfl⟩ := heap8 hl1
  have HW1 := Lib.hid hw1; clear hw1 hl1
  have CS := Lib.hid (fun w0 : World => sOffBy a0 a1 a2 a3 a4 a5 a6 a7 a0_1 a1_1 a2_1 a3_1 a4_1 a5_1 a6_1 a7_1 w0 HW0 HW1)
  have CI := Lib.hid (fun w0 : World => iOffBy a0 a1 a2 a3 a4 a5 a6 a7 a0_1 a1_1 a2_1 a3_1 a4_1 a5_1 a6_1 a7_1 w0 HW0 HW1)
  generalize hr0 : (jn (woC [[a0, a1, a2, a3, a4, a5, a6, a7], [a0_1, a1_1, a2_1, a3_1, a4_1, a5_1, a6_1, a7_1]]) (frN (offS [a0, a1, a2, a3, a4, a5, a6, a7] [a0_1, a1_1, a2_1, a3_1, a4_1, a5_1, a6_1, a7_1] (hsL [a0, a1, a2, a3, a4, a5, a6, a7]) (hsL [a0_1, a1_1, a2_1, a3_1, a4_1, a5_1, a6_1, a7_1]) 8) ((hsL [a0, a1, a2, a3, a4, a5, a6, a7]) * (hsL [a0_1, a1_1, a2_1, a3_1, a4_1, a5_1, a6_1, a7_1])))) = r0 at CS CI
  clear hr0
  generalize hr1 : (jn (woC [[a0, a1, a2, a3, a4, a5, a6, a7], [a0_1, a1_1, a2_1, a3_1, a4_1, a5_1, a6_1, a7_1]]) (frD (offS [a0, a1, a2, a3, a4, a5, a6, a7] [a0_1, a1_1, a2_1, a3_1, a4_1, a5_1, a6_1, a7_1] (hsL [a0, a1, a2, a3, a4, a5, a6, a7]) (hsL [a0_1, a1_1, a2_1, a3_1, a4_1, a5_1, a6_1, a7_1]) 8) ((hsL [a0, a1, a2, a3, a4, a5, a6, a7]) * (hsL [a0_1, a1_1, a2_1, a3_1, a4_1, a5_1, a6_1, a7_1])))) = r1 at CS CI
  clear hr1
  generalize hr2 : (woC [[a0, a1, a2, a3, a4, a5, a6, a7], [a0_1, a1_1, a2_1, a3_1, a4_1, a5_1, a6_1, a7_1]]) = r2 at CS CI
  clear hr2
  clear HW0 HW1
  have HB := Below.refl w.heap.size w
  change Calls Try.prog 6 #[.agg #[.int .i32 a0, .int .i32 a1, .int .i32 a2, .int .i32 a3, .int .i32 a4, .int .i32 a5, .int .i32 a6, .int .i32 a7], .agg #[.int .i32 a0_1, .int .i32 a1_1, .int .i32 a2_1, .int .i32 a3_1, .int .i32 a4_1, .int .i32 a5_1, .int .i32 a6_1, .int .i32 a7_1]] w _
  go_enter Try.func6, Try.ntmps6
  go_upto_region 1 with fail
  replace HB := (HB.alloc HB.size (.cells #[.int .i32 a0, .int .i32 a1, .int .i32 a2, .int .i32 a3, .int .i32 a4, .int .i32 a5, .int .i32 a6, .int .i32 a7] 22)).alloc (by have := HB.size; rw [World.size_alloc]; omega) (.cells #[.int .i32 a0_1, .int .i32 a1_1, .int .i32 a2_1, .int .i32 a3_1, .int .i32 a4_1, .int .i32 a5_1, .int .i32 a6_1, .int .i32 a7_1] 22)
  have X0 := (Row.alloc w [.int .i32 a0, .int .i32 a1, .int .i32 a2, .int .i32 a3, .int .i32 a4, .int .i32 a5, .int .i32 a6, .int .i32 a7] 22).below (below_alloc1 _ (.cells #[.int .i32 a0_1, .int .i32 a1_1, .int .i32 a2_1, .int .i32 a3_1, .int .i32 a4_1, .int .i32 a5_1, .int .i32 a6_1, .int .i32 a7_1] 22))
  have X1 := Row.alloc (w.alloc (.cells #[.int .i32 a0, .int .i32 a1, .int .i32 a2, .int .i32 a3, .int .i32 a4, .int .i32 a5, .int .i32 a6, .int .i32 a7] 22)) [.int .i32 a0_1, .int .i32 a1_1, .int .i32 a2_1, .int .i32 a3_1, .int .i32 a4_1, .int .i32 a5_1, .int .i32 a6_1, .int .i32 a7_1] 22
  rw [World.size_alloc] at X1
  generalize World.alloc (World.alloc w (.cells #[.int .i32 a0, .int .i32 a1, .int .i32 a2, .int .i32 a3, .int .i32 a4, .int .i32 a5, .int .i32 a6, .int .i32 a7] 22)) (.cells #[.int .i32 a0_1, .int .i32 a1_1, .int .i32 a2_1, .int .i32 a3_1, .int .i32 a4_1, .int .i32 a5_1, .int .i32 a6_1, .int .i32 a7_1] 22) = wg at X0 X1 HB ⊢
  go_cut [5, 6] (fun s5 s6 wx => ∃ gz : Nat, s5 = .pointer (some ⟨gz, 0, none⟩) ∧ s6 = .int .i64 r2 ∧ Hid (Row wx gz 38 [.int .i64 r0, .int .i64 r1]) ∧ Hid (Row wx w.heap.size 22 [.int .i32 a0, .int .i32 a1, .int .i32 a2, .int .i32 a3, .int .i32 a4, .int .i32 a5, .int .i32 a6, .int .i32 a7]) ∧ Hid (Row wx (w.heap.size + 1) 22 [.int .i32 a0_1, .int .i32 a1_1, .int .i32 a2_1, .int .i32 a3_1, .int .i32 a4_1, .int .i32 a5_1, .int .i32 a6_1, .int .i32 a7_1]) ∧ w.heap.size ≤ gz ∧ Hid (Below w.heap.size w wx))
  case first =>
    refine wp_region_held_drew (S := fun w' => Row w' w.heap.size 22 [.int .i32 a0, .int .i32 a1, .int .i32 a2, .int .i32 a3, .int .i32 a4, .int .i32 a5, .int .i32 a6, .int .i32 a7] ∧ Row w' (w.heap.size + 1) 22 [.int .i32 a0_1, .int .i32 a1_1, .int .i32 a2_1, .int .i32 a3_1, .int .i32 a4_1, .int .i32 a5_1, .int .i32 a6_1, .int .i32 a7_1]) (by kernel_rfl) ⟨X0.drew, X1.drew⟩ (fun hH => ?_)
    refine wpAnyH_take (i := 0) rfl (by kernel_rfl) (by kernel_rfl) (by kernel_rfl) (fun _ _ _ h => h) (yieldsIf_load_mid (by rfl) _ _ rfl _ _ rfl [.int .i32 a0, .int .i32 a1, .int .i32 a2, .int .i32 a3, .int .i32 a4, .int .i32 a5, .int .i32 a6, .int .i32 a7] _ (fun w h => h.1.rangeAt) heapA_type rfl heapA_size) hH ?_
    try simp only [Act.put, List.getElem_toArray, List.getElem_cons_zero, List.getElem_cons_succ, List.setIfInBounds_toArray, List.set_cons_zero, List.set_cons_succ]
    refine wpAnyH_take (i := 2) rfl (by kernel_rfl) (by kernel_rfl) (by kernel_rfl) (fun _ _ _ h => h) (yieldsIf_load_mid (by rfl) _ _ rfl _ _ rfl [.int .i32 a0_1, .int .i32 a1_1, .int .i32 a2_1, .int .i32 a3_1, .int .i32 a4_1, .int .i32 a5_1, .int .i32 a6_1, .int .i32 a7_1] _ (fun w h => h.2.rangeAt) heapA_type rfl heapA_size) hH ?_
    try simp only [Act.put, List.getElem_toArray, List.getElem_cons_zero, List.getElem_cons_succ, List.setIfInBounds_toArray, List.set_cons_zero, List.set_cons_succ]
    clear hH
    have Y0 := X0.drew
    have Y1 := X1.drew
    replace HB := HB.drew
    clear X0 X1
    obtain ⟨wd, hwd⟩ : ∃ x, x = World.drew wg := ⟨_, rfl⟩
    rw [← hwd] at Y0 Y1 HB ⊢
    clear hwd
    refine wpAnyH_ready (rs := [1, 8]) (by kernel_rfl) (by simp) ?_
    refine AllReadyH.cons rfl (fun K hK => ?_) ?_
    · try simp only [List.getElem_toArray, List.getElem_cons_zero, List.getElem_cons_succ]
      rw [if_pos (by rfl)]
      go_simp
      refine (toHeap_any _ _ _ _ _ _ _ _ _).mono ?_
      rintro e we ⟨rfl, hb⟩
      refine hK.out _ _ ⟨Y0.below hb, Y1.below hb⟩ (fun _ => ?_)
      clear hK K
      try simp only [Act.put, List.getElem_toArray, List.getElem_cons_zero, List.getElem_cons_succ, List.setIfInBounds_toArray, List.set_cons_zero, List.set_cons_succ]
      replace Y0 := Y0.below hb
      replace Y1 := Y1.below hb
      replace HB := below_then HB HB.size hb
      clear hb
      obtain ⟨wd, hwd⟩ : ∃ x, x = we := ⟨_, rfl⟩
      subst hwd
      refine wpAnyH_ready (rs := [3, 8]) (by kernel_rfl) (by simp) ?_
      refine AllReadyH.cons rfl (fun K hK => ?_) ?_
      · try simp only [List.getElem_toArray, List.getElem_cons_zero, List.getElem_cons_succ]
        rw [if_pos (by rfl)]
        go_simp
        refine (toHeap_any _ _ _ _ _ _ _ _ _).mono ?_
        rintro e we ⟨rfl, hb⟩
        refine hK.out _ _ ⟨Y0.below hb, Y1.below hb⟩ (fun _ => ?_)
        clear hK K
        try simp only [Act.put, List.getElem_toArray, List.getElem_cons_zero, List.getElem_cons_succ, List.setIfInBounds_toArray, List.set_cons_zero, List.set_cons_succ]
        replace Y0 := Y0.below hb
        replace Y1 := Y1.below hb
        replace HB := below_then HB HB.size hb
        clear hb
        obtain ⟨wd, hwd⟩ : ∃ x, x = we := ⟨_, rfl⟩
        subst hwd
        refine wpAnyH_ready (rs := [4, 8]) (by kernel_rfl) (by simp) ?_
        refine AllReadyH.cons rfl (fun K hK => ?_) ?_
        · try simp only [List.getElem_toArray, List.getElem_cons_zero, List.getElem_cons_succ]
          rw [if_pos (by rfl)]
          go_simp
          refine (CS.out _).mono ?_
          rintro e we ⟨rfl, hb⟩
          refine hK.out _ _ ⟨Y0.below hb, Y1.below hb⟩ (fun _ => ?_)
          clear hK K
          try simp only [Act.put, List.getElem_toArray, List.getElem_cons_zero, List.getElem_cons_succ, List.setIfInBounds_toArray, List.set_cons_zero, List.set_cons_succ]
          replace Y0 := Y0.below hb
          replace Y1 := Y1.below hb
          replace HB := below_then HB HB.size hb
          clear hb
          obtain ⟨wd, hwd⟩ : ∃ x, x = we := ⟨_, rfl⟩
          subst hwd
          refine wpAnyH_take (i := 5) (v := .tuple #[.agg #[.int .i64 r0, .int .i64 r1], .int .i64 r2]) rfl (by kernel_rfl) (by kernel_rfl) (by kernel_rfl) (fun _ _ _ h => h) (Or.inl ⟨by rfl, fun w h => by go_simp⟩) ⟨Y0, Y1⟩ ?_
          try simp only [Act.put, List.getElem_toArray, List.getElem_cons_zero, List.getElem_cons_succ, List.setIfInBounds_toArray, List.set_cons_zero, List.set_cons_succ]
          refine wpAnyH_take (i := 6) (v := .agg #[.int .i64 r0, .int .i64 r1]) rfl (by kernel_rfl) (by kernel_rfl) (by kernel_rfl) (fun _ _ _ h => h) (Or.inl ⟨by rfl, fun w h => by go_simp⟩) ⟨Y0, Y1⟩ ?_
          try simp only [Act.put, List.getElem_toArray, List.getElem_cons_zero, List.getElem_cons_succ, List.setIfInBounds_toArray, List.set_cons_zero, List.set_cons_succ]
          refine wpAnyH_take (i := 7) (v := .int .i64 r2) rfl (by kernel_rfl) (by kernel_rfl) (by kernel_rfl) (fun _ _ _ h => h) (Or.inl ⟨by rfl, fun w h => by go_simp⟩) ⟨Y0, Y1⟩ ?_
          try simp only [Act.put, List.getElem_toArray, List.getElem_cons_zero, List.getElem_cons_succ, List.setIfInBounds_toArray, List.set_cons_zero, List.set_cons_succ]
          refine wpAnyH_ready (rs := [8]) (by kernel_rfl) (by simp) ?_
          refine AllReadyH.cons rfl (fun K hK => ?_) ?_
          · try simp only [List.getElem_toArray, List.getElem_cons_zero, List.getElem_cons_succ]
            rw [if_pos (by rfl)]
            go_simp
            refine hK.out _ _ ⟨Y0.below (below_alloc1 _ _), Y1.below (below_alloc1 _ _)⟩ (fun _ => ?_)
            clear hK K
            try simp only [Act.put, List.getElem_toArray, List.getElem_cons_zero, List.getElem_cons_succ, List.setIfInBounds_toArray, List.set_cons_zero, List.set_cons_succ]
            have Z := Row.alloc wd [.int .i64 0, .int .i64 0] 38
            have hlY0 := Y0.lt
            have hlY1 := Y1.lt
            replace Y0 := Y0.below (below_alloc1 _ (.cells #[.int .i64 0, .int .i64 0] 38))
            replace Y1 := Y1.below (below_alloc1 _ (.cells #[.int .i64 0, .int .i64 0] 38))
            have hz := HB.size
            replace HB := HB.alloc HB.size (.cells #[.int .i64 0, .int .i64 0] 38)
            generalize World.alloc wd (.cells #[.int .i64 0, .int .i64 0] 38) = wz at Y0 Y1 HB Z ⊢
            have hneY0 : w.heap.size ≠ wd.heap.size := by omega
            have hneY1 : w.heap.size + 1 ≠ wd.heap.size := by omega
            generalize wd.heap.size = gz at *
            clear hlY0 hlY1
            obtain ⟨wd, hwd⟩ : ∃ x, x = wz := ⟨_, rfl⟩
            subst hwd
            refine wpAnyH_ready (rs := [9]) (by kernel_rfl) (by simp) ?_
            refine AllReadyH.cons rfl (fun K hK => ?_) AllReadyH.nil
            try simp only [List.getElem_toArray, List.getElem_cons_zero, List.getElem_cons_succ]
            rw [if_pos (by rfl)]
            refine wp_store_mid _ _ _ rfl _ _ (List.toArray [.int .i64 r0, .int .i64 r1]) rfl rfl (Z.there rfl) frac_size (one2 _ _) ?_
            simp only [List.toList_toArray]
            refine hK.out _ _ ⟨Y0.setAway (by omega) _ _, Y1.setAway (by omega) _ _⟩ (fun _ => ?_)
            clear hK K
            try simp only [Act.put, List.getElem_toArray, List.getElem_cons_zero, List.getElem_cons_succ, List.setIfInBounds_toArray, List.set_cons_zero, List.set_cons_succ]
            replace Y0 := Y0.setAway (C := gz) (by omega) [.int .i64 r0, .int .i64 r1] 0
            replace Y1 := Y1.setAway (C := gz) (by omega) [.int .i64 r0, .int .i64 r1] 0
            replace HB := below_setCells (b := w.heap.size) (C := gz) (by omega) [.int .i64 r0, .int .i64 r1] 0 HB
            replace Z := Z.setAll [.int .i64 r0, .int .i64 r1] rfl
            generalize World.setCells _ gz 0 [.int .i64 r0, .int .i64 r1] = ws at Y0 Y1 HB Z ⊢
            refine wpAnyH_take (i := 10) (v := .int .i64 r2) rfl (by kernel_rfl) (by kernel_rfl) (by kernel_rfl) (fun _ _ _ h => h) (Or.inl ⟨by rfl, fun w h => by go_simp⟩) ⟨Y0, Y1⟩ ?_
            try simp only [Act.put, List.getElem_toArray, List.getElem_cons_zero, List.getElem_cons_succ, List.setIfInBounds_toArray, List.set_cons_zero, List.set_cons_succ]
            refine wpAnyH_done (by kernel_rfl) ?_ _
            go_wp2_with fail
            go_meet
            exact ⟨gz, rfl, rfl, Lib.hid Z, Lib.hid Y0, Lib.hid Y1, by omega, Lib.hid HB⟩
          exact AllReadyH.nil
        refine AllReadyH.cons rfl (fun K hK => ?_) ?_
        · try simp only [List.getElem_toArray, List.getElem_cons_zero, List.getElem_cons_succ]
          rw [if_pos (by rfl)]
          go_simp
          refine hK.out _ _ ⟨Y0.below (below_alloc1 _ _), Y1.below (below_alloc1 _ _)⟩ (fun _ => ?_)
          clear hK K
          try simp only [Act.put, List.getElem_toArray, List.getElem_cons_zero, List.getElem_cons_succ, List.setIfInBounds_toArray, List.set_cons_zero, List.set_cons_succ]
          have Z := Row.alloc wd [.int .i64 0, .int .i64 0] 38
          have hlY0 := Y0.lt
          have hlY1 := Y1.lt
          replace Y0 := Y0.below (below_alloc1 _ (.cells #[.int .i64 0, .int .i64 0] 38))
          replace Y1 := Y1.below (below_alloc1 _ (.cells #[.int .i64 0, .int .i64 0] 38))
          have hz := HB.size
          replace HB := HB.alloc HB.size (.cells #[.int .i64 0, .int .i64 0] 38)
          generalize World.alloc wd (.cells #[.int .i64 0, .int .i64 0] 38) = wz at Y0 Y1 HB Z ⊢
          have hneY0 : w.heap.size ≠ wd.heap.size := by omega
          have hneY1 : w.heap.size + 1 ≠ wd.heap.size := by omega
          generalize wd.heap.size = gz at *
          clear hlY0 hlY1
          obtain ⟨wd, hwd⟩ : ∃ x, x = wz := ⟨_, rfl⟩
          subst hwd
          refine wpAnyH_ready (rs := [4]) (by kernel_rfl) (by simp) ?_
          refine AllReadyH.cons rfl (fun K hK => ?_) ?_
          · try simp only [List.getElem_toArray, List.getElem_cons_zero, List.getElem_cons_succ]
            rw [if_pos (by rfl)]
            go_simp
            refine (CS.out _).mono ?_
            rintro e we ⟨rfl, hb⟩
            refine hK.out _ _ ⟨Y0.below hb, Y1.below hb⟩ (fun _ => ?_)
            clear hK K
            try simp only [Act.put, List.getElem_toArray, List.getElem_cons_zero, List.getElem_cons_succ, List.setIfInBounds_toArray, List.set_cons_zero, List.set_cons_succ]
            replace Y0 := Y0.below hb
            replace Y1 := Y1.below hb
            replace Z := Z.below hb
            replace HB := below_then HB HB.size hb
            clear hb
            obtain ⟨wd, hwd⟩ : ∃ x, x = we := ⟨_, rfl⟩
            subst hwd
            refine wpAnyH_take (i := 5) (v := .tuple #[.agg #[.int .i64 r0, .int .i64 r1], .int .i64 r2]) rfl (by kernel_rfl) (by kernel_rfl) (by kernel_rfl) (fun _ _ _ h => h) (Or.inl ⟨by rfl, fun w h => by go_simp⟩) ⟨Y0, Y1⟩ ?_
            try simp only [Act.put, List.getElem_toArray, List.getElem_cons_zero, List.getElem_cons_succ, List.setIfInBounds_toArray, List.set_cons_zero, List.set_cons_succ]
            refine wpAnyH_take (i := 6) (v := .agg #[.int .i64 r0, .int .i64 r1]) rfl (by kernel_rfl) (by kernel_rfl) (by kernel_rfl) (fun _ _ _ h => h) (Or.inl ⟨by rfl, fun w h => by go_simp⟩) ⟨Y0, Y1⟩ ?_
            try simp only [Act.put, List.getElem_toArray, List.getElem_cons_zero, List.getElem_cons_succ, List.setIfInBounds_toArray, List.set_cons_zero, List.set_cons_succ]
            refine wpAnyH_take (i := 7) (v := .int .i64 r2) rfl (by kernel_rfl) (by kernel_rfl) (by kernel_rfl) (fun _ _ _ h => h) (Or.inl ⟨by rfl, fun w h => by go_simp⟩) ⟨Y0, Y1⟩ ?_
            try simp only [Act.put, List.getElem_toArray, List.getElem_cons_zero, List.getElem_cons_succ, List.setIfInBounds_toArray, List.set_cons_zero, List.set_cons_succ]
            refine wpAnyH_ready (rs := [9]) (by kernel_rfl) (by simp) ?_
            refine AllReadyH.cons rfl (fun K hK => ?_) AllReadyH.nil
            try simp only [List.getElem_toArray, List.getElem_cons_zero, List.getElem_cons_succ]
            rw [if_pos (by rfl)]
            refine wp_store_mid _ _ _ rfl _ _ (List.toArray [.int .i64 r0, .int .i64 r1]) rfl rfl (Z.there rfl) frac_size (one2 _ _) ?_
            simp only [List.toList_toArray]
            refine hK.out _ _ ⟨Y0.setAway (by omega) _ _, Y1.setAway (by omega) _ _⟩ (fun _ => ?_)
            clear hK K
            try simp only [Act.put, List.getElem_toArray, List.getElem_cons_zero, List.getElem_cons_succ, List.setIfInBounds_toArray, List.set_cons_zero, List.set_cons_succ]
            replace Y0 := Y0.setAway (C := gz) (by omega) [.int .i64 r0, .int .i64 r1] 0
            replace Y1 := Y1.setAway (C := gz) (by omega) [.int .i64 r0, .int .i64 r1] 0
            replace HB := below_setCells (b := w.heap.size) (C := gz) (by omega) [.int .i64 r0, .int .i64 r1] 0 HB
            replace Z := Z.setAll [.int .i64 r0, .int .i64 r1] rfl
            generalize World.setCells _ gz 0 [.int .i64 r0, .int .i64 r1] = ws at Y0 Y1 HB Z ⊢
            refine wpAnyH_take (i := 10) (v := .int .i64 r2) rfl (by kernel_rfl) (by kernel_rfl) (by kernel_rfl) (fun _ _ _ h => h) (Or.inl ⟨by rfl, fun w h => by go_simp⟩) ⟨Y0, Y1⟩ ?_
            try simp only [Act.put, List.getElem_toArray, List.getElem_cons_zero, List.getElem_cons_succ, List.setIfInBounds_toArray, List.set_cons_zero, List.set_cons_succ]
            refine wpAnyH_done (by kernel_rfl) ?_ _
            go_wp2_with fail
            go_meet
            exact ⟨gz, rfl, rfl, Lib.hid Z, Lib.hid Y0, Lib.hid Y1, by omega, Lib.hid HB⟩
          exact AllReadyH.nil
        exact AllReadyH.nil
      refine AllReadyH.cons rfl (fun K hK => ?_) ?_
      · try simp only [List.getElem_toArray, List.getElem_cons_zero, List.getElem_cons_succ]
        rw [if_pos (by rfl)]
        go_simp
        refine hK.out _ _ ⟨Y0.below (below_alloc1 _ _), Y1.below (below_alloc1 _ _)⟩ (fun _ => ?_)
        clear hK K
        try simp only [Act.put, List.getElem_toArray, List.getElem_cons_zero, List.getElem_cons_succ, List.setIfInBounds_toArray, List.set_cons_zero, List.set_cons_succ]
        have Z := Row.alloc wd [.int .i64 0, .int .i64 0] 38
        have hlY0 := Y0.lt
        have hlY1 := Y1.lt
        replace Y0 := Y0.below (below_alloc1 _ (.cells #[.int .i64 0, .int .i64 0] 38))
        replace Y1 := Y1.below (below_alloc1 _ (.cells #[.int .i64 0, .int .i64 0] 38))
        have hz := HB.size
        replace HB := HB.alloc HB.size (.cells #[.int .i64 0, .int .i64 0] 38)
        generalize World.alloc wd (.cells #[.int .i64 0, .int .i64 0] 38) = wz at Y0 Y1 HB Z ⊢
        have hneY0 : w.heap.size ≠ wd.heap.size := by omega
        have hneY1 : w.heap.size + 1 ≠ wd.heap.size := by omega
        generalize wd.heap.size = gz at *
        clear hlY0 hlY1
        obtain ⟨wd, hwd⟩ : ∃ x, x = wz := ⟨_, rfl⟩
        subst hwd
        refine wpAnyH_ready (rs := [3]) (by kernel_rfl) (by simp) ?_
        refine AllReadyH.cons rfl (fun K hK => ?_) ?_
        · try simp only [List.getElem_toArray, List.getElem_cons_zero, List.getElem_cons_succ]
          rw [if_pos (by rfl)]
          go_simp
          refine (toHeap_any _ _ _ _ _ _ _ _ _).mono ?_
          rintro e we ⟨rfl, hb⟩
          refine hK.out _ _ ⟨Y0.below hb, Y1.below hb⟩ (fun _ => ?_)
          clear hK K
          try simp only [Act.put, List.getElem_toArray, List.getElem_cons_zero, List.getElem_cons_succ, List.setIfInBounds_toArray, List.set_cons_zero, List.set_cons_succ]
          replace Y0 := Y0.below hb
          replace Y1 := Y1.below hb
          replace Z := Z.below hb
          replace HB := below_then HB HB.size hb
          clear hb
          obtain ⟨wd, hwd⟩ : ∃ x, x = we := ⟨_, rfl⟩
          subst hwd
          refine wpAnyH_ready (rs := [4]) (by kernel_rfl) (by simp) ?_
          refine AllReadyH.cons rfl (fun K hK => ?_) ?_
          · try simp only [List.getElem_toArray, List.getElem_cons_zero, List.getElem_cons_succ]
            rw [if_pos (by rfl)]
            go_simp
            refine (CS.out _).mono ?_
            rintro e we ⟨rfl, hb⟩
            refine hK.out _ _ ⟨Y0.below hb, Y1.below hb⟩ (fun _ => ?_)
            clear hK K
            try simp only [Act.put, List.getElem_toArray, List.getElem_cons_zero, List.getElem_cons_succ, List.setIfInBounds_toArray, List.set_cons_zero, List.set_cons_succ]
            replace Y0 := Y0.below hb
            replace Y1 := Y1.below hb
            replace Z := Z.below hb
            replace HB := below_then HB HB.size hb
            clear hb
            obtain ⟨wd, hwd⟩ : ∃ x, x = we := ⟨_, rfl⟩
            subst hwd
            refine wpAnyH_take (i := 5) (v := .tuple #[.agg #[.int .i64 r0, .int .i64 r1], .int .i64 r2]) rfl (by kernel_rfl) (by kernel_rfl) (by kernel_rfl) (fun _ _ _ h => h) (Or.inl ⟨by rfl, fun w h => by go_simp⟩) ⟨Y0, Y1⟩ ?_
            try simp only [Act.put, List.getElem_toArray, List.getElem_cons_zero, List.getElem_cons_succ, List.setIfInBounds_toArray, List.set_cons_zero, List.set_cons_succ]
            refine wpAnyH_take (i := 6) (v := .agg #[.int .i64 r0, .int .i64 r1]) rfl (by kernel_rfl) (by kernel_rfl) (by kernel_rfl) (fun _ _ _ h => h) (Or.inl ⟨by rfl, fun w h => by go_simp⟩) ⟨Y0, Y1⟩ ?_
            try simp only [Act.put, List.getElem_toArray, List.getElem_cons_zero, List.getElem_cons_succ, List.setIfInBounds_toArray, List.set_cons_zero, List.set_cons_succ]
            refine wpAnyH_take (i := 7) (v := .int .i64 r2) rfl (by kernel_rfl) (by kernel_rfl) (by kernel_rfl) (fun _ _ _ h => h) (Or.inl ⟨by rfl, fun w h => by go_simp⟩) ⟨Y0, Y1⟩ ?_
            try simp only [Act.put, List.getElem_toArray, List.getElem_cons_zero, List.getElem_cons_succ, List.setIfInBounds_toArray, List.set_cons_zero, List.set_cons_succ]
            refine wpAnyH_ready (rs := [9]) (by kernel_rfl) (by simp) ?_
            refine AllReadyH.cons rfl (fun K hK => ?_) AllReadyH.nil
            try simp only [List.getElem_toArray, List.getElem_cons_zero, List.getElem_cons_succ]
            rw [if_pos (by rfl)]
            refine wp_store_mid _ _ _ rfl _ _ (List.toArray [.int .i64 r0, .int .i64 r1]) rfl rfl (Z.there rfl) frac_size (one2 _ _) ?_
            simp only [List.toList_toArray]
            refine hK.out _ _ ⟨Y0.setAway (by omega) _ _, Y1.setAway (by omega) _ _⟩ (fun _ => ?_)
            clear hK K
            try simp only [Act.put, List.getElem_toArray, List.getElem_cons_zero, List.getElem_cons_succ, List.setIfInBounds_toArray, List.set_cons_zero, List.set_cons_succ]
            replace Y0 := Y0.setAway (C := gz) (by omega) [.int .i64 r0, .int .i64 r1] 0
            replace Y1 := Y1.setAway (C := gz) (by omega) [.int .i64 r0, .int .i64 r1] 0
            replace HB := below_setCells (b := w.heap.size) (C := gz) (by omega) [.int .i64 r0, .int .i64 r1] 0 HB
            replace Z := Z.setAll [.int .i64 r0, .int .i64 r1] rfl
            generalize World.setCells _ gz 0 [.int .i64 r0, .int .i64 r1] = ws at Y0 Y1 HB Z ⊢
            refine wpAnyH_take (i := 10) (v := .int .i64 r2) rfl (by kernel_rfl) (by kernel_rfl) (by kernel_rfl) (fun _ _ _ h => h) (Or.inl ⟨by rfl, fun w h => by go_simp⟩) ⟨Y0, Y1⟩ ?_
            try simp only [Act.put, List.getElem_toArray, List.getElem_cons_zero, List.getElem_cons_succ, List.setIfInBounds_toArray, List.set_cons_zero, List.set_cons_succ]
            refine wpAnyH_done (by kernel_rfl) ?_ _
            go_wp2_with fail
            go_meet
            exact ⟨gz, rfl, rfl, Lib.hid Z, Lib.hid Y0, Lib.hid Y1, by omega, Lib.hid HB⟩
          exact AllReadyH.nil
        exact AllReadyH.nil
      exact AllReadyH.nil
    refine AllReadyH.cons rfl (fun K hK => ?_) ?_
    · try simp only [List.getElem_toArray, List.getElem_cons_zero, List.getElem_cons_succ]
      rw [if_pos (by rfl)]
      go_simp
      refine hK.out _ _ ⟨Y0.below (below_alloc1 _ _), Y1.below (below_alloc1 _ _)⟩ (fun _ => ?_)
      clear hK K
      try simp only [Act.put, List.getElem_toArray, List.getElem_cons_zero, List.getElem_cons_succ, List.setIfInBounds_toArray, List.set_cons_zero, List.set_cons_succ]
      have Z := Row.alloc wd [.int .i64 0, .int .i64 0] 38
      have hlY0 := Y0.lt
      have hlY1 := Y1.lt
      replace Y0 := Y0.below (below_alloc1 _ (.cells #[.int .i64 0, .int .i64 0] 38))
      replace Y1 := Y1.below (below_alloc1 _ (.cells #[.int .i64 0, .int .i64 0] 38))
      have hz := HB.size
      replace HB := HB.alloc HB.size (.cells #[.int .i64 0, .int .i64 0] 38)
      generalize World.alloc wd (.cells #[.int .i64 0, .int .i64 0] 38) = wz at Y0 Y1 HB Z ⊢
      have hneY0 : w.heap.size ≠ wd.heap.size := by omega
      have hneY1 : w.heap.size + 1 ≠ wd.heap.size := by omega
      generalize wd.heap.size = gz at *
      clear hlY0 hlY1
      obtain ⟨wd, hwd⟩ : ∃ x, x = wz := ⟨_, rfl⟩
      subst hwd
      refine wpAnyH_ready (rs := [1]) (by kernel_rfl) (by simp) ?_
      refine AllReadyH.cons rfl (fun K hK => ?_) ?_
      · try simp only [List.getElem_toArray, List.getElem_cons_zero, List.getElem_cons_succ]
        rw [if_pos (by rfl)]
        go_simp
        refine (toHeap_any _ _ _ _ _ _ _ _ _).mono ?_
        rintro e we ⟨rfl, hb⟩
        refine hK.out _ _ ⟨Y0.below hb, Y1.below hb⟩ (fun _ => ?_)
        clear hK K
        try simp only [Act.put, List.getElem_toArray, List.getElem_cons_zero, List.getElem_cons_succ, List.setIfInBounds_toArray, List.set_cons_zero, List.set_cons_succ]
        replace Y0 := Y0.below hb
        replace Y1 := Y1.below hb
        replace Z := Z.below hb
        replace HB := below_then HB HB.size hb
        clear hb
        obtain ⟨wd, hwd⟩ : ∃ x, x = we := ⟨_, rfl⟩
        subst hwd
        refine wpAnyH_ready (rs := [3]) (by kernel_rfl) (by simp) ?_
        refine AllReadyH.cons rfl (fun K hK => ?_) ?_
        · try simp only [List.getElem_toArray, List.getElem_cons_zero, List.getElem_cons_succ]
          rw [if_pos (by rfl)]
          go_simp
          refine (toHeap_any _ _ _ _ _ _ _ _ _).mono ?_
          rintro e we ⟨rfl, hb⟩
          refine hK.out _ _ ⟨Y0.below hb, Y1.below hb⟩ (fun _ => ?_)
          clear hK K
          try simp only [Act.put, List.getElem_toArray, List.getElem_cons_zero, List.getElem_cons_succ, List.setIfInBounds_toArray, List.set_cons_zero, List.set_cons_succ]
          replace Y0 := Y0.below hb
          replace Y1 := Y1.below hb
          replace Z := Z.below hb
          replace HB := below_then HB HB.size hb
          clear hb
          obtain ⟨wd, hwd⟩ : ∃ x, x = we := ⟨_, rfl⟩
          subst hwd
          refine wpAnyH_ready (rs := [4]) (by kernel_rfl) (by simp) ?_
          refine AllReadyH.cons rfl (fun K hK => ?_) ?_
          · try simp only [List.getElem_toArray, List.getElem_cons_zero, List.getElem_cons_succ]
            rw [if_pos (by rfl)]
            go_simp
            refine (CS.out _).mono ?_
            rintro e we ⟨rfl, hb⟩
            refine hK.out _ _ ⟨Y0.below hb, Y1.below hb⟩ (fun _ => ?_)
            clear hK K
            try simp only [Act.put, List.getElem_toArray, List.getElem_cons_zero, List.getElem_cons_succ, List.setIfInBounds_toArray, List.set_cons_zero, List.set_cons_succ]
            replace Y0 := Y0.below hb
            replace Y1 := Y1.below hb
            replace Z := Z.below hb
            replace HB := below_then HB HB.size hb
            clear hb
            obtain ⟨wd, hwd⟩ : ∃ x, x = we := ⟨_, rfl⟩
            subst hwd
            refine wpAnyH_take (i := 5) (v := .tuple #[.agg #[.int .i64 r0, .int .i64 r1], .int .i64 r2]) rfl (by kernel_rfl) (by kernel_rfl) (by kernel_rfl) (fun _ _ _ h => h) (Or.inl ⟨by rfl, fun w h => by go_simp⟩) ⟨Y0, Y1⟩ ?_
            try simp only [Act.put, List.getElem_toArray, List.getElem_cons_zero, List.getElem_cons_succ, List.setIfInBounds_toArray, List.set_cons_zero, List.set_cons_succ]
            refine wpAnyH_take (i := 6) (v := .agg #[.int .i64 r0, .int .i64 r1]) rfl (by kernel_rfl) (by kernel_rfl) (by kernel_rfl) (fun _ _ _ h => h) (Or.inl ⟨by rfl, fun w h => by go_simp⟩) ⟨Y0, Y1⟩ ?_
            try simp only [Act.put, List.getElem_toArray, List.getElem_cons_zero, List.getElem_cons_succ, List.setIfInBounds_toArray, List.set_cons_zero, List.set_cons_succ]
            refine wpAnyH_take (i := 7) (v := .int .i64 r2) rfl (by kernel_rfl) (by kernel_rfl) (by kernel_rfl) (fun _ _ _ h => h) (Or.inl ⟨by rfl, fun w h => by go_simp⟩) ⟨Y0, Y1⟩ ?_
            try simp only [Act.put, List.getElem_toArray, List.getElem_cons_zero, List.getElem_cons_succ, List.setIfInBounds_toArray, List.set_cons_zero, List.set_cons_succ]
            refine wpAnyH_ready (rs := [9]) (by kernel_rfl) (by simp) ?_
            refine AllReadyH.cons rfl (fun K hK => ?_) AllReadyH.nil
            try simp only [List.getElem_toArray, List.getElem_cons_zero, List.getElem_cons_succ]
            rw [if_pos (by rfl)]
            refine wp_store_mid _ _ _ rfl _ _ (List.toArray [.int .i64 r0, .int .i64 r1]) rfl rfl (Z.there rfl) frac_size (one2 _ _) ?_
            simp only [List.toList_toArray]
            refine hK.out _ _ ⟨Y0.setAway (by omega) _ _, Y1.setAway (by omega) _ _⟩ (fun _ => ?_)
            clear hK K
            try simp only [Act.put, List.getElem_toArray, List.getElem_cons_zero, List.getElem_cons_succ, List.setIfInBounds_toArray, List.set_cons_zero, List.set_cons_succ]
            replace Y0 := Y0.setAway (C := gz) (by omega) [.int .i64 r0, .int .i64 r1] 0
            replace Y1 := Y1.setAway (C := gz) (by omega) [.int .i64 r0, .int .i64 r1] 0
            replace HB := below_setCells (b := w.heap.size) (C := gz) (by omega) [.int .i64 r0, .int .i64 r1] 0 HB
            replace Z := Z.setAll [.int .i64 r0, .int .i64 r1] rfl
            generalize World.setCells _ gz 0 [.int .i64 r0, .int .i64 r1] = ws at Y0 Y1 HB Z ⊢
            refine wpAnyH_take (i := 10) (v := .int .i64 r2) rfl (by kernel_rfl) (by kernel_rfl) (by kernel_rfl) (fun _ _ _ h => h) (Or.inl ⟨by rfl, fun w h => by go_simp⟩) ⟨Y0, Y1⟩ ?_
            try simp only [Act.put, List.getElem_toArray, List.getElem_cons_zero, List.getElem_cons_succ, List.setIfInBounds_toArray, List.set_cons_zero, List.set_cons_succ]
            refine wpAnyH_done (by kernel_rfl) ?_ _
            go_wp2_with fail
            go_meet
            exact ⟨gz, rfl, rfl, Lib.hid Z, Lib.hid Y0, Lib.hid Y1, by omega, Lib.hid HB⟩
          exact AllReadyH.nil
        exact AllReadyH.nil
      exact AllReadyH.nil
    exact AllReadyH.nil
  case rest =>
    clear X0 X1 HB
    obtain ⟨g2, rfl, rfl, Q2, Q0, Q1, hg2, QB⟩ := hcut
    have X0 := Q0.out; clear Q0
    have X1 := Q1.out; clear Q1
    have X2 := Q2.out; clear Q2
    have HB := QB.out; clear QB
    have hl2 := X2.lt
    have hl0 := X0.lt
    have hl1 := X1.lt
    go_upto_region 2 with fail
    go_cut [7, 8] (fun s7 s8 wx => ∃ gz : Nat, s7 = .pointer (some ⟨gz, 0, none⟩) ∧ s8 = .int .i64 r2 ∧ Hid (Row wx gz 38 [.int .i64 r0, .int .i64 r1]) ∧ Hid (Row wx w.heap.size 22 [.int .i32 a0, .int .i32 a1, .int .i32 a2, .int .i32 a3, .int .i32 a4, .int .i32 a5, .int .i32 a6, .int .i32 a7]) ∧ Hid (Row wx (w.heap.size + 1) 22 [.int .i32 a0_1, .int .i32 a1_1, .int .i32 a2_1, .int .i32 a3_1, .int .i32 a4_1, .int .i32 a5_1, .int .i32 a6_1, .int .i32 a7_1]) ∧ Hid (Row wx g2 38 [.int .i64 r0, .int .i64 r1]) ∧ w.heap.size ≤ gz ∧ Hid (Below w.heap.size w wx))
    case first =>
      refine wp_region_held_drew (S := fun w' => Row w' w.heap.size 22 [.int .i32 a0, .int .i32 a1, .int .i32 a2, .int .i32 a3, .int .i32 a4, .int .i32 a5, .int .i32 a6, .int .i32 a7] ∧ Row w' (w.heap.size + 1) 22 [.int .i32 a0_1, .int .i32 a1_1, .int .i32 a2_1, .int .i32 a3_1, .int .i32 a4_1, .int .i32 a5_1, .int .i32 a6_1, .int .i32 a7_1]) (by kernel_rfl) ⟨X0.drew, X1.drew⟩ (fun hH => ?_)
      refine wpAnyH_take (i := 0) rfl (by kernel_rfl) (by kernel_rfl) (by kernel_rfl) (fun _ _ _ h => h) (yieldsIf_load_mid (by rfl) _ _ rfl _ _ rfl [.int .i32 a0, .int .i32 a1, .int .i32 a2, .int .i32 a3, .int .i32 a4, .int .i32 a5, .int .i32 a6, .int .i32 a7] _ (fun w h => h.1.rangeAt) heapA_type rfl heapA_size) hH ?_
      try simp only [Act.put, List.getElem_toArray, List.getElem_cons_zero, List.getElem_cons_succ, List.setIfInBounds_toArray, List.set_cons_zero, List.set_cons_succ]
      refine wpAnyH_take (i := 2) rfl (by kernel_rfl) (by kernel_rfl) (by kernel_rfl) (fun _ _ _ h => h) (yieldsIf_load_mid (by rfl) _ _ rfl _ _ rfl [.int .i32 a0_1, .int .i32 a1_1, .int .i32 a2_1, .int .i32 a3_1, .int .i32 a4_1, .int .i32 a5_1, .int .i32 a6_1, .int .i32 a7_1] _ (fun w h => h.2.rangeAt) heapA_type rfl heapA_size) hH ?_
      try simp only [Act.put, List.getElem_toArray, List.getElem_cons_zero, List.getElem_cons_succ, List.setIfInBounds_toArray, List.set_cons_zero, List.set_cons_succ]
      clear hH
      have Y0 := X0.drew
      have Y1 := X1.drew
      have Y2 := X2.drew
      replace HB := HB.drew
      clear X0 X1 X2
      obtain ⟨wd, hwd⟩ : ∃ x, x = World.drew wc := ⟨_, rfl⟩
      rw [← hwd] at Y0 Y1 Y2 HB ⊢
      clear hwd
      refine wpAnyH_ready (rs := [1, 8]) (by kernel_rfl) (by simp) ?_
      refine AllReadyH.cons rfl (fun K hK => ?_) ?_
      · try simp only [List.getElem_toArray, List.getElem_cons_zero, List.getElem_cons_succ]
        rw [if_pos (by rfl)]
        go_simp
        refine (toHeap_any _ _ _ _ _ _ _ _ _).mono ?_
        rintro e we ⟨rfl, hb⟩
        refine hK.out _ _ ⟨Y0.below hb, Y1.below hb⟩ (fun _ => ?_)
        clear hK K
        try simp only [Act.put, List.getElem_toArray, List.getElem_cons_zero, List.getElem_cons_succ, List.setIfInBounds_toArray, List.set_cons_zero, List.set_cons_succ]
        replace Y0 := Y0.below hb
        replace Y1 := Y1.below hb
        replace Y2 := Y2.below hb
        replace HB := below_then HB HB.size hb
        clear hb
        obtain ⟨wd, hwd⟩ : ∃ x, x = we := ⟨_, rfl⟩
        subst hwd
        refine wpAnyH_ready (rs := [3, 8]) (by kernel_rfl) (by simp) ?_
        refine AllReadyH.cons rfl (fun K hK => ?_) ?_
        · try simp only [List.getElem_toArray, List.getElem_cons_zero, List.getElem_cons_succ]
          rw [if_pos (by rfl)]
          go_simp
          refine (toHeap_any _ _ _ _ _ _ _ _ _).mono ?_
          rintro e we ⟨rfl, hb⟩
          refine hK.out _ _ ⟨Y0.below hb, Y1.below hb⟩ (fun _ => ?_)
          clear hK K
          try simp only [Act.put, List.getElem_toArray, List.getElem_cons_zero, List.getElem_cons_succ, List.setIfInBounds_toArray, List.set_cons_zero, List.set_cons_succ]
          replace Y0 := Y0.below hb
          replace Y1 := Y1.below hb
          replace Y2 := Y2.below hb
          replace HB := below_then HB HB.size hb
          clear hb
          obtain ⟨wd, hwd⟩ : ∃ x, x = we := ⟨_, rfl⟩
          subst hwd
          refine wpAnyH_ready (rs := [4, 8]) (by kernel_rfl) (by simp) ?_
          refine AllReadyH.cons rfl (fun K hK => ?_) ?_
          · try simp only [List.getElem_toArray, List.getElem_cons_zero, List.getElem_cons_succ]
            rw [if_pos (by rfl)]
            go_simp
            refine (CI.out _).mono ?_
            rintro e we ⟨rfl, hb⟩
            refine hK.out _ _ ⟨Y0.below hb, Y1.below hb⟩ (fun _ => ?_)
            clear hK K
            try simp only [Act.put, List.getElem_toArray, List.getElem_cons_zero, List.getElem_cons_succ, List.setIfInBounds_toArray, List.set_cons_zero, List.set_cons_succ]
            replace Y0 := Y0.below hb
            replace Y1 := Y1.below hb
            replace Y2 := Y2.below hb
            replace HB := below_then HB HB.size hb
            clear hb
            obtain ⟨wd, hwd⟩ : ∃ x, x = we := ⟨_, rfl⟩
            subst hwd
            refine wpAnyH_take (i := 5) (v := .tuple #[.agg #[.int .i64 r0, .int .i64 r1], .int .i64 r2]) rfl (by kernel_rfl) (by kernel_rfl) (by kernel_rfl) (fun _ _ _ h => h) (Or.inl ⟨by rfl, fun w h => by go_simp⟩) ⟨Y0, Y1⟩ ?_
            try simp only [Act.put, List.getElem_toArray, List.getElem_cons_zero, List.getElem_cons_succ, List.setIfInBounds_toArray, List.set_cons_zero, List.set_cons_succ]
            refine wpAnyH_take (i := 6) (v := .agg #[.int .i64 r0, .int .i64 r1]) rfl (by kernel_rfl) (by kernel_rfl) (by kernel_rfl) (fun _ _ _ h => h) (Or.inl ⟨by rfl, fun w h => by go_simp⟩) ⟨Y0, Y1⟩ ?_
            try simp only [Act.put, List.getElem_toArray, List.getElem_cons_zero, List.getElem_cons_succ, List.setIfInBounds_toArray, List.set_cons_zero, List.set_cons_succ]
            refine wpAnyH_take (i := 7) (v := .int .i64 r2) rfl (by kernel_rfl) (by kernel_rfl) (by kernel_rfl) (fun _ _ _ h => h) (Or.inl ⟨by rfl, fun w h => by go_simp⟩) ⟨Y0, Y1⟩ ?_
            try simp only [Act.put, List.getElem_toArray, List.getElem_cons_zero, List.getElem_cons_succ, List.setIfInBounds_toArray, List.set_cons_zero, List.set_cons_succ]
            refine wpAnyH_ready (rs := [8]) (by kernel_rfl) (by simp) ?_
            refine AllReadyH.cons rfl (fun K hK => ?_) ?_
            · try simp only [List.getElem_toArray, List.getElem_cons_zero, List.getElem_cons_succ]
              rw [if_pos (by rfl)]
              go_simp
              refine hK.out _ _ ⟨Y0.below (below_alloc1 _ _), Y1.below (below_alloc1 _ _)⟩ (fun _ => ?_)
              clear hK K
              try simp only [Act.put, List.getElem_toArray, List.getElem_cons_zero, List.getElem_cons_succ, List.setIfInBounds_toArray, List.set_cons_zero, List.set_cons_succ]
              have Z := Row.alloc wd [.int .i64 0, .int .i64 0] 38
              have hlY0 := Y0.lt
              have hlY1 := Y1.lt
              have hlY2 := Y2.lt
              replace Y0 := Y0.below (below_alloc1 _ (.cells #[.int .i64 0, .int .i64 0] 38))
              replace Y1 := Y1.below (below_alloc1 _ (.cells #[.int .i64 0, .int .i64 0] 38))
              replace Y2 := Y2.below (below_alloc1 _ (.cells #[.int .i64 0, .int .i64 0] 38))
              have hz := HB.size
              replace HB := HB.alloc HB.size (.cells #[.int .i64 0, .int .i64 0] 38)
              generalize World.alloc wd (.cells #[.int .i64 0, .int .i64 0] 38) = wz at Y0 Y1 Y2 HB Z ⊢
              have hneY0 : w.heap.size ≠ wd.heap.size := by omega
              have hneY1 : w.heap.size + 1 ≠ wd.heap.size := by omega
              have hneY2 : g2 ≠ wd.heap.size := by omega
              generalize wd.heap.size = gz at *
              clear hlY0 hlY1 hlY2
              obtain ⟨wd, hwd⟩ : ∃ x, x = wz := ⟨_, rfl⟩
              subst hwd
              refine wpAnyH_ready (rs := [9]) (by kernel_rfl) (by simp) ?_
              refine AllReadyH.cons rfl (fun K hK => ?_) AllReadyH.nil
              try simp only [List.getElem_toArray, List.getElem_cons_zero, List.getElem_cons_succ]
              rw [if_pos (by rfl)]
              refine wp_store_mid _ _ _ rfl _ _ (List.toArray [.int .i64 r0, .int .i64 r1]) rfl rfl (Z.there rfl) frac_size (one2 _ _) ?_
              simp only [List.toList_toArray]
              refine hK.out _ _ ⟨Y0.setAway (by omega) _ _, Y1.setAway (by omega) _ _⟩ (fun _ => ?_)
              clear hK K
              try simp only [Act.put, List.getElem_toArray, List.getElem_cons_zero, List.getElem_cons_succ, List.setIfInBounds_toArray, List.set_cons_zero, List.set_cons_succ]
              replace Y0 := Y0.setAway (C := gz) (by omega) [.int .i64 r0, .int .i64 r1] 0
              replace Y1 := Y1.setAway (C := gz) (by omega) [.int .i64 r0, .int .i64 r1] 0
              replace Y2 := Y2.setAway (C := gz) (by omega) [.int .i64 r0, .int .i64 r1] 0
              replace HB := below_setCells (b := w.heap.size) (C := gz) (by omega) [.int .i64 r0, .int .i64 r1] 0 HB
              replace Z := Z.setAll [.int .i64 r0, .int .i64 r1] rfl
              generalize World.setCells _ gz 0 [.int .i64 r0, .int .i64 r1] = ws at Y0 Y1 Y2 HB Z ⊢
              refine wpAnyH_take (i := 10) (v := .int .i64 r2) rfl (by kernel_rfl) (by kernel_rfl) (by kernel_rfl) (fun _ _ _ h => h) (Or.inl ⟨by rfl, fun w h => by go_simp⟩) ⟨Y0, Y1⟩ ?_
              try simp only [Act.put, List.getElem_toArray, List.getElem_cons_zero, List.getElem_cons_succ, List.setIfInBounds_toArray, List.set_cons_zero, List.set_cons_succ]
              refine wpAnyH_done (by kernel_rfl) ?_ _
              go_wp2_with fail
              go_meet
              exact ⟨gz, rfl, rfl, Lib.hid Z, Lib.hid Y0, Lib.hid Y1, Lib.hid Y2, by omega, Lib.hid HB⟩
            exact AllReadyH.nil
          refine AllReadyH.cons rfl (fun K hK => ?_) ?_
          · try simp only [List.getElem_toArray, List.getElem_cons_zero, List.getElem_cons_succ]
            rw [if_pos (by rfl)]
            go_simp
            refine hK.out _ _ ⟨Y0.below (below_alloc1 _ _), Y1.below (below_alloc1 _ _)⟩ (fun _ => ?_)
            clear hK K
            try simp only [Act.put, List.getElem_toArray, List.getElem_cons_zero, List.getElem_cons_succ, List.setIfInBounds_toArray, List.set_cons_zero, List.set_cons_succ]
            have Z := Row.alloc wd [.int .i64 0, .int .i64 0] 38
            have hlY0 := Y0.lt
            have hlY1 := Y1.lt
            have hlY2 := Y2.lt
            replace Y0 := Y0.below (below_alloc1 _ (.cells #[.int .i64 0, .int .i64 0] 38))
            replace Y1 := Y1.below (below_alloc1 _ (.cells #[.int .i64 0, .int .i64 0] 38))
            replace Y2 := Y2.below (below_alloc1 _ (.cells #[.int .i64 0, .int .i64 0] 38))
            have hz := HB.size
            replace HB := HB.alloc HB.size (.cells #[.int .i64 0, .int .i64 0] 38)
            generalize World.alloc wd (.cells #[.int .i64 0, .int .i64 0] 38) = wz at Y0 Y1 Y2 HB Z ⊢
            have hneY0 : w.heap.size ≠ wd.heap.size := by omega
            have hneY1 : w.heap.size + 1 ≠ wd.heap.size := by omega
            have hneY2 : g2 ≠ wd.heap.size := by omega
            generalize wd.heap.size = gz at *
            clear hlY0 hlY1 hlY2
            obtain ⟨wd, hwd⟩ : ∃ x, x = wz := ⟨_, rfl⟩
            subst hwd
            refine wpAnyH_ready (rs := [4]) (by kernel_rfl) (by simp) ?_
            refine AllReadyH.cons rfl (fun K hK => ?_) ?_
            · try simp only [List.getElem_toArray, List.getElem_cons_zero, List.getElem_cons_succ]
              rw [if_pos (by rfl)]
              go_simp
              refine (CI.out _).mono ?_
              rintro e we ⟨rfl, hb⟩
              refine hK.out _ _ ⟨Y0.below hb, Y1.below hb⟩ (fun _ => ?_)
              clear hK K
              try simp only [Act.put, List.getElem_toArray, List.getElem_cons_zero, List.getElem_cons_succ, List.setIfInBounds_toArray, List.set_cons_zero, List.set_cons_succ]
              replace Y0 := Y0.below hb
              replace Y1 := Y1.below hb
              replace Y2 := Y2.below hb
              replace Z := Z.below hb
              replace HB := below_then HB HB.size hb
              clear hb
              obtain ⟨wd, hwd⟩ : ∃ x, x = we := ⟨_, rfl⟩
              subst hwd
              refine wpAnyH_take (i := 5) (v := .tuple #[.agg #[.int .i64 r0, .int .i64 r1], .int .i64 r2]) rfl (by kernel_rfl) (by kernel_rfl) (by kernel_rfl) (fun _ _ _ h => h) (Or.inl ⟨by rfl, fun w h => by go_simp⟩) ⟨Y0, Y1⟩ ?_
              try simp only [Act.put, List.getElem_toArray, List.getElem_cons_zero, List.getElem_cons_succ, List.setIfInBounds_toArray, List.set_cons_zero, List.set_cons_succ]
              refine wpAnyH_take (i := 6) (v := .agg #[.int .i64 r0, .int .i64 r1]) rfl (by kernel_rfl) (by kernel_rfl) (by kernel_rfl) (fun _ _ _ h => h) (Or.inl ⟨by rfl, fun w h => by go_simp⟩) ⟨Y0, Y1⟩ ?_
              try simp only [Act.put, List.getElem_toArray, List.getElem_cons_zero, List.getElem_cons_succ, List.setIfInBounds_toArray, List.set_cons_zero, List.set_cons_succ]
              refine wpAnyH_take (i := 7) (v := .int .i64 r2) rfl (by kernel_rfl) (by kernel_rfl) (by kernel_rfl) (fun _ _ _ h => h) (Or.inl ⟨by rfl, fun w h => by go_simp⟩) ⟨Y0, Y1⟩ ?_
              try simp only [Act.put, List.getElem_toArray, List.getElem_cons_zero, List.getElem_cons_succ, List.setIfInBounds_toArray, List.set_cons_zero, List.set_cons_succ]
              refine wpAnyH_ready (rs := [9]) (by kernel_rfl) (by simp) ?_
              refine AllReadyH.cons rfl (fun K hK => ?_) AllReadyH.nil
              try simp only [List.getElem_toArray, List.getElem_cons_zero, List.getElem_cons_succ]
              rw [if_pos (by rfl)]
              refine wp_store_mid _ _ _ rfl _ _ (List.toArray [.int .i64 r0, .int .i64 r1]) rfl rfl (Z.there rfl) frac_size (one2 _ _) ?_
              simp only [List.toList_toArray]
              refine hK.out _ _ ⟨Y0.setAway (by omega) _ _, Y1.setAway (by omega) _ _⟩ (fun _ => ?_)
              clear hK K
              try simp only [Act.put, List.getElem_toArray, List.getElem_cons_zero, List.getElem_cons_succ, List.setIfInBounds_toArray, List.set_cons_zero, List.set_cons_succ]
              replace Y0 := Y0.setAway (C := gz) (by omega) [.int .i64 r0, .int .i64 r1] 0
              replace Y1 := Y1.setAway (C := gz) (by omega) [.int .i64 r0, .int .i64 r1] 0
              replace Y2 := Y2.setAway (C := gz) (by omega) [.int .i64 r0, .int .i64 r1] 0
              replace HB := below_setCells (b := w.heap.size) (C := gz) (by omega) [.int .i64 r0, .int .i64 r1] 0 HB
              replace Z := Z.setAll [.int .i64 r0, .int .i64 r1] rfl
              generalize World.setCells _ gz 0 [.int .i64 r0, .int .i64 r1] = ws at Y0 Y1 Y2 HB Z ⊢
              refine wpAnyH_take (i := 10) (v := .int .i64 r2) rfl (by kernel_rfl) (by kernel_rfl) (by kernel_rfl) (fun _ _ _ h => h) (Or.inl ⟨by rfl, fun w h => by go_simp⟩) ⟨Y0, Y1⟩ ?_
              try simp only [Act.put, List.getElem_toArray, List.getElem_cons_zero, List.getElem_cons_succ, List.setIfInBounds_toArray, List.set_cons_zero, List.set_cons_succ]
              refine wpAnyH_done (by kernel_rfl) ?_ _
              go_wp2_with fail
              go_meet
              exact ⟨gz, rfl, rfl, Lib.hid Z, Lib.hid Y0, Lib.hid Y1, Lib.hid Y2, by omega, Lib.hid HB⟩
            exact AllReadyH.nil
          exact AllReadyH.nil
        refine AllReadyH.cons rfl (fun K hK => ?_) ?_
        · try simp only [List.getElem_toArray, List.getElem_cons_zero, List.getElem_cons_succ]
          rw [if_pos (by rfl)]
          go_simp
          refine hK.out _ _ ⟨Y0.below (below_alloc1 _ _), Y1.below (below_alloc1 _ _)⟩ (fun _ => ?_)
          clear hK K
          try simp only [Act.put, List.getElem_toArray, List.getElem_cons_zero, List.getElem_cons_succ, List.setIfInBounds_toArray, List.set_cons_zero, List.set_cons_succ]
          have Z := Row.alloc wd [.int .i64 0, .int .i64 0] 38
          have hlY0 := Y0.lt
          have hlY1 := Y1.lt
          have hlY2 := Y2.lt
          replace Y0 := Y0.below (below_alloc1 _ (.cells #[.int .i64 0, .int .i64 0] 38))
          replace Y1 := Y1.below (below_alloc1 _ (.cells #[.int .i64 0, .int .i64 0] 38))
          replace Y2 := Y2.below (below_alloc1 _ (.cells #[.int .i64 0, .int .i64 0] 38))
          have hz := HB.size
          replace HB := HB.alloc HB.size (.cells #[.int .i64 0, .int .i64 0] 38)
          generalize World.alloc wd (.cells #[.int .i64 0, .int .i64 0] 38) = wz at Y0 Y1 Y2 HB Z ⊢
          have hneY0 : w.heap.size ≠ wd.heap.size := by omega
          have hneY1 : w.heap.size + 1 ≠ wd.heap.size := by omega
          have hneY2 : g2 ≠ wd.heap.size := by omega
          generalize wd.heap.size = gz at *
          clear hlY0 hlY1 hlY2
          obtain ⟨wd, hwd⟩ : ∃ x, x = wz := ⟨_, rfl⟩
          subst hwd
          refine wpAnyH_ready (rs := [3]) (by kernel_rfl) (by simp) ?_
          refine AllReadyH.cons rfl (fun K hK => ?_) ?_
          · try simp only [List.getElem_toArray, List.getElem_cons_zero, List.getElem_cons_succ]
            rw [if_pos (by rfl)]
            go_simp
            refine (toHeap_any _ _ _ _ _ _ _ _ _).mono ?_
            rintro e we ⟨rfl, hb⟩
            refine hK.out _ _ ⟨Y0.below hb, Y1.below hb⟩ (fun _ => ?_)
            clear hK K
            try simp only [Act.put, List.getElem_toArray, List.getElem_cons_zero, List.getElem_cons_succ, List.setIfInBounds_toArray, List.set_cons_zero, List.set_cons_succ]
            replace Y0 := Y0.below hb
            replace Y1 := Y1.below hb
            replace Y2 := Y2.below hb
            replace Z := Z.below hb
            replace HB := below_then HB HB.size hb
            clear hb
            obtain ⟨wd, hwd⟩ : ∃ x, x = we := ⟨_, rfl⟩
            subst hwd
            refine wpAnyH_ready (rs := [4]) (by kernel_rfl) (by simp) ?_
            refine AllReadyH.cons rfl (fun K hK => ?_) ?_
            · try simp only [List.getElem_toArray, List.getElem_cons_zero, List.getElem_cons_succ]
              rw [if_pos (by rfl)]
              go_simp
              refine (CI.out _).mono ?_
              rintro e we ⟨rfl, hb⟩
              refine hK.out _ _ ⟨Y0.below hb, Y1.below hb⟩ (fun _ => ?_)
              clear hK K
              try simp only [Act.put, List.getElem_toArray, List.getElem_cons_zero, List.getElem_cons_succ, List.setIfInBounds_toArray, List.set_cons_zero, List.set_cons_succ]
              replace Y0 := Y0.below hb
              replace Y1 := Y1.below hb
              replace Y2 := Y2.below hb
              replace Z := Z.below hb
              replace HB := below_then HB HB.size hb
              clear hb
              obtain ⟨wd, hwd⟩ : ∃ x, x = we := ⟨_, rfl⟩
              subst hwd
              refine wpAnyH_take (i := 5) (v := .tuple #[.agg #[.int .i64 r0, .int .i64 r1], .int .i64 r2]) rfl (by kernel_rfl) (by kernel_rfl) (by kernel_rfl) (fun _ _ _ h => h) (Or.inl ⟨by rfl, fun w h => by go_simp⟩) ⟨Y0, Y1⟩ ?_
              try simp only [Act.put, List.getElem_toArray, List.getElem_cons_zero, List.getElem_cons_succ, List.setIfInBounds_toArray, List.set_cons_zero, List.set_cons_succ]
              refine wpAnyH_take (i := 6) (v := .agg #[.int .i64 r0, .int .i64 r1]) rfl (by kernel_rfl) (by kernel_rfl) (by kernel_rfl) (fun _ _ _ h => h) (Or.inl ⟨by rfl, fun w h => by go_simp⟩) ⟨Y0, Y1⟩ ?_
              try simp only [Act.put, List.getElem_toArray, List.getElem_cons_zero, List.getElem_cons_succ, List.setIfInBounds_toArray, List.set_cons_zero, List.set_cons_succ]
              refine wpAnyH_take (i := 7) (v := .int .i64 r2) rfl (by kernel_rfl) (by kernel_rfl) (by kernel_rfl) (fun _ _ _ h => h) (Or.inl ⟨by rfl, fun w h => by go_simp⟩) ⟨Y0, Y1⟩ ?_
              try simp only [Act.put, List.getElem_toArray, List.getElem_cons_zero, List.getElem_cons_succ, List.setIfInBounds_toArray, List.set_cons_zero, List.set_cons_succ]
              refine wpAnyH_ready (rs := [9]) (by kernel_rfl) (by simp) ?_
              refine AllReadyH.cons rfl (fun K hK => ?_) AllReadyH.nil
              try simp only [List.getElem_toArray, List.getElem_cons_zero, List.getElem_cons_succ]
              rw [if_pos (by rfl)]
              refine wp_store_mid _ _ _ rfl _ _ (List.toArray [.int .i64 r0, .int .i64 r1]) rfl rfl (Z.there rfl) frac_size (one2 _ _) ?_
              simp only [List.toList_toArray]
              refine hK.out _ _ ⟨Y0.setAway (by omega) _ _, Y1.setAway (by omega) _ _⟩ (fun _ => ?_)
              clear hK K
              try simp only [Act.put, List.getElem_toArray, List.getElem_cons_zero, List.getElem_cons_succ, List.setIfInBounds_toArray, List.set_cons_zero, List.set_cons_succ]
              replace Y0 := Y0.setAway (C := gz) (by omega) [.int .i64 r0, .int .i64 r1] 0
              replace Y1 := Y1.setAway (C := gz) (by omega) [.int .i64 r0, .int .i64 r1] 0
              replace Y2 := Y2.setAway (C := gz) (by omega) [.int .i64 r0, .int .i64 r1] 0
              replace HB := below_setCells (b := w.heap.size) (C := gz) (by omega) [.int .i64 r0, .int .i64 r1] 0 HB
              replace Z := Z.setAll [.int .i64 r0, .int .i64 r1] rfl
              generalize World.setCells _ gz 0 [.int .i64 r0, .int .i64 r1] = ws at Y0 Y1 Y2 HB Z ⊢
              refine wpAnyH_take (i := 10) (v := .int .i64 r2) rfl (by kernel_rfl) (by kernel_rfl) (by kernel_rfl) (fun _ _ _ h => h) (Or.inl ⟨by rfl, fun w h => by go_simp⟩) ⟨Y0, Y1⟩ ?_
              try simp only [Act.put, List.getElem_toArray, List.getElem_cons_zero, List.getElem_cons_succ, List.setIfInBounds_toArray, List.set_cons_zero, List.set_cons_succ]
              refine wpAnyH_done (by kernel_rfl) ?_ _
              go_wp2_with fail
              go_meet
              exact ⟨gz, rfl, rfl, Lib.hid Z, Lib.hid Y0, Lib.hid Y1, Lib.hid Y2, by omega, Lib.hid HB⟩
            exact AllReadyH.nil
          exact AllReadyH.nil
        exact AllReadyH.nil
      refine AllReadyH.cons rfl (fun K hK => ?_) ?_
      · try simp only [List.getElem_toArray, List.getElem_cons_zero, List.getElem_cons_succ]
        rw [if_pos (by rfl)]
        go_simp
        refine hK.out _ _ ⟨Y0.below (below_alloc1 _ _), Y1.below (below_alloc1 _ _)⟩ (fun _ => ?_)
        clear hK K
        try simp only [Act.put, List.getElem_toArray, List.getElem_cons_zero, List.getElem_cons_succ, List.setIfInBounds_toArray, List.set_cons_zero, List.set_cons_succ]
        have Z := Row.alloc wd [.int .i64 0, .int .i64 0] 38
        have hlY0 := Y0.lt
        have hlY1 := Y1.lt
        have hlY2 := Y2.lt
        replace Y0 := Y0.below (below_alloc1 _ (.cells #[.int .i64 0, .int .i64 0] 38))
        replace Y1 := Y1.below (below_alloc1 _ (.cells #[.int .i64 0, .int .i64 0] 38))
        replace Y2 := Y2.below (below_alloc1 _ (.cells #[.int .i64 0, .int .i64 0] 38))
        have hz := HB.size
        replace HB := HB.alloc HB.size (.cells #[.int .i64 0, .int .i64 0] 38)
        generalize World.alloc wd (.cells #[.int .i64 0, .int .i64 0] 38) = wz at Y0 Y1 Y2 HB Z ⊢
        have hneY0 : w.heap.size ≠ wd.heap.size := by omega
        have hneY1 : w.heap.size + 1 ≠ wd.heap.size := by omega
        have hneY2 : g2 ≠ wd.heap.size := by omega
        generalize wd.heap.size = gz at *
        clear hlY0 hlY1 hlY2
        obtain ⟨wd, hwd⟩ : ∃ x, x = wz := ⟨_, rfl⟩
        subst hwd
        refine wpAnyH_ready (rs := [1]) (by kernel_rfl) (by simp) ?_
        refine AllReadyH.cons rfl (fun K hK => ?_) ?_
        · try simp only [List.getElem_toArray, List.getElem_cons_zero, List.getElem_cons_succ]
          rw [if_pos (by rfl)]
          go_simp
          refine (toHeap_any _ _ _ _ _ _ _ _ _).mono ?_
          rintro e we ⟨rfl, hb⟩
          refine hK.out _ _ ⟨Y0.below hb, Y1.below hb⟩ (fun _ => ?_)
          clear hK K
          try simp only [Act.put, List.getElem_toArray, List.getElem_cons_zero, List.getElem_cons_succ, List.setIfInBounds_toArray, List.set_cons_zero, List.set_cons_succ]
          replace Y0 := Y0.below hb
          replace Y1 := Y1.below hb
          replace Y2 := Y2.below hb
          replace Z := Z.below hb
          replace HB := below_then HB HB.size hb
          clear hb
          obtain ⟨wd, hwd⟩ : ∃ x, x = we := ⟨_, rfl⟩
          subst hwd
          refine wpAnyH_ready (rs := [3]) (by kernel_rfl) (by simp) ?_
          refine AllReadyH.cons rfl (fun K hK => ?_) ?_
          · try simp only [List.getElem_toArray, List.getElem_cons_zero, List.getElem_cons_succ]
            rw [if_pos (by rfl)]
            go_simp
            refine (toHeap_any _ _ _ _ _ _ _ _ _).mono ?_
            rintro e we ⟨rfl, hb⟩
            refine hK.out _ _ ⟨Y0.below hb, Y1.below hb⟩ (fun _ => ?_)
            clear hK K
            try simp only [Act.put, List.getElem_toArray, List.getElem_cons_zero, List.getElem_cons_succ, List.setIfInBounds_toArray, List.set_cons_zero, List.set_cons_succ]
            replace Y0 := Y0.below hb
            replace Y1 := Y1.below hb
            replace Y2 := Y2.below hb
            replace Z := Z.below hb
            replace HB := below_then HB HB.size hb
            clear hb
            obtain ⟨wd, hwd⟩ : ∃ x, x = we := ⟨_, rfl⟩
            subst hwd
            refine wpAnyH_ready (rs := [4]) (by kernel_rfl) (by simp) ?_
            refine AllReadyH.cons rfl (fun K hK => ?_) ?_
            · try simp only [List.getElem_toArray, List.getElem_cons_zero, List.getElem_cons_succ]
              rw [if_pos (by rfl)]
              go_simp
              refine (CI.out _).mono ?_
              rintro e we ⟨rfl, hb⟩
              refine hK.out _ _ ⟨Y0.below hb, Y1.below hb⟩ (fun _ => ?_)
              clear hK K
              try simp only [Act.put, List.getElem_toArray, List.getElem_cons_zero, List.getElem_cons_succ, List.setIfInBounds_toArray, List.set_cons_zero, List.set_cons_succ]
              replace Y0 := Y0.below hb
              replace Y1 := Y1.below hb
              replace Y2 := Y2.below hb
              replace Z := Z.below hb
              replace HB := below_then HB HB.size hb
              clear hb
              obtain ⟨wd, hwd⟩ : ∃ x, x = we := ⟨_, rfl⟩
              subst hwd
              refine wpAnyH_take (i := 5) (v := .tuple #[.agg #[.int .i64 r0, .int .i64 r1], .int .i64 r2]) rfl (by kernel_rfl) (by kernel_rfl) (by kernel_rfl) (fun _ _ _ h => h) (Or.inl ⟨by rfl, fun w h => by go_simp⟩) ⟨Y0, Y1⟩ ?_
              try simp only [Act.put, List.getElem_toArray, List.getElem_cons_zero, List.getElem_cons_succ, List.setIfInBounds_toArray, List.set_cons_zero, List.set_cons_succ]
              refine wpAnyH_take (i := 6) (v := .agg #[.int .i64 r0, .int .i64 r1]) rfl (by kernel_rfl) (by kernel_rfl) (by kernel_rfl) (fun _ _ _ h => h) (Or.inl ⟨by rfl, fun w h => by go_simp⟩) ⟨Y0, Y1⟩ ?_
              try simp only [Act.put, List.getElem_toArray, List.getElem_cons_zero, List.getElem_cons_succ, List.setIfInBounds_toArray, List.set_cons_zero, List.set_cons_succ]
              refine wpAnyH_take (i := 7) (v := .int .i64 r2) rfl (by kernel_rfl) (by kernel_rfl) (by kernel_rfl) (fun _ _ _ h => h) (Or.inl ⟨by rfl, fun w h => by go_simp⟩) ⟨Y0, Y1⟩ ?_
              try simp only [Act.put, List.getElem_toArray, List.getElem_cons_zero, List.getElem_cons_succ, List.setIfInBounds_toArray, List.set_cons_zero, List.set_cons_succ]
              refine wpAnyH_ready (rs := [9]) (by kernel_rfl) (by simp) ?_
              refine AllReadyH.cons rfl (fun K hK => ?_) AllReadyH.nil
              try simp only [List.getElem_toArray, List.getElem_cons_zero, List.getElem_cons_succ]
              rw [if_pos (by rfl)]
              refine wp_store_mid _ _ _ rfl _ _ (List.toArray [.int .i64 r0, .int .i64 r1]) rfl rfl (Z.there rfl) frac_size (one2 _ _) ?_
              simp only [List.toList_toArray]
              refine hK.out _ _ ⟨Y0.setAway (by omega) _ _, Y1.setAway (by omega) _ _⟩ (fun _ => ?_)
              clear hK K
              try simp only [Act.put, List.getElem_toArray, List.getElem_cons_zero, List.getElem_cons_succ, List.setIfInBounds_toArray, List.set_cons_zero, List.set_cons_succ]
              replace Y0 := Y0.setAway (C := gz) (by omega) [.int .i64 r0, .int .i64 r1] 0
              replace Y1 := Y1.setAway (C := gz) (by omega) [.int .i64 r0, .int .i64 r1] 0
              replace Y2 := Y2.setAway (C := gz) (by omega) [.int .i64 r0, .int .i64 r1] 0
              replace HB := below_setCells (b := w.heap.size) (C := gz) (by omega) [.int .i64 r0, .int .i64 r1] 0 HB
              replace Z := Z.setAll [.int .i64 r0, .int .i64 r1] rfl
              generalize World.setCells _ gz 0 [.int .i64 r0, .int .i64 r1] = ws at Y0 Y1 Y2 HB Z ⊢
              refine wpAnyH_take (i := 10) (v := .int .i64 r2) rfl (by kernel_rfl) (by kernel_rfl) (by kernel_rfl) (fun _ _ _ h => h) (Or.inl ⟨by rfl, fun w h => by go_simp⟩) ⟨Y0, Y1⟩ ?_
              try simp only [Act.put, List.getElem_toArray, List.getElem_cons_zero, List.getElem_cons_succ, List.setIfInBounds_toArray, List.set_cons_zero, List.set_cons_succ]
              refine wpAnyH_done (by kernel_rfl) ?_ _
              go_wp2_with fail
              go_meet
              exact ⟨gz, rfl, rfl, Lib.hid Z, Lib.hid Y0, Lib.hid Y1, Lib.hid Y2, by omega, Lib.hid HB⟩
            exact AllReadyH.nil
          exact AllReadyH.nil
        exact AllReadyH.nil
      exact AllReadyH.nil
    case rest =>
      clear X0 X1 X2 HB
      obtain ⟨g3, rfl, rfl, Q3, Q0, Q1, Q2, hg3, QB⟩ := hcut
      have HB := QB.out; clear QB
      obtain ⟨e0, e1⟩ := Q2.out.cells2
      obtain ⟨d0, d1⟩ := Q3.out.cells2
      go_wp2_with fail
      refine (eqFraction_true r0 r1 _).mono ?_
      rintro e_ w5 ⟨rfl, hb⟩
      replace HB := below_then HB HB.size hb
      go_wp2_with fail
      go_ret
      exact ⟨rfl, HB⟩
end Go.Proofs.Ytaglfmmlnpdmcaa
