/- Contracts: impl.NearestBlend. -/
import Derived.Test.YtjbaaomodcgdgaaP6
import Derived.Test.YtjbaaomodcgdgaaU10
import Derived.Test.YtjbaaomodcgdgaaHR
import Derived.Deep.DeepCutAuto
import Derived.Deep.RegionWith
import Derived.Deep.AppendLies
import Derived.Laws.EntriesVeiled
namespace Go.Proofs.Ytjbaaomodcgdgaa
open Go.RowKit
set_option linter.unusedVariables false
set_option linter.unusedSimpArgs false
theorem info_heap2 : (Try.prog.info? 27).map (fun i => (i.zero, i.size, i.bytes)) = some (some (.agg #[.int .i32 0, .int .i32 0, .int .i32 0, .int .i32 0, .int .i32 0, .int .i32 0, .int .i32 0, .int .i32 0]), 8, 32) := by kernel_rfl
def hpsTo (W : List Int) (xs : List (Int × List Int)) (k : Nat) : List (List Int) := W :: (xs.take k).map Prod.snd
def hps (W : List Int) (xs : List (Int × List Int)) : List (List Int) := W :: xs.map Prod.snd
theorem hpsTo_all (W : List Int) (xs : List (Int × List Int)) : hpsTo W xs xs.length = hps W xs := by unfold hpsTo hps; rw [List.take_length]
theorem hps_snoc {W : List Int} {xs : List (Int × List Int)} {k : Nat} {x : Int × List Int} (h : xs[k]? = some x) : (hpsTo W xs k).flatMap HC ++ HC x.2 = (hpsTo W xs (k + 1)).flatMap HC := by
  unfold hpsTo
  rw [List.take_add_one, h]
  simp
theorem hps_len (W : List Int) (xs : List (Int × List Int)) : (hps W xs).length = xs.length + 1 := by simp [hps]
theorem hps_8 {W : List Int} {xs : List (Int × List Int)} (hW : W.length = 8) (h : FlOk xs) : ∀ x ∈ hps W xs, x.length = 8 := by
  intro x hx
  unfold hps at hx
  rcases List.mem_cons.1 hx with rfl | hx
  · exact hW
  · obtain ⟨y, hy, rfl⟩ := List.mem_map.1 hx
    exact (h y hy).2.1
theorem hps_wf {W : List Int} {xs : List (Int × List Int)} (hW : ∀ x ∈ W, (Lit.int .i32 x).wf = true) (h : FlOk xs) : ∀ x ∈ hps W xs, ∀ y ∈ x, (Lit.int .i32 y).wf = true := by
  intro x hx
  unfold hps at hx
  rcases List.mem_cons.1 hx with rfl | hx
  · exact hW
  · obtain ⟨y, hy, rfl⟩ := List.mem_map.1 hx
    exact (h y hy).2.2
theorem hps_light (W : List Int) (xs : List (Int × List Int)) : ((hps W xs).all fun L => decide (hsL L ≤ 100)) = (decide (hsL W ≤ 100) && hvB xs) := by
  unfold hps hvB
  rw [List.all_cons, List.all_map]
  rfl
theorem hps_wo {W : List Int} {xs : List (Int × List Int)} (h1 : heapOk W = true) (h2 : flB xs = true) : woC (hps W xs) = if 0 < hsL W ∧ nzB xs = true then 0 else 6 := by
  have e1 : (hps W xs).all heapOk = true := by
    unfold hps
    rw [List.all_cons, h1, Bool.true_and, List.all_map, List.all_eq_true]
    intro x hx
    exact fl_heap h2 hx
  have e2 : ((hps W xs).all fun L => decide (0 < hsL L)) = (decide (0 < hsL W) && nzB xs) := by
    unfold hps nzB
    rw [List.all_cons, List.all_map]
    rfl
  unfold woC
  rw [e1, e2]
  by_cases h : 0 < hsL W
  · cases nzB xs <;> simp [h]
  · simp [h]
theorem nb_code (xs : List (Int × List Int)) (W : List Int) (P : Int) : nbC xs W P = if flB xs = true then (if heapOk W = true then (if inB P 1 8 = true then (if xs.length ≤ 6 then (if (decide (hsL W ≤ 100) && hvB xs) = true then (if xs.length = 0 then 6 else if woC (hps W xs) = 0 then 0 else 6) else 3) else 3) else 2) else 1) else 1 := by
  unfold nbC nbC1 bdC flC
  cases h1 : heapOk W
  · cases h2 : flB xs <;> simp
  · cases h2 : flB xs
    · simp
    · rw [hps_wo h1 h2]
      have hb := (hsL_bd h1).1
      cases inB P 1 8
      · simp
      · by_cases h3 : xs.length ≤ 6
        · cases h4 : hvB xs
          · simp [h3]
          · by_cases h5 : hsL W ≤ 100
            · have h5' : ¬ 100 < hsL W := by omega
              cases h6 : nzB xs
              · by_cases h7 : xs.length = 0 <;> simp [h3, h5, h5', h7]
              · by_cases h7 : xs.length = 0
                · simp [h3, h5, h5', h7]
                · by_cases h8 : hsL W = 0
                  · simp [h3, h5, h5', h7, h8]
                  · have h9 : 0 < hsL W := by omega
                    simp [h3, h5, h5', h7, h8, h9]
            · have h5' : 100 < hsL W := by omega
              cases h6 : nzB xs <;> simp [h3, h5, h5']
        · simp [h3]
set_option maxRecDepth 100000 in
set_option maxHeartbeats 8000000 in
theorem iNearestBlend (A : Option Addr) (n c : Nat) (xs : List (Int × List Int)) (a0 a1 a2 a3 a4 a5 a6 a7 P : Int) (w : World) (R : Rds w A n 9 FlC xs) (hF : Hid (FlOk xs)) (hn : n ≤ 1048576) (hw : Hid (∀ x ∈ [a0, a1, a2, a3, a4, a5, a6, a7], (Lit.int .i32 x).wf = true)) :
    Calls Try.prog 11 #[.slice A n c, .agg #[.int .i32 a0, .int .i32 a1, .int .i32 a2, .int .i32 a3, .int .i32 a4, .int .i32 a5, .int .i32 a6, .int .i32 a7], .int .i64 P] w (RetOwnT 2 1 (nbR xs [a0, a1, a2, a3, a4, a5, a6, a7] P).length (nums .i64 (nbR xs [a0, a1, a2, a3, a4, a5, a6, a7] P)) [.agg #[.int .i64 (nbN xs [a0, a1, a2, a3, a4, a5, a6, a7] P), .int .i64 (nbD xs [a0, a1, a2, a3, a4, a5, a6, a7] P)], .int .i64 (nbC xs [a0, a1, a2, a3, a4, a5, a6, a7] P)] w) := by
  have HXL := Lib.hid R.1
  obtain ⟨W, hWe⟩ : ∃ W, [a0, a1, a2, a3, a4, a5, a6, a7] = W := ⟨_, rfl⟩
  have HWE := Lib.hid hWe
  have hW8 : W.length = 8 := by rw [← hWe]; rfl
  have HH8 := Lib.hid (hps_8 hW8 hF.out)
  have HHW := Lib.hid (hps_wf (W := W) (by rw [← hWe]; exact hw.out) hF.out)
  have HW8 := Lib.hid hW8
  have HC_ := Lib.hid (nb_code xs W P)
  rw [hWe]
  obtain ⟨W1, hW1⟩ : ∃ x, x = w.alloc (.cells #[.slice A n c] 24) := ⟨_, rfl⟩
  obtain ⟨W2, hW2⟩ : ∃ x, x = W1.alloc (.cells #[.int .i32 a0, .int .i32 a1, .int .i32 a2, .int .i32 a3, .int .i32 a4, .int .i32 a5, .int .i32 a6, .int .i32 a7] 27) := ⟨_, rfl⟩
  obtain ⟨W3, hW3⟩ : ∃ x, x = W2.alloc (.cells #[.int .i64 P] 2) := ⟨_, rfl⟩
  obtain ⟨W4, hW4⟩ : ∃ x, x = W3.alloc (.cells #[.int .i64 0, .int .i64 0] 34) := ⟨_, rfl⟩
  obtain ⟨W5, hW5⟩ : ∃ x, x = W4.alloc (.cells #[.int .i32 a0, .int .i32 a1, .int .i32 a2, .int .i32 a3, .int .i32 a4, .int .i32 a5, .int .i32 a6, .int .i32 a7] 27) := ⟨_, rfl⟩
  have s1 : W1.heap.size = w.heap.size + 1 := by rw [hW1, World.size_alloc]
  have s2 : W2.heap.size = w.heap.size + 1 + 1 := by rw [hW2, World.size_alloc, s1]
  have s3 : W3.heap.size = w.heap.size + 1 + 1 + 1 := by rw [hW3, World.size_alloc, s2]
  have s4 : W4.heap.size = w.heap.size + 1 + 1 + 1 + 1 := by rw [hW4, World.size_alloc, s3]
  have b1 : Below w.heap.size w W1 := by rw [hW1]; exact below_alloc1 _ _
  have b2 : Below W1.heap.size W1 W2 := by rw [hW2]; exact below_alloc1 _ _
  have b3 : Below W2.heap.size W2 W3 := by rw [hW3]; exact below_alloc1 _ _
  have b4 : Below W3.heap.size W3 W4 := by rw [hW4]; exact below_alloc1 _ _
  have b5 : Below W4.heap.size W4 W5 := by rw [hW5]; exact below_alloc1 _ _
  have r1 : Row W1 w.heap.size 24 [.slice A n c] := by rw [hW1]; exact Row.alloc w [.slice A n c] 24
  have r2 : Row W2 (w.heap.size + 1) 27 [.int .i32 a0, .int .i32 a1, .int .i32 a2, .int .i32 a3, .int .i32 a4, .int .i32 a5, .int .i32 a6, .int .i32 a7] := by rw [← s1, hW2]; exact Row.alloc W1 [.int .i32 a0, .int .i32 a1, .int .i32 a2, .int .i32 a3, .int .i32 a4, .int .i32 a5, .int .i32 a6, .int .i32 a7] 27
  have r3 : Row W3 (w.heap.size + 1 + 1) 2 [.int .i64 P] := by rw [← s2, hW3]; exact Row.alloc W2 [.int .i64 P] 2
  have r4 : Row W4 (w.heap.size + 1 + 1 + 1) 34 [.int .i64 0, .int .i64 0] := by rw [← s3, hW4]; exact Row.alloc W3 [.int .i64 0, .int .i64 0] 34
  have r5 : Row W5 W4.heap.size 27 [.int .i32 a0, .int .i32 a1, .int .i32 a2, .int .i32 a3, .int .i32 a4, .int .i32 a5, .int .i32 a6, .int .i32 a7] := by rw [hW5]; exact Row.alloc W4 [.int .i32 a0, .int .i32 a1, .int .i32 a2, .int .i32 a3, .int .i32 a4, .int .i32 a5, .int .i32 a6, .int .i32 a7] 27
  have RL := Lib.hid (((r1.below b2).below b3).below b4)
  have RW := Lib.hid ((r2.below b3).below b4)
  have RP := Lib.hid (r3.below b4)
  have RR := Lib.hid r4
  have HB4 := Lib.hid (below_then (below_then (below_then b1 b1.size b2) (by omega) b3) (by omega) b4)
  have hL0 : (hpsTo W xs 0).flatMap HC = [.int .i32 a0, .int .i32 a1, .int .i32 a2, .int .i32 a3, .int .i32 a4, .int .i32 a5, .int .i32 a6, .int .i32 a7] := by rw [← hWe]; rfl
  have O0 := r5.own (n := 1) (sz := 8) (Nat.le_refl _) (by decide) rfl
  rw [← hL0] at O0
  have O0' := Lib.hid O0
  have H1 := Lib.hid hW1; have H2 := Lib.hid hW2; have H3 := Lib.hid hW3; have H4 := Lib.hid hW4; have H5 := Lib.hid hW5; have S4 := Lib.hid s4
  have B5 := Lib.hid b5
  clear r1 r2 r3 r4 r5 b1 b2 b3 b4 b5 hL0 O0 hW1 hW2 hW3 hW4 hW5 s1 s2 s3 s4 hWe
  go_enter Try.func11, Try.ntmps11
  go_wp2_with fail
  rw [← H1.out, ← H2.out, ← H3.out, ← H4.out]
  simp only [show w.heap.size + 1 + 1 + 1 + 1 = W4.heap.size from S4.out.symm]
  rw [← H5.out]
  go_loopw [9, 20] (fun s v wr => ∃ (k : Nat) (A' : Option Addr) (c' : Nat), k ≤ n ∧ v = .int .i64 k ∧ s = .slice A' (k + 1) c' ∧ Hid (wr.ownsRow W4.heap.size 27 8 (.slice A' (k + 1) c') (k + 1) ((hpsTo W xs k).flatMap HC)) ∧ Hid (Below W4.heap.size W4 wr)) (fun _ v _ => n - (intOf v).toNat)
  case atStart => exact ⟨0, _, _, by omega, rfl, rfl, O0', B5⟩
  case round =>
    obtain ⟨k, A', c', hk, rfl, rfl, O, hB⟩ := hrel
    clear O0' B5
    by_cases hlt : k < n
    · have hBw := Lib.hid (below_then HB4.out HB4.out.size hB.out)
      obtain ⟨ad, f, b0, b1, b2, b3, b4, b5, b6, b7, rfl, hx, e0, e1, e2, e3, e4, e5, e6, e7, e8⟩ := (R.below hBw.out).fleece hF.out.len hlt
      have hki : (k : Int) < (n : Int) := by omega
      have hsn := hps_snoc (W := W) hx
      change (hpsTo W xs k).flatMap HC ++ [.int .i32 b0, .int .i32 b1, .int .i32 b2, .int .i32 b3, .int .i32 b4, .int .i32 b5, .int .i32 b6, .int .i32 b7] = (hpsTo W xs (k + 1)).flatMap HC at hsn
      have HSN := Lib.hid hsn
      have X0 := Row.alloc wr [.int .i8 f, .int .i32 b0, .int .i32 b1, .int .i32 b2, .int .i32 b3, .int .i32 b4, .int .i32 b5, .int .i32 b6, .int .i32 b7] 48
      have O1 := own_below O.out (below_alloc1 wr (.cells #[.int .i8 f, .int .i32 b0, .int .i32 b1, .int .i32 b2, .int .i32 b3, .int .i32 b4, .int .i32 b5, .int .i32 b6, .int .i32 b7] 48))
      have hB1 := hB.out.alloc hB.out.size (.cells #[.int .i8 f, .int .i32 b0, .int .i32 b1, .int .i32 b2, .int .i32 b3, .int .i32 b4, .int .i32 b5, .int .i32 b6, .int .i32 b7] 48)
      have hB1s := hB1.size
      obtain ⟨x0, x1, x2, x3, x4, x5, x6, x7, x8⟩ := X0.cells9
      have HZ : Hid (wr.heap.size + 1 = (wr.alloc (.cells #[.int .i8 f, .int .i32 b0, .int .i32 b1, .int .i32 b2, .int .i32 b3, .int .i32 b4, .int .i32 b5, .int .i32 b6, .int .i32 b7] 48)).heap.size) := Lib.hid (World.size_alloc _ _).symm
      clear X0 hsn hx
      go_wp2_with ((at_builtin; rw [HZ.out]; refine app_any (w0 := W4) W4.heap.size (by rfl) _ _ 63 27 (.agg #[.int .i32 0, .int .i32 0, .int .i32 0, .int .i32 0, .int .i32 0, .int .i32 0, .int .i32 0, .int .i32 0]) 8 32 (by rfl) Try.underlying63 info_heap2 rfl (by omega) (by omega) _ (by rfl) 1 1 [.int .i32 b0, .int .i32 b1, .int .i32 b2, .int .i32 b3, .int .i32 b4, .int .i32 b5, .int .i32 b6, .int .i32 b7] (by rfl) (by rfl) (by simp [Value.oneCell']) O1 hB1 hB1s (by omega) ?_; intro A2 c2 w6 O2 HBn hg2))
      rw [HSN.out] at O2
      go_wp2_with fail
      go_roundw
      case rel => exact ⟨k + 1, A2, c2, by omega, by go_num, rfl, Lib.hid O2, Lib.hid HBn⟩
      case measure => simp [intOf]; omega
    · have hkn : n = k := by omega
      subst hkn
      have hki : ¬ (n : Int) < (n : Int) := by omega
      have eh := hpsTo_all W xs
      rw [HXL.out] at eh
      have O' := O.out
      rw [eh] at O'
      have RH := Lib.hid (own_rds O' (fun x hx => by have := HH8.out x hx; simp [HC, nums_length, this]) (by omega) (by omega))
      have hB' := hB.out
      replace RL := Lib.hid (RL.out.below hB'); replace RW := Lib.hid (RW.out.below hB'); replace RP := Lib.hid (RP.out.below hB'); replace RR := Lib.hid (RR.out.below hB')
      have B := Lib.hid (below_then HB4.out HB4.out.size hB')
      have hRs : Hid (4 + w.heap.size ≤ wr.heap.size) := Lib.hid (by have := hB'.size; have := S4.out; omega)
      clear eh O' hB' O hB HB4 H1 H2 H3 H4 H5
      have q1 : ∀ w', Below w.heap.size w w' → Calls Try.prog 34 #[.slice A n c, .func (.func 35) #[] #[]] w' fun e w2 => e = .returned (.bool (flB xs)) ∧ Below w'.heap.size w' w2 := fun w' hb =>
        areAll_F (p := fun x => fleeceOk x.1 x.2) (xs := xs) (k := 35) (enters_of Try.func35 rfl (by decide)) (Lib.hid fun f a0 a1 a2 a3 a4 a5 a6 a7 w' hm => iValidFleece f a0 a1 a2 a3 a4 a5 a6 a7 w' (i8_rng (hF.out _ hm).1) (Lib.hid (hF.out _ hm).2.2)) (Lib.hid hF.out.len) A n c w' (R.below hb)
      have q2 : ∀ w', Calls Try.prog 36 #[.agg #[.int .i32 a0, .int .i32 a1, .int .i32 a2, .int .i32 a3, .int .i32 a4, .int .i32 a5, .int .i32 a6, .int .i32 a7]] w' fun e w2 => e = .returned (.bool (heapOk W)) ∧ Below w'.heap.size w' w2 := fun w' => by
        have := iValidHeap a0 a1 a2 a3 a4 a5 a6 a7 w' hw
        rw [HWE.out] at this
        exact this
      have q3 : ∀ w', Rds w' A' (n + 1) 8 HC (hps W xs) → Calls Try.prog 38 #[.slice A' (n + 1) c', .func (.func 39) #[] #[]] w' fun e w2 => e = .returned (.bool (decide (hsL W ≤ 100) && hvB xs)) ∧ Below w'.heap.size w' w2 := fun w' hr => by
        have := areAll_H (p := fun L => decide (hsL L ≤ 100)) (xs := hps W xs) (k := 39) (enters_of Try.func39 rfl (by decide)) (Lib.hid fun a0 a1 a2 a3 a4 a5 a6 a7 w' hm => isLight_any a0 a1 a2 a3 a4 a5 a6 a7 w' (Lib.hid (HHW.out _ hm))) HH8 A' (n + 1) c' w' hr
        rw [hps_light] at this
        exact this
      have q4 : ∀ w', Rds w' A' (n + 1) 8 HC (hps W xs) → Calls Try.prog 27 #[.slice A' (n + 1) c'] w' fun e w2 => e = .returned (.int .i64 (woC (hps W xs))) ∧ Below w'.heap.size w' w2 := fun w' hr => woolCode_any (hps W xs) HH8 HHW A' (n + 1) c' w' hr
      have A1 := Lib.hid q1; have A2 := Lib.hid q2; have A3 := Lib.hid q3; have A4 := Lib.hid q4
      clear q1 q2 q3 q4 hW8

      have cL := RL.out.cell 0; simp only [List.getElem?_cons_zero] at cL
      go_wp2_with fail
      refine (A1.out _ B.out).mono ?_
      rintro e w1 ⟨rfl, hb⟩
      replace RL := Lib.hid (RL.out.below hb)
      replace RW := Lib.hid (RW.out.below hb)
      replace RP := Lib.hid (RP.out.below hb)
      replace RR := Lib.hid (RR.out.below hb)
      replace RH := Lib.hid (RH.out.below hb)
      replace B := Lib.hid (below_then B.out B.out.size hb)
      replace hRs := Lib.hid (Nat.le_trans hRs.out hb.size)
      clear hb
      clear cL
      cases v1 : flB xs
      ·
        have ec : nbC xs W P = 1 := by rw [HC_.out]; simp [v1]
        have er : nbR xs W P = [] := by unfold nbR; rw [ec, if_neg (by omega)]
        have en : nbN xs W P = 0 := by unfold nbN; rw [ec, if_neg (by omega)]
        have ed : nbD xs W P = 0 := by unfold nbD; rw [ec, if_neg (by omega)]
        have EC := Lib.hid ec; have ER := Lib.hid er; have EN := Lib.hid en; have ED := Lib.hid ed
        clear ec er en ed
        obtain ⟨cR0, cR1⟩ := RR.out.cells2
        obtain ⟨fR0, fR1⟩ := RR.out.frozens2
        go_wp2_with fail
        have hB := B.out
        have S1 := (RR.out.set 0 (.int .i64 0)).set 1 (.int .i64 0)
        simp only [List.set_cons_zero, List.set_cons_succ] at S1
        obtain ⟨s0, s1⟩ := S1.cells2
        refine bodyPost_ret (v := .tuple #[.slice none 0 0, .agg #[.int .i64 0, .int .i64 0], .int .i64 1]) (by simp [results, Try.results11, go_sem, s0, s1]) rfl ?_
        rw [EC.out, ER.out, EN.out, ED.out]
        exact ⟨none, 0, rfl, own_nil _ _ _ _, by first | exact hB | exact (hB.setCell (p := ⟨w.heap.size + 1 + 1 + 1, 0, none⟩) (by show w.heap.size ≤ w.heap.size + 1 + 1 + 1; omega) _).setCell (p := ⟨w.heap.size + 1 + 1 + 1, 1, none⟩) (by show w.heap.size ≤ w.heap.size + 1 + 1 + 1; omega) _⟩
      obtain ⟨k0, k1, k2, k3, k4, k5, k6, k7⟩ := RW.out.cells8
      go_wp2_with fail
      refine (A2.out _).mono ?_
      rintro e w2 ⟨rfl, hb⟩
      replace RL := Lib.hid (RL.out.below hb)
      replace RW := Lib.hid (RW.out.below hb)
      replace RP := Lib.hid (RP.out.below hb)
      replace RR := Lib.hid (RR.out.below hb)
      replace RH := Lib.hid (RH.out.below hb)
      replace B := Lib.hid (below_then B.out B.out.size hb)
      replace hRs := Lib.hid (Nat.le_trans hRs.out hb.size)
      clear hb
      clear k0 k1 k2 k3 k4 k5 k6 k7
      cases v2 : heapOk W
      ·
        have ec : nbC xs W P = 1 := by rw [HC_.out]; simp [v1, v2]
        have er : nbR xs W P = [] := by unfold nbR; rw [ec, if_neg (by omega)]
        have en : nbN xs W P = 0 := by unfold nbN; rw [ec, if_neg (by omega)]
        have ed : nbD xs W P = 0 := by unfold nbD; rw [ec, if_neg (by omega)]
        have EC := Lib.hid ec; have ER := Lib.hid er; have EN := Lib.hid en; have ED := Lib.hid ed
        clear ec er en ed
        obtain ⟨cR0, cR1⟩ := RR.out.cells2
        obtain ⟨fR0, fR1⟩ := RR.out.frozens2
        go_wp2_with fail
        have hB := B.out
        have S1 := (RR.out.set 0 (.int .i64 0)).set 1 (.int .i64 0)
        simp only [List.set_cons_zero, List.set_cons_succ] at S1
        obtain ⟨s0, s1⟩ := S1.cells2
        refine bodyPost_ret (v := .tuple #[.slice none 0 0, .agg #[.int .i64 0, .int .i64 0], .int .i64 1]) (by simp [results, Try.results11, go_sem, s0, s1]) rfl ?_
        rw [EC.out, ER.out, EN.out, ED.out]
        exact ⟨none, 0, rfl, own_nil _ _ _ _, by first | exact hB | exact (hB.setCell (p := ⟨w.heap.size + 1 + 1 + 1, 0, none⟩) (by show w.heap.size ≤ w.heap.size + 1 + 1 + 1; omega) _).setCell (p := ⟨w.heap.size + 1 + 1 + 1, 1, none⟩) (by show w.heap.size ≤ w.heap.size + 1 + 1 + 1; omega) _⟩
      have cP := RP.out.cell 0; simp only [List.getElem?_cons_zero] at cP
      go_wp2_with fail
      refine (within_any P 1 8 _).mono ?_
      rintro e w3 ⟨rfl, rfl⟩
      clear cP
      cases v3 : inB P 1 8
      ·
        have ec : nbC xs W P = 2 := by rw [HC_.out]; simp [v1, v2, v3]
        have er : nbR xs W P = [] := by unfold nbR; rw [ec, if_neg (by omega)]
        have en : nbN xs W P = 0 := by unfold nbN; rw [ec, if_neg (by omega)]
        have ed : nbD xs W P = 0 := by unfold nbD; rw [ec, if_neg (by omega)]
        have EC := Lib.hid ec; have ER := Lib.hid er; have EN := Lib.hid en; have ED := Lib.hid ed
        clear ec er en ed
        obtain ⟨cR0, cR1⟩ := RR.out.cells2
        obtain ⟨fR0, fR1⟩ := RR.out.frozens2
        go_wp2_with fail
        have hB := B.out
        have S1 := (RR.out.set 0 (.int .i64 0)).set 1 (.int .i64 0)
        simp only [List.set_cons_zero, List.set_cons_succ] at S1
        obtain ⟨s0, s1⟩ := S1.cells2
        refine bodyPost_ret (v := .tuple #[.slice none 0 0, .agg #[.int .i64 0, .int .i64 0], .int .i64 2]) (by simp [results, Try.results11, go_sem, s0, s1]) rfl ?_
        rw [EC.out, ER.out, EN.out, ED.out]
        exact ⟨none, 0, rfl, own_nil _ _ _ _, by first | exact hB | exact (hB.setCell (p := ⟨w.heap.size + 1 + 1 + 1, 0, none⟩) (by show w.heap.size ≤ w.heap.size + 1 + 1 + 1; omega) _).setCell (p := ⟨w.heap.size + 1 + 1 + 1, 1, none⟩) (by show w.heap.size ≤ w.heap.size + 1 + 1 + 1; omega) _⟩
      by_cases h6 : n ≤ 6
      rotate_left
      · have h6i : (6 : Int) < (n : Int) := by omega
        have cL := RL.out.cell 0; simp only [List.getElem?_cons_zero] at cL
        have ec : nbC xs W P = 3 := by rw [HC_.out]; simp [v1, v2, v3, HXL.out, h6]
        have er : nbR xs W P = [] := by unfold nbR; rw [ec, if_neg (by omega)]
        have en : nbN xs W P = 0 := by unfold nbN; rw [ec, if_neg (by omega)]
        have ed : nbD xs W P = 0 := by unfold nbD; rw [ec, if_neg (by omega)]
        have EC := Lib.hid ec; have ER := Lib.hid er; have EN := Lib.hid en; have ED := Lib.hid ed
        clear ec er en ed
        obtain ⟨cR0, cR1⟩ := RR.out.cells2
        obtain ⟨fR0, fR1⟩ := RR.out.frozens2
        go_wp2_with fail
        have hB := B.out
        have S1 := (RR.out.set 0 (.int .i64 0)).set 1 (.int .i64 0)
        simp only [List.set_cons_zero, List.set_cons_succ] at S1
        obtain ⟨s0, s1⟩ := S1.cells2
        refine bodyPost_ret (v := .tuple #[.slice none 0 0, .agg #[.int .i64 0, .int .i64 0], .int .i64 3]) (by simp [results, Try.results11, go_sem, s0, s1]) rfl ?_
        rw [EC.out, ER.out, EN.out, ED.out]
        exact ⟨none, 0, rfl, own_nil _ _ _ _, by first | exact hB | exact (hB.setCell (p := ⟨w.heap.size + 1 + 1 + 1, 0, none⟩) (by show w.heap.size ≤ w.heap.size + 1 + 1 + 1; omega) _).setCell (p := ⟨w.heap.size + 1 + 1 + 1, 1, none⟩) (by show w.heap.size ≤ w.heap.size + 1 + 1 + 1; omega) _⟩
      have h6i : ¬ (6 : Int) < (n : Int) := by omega
      have cL := RL.out.cell 0; simp only [List.getElem?_cons_zero] at cL
      go_wp2_with fail
      refine (A3.out _ RH.out).mono ?_
      rintro e w4 ⟨rfl, hb⟩
      replace RL := Lib.hid (RL.out.below hb)
      replace RW := Lib.hid (RW.out.below hb)
      replace RP := Lib.hid (RP.out.below hb)
      replace RR := Lib.hid (RR.out.below hb)
      replace RH := Lib.hid (RH.out.below hb)
      replace B := Lib.hid (below_then B.out B.out.size hb)
      replace hRs := Lib.hid (Nat.le_trans hRs.out hb.size)
      clear hb
      clear cL
      cases v5 : (decide (hsL W ≤ 100) && hvB xs)
      ·
        have ec : nbC xs W P = 3 := by rw [HC_.out]; simp [v1, v2, v3, HXL.out, h6, v5]
        have er : nbR xs W P = [] := by unfold nbR; rw [ec, if_neg (by omega)]
        have en : nbN xs W P = 0 := by unfold nbN; rw [ec, if_neg (by omega)]
        have ed : nbD xs W P = 0 := by unfold nbD; rw [ec, if_neg (by omega)]
        have EC := Lib.hid ec; have ER := Lib.hid er; have EN := Lib.hid en; have ED := Lib.hid ed
        clear ec er en ed
        obtain ⟨cR0, cR1⟩ := RR.out.cells2
        obtain ⟨fR0, fR1⟩ := RR.out.frozens2
        go_wp2_with fail
        have hB := B.out
        have S1 := (RR.out.set 0 (.int .i64 0)).set 1 (.int .i64 0)
        simp only [List.set_cons_zero, List.set_cons_succ] at S1
        obtain ⟨s0, s1⟩ := S1.cells2
        refine bodyPost_ret (v := .tuple #[.slice none 0 0, .agg #[.int .i64 0, .int .i64 0], .int .i64 3]) (by simp [results, Try.results11, go_sem, s0, s1]) rfl ?_
        rw [EC.out, ER.out, EN.out, ED.out]
        exact ⟨none, 0, rfl, own_nil _ _ _ _, by first | exact hB | exact (hB.setCell (p := ⟨w.heap.size + 1 + 1 + 1, 0, none⟩) (by show w.heap.size ≤ w.heap.size + 1 + 1 + 1; omega) _).setCell (p := ⟨w.heap.size + 1 + 1 + 1, 1, none⟩) (by show w.heap.size ≤ w.heap.size + 1 + 1 + 1; omega) _⟩
      by_cases hn0 : n = 0
      · have hz : ((n : Int) == 0) = true := by simp [hn0]
        have cL := RL.out.cell 0; simp only [List.getElem?_cons_zero] at cL
        have ec : nbC xs W P = 6 := by rw [HC_.out]; simp [v1, v2, v3, HXL.out, hn0, v5]
        have er : nbR xs W P = [] := by unfold nbR; rw [ec, if_neg (by omega)]
        have en : nbN xs W P = 0 := by unfold nbN; rw [ec, if_neg (by omega)]
        have ed : nbD xs W P = 0 := by unfold nbD; rw [ec, if_neg (by omega)]
        have EC := Lib.hid ec; have ER := Lib.hid er; have EN := Lib.hid en; have ED := Lib.hid ed
        clear ec er en ed
        obtain ⟨cR0, cR1⟩ := RR.out.cells2
        obtain ⟨fR0, fR1⟩ := RR.out.frozens2
        go_wp2_with fail
        have hB := B.out
        have S1 := (RR.out.set 0 (.int .i64 0)).set 1 (.int .i64 0)
        simp only [List.set_cons_zero, List.set_cons_succ] at S1
        obtain ⟨s0, s1⟩ := S1.cells2
        refine bodyPost_ret (v := .tuple #[.slice none 0 0, .agg #[.int .i64 0, .int .i64 0], .int .i64 6]) (by simp [results, Try.results11, go_sem, s0, s1]) rfl ?_
        rw [EC.out, ER.out, EN.out, ED.out]
        exact ⟨none, 0, rfl, own_nil _ _ _ _, by first | exact hB | exact (hB.setCell (p := ⟨w.heap.size + 1 + 1 + 1, 0, none⟩) (by show w.heap.size ≤ w.heap.size + 1 + 1 + 1; omega) _).setCell (p := ⟨w.heap.size + 1 + 1 + 1, 1, none⟩) (by show w.heap.size ≤ w.heap.size + 1 + 1 + 1; omega) _⟩
      have hz : ((n : Int) == 0) = false := by simp [hn0]
      obtain ⟨z, hz2⟩ : ∃ z, woC (hps W xs) = z := ⟨_, rfl⟩
      rw [hz2] at A4
      have cL := RL.out.cell 0; simp only [List.getElem?_cons_zero] at cL
      go_wp2_with fail
      refine (A4.out _ RH.out).mono ?_
      rintro e w5 ⟨rfl, hb⟩
      replace RL := Lib.hid (RL.out.below hb)
      replace RW := Lib.hid (RW.out.below hb)
      replace RP := Lib.hid (RP.out.below hb)
      replace RR := Lib.hid (RR.out.below hb)
      replace RH := Lib.hid (RH.out.below hb)
      replace B := Lib.hid (below_then B.out B.out.size hb)
      replace hRs := Lib.hid (Nat.le_trans hRs.out hb.size)
      clear hb
      clear cL
      by_cases z0 : z = 0
      rotate_left
      · have zz : (z == 0) = false := by simp [z0]
        have ec : nbC xs W P = 6 := by rw [HC_.out]; simp [v1, v2, v3, HXL.out, hn0, v5, h6, hz2, z0]
        have er : nbR xs W P = [] := by unfold nbR; rw [ec, if_neg (by omega)]
        have en : nbN xs W P = 0 := by unfold nbN; rw [ec, if_neg (by omega)]
        have ed : nbD xs W P = 0 := by unfold nbD; rw [ec, if_neg (by omega)]
        have EC := Lib.hid ec; have ER := Lib.hid er; have EN := Lib.hid en; have ED := Lib.hid ed
        clear ec er en ed
        obtain ⟨cR0, cR1⟩ := RR.out.cells2
        obtain ⟨fR0, fR1⟩ := RR.out.frozens2
        go_wp2_with fail
        have hB := B.out
        have S1 := (RR.out.set 0 (.int .i64 0)).set 1 (.int .i64 0)
        simp only [List.set_cons_zero, List.set_cons_succ] at S1
        obtain ⟨s0, s1⟩ := S1.cells2
        refine bodyPost_ret (v := .tuple #[.slice none 0 0, .agg #[.int .i64 0, .int .i64 0], .int .i64 6]) (by simp [results, Try.results11, go_sem, s0, s1]) rfl ?_
        rw [EC.out, ER.out, EN.out, ED.out]
        exact ⟨none, 0, rfl, own_nil _ _ _ _, by first | exact hB | exact (hB.setCell (p := ⟨w.heap.size + 1 + 1 + 1, 0, none⟩) (by show w.heap.size ≤ w.heap.size + 1 + 1 + 1; omega) _).setCell (p := ⟨w.heap.size + 1 + 1 + 1, 1, none⟩) (by show w.heap.size ≤ w.heap.size + 1 + 1 + 1; omega) _⟩
      subst z0
      have ec : nbC xs W P = 0 := by rw [HC_.out]; simp [v1, v2, v3, HXL.out, hn0, v5, h6, hz2]
      obtain ⟨ho, p1, p2, g1, m1⟩ := nb_ok hF.out HW8.out ec
      obtain ⟨ps, l, hst, hpl, l1, l2⟩ := nb_found hF.out HW8.out ec
      rw [HXL.out] at hpl
      obtain ⟨M, hM⟩ : ∃ M, mulTo xs n = M := ⟨_, rfl⟩
      obtain ⟨G, hG⟩ : ∃ G, hsL W = G := ⟨_, rfl⟩
      have HG := Lib.hid hG
      rw [HXL.out, hM] at ho m1
      rw [hG] at ho g1
      have hcm : P * M * G = M * P * G := by rw [Int.mul_comm P M]
      have er : nbR xs W P = ps := by unfold nbR; rw [ec, if_pos rfl, hst]
      have en : nbN xs W P = frN l (M * P * G) := by unfold nbN nbL; rw [ec, if_pos rfl, hst, HXL.out, hM, hG]; simp only [hcm]
      have ed : nbD xs W P = frD l (M * P * G) := by unfold nbD nbL; rw [ec, if_pos rfl, hst, HXL.out, hM, hG]; simp only [hcm]
      have hst' : nbF (fun ps => offT xs ps M G P W 8) (n - 1) [] P.toNat none = some (ps, l) := by rw [← hst]; unfold nbSt; rw [HXL.out, hM, hG]
      have HST := Lib.hid hst'
      have q1 := mul_bd2 ho.hM.1 ho.hM.2 (show 0 ≤ P by omega) p2
      have q2 := mul_bd2 q1.1 q1.2 ho.hG.1 ho.hG.2
      have q3 : 0 < M * P * G := Int.mul_pos (Int.mul_pos (by omega) (by omega)) (by omega)
      have v1' : IntKind.i64.wrap (M * P) = M * P := IntWalk.i64_in _ (by omega)
      have v2' : IntKind.i64.wrap (M * P * G) = M * P * G := IntWalk.i64_in _ (by omega)
      have HO := Lib.hid ho; have HPL := Lib.hid hpl
      have EC := Lib.hid ec; have ER := Lib.hid er; have EN := Lib.hid en; have ED := Lib.hid ed
      have Q := Lib.hid (show 0 ≤ l ∧ l ≤ 80000000000000000 ∧ 0 ≤ M * P * G ∧ M * P * G ≤ 800000000000000 ∧ 0 < M * P * G from ⟨l1, l2, q2.1, q2.2, q3⟩)
      have hco : ∀ w', Below w.heap.size w w' → Calls Try.prog 40 #[.slice A n c] w' fun e w2 => e = .returned (.int .i64 M) ∧ Below w'.heap.size w' w2 := fun w' hb => by
        have := common_any A n c xs w' (R.below hb) hF (Lib.hid HO.out.hv) (Lib.hid HO.out.nz) h6
        rw [hM] at this
        exact this
      have hal : ∀ w', Calls Try.prog 29 #[.agg #[.int .i32 a0, .int .i32 a1, .int .i32 a2, .int .i32 a3, .int .i32 a4, .int .i32 a5, .int .i32 a6, .int .i32 a7]] w' fun e w2 => e = .returned (.int .i64 G) ∧ Below w'.heap.size w' w2 := fun w' => by
        have := allL a0 a1 a2 a3 a4 a5 a6 a7 w' hw
        rw [HWE.out, hG] at this
        exact this
      have HCO := Lib.hid hco; have HAL := Lib.hid hal
      clear ec er en ed hst hst' q1 q2 q3 ho hpl hM hG hcm hco hal v1 v2 v3 v5 hz hz2 A1 A2 A3 A4 RH HH8 HHW HC_
      have p3 : (P.toNat : Int) = P := by omega
      have hn1 : 1 ≤ n := by omega
      have zz : (0 == (0 : Int)) = true := rfl
      obtain ⟨k0, k1, k2, k3, k4, k5, k6, k7⟩ := RW.out.cells8
      have cL := RL.out.cell 0; simp only [List.getElem?_cons_zero] at cL
      go_wp2_with fail
      clear k0 k1 k2 k3 k4 k5 k6 k7 cL
      go_cut [12, 13] (fun s12 s13 wx => ∃ gy gz : Nat, s12 = .pointer (some ⟨gy, 0, none⟩) ∧ s13 = .pointer (some ⟨gz, 0, none⟩) ∧ w5.heap.size ≤ gy ∧ w5.heap.size ≤ gz ∧ gy ≠ gz ∧ Hid (Row wx gy 2 [.int .i64 M]) ∧ Hid (Row wx gz 2 [.int .i64 G]) ∧ Hid (Below w5.heap.size w5 wx))
      case first =>
        have gH := heap_size
        have hl0 := RL.out.lt; have hl1 := RW.out.lt
        refine wp_region_held_drew (S := fun w' => Row w' w.heap.size 24 [.slice A n c] ∧ Row w' (w.heap.size + 1) 27 [.int .i32 a0, .int .i32 a1, .int .i32 a2, .int .i32 a3, .int .i32 a4, .int .i32 a5, .int .i32 a6, .int .i32 a7]) (by kernel_rfl) ⟨RL.out.drew, RW.out.drew⟩ (fun hH => ?_)
        refine wpAnyH_take (i := 0) (v := .slice A n c) rfl (by kernel_rfl) (by kernel_rfl) (by kernel_rfl) (fun _ _ _ h => h) (Or.inl ⟨by rfl, fun w h => by have hc := h.1.cell 0; simp only [List.getElem?_cons_zero] at hc; go_simp⟩) hH ?_
        try simp only [Act.put, List.getElem_toArray, List.getElem_cons_zero, List.getElem_cons_succ, List.setIfInBounds_toArray, List.set_cons_zero, List.set_cons_succ]
        refine wpAnyH_take (i := 2) rfl (by kernel_rfl) (by kernel_rfl) (by kernel_rfl) (fun _ _ _ h => h) (yieldsIf_load_mid (by rfl) _ _ rfl _ _ rfl [.int .i32 a0, .int .i32 a1, .int .i32 a2, .int .i32 a3, .int .i32 a4, .int .i32 a5, .int .i32 a6, .int .i32 a7] _ (fun w h => h.2.rangeAt) heap_type rfl gH) hH ?_
        try simp only [Act.put, List.getElem_toArray, List.getElem_cons_zero, List.getElem_cons_succ, List.setIfInBounds_toArray, List.set_cons_zero, List.set_cons_succ]
        clear hH
        have Y0 := RL.out.drew; have Y1 := RW.out.drew
        have HB := (Below.refl w5.heap.size w5).drew
        obtain ⟨wd, hwd⟩ : ∃ x, x = World.drew w5 := ⟨_, rfl⟩
        rw [← hwd] at Y0 Y1 HB ⊢
        clear hwd
        refine wpAnyH_ready (rs := [1, 4, 5]) (by kernel_rfl) (by simp) ?_
        refine AllReadyH.cons rfl (fun K hK => ?_) ?_
        · try simp only [List.getElem_toArray, List.getElem_cons_zero, List.getElem_cons_succ]
          rw [if_pos (by rfl)]
          go_simp
          refine (HCO.out _ (below_then B.out B.out.size HB)).mono ?_
          rintro e we ⟨rfl, hb⟩
          refine hK.out _ _ ⟨Y0.below hb, Y1.below hb⟩ (fun _ => ?_)
          clear hK K
          try simp only [Act.put, List.getElem_toArray, List.getElem_cons_zero, List.getElem_cons_succ, List.setIfInBounds_toArray, List.set_cons_zero, List.set_cons_succ]
          replace Y0 := Y0.below hb
          replace Y1 := Y1.below hb
          replace HB := below_then HB HB.size hb
          clear hb
          obtain ⟨wd, hwd⟩ : ∃ x, x = we := ⟨_, rfl⟩
          subst hwd
          refine wpAnyH_ready (rs := [3, 4, 5]) (by kernel_rfl) (by simp) ?_
          refine AllReadyH.cons rfl (fun K hK => ?_) ?_
          · try simp only [List.getElem_toArray, List.getElem_cons_zero, List.getElem_cons_succ]
            rw [if_pos (by rfl)]
            go_simp
            refine (HAL.out _).mono ?_
            rintro e we ⟨rfl, hb⟩
            refine hK.out _ _ ⟨Y0.below hb, Y1.below hb⟩ (fun _ => ?_)
            clear hK K
            try simp only [Act.put, List.getElem_toArray, List.getElem_cons_zero, List.getElem_cons_succ, List.setIfInBounds_toArray, List.set_cons_zero, List.set_cons_succ]
            replace Y0 := Y0.below hb
            replace Y1 := Y1.below hb
            replace HB := below_then HB HB.size hb
            clear hb
            obtain ⟨wd, hwd⟩ : ∃ x, x = we := ⟨_, rfl⟩
            subst hwd
            refine wpAnyH_ready (rs := [4, 5]) (by kernel_rfl) (by simp) ?_
            refine AllReadyH.cons rfl (fun K hK => ?_) ?_
            · try simp only [List.getElem_toArray, List.getElem_cons_zero, List.getElem_cons_succ]
              rw [if_pos (by rfl)]
              go_simp
              refine hK.out _ _ ⟨Y0.below (below_alloc1 _ _), Y1.below (below_alloc1 _ _)⟩ (fun _ => ?_)
              clear hK K
              try simp only [Act.put, List.getElem_toArray, List.getElem_cons_zero, List.getElem_cons_succ, List.setIfInBounds_toArray, List.set_cons_zero, List.set_cons_succ]
              have Zy := Row.alloc wd [.int .i64 0] 2
              have hgy := HB.size
              replace Y0 := Y0.below (below_alloc1 _ (.cells #[.int .i64 0] 2))
              replace Y1 := Y1.below (below_alloc1 _ (.cells #[.int .i64 0] 2))
              replace HB := HB.alloc HB.size (.cells #[.int .i64 0] 2)
              generalize World.alloc wd (.cells #[.int .i64 0] 2) = wz at Y0 Y1 Zy HB ⊢
              generalize wd.heap.size = gy at *
              obtain ⟨wd, hwd⟩ : ∃ x, x = wz := ⟨_, rfl⟩
              subst hwd
              refine wpAnyH_ready (rs := [5]) (by kernel_rfl) (by simp) ?_
              refine AllReadyH.cons rfl (fun K hK => ?_) ?_
              · try simp only [List.getElem_toArray, List.getElem_cons_zero, List.getElem_cons_succ]
                rw [if_pos (by rfl)]
                go_simp
                refine hK.out _ _ ⟨Y0.below (below_alloc1 _ _), Y1.below (below_alloc1 _ _)⟩ (fun _ => ?_)
                clear hK K
                try simp only [Act.put, List.getElem_toArray, List.getElem_cons_zero, List.getElem_cons_succ, List.setIfInBounds_toArray, List.set_cons_zero, List.set_cons_succ]
                have Zz := Row.alloc wd [.int .i64 0] 2
                have hgz := HB.size
                have hne := Zy.lt
                replace Y0 := Y0.below (below_alloc1 _ (.cells #[.int .i64 0] 2))
                replace Y1 := Y1.below (below_alloc1 _ (.cells #[.int .i64 0] 2))
                replace Zy := Zy.below (below_alloc1 _ (.cells #[.int .i64 0] 2))
                replace HB := HB.alloc HB.size (.cells #[.int .i64 0] 2)
                generalize World.alloc wd (.cells #[.int .i64 0] 2) = wz at Y0 Y1 Zy Zz HB ⊢
                generalize wd.heap.size = gz at *
                obtain ⟨wd, hwd⟩ : ∃ x, x = wz := ⟨_, rfl⟩
                subst hwd
                refine wpAnyH_ready (rs := [6]) (by kernel_rfl) (by simp) ?_
                refine AllReadyH.cons rfl (fun K hK => ?_) AllReadyH.nil
                try simp only [List.getElem_toArray, List.getElem_cons_zero, List.getElem_cons_succ]
                rw [if_pos (by rfl)]
                have hc := Zy.cell 0
                simp only [List.getElem?_cons_zero] at hc
                have hf := Zy.frozen 0
                go_simp
                refine hK.out _ _ ⟨Y0.apart (by omega) _ _, Y1.apart (by omega) _ _⟩ (fun _ => ?_)
                clear hK K hc hf
                try simp only [Act.put, List.getElem_toArray, List.getElem_cons_zero, List.getElem_cons_succ, List.setIfInBounds_toArray, List.set_cons_zero, List.set_cons_succ]
                replace Y0 := Y0.apart (C := gy) (by omega) 0 (.int .i64 M)
                replace Y1 := Y1.apart (C := gy) (by omega) 0 (.int .i64 M)
                replace Zz := Zz.apart (C := gy) (by omega) 0 (.int .i64 M)
                replace Zy := Zy.set 0 (.int .i64 M)
                simp only [List.set_cons_zero] at Zy
                replace HB := HB.setCell (p := ⟨gy, 0, none⟩) (by show w5.heap.size ≤ gy; omega) (.int .i64 M)
                generalize World.setCell wd ⟨gy, 0, none⟩ (.int .i64 M) = wx at Y0 Y1 Zy Zz HB ⊢
                obtain ⟨wd, hwd⟩ : ∃ x, x = wx := ⟨_, rfl⟩
                subst hwd
                refine wpAnyH_ready (rs := [7]) (by kernel_rfl) (by simp) ?_
                refine AllReadyH.cons rfl (fun K hK => ?_) AllReadyH.nil
                try simp only [List.getElem_toArray, List.getElem_cons_zero, List.getElem_cons_succ]
                rw [if_pos (by rfl)]
                have hc := Zz.cell 0
                simp only [List.getElem?_cons_zero] at hc
                have hf := Zz.frozen 0
                go_simp
                refine hK.out _ _ ⟨Y0.apart (by omega) _ _, Y1.apart (by omega) _ _⟩ (fun _ => ?_)
                clear hK K hc hf
                try simp only [Act.put, List.getElem_toArray, List.getElem_cons_zero, List.getElem_cons_succ, List.setIfInBounds_toArray, List.set_cons_zero, List.set_cons_succ]
                replace Y0 := Y0.apart (C := gz) (by omega) 0 (.int .i64 G)
                replace Y1 := Y1.apart (C := gz) (by omega) 0 (.int .i64 G)
                replace Zy := Zy.apart (C := gz) (by omega) 0 (.int .i64 G)
                replace Zz := Zz.set 0 (.int .i64 G)
                simp only [List.set_cons_zero] at Zz
                replace HB := HB.setCell (p := ⟨gz, 0, none⟩) (by show w5.heap.size ≤ gz; omega) (.int .i64 G)
                generalize World.setCell wd ⟨gz, 0, none⟩ (.int .i64 G) = wx at Y0 Y1 Zy Zz HB ⊢
                obtain ⟨wd, hwd⟩ : ∃ x, x = wx := ⟨_, rfl⟩
                subst hwd
                refine wpAnyH_done (by kernel_rfl) ?_ _
                go_wp2_with fail
                go_meet
                exact ⟨gy, gz, rfl, rfl, by omega, by omega, by omega, Lib.hid Zy, Lib.hid Zz, Lib.hid HB⟩
              exact AllReadyH.nil
            refine AllReadyH.cons rfl (fun K hK => ?_) ?_
            · try simp only [List.getElem_toArray, List.getElem_cons_zero, List.getElem_cons_succ]
              rw [if_pos (by rfl)]
              go_simp
              refine hK.out _ _ ⟨Y0.below (below_alloc1 _ _), Y1.below (below_alloc1 _ _)⟩ (fun _ => ?_)
              clear hK K
              try simp only [Act.put, List.getElem_toArray, List.getElem_cons_zero, List.getElem_cons_succ, List.setIfInBounds_toArray, List.set_cons_zero, List.set_cons_succ]
              have Zz := Row.alloc wd [.int .i64 0] 2
              have hgz := HB.size
              replace Y0 := Y0.below (below_alloc1 _ (.cells #[.int .i64 0] 2))
              replace Y1 := Y1.below (below_alloc1 _ (.cells #[.int .i64 0] 2))
              replace HB := HB.alloc HB.size (.cells #[.int .i64 0] 2)
              generalize World.alloc wd (.cells #[.int .i64 0] 2) = wz at Y0 Y1 Zz HB ⊢
              generalize wd.heap.size = gz at *
              obtain ⟨wd, hwd⟩ : ∃ x, x = wz := ⟨_, rfl⟩
              subst hwd
              refine wpAnyH_ready (rs := [4]) (by kernel_rfl) (by simp) ?_
              refine AllReadyH.cons rfl (fun K hK => ?_) ?_
              · try simp only [List.getElem_toArray, List.getElem_cons_zero, List.getElem_cons_succ]
                rw [if_pos (by rfl)]
                go_simp
                refine hK.out _ _ ⟨Y0.below (below_alloc1 _ _), Y1.below (below_alloc1 _ _)⟩ (fun _ => ?_)
                clear hK K
                try simp only [Act.put, List.getElem_toArray, List.getElem_cons_zero, List.getElem_cons_succ, List.setIfInBounds_toArray, List.set_cons_zero, List.set_cons_succ]
                have Zy := Row.alloc wd [.int .i64 0] 2
                have hgy := HB.size
                have hne := Zz.lt
                replace Y0 := Y0.below (below_alloc1 _ (.cells #[.int .i64 0] 2))
                replace Y1 := Y1.below (below_alloc1 _ (.cells #[.int .i64 0] 2))
                replace Zz := Zz.below (below_alloc1 _ (.cells #[.int .i64 0] 2))
                replace HB := HB.alloc HB.size (.cells #[.int .i64 0] 2)
                generalize World.alloc wd (.cells #[.int .i64 0] 2) = wz at Y0 Y1 Zz Zy HB ⊢
                generalize wd.heap.size = gy at *
                obtain ⟨wd, hwd⟩ : ∃ x, x = wz := ⟨_, rfl⟩
                subst hwd
                refine wpAnyH_ready (rs := [6]) (by kernel_rfl) (by simp) ?_
                refine AllReadyH.cons rfl (fun K hK => ?_) AllReadyH.nil
                try simp only [List.getElem_toArray, List.getElem_cons_zero, List.getElem_cons_succ]
                rw [if_pos (by rfl)]
                have hc := Zy.cell 0
                simp only [List.getElem?_cons_zero] at hc
                have hf := Zy.frozen 0
                go_simp
                refine hK.out _ _ ⟨Y0.apart (by omega) _ _, Y1.apart (by omega) _ _⟩ (fun _ => ?_)
                clear hK K hc hf
                try simp only [Act.put, List.getElem_toArray, List.getElem_cons_zero, List.getElem_cons_succ, List.setIfInBounds_toArray, List.set_cons_zero, List.set_cons_succ]
                replace Y0 := Y0.apart (C := gy) (by omega) 0 (.int .i64 M)
                replace Y1 := Y1.apart (C := gy) (by omega) 0 (.int .i64 M)
                replace Zz := Zz.apart (C := gy) (by omega) 0 (.int .i64 M)
                replace Zy := Zy.set 0 (.int .i64 M)
                simp only [List.set_cons_zero] at Zy
                replace HB := HB.setCell (p := ⟨gy, 0, none⟩) (by show w5.heap.size ≤ gy; omega) (.int .i64 M)
                generalize World.setCell wd ⟨gy, 0, none⟩ (.int .i64 M) = wx at Y0 Y1 Zy Zz HB ⊢
                obtain ⟨wd, hwd⟩ : ∃ x, x = wx := ⟨_, rfl⟩
                subst hwd
                refine wpAnyH_ready (rs := [7]) (by kernel_rfl) (by simp) ?_
                refine AllReadyH.cons rfl (fun K hK => ?_) AllReadyH.nil
                try simp only [List.getElem_toArray, List.getElem_cons_zero, List.getElem_cons_succ]
                rw [if_pos (by rfl)]
                have hc := Zz.cell 0
                simp only [List.getElem?_cons_zero] at hc
                have hf := Zz.frozen 0
                go_simp
                refine hK.out _ _ ⟨Y0.apart (by omega) _ _, Y1.apart (by omega) _ _⟩ (fun _ => ?_)
                clear hK K hc hf
                try simp only [Act.put, List.getElem_toArray, List.getElem_cons_zero, List.getElem_cons_succ, List.setIfInBounds_toArray, List.set_cons_zero, List.set_cons_succ]
                replace Y0 := Y0.apart (C := gz) (by omega) 0 (.int .i64 G)
                replace Y1 := Y1.apart (C := gz) (by omega) 0 (.int .i64 G)
                replace Zy := Zy.apart (C := gz) (by omega) 0 (.int .i64 G)
                replace Zz := Zz.set 0 (.int .i64 G)
                simp only [List.set_cons_zero] at Zz
                replace HB := HB.setCell (p := ⟨gz, 0, none⟩) (by show w5.heap.size ≤ gz; omega) (.int .i64 G)
                generalize World.setCell wd ⟨gz, 0, none⟩ (.int .i64 G) = wx at Y0 Y1 Zy Zz HB ⊢
                obtain ⟨wd, hwd⟩ : ∃ x, x = wx := ⟨_, rfl⟩
                subst hwd
                refine wpAnyH_done (by kernel_rfl) ?_ _
                go_wp2_with fail
                go_meet
                exact ⟨gy, gz, rfl, rfl, by omega, by omega, by omega, Lib.hid Zy, Lib.hid Zz, Lib.hid HB⟩
              exact AllReadyH.nil
            exact AllReadyH.nil
          refine AllReadyH.cons rfl (fun K hK => ?_) ?_
          · try simp only [List.getElem_toArray, List.getElem_cons_zero, List.getElem_cons_succ]
            rw [if_pos (by rfl)]
            go_simp
            refine hK.out _ _ ⟨Y0.below (below_alloc1 _ _), Y1.below (below_alloc1 _ _)⟩ (fun _ => ?_)
            clear hK K
            try simp only [Act.put, List.getElem_toArray, List.getElem_cons_zero, List.getElem_cons_succ, List.setIfInBounds_toArray, List.set_cons_zero, List.set_cons_succ]
            have Zy := Row.alloc wd [.int .i64 0] 2
            have hgy := HB.size
            replace Y0 := Y0.below (below_alloc1 _ (.cells #[.int .i64 0] 2))
            replace Y1 := Y1.below (below_alloc1 _ (.cells #[.int .i64 0] 2))
            replace HB := HB.alloc HB.size (.cells #[.int .i64 0] 2)
            generalize World.alloc wd (.cells #[.int .i64 0] 2) = wz at Y0 Y1 Zy HB ⊢
            generalize wd.heap.size = gy at *
            obtain ⟨wd, hwd⟩ : ∃ x, x = wz := ⟨_, rfl⟩
            subst hwd
            refine wpAnyH_ready (rs := [3, 5]) (by kernel_rfl) (by simp) ?_
            refine AllReadyH.cons rfl (fun K hK => ?_) ?_
            · try simp only [List.getElem_toArray, List.getElem_cons_zero, List.getElem_cons_succ]
              rw [if_pos (by rfl)]
              go_simp
              refine (HAL.out _).mono ?_
              rintro e we ⟨rfl, hb⟩
              refine hK.out _ _ ⟨Y0.below hb, Y1.below hb⟩ (fun _ => ?_)
              clear hK K
              try simp only [Act.put, List.getElem_toArray, List.getElem_cons_zero, List.getElem_cons_succ, List.setIfInBounds_toArray, List.set_cons_zero, List.set_cons_succ]
              replace Y0 := Y0.below hb
              replace Y1 := Y1.below hb
              replace Zy := Zy.below hb
              replace HB := below_then HB HB.size hb
              clear hb
              obtain ⟨wd, hwd⟩ : ∃ x, x = we := ⟨_, rfl⟩
              subst hwd
              refine wpAnyH_ready (rs := [5]) (by kernel_rfl) (by simp) ?_
              refine AllReadyH.cons rfl (fun K hK => ?_) ?_
              · try simp only [List.getElem_toArray, List.getElem_cons_zero, List.getElem_cons_succ]
                rw [if_pos (by rfl)]
                go_simp
                refine hK.out _ _ ⟨Y0.below (below_alloc1 _ _), Y1.below (below_alloc1 _ _)⟩ (fun _ => ?_)
                clear hK K
                try simp only [Act.put, List.getElem_toArray, List.getElem_cons_zero, List.getElem_cons_succ, List.setIfInBounds_toArray, List.set_cons_zero, List.set_cons_succ]
                have Zz := Row.alloc wd [.int .i64 0] 2
                have hgz := HB.size
                have hne := Zy.lt
                replace Y0 := Y0.below (below_alloc1 _ (.cells #[.int .i64 0] 2))
                replace Y1 := Y1.below (below_alloc1 _ (.cells #[.int .i64 0] 2))
                replace Zy := Zy.below (below_alloc1 _ (.cells #[.int .i64 0] 2))
                replace HB := HB.alloc HB.size (.cells #[.int .i64 0] 2)
                generalize World.alloc wd (.cells #[.int .i64 0] 2) = wz at Y0 Y1 Zy Zz HB ⊢
                generalize wd.heap.size = gz at *
                obtain ⟨wd, hwd⟩ : ∃ x, x = wz := ⟨_, rfl⟩
                subst hwd
                refine wpAnyH_ready (rs := [6]) (by kernel_rfl) (by simp) ?_
                refine AllReadyH.cons rfl (fun K hK => ?_) AllReadyH.nil
                try simp only [List.getElem_toArray, List.getElem_cons_zero, List.getElem_cons_succ]
                rw [if_pos (by rfl)]
                have hc := Zy.cell 0
                simp only [List.getElem?_cons_zero] at hc
                have hf := Zy.frozen 0
                go_simp
                refine hK.out _ _ ⟨Y0.apart (by omega) _ _, Y1.apart (by omega) _ _⟩ (fun _ => ?_)
                clear hK K hc hf
                try simp only [Act.put, List.getElem_toArray, List.getElem_cons_zero, List.getElem_cons_succ, List.setIfInBounds_toArray, List.set_cons_zero, List.set_cons_succ]
                replace Y0 := Y0.apart (C := gy) (by omega) 0 (.int .i64 M)
                replace Y1 := Y1.apart (C := gy) (by omega) 0 (.int .i64 M)
                replace Zz := Zz.apart (C := gy) (by omega) 0 (.int .i64 M)
                replace Zy := Zy.set 0 (.int .i64 M)
                simp only [List.set_cons_zero] at Zy
                replace HB := HB.setCell (p := ⟨gy, 0, none⟩) (by show w5.heap.size ≤ gy; omega) (.int .i64 M)
                generalize World.setCell wd ⟨gy, 0, none⟩ (.int .i64 M) = wx at Y0 Y1 Zy Zz HB ⊢
                obtain ⟨wd, hwd⟩ : ∃ x, x = wx := ⟨_, rfl⟩
                subst hwd
                refine wpAnyH_ready (rs := [7]) (by kernel_rfl) (by simp) ?_
                refine AllReadyH.cons rfl (fun K hK => ?_) AllReadyH.nil
                try simp only [List.getElem_toArray, List.getElem_cons_zero, List.getElem_cons_succ]
                rw [if_pos (by rfl)]
                have hc := Zz.cell 0
                simp only [List.getElem?_cons_zero] at hc
                have hf := Zz.frozen 0
                go_simp
                refine hK.out _ _ ⟨Y0.apart (by omega) _ _, Y1.apart (by omega) _ _⟩ (fun _ => ?_)
                clear hK K hc hf
                try simp only [Act.put, List.getElem_toArray, List.getElem_cons_zero, List.getElem_cons_succ, List.setIfInBounds_toArray, List.set_cons_zero, List.set_cons_succ]
                replace Y0 := Y0.apart (C := gz) (by omega) 0 (.int .i64 G)
                replace Y1 := Y1.apart (C := gz) (by omega) 0 (.int .i64 G)
                replace Zy := Zy.apart (C := gz) (by omega) 0 (.int .i64 G)
                replace Zz := Zz.set 0 (.int .i64 G)
                simp only [List.set_cons_zero] at Zz
                replace HB := HB.setCell (p := ⟨gz, 0, none⟩) (by show w5.heap.size ≤ gz; omega) (.int .i64 G)
                generalize World.setCell wd ⟨gz, 0, none⟩ (.int .i64 G) = wx at Y0 Y1 Zy Zz HB ⊢
                obtain ⟨wd, hwd⟩ : ∃ x, x = wx := ⟨_, rfl⟩
                subst hwd
                refine wpAnyH_done (by kernel_rfl) ?_ _
                go_wp2_with fail
                go_meet
                exact ⟨gy, gz, rfl, rfl, by omega, by omega, by omega, Lib.hid Zy, Lib.hid Zz, Lib.hid HB⟩
              exact AllReadyH.nil
            refine AllReadyH.cons rfl (fun K hK => ?_) ?_
            · try simp only [List.getElem_toArray, List.getElem_cons_zero, List.getElem_cons_succ]
              rw [if_pos (by rfl)]
              go_simp
              refine hK.out _ _ ⟨Y0.below (below_alloc1 _ _), Y1.below (below_alloc1 _ _)⟩ (fun _ => ?_)
              clear hK K
              try simp only [Act.put, List.getElem_toArray, List.getElem_cons_zero, List.getElem_cons_succ, List.setIfInBounds_toArray, List.set_cons_zero, List.set_cons_succ]
              have Zz := Row.alloc wd [.int .i64 0] 2
              have hgz := HB.size
              have hne := Zy.lt
              replace Y0 := Y0.below (below_alloc1 _ (.cells #[.int .i64 0] 2))
              replace Y1 := Y1.below (below_alloc1 _ (.cells #[.int .i64 0] 2))
              replace Zy := Zy.below (below_alloc1 _ (.cells #[.int .i64 0] 2))
              replace HB := HB.alloc HB.size (.cells #[.int .i64 0] 2)
              generalize World.alloc wd (.cells #[.int .i64 0] 2) = wz at Y0 Y1 Zy Zz HB ⊢
              generalize wd.heap.size = gz at *
              obtain ⟨wd, hwd⟩ : ∃ x, x = wz := ⟨_, rfl⟩
              subst hwd
              refine wpAnyH_ready (rs := [3]) (by kernel_rfl) (by simp) ?_
              refine AllReadyH.cons rfl (fun K hK => ?_) ?_
              · try simp only [List.getElem_toArray, List.getElem_cons_zero, List.getElem_cons_succ]
                rw [if_pos (by rfl)]
                go_simp
                refine (HAL.out _).mono ?_
                rintro e we ⟨rfl, hb⟩
                refine hK.out _ _ ⟨Y0.below hb, Y1.below hb⟩ (fun _ => ?_)
                clear hK K
                try simp only [Act.put, List.getElem_toArray, List.getElem_cons_zero, List.getElem_cons_succ, List.setIfInBounds_toArray, List.set_cons_zero, List.set_cons_succ]
                replace Y0 := Y0.below hb
                replace Y1 := Y1.below hb
                replace Zy := Zy.below hb
                replace Zz := Zz.below hb
                replace HB := below_then HB HB.size hb
                clear hb
                obtain ⟨wd, hwd⟩ : ∃ x, x = we := ⟨_, rfl⟩
                subst hwd
                refine wpAnyH_ready (rs := [6]) (by kernel_rfl) (by simp) ?_
                refine AllReadyH.cons rfl (fun K hK => ?_) AllReadyH.nil
                try simp only [List.getElem_toArray, List.getElem_cons_zero, List.getElem_cons_succ]
                rw [if_pos (by rfl)]
                have hc := Zy.cell 0
                simp only [List.getElem?_cons_zero] at hc
                have hf := Zy.frozen 0
                go_simp
                refine hK.out _ _ ⟨Y0.apart (by omega) _ _, Y1.apart (by omega) _ _⟩ (fun _ => ?_)
                clear hK K hc hf
                try simp only [Act.put, List.getElem_toArray, List.getElem_cons_zero, List.getElem_cons_succ, List.setIfInBounds_toArray, List.set_cons_zero, List.set_cons_succ]
                replace Y0 := Y0.apart (C := gy) (by omega) 0 (.int .i64 M)
                replace Y1 := Y1.apart (C := gy) (by omega) 0 (.int .i64 M)
                replace Zz := Zz.apart (C := gy) (by omega) 0 (.int .i64 M)
                replace Zy := Zy.set 0 (.int .i64 M)
                simp only [List.set_cons_zero] at Zy
                replace HB := HB.setCell (p := ⟨gy, 0, none⟩) (by show w5.heap.size ≤ gy; omega) (.int .i64 M)
                generalize World.setCell wd ⟨gy, 0, none⟩ (.int .i64 M) = wx at Y0 Y1 Zy Zz HB ⊢
                obtain ⟨wd, hwd⟩ : ∃ x, x = wx := ⟨_, rfl⟩
                subst hwd
                refine wpAnyH_ready (rs := [7]) (by kernel_rfl) (by simp) ?_
                refine AllReadyH.cons rfl (fun K hK => ?_) AllReadyH.nil
                try simp only [List.getElem_toArray, List.getElem_cons_zero, List.getElem_cons_succ]
                rw [if_pos (by rfl)]
                have hc := Zz.cell 0
                simp only [List.getElem?_cons_zero] at hc
                have hf := Zz.frozen 0
                go_simp
                refine hK.out _ _ ⟨Y0.apart (by omega) _ _, Y1.apart (by omega) _ _⟩ (fun _ => ?_)
                clear hK K hc hf
                try simp only [Act.put, List.getElem_toArray, List.getElem_cons_zero, List.getElem_cons_succ, List.setIfInBounds_toArray, List.set_cons_zero, List.set_cons_succ]
                replace Y0 := Y0.apart (C := gz) (by omega) 0 (.int .i64 G)
                replace Y1 := Y1.apart (C := gz) (by omega) 0 (.int .i64 G)
                replace Zy := Zy.apart (C := gz) (by omega) 0 (.int .i64 G)
                replace Zz := Zz.set 0 (.int .i64 G)
                simp only [List.set_cons_zero] at Zz
                replace HB := HB.setCell (p := ⟨gz, 0, none⟩) (by show w5.heap.size ≤ gz; omega) (.int .i64 G)
                generalize World.setCell wd ⟨gz, 0, none⟩ (.int .i64 G) = wx at Y0 Y1 Zy Zz HB ⊢
                obtain ⟨wd, hwd⟩ : ∃ x, x = wx := ⟨_, rfl⟩
                subst hwd
                refine wpAnyH_done (by kernel_rfl) ?_ _
                go_wp2_with fail
                go_meet
                exact ⟨gy, gz, rfl, rfl, by omega, by omega, by omega, Lib.hid Zy, Lib.hid Zz, Lib.hid HB⟩
              exact AllReadyH.nil
            exact AllReadyH.nil
          refine AllReadyH.cons rfl (fun K hK => ?_) ?_
          · try simp only [List.getElem_toArray, List.getElem_cons_zero, List.getElem_cons_succ]
            rw [if_pos (by rfl)]
            go_simp
            refine hK.out _ _ ⟨Y0.below (below_alloc1 _ _), Y1.below (below_alloc1 _ _)⟩ (fun _ => ?_)
            clear hK K
            try simp only [Act.put, List.getElem_toArray, List.getElem_cons_zero, List.getElem_cons_succ, List.setIfInBounds_toArray, List.set_cons_zero, List.set_cons_succ]
            have Zz := Row.alloc wd [.int .i64 0] 2
            have hgz := HB.size
            replace Y0 := Y0.below (below_alloc1 _ (.cells #[.int .i64 0] 2))
            replace Y1 := Y1.below (below_alloc1 _ (.cells #[.int .i64 0] 2))
            replace HB := HB.alloc HB.size (.cells #[.int .i64 0] 2)
            generalize World.alloc wd (.cells #[.int .i64 0] 2) = wz at Y0 Y1 Zz HB ⊢
            generalize wd.heap.size = gz at *
            obtain ⟨wd, hwd⟩ : ∃ x, x = wz := ⟨_, rfl⟩
            subst hwd
            refine wpAnyH_ready (rs := [3, 4]) (by kernel_rfl) (by simp) ?_
            refine AllReadyH.cons rfl (fun K hK => ?_) ?_
            · try simp only [List.getElem_toArray, List.getElem_cons_zero, List.getElem_cons_succ]
              rw [if_pos (by rfl)]
              go_simp
              refine (HAL.out _).mono ?_
              rintro e we ⟨rfl, hb⟩
              refine hK.out _ _ ⟨Y0.below hb, Y1.below hb⟩ (fun _ => ?_)
              clear hK K
              try simp only [Act.put, List.getElem_toArray, List.getElem_cons_zero, List.getElem_cons_succ, List.setIfInBounds_toArray, List.set_cons_zero, List.set_cons_succ]
              replace Y0 := Y0.below hb
              replace Y1 := Y1.below hb
              replace Zz := Zz.below hb
              replace HB := below_then HB HB.size hb
              clear hb
              obtain ⟨wd, hwd⟩ : ∃ x, x = we := ⟨_, rfl⟩
              subst hwd
              refine wpAnyH_ready (rs := [4]) (by kernel_rfl) (by simp) ?_
              refine AllReadyH.cons rfl (fun K hK => ?_) ?_
              · try simp only [List.getElem_toArray, List.getElem_cons_zero, List.getElem_cons_succ]
                rw [if_pos (by rfl)]
                go_simp
                refine hK.out _ _ ⟨Y0.below (below_alloc1 _ _), Y1.below (below_alloc1 _ _)⟩ (fun _ => ?_)
                clear hK K
                try simp only [Act.put, List.getElem_toArray, List.getElem_cons_zero, List.getElem_cons_succ, List.setIfInBounds_toArray, List.set_cons_zero, List.set_cons_succ]
                have Zy := Row.alloc wd [.int .i64 0] 2
                have hgy := HB.size
                have hne := Zz.lt
                replace Y0 := Y0.below (below_alloc1 _ (.cells #[.int .i64 0] 2))
                replace Y1 := Y1.below (below_alloc1 _ (.cells #[.int .i64 0] 2))
                replace Zz := Zz.below (below_alloc1 _ (.cells #[.int .i64 0] 2))
                replace HB := HB.alloc HB.size (.cells #[.int .i64 0] 2)
                generalize World.alloc wd (.cells #[.int .i64 0] 2) = wz at Y0 Y1 Zz Zy HB ⊢
                generalize wd.heap.size = gy at *
                obtain ⟨wd, hwd⟩ : ∃ x, x = wz := ⟨_, rfl⟩
                subst hwd
                refine wpAnyH_ready (rs := [6]) (by kernel_rfl) (by simp) ?_
                refine AllReadyH.cons rfl (fun K hK => ?_) AllReadyH.nil
                try simp only [List.getElem_toArray, List.getElem_cons_zero, List.getElem_cons_succ]
                rw [if_pos (by rfl)]
                have hc := Zy.cell 0
                simp only [List.getElem?_cons_zero] at hc
                have hf := Zy.frozen 0
                go_simp
                refine hK.out _ _ ⟨Y0.apart (by omega) _ _, Y1.apart (by omega) _ _⟩ (fun _ => ?_)
                clear hK K hc hf
                try simp only [Act.put, List.getElem_toArray, List.getElem_cons_zero, List.getElem_cons_succ, List.setIfInBounds_toArray, List.set_cons_zero, List.set_cons_succ]
                replace Y0 := Y0.apart (C := gy) (by omega) 0 (.int .i64 M)
                replace Y1 := Y1.apart (C := gy) (by omega) 0 (.int .i64 M)
                replace Zz := Zz.apart (C := gy) (by omega) 0 (.int .i64 M)
                replace Zy := Zy.set 0 (.int .i64 M)
                simp only [List.set_cons_zero] at Zy
                replace HB := HB.setCell (p := ⟨gy, 0, none⟩) (by show w5.heap.size ≤ gy; omega) (.int .i64 M)
                generalize World.setCell wd ⟨gy, 0, none⟩ (.int .i64 M) = wx at Y0 Y1 Zy Zz HB ⊢
                obtain ⟨wd, hwd⟩ : ∃ x, x = wx := ⟨_, rfl⟩
                subst hwd
                refine wpAnyH_ready (rs := [7]) (by kernel_rfl) (by simp) ?_
                refine AllReadyH.cons rfl (fun K hK => ?_) AllReadyH.nil
                try simp only [List.getElem_toArray, List.getElem_cons_zero, List.getElem_cons_succ]
                rw [if_pos (by rfl)]
                have hc := Zz.cell 0
                simp only [List.getElem?_cons_zero] at hc
                have hf := Zz.frozen 0
                go_simp
                refine hK.out _ _ ⟨Y0.apart (by omega) _ _, Y1.apart (by omega) _ _⟩ (fun _ => ?_)
                clear hK K hc hf
                try simp only [Act.put, List.getElem_toArray, List.getElem_cons_zero, List.getElem_cons_succ, List.setIfInBounds_toArray, List.set_cons_zero, List.set_cons_succ]
                replace Y0 := Y0.apart (C := gz) (by omega) 0 (.int .i64 G)
                replace Y1 := Y1.apart (C := gz) (by omega) 0 (.int .i64 G)
                replace Zy := Zy.apart (C := gz) (by omega) 0 (.int .i64 G)
                replace Zz := Zz.set 0 (.int .i64 G)
                simp only [List.set_cons_zero] at Zz
                replace HB := HB.setCell (p := ⟨gz, 0, none⟩) (by show w5.heap.size ≤ gz; omega) (.int .i64 G)
                generalize World.setCell wd ⟨gz, 0, none⟩ (.int .i64 G) = wx at Y0 Y1 Zy Zz HB ⊢
                obtain ⟨wd, hwd⟩ : ∃ x, x = wx := ⟨_, rfl⟩
                subst hwd
                refine wpAnyH_done (by kernel_rfl) ?_ _
                go_wp2_with fail
                go_meet
                exact ⟨gy, gz, rfl, rfl, by omega, by omega, by omega, Lib.hid Zy, Lib.hid Zz, Lib.hid HB⟩
              exact AllReadyH.nil
            refine AllReadyH.cons rfl (fun K hK => ?_) ?_
            · try simp only [List.getElem_toArray, List.getElem_cons_zero, List.getElem_cons_succ]
              rw [if_pos (by rfl)]
              go_simp
              refine hK.out _ _ ⟨Y0.below (below_alloc1 _ _), Y1.below (below_alloc1 _ _)⟩ (fun _ => ?_)
              clear hK K
              try simp only [Act.put, List.getElem_toArray, List.getElem_cons_zero, List.getElem_cons_succ, List.setIfInBounds_toArray, List.set_cons_zero, List.set_cons_succ]
              have Zy := Row.alloc wd [.int .i64 0] 2
              have hgy := HB.size
              have hne := Zz.lt
              replace Y0 := Y0.below (below_alloc1 _ (.cells #[.int .i64 0] 2))
              replace Y1 := Y1.below (below_alloc1 _ (.cells #[.int .i64 0] 2))
              replace Zz := Zz.below (below_alloc1 _ (.cells #[.int .i64 0] 2))
              replace HB := HB.alloc HB.size (.cells #[.int .i64 0] 2)
              generalize World.alloc wd (.cells #[.int .i64 0] 2) = wz at Y0 Y1 Zz Zy HB ⊢
              generalize wd.heap.size = gy at *
              obtain ⟨wd, hwd⟩ : ∃ x, x = wz := ⟨_, rfl⟩
              subst hwd
              refine wpAnyH_ready (rs := [3]) (by kernel_rfl) (by simp) ?_
              refine AllReadyH.cons rfl (fun K hK => ?_) ?_
              · try simp only [List.getElem_toArray, List.getElem_cons_zero, List.getElem_cons_succ]
                rw [if_pos (by rfl)]
                go_simp
                refine (HAL.out _).mono ?_
                rintro e we ⟨rfl, hb⟩
                refine hK.out _ _ ⟨Y0.below hb, Y1.below hb⟩ (fun _ => ?_)
                clear hK K
                try simp only [Act.put, List.getElem_toArray, List.getElem_cons_zero, List.getElem_cons_succ, List.setIfInBounds_toArray, List.set_cons_zero, List.set_cons_succ]
                replace Y0 := Y0.below hb
                replace Y1 := Y1.below hb
                replace Zz := Zz.below hb
                replace Zy := Zy.below hb
                replace HB := below_then HB HB.size hb
                clear hb
                obtain ⟨wd, hwd⟩ : ∃ x, x = we := ⟨_, rfl⟩
                subst hwd
                refine wpAnyH_ready (rs := [6]) (by kernel_rfl) (by simp) ?_
                refine AllReadyH.cons rfl (fun K hK => ?_) AllReadyH.nil
                try simp only [List.getElem_toArray, List.getElem_cons_zero, List.getElem_cons_succ]
                rw [if_pos (by rfl)]
                have hc := Zy.cell 0
                simp only [List.getElem?_cons_zero] at hc
                have hf := Zy.frozen 0
                go_simp
                refine hK.out _ _ ⟨Y0.apart (by omega) _ _, Y1.apart (by omega) _ _⟩ (fun _ => ?_)
                clear hK K hc hf
                try simp only [Act.put, List.getElem_toArray, List.getElem_cons_zero, List.getElem_cons_succ, List.setIfInBounds_toArray, List.set_cons_zero, List.set_cons_succ]
                replace Y0 := Y0.apart (C := gy) (by omega) 0 (.int .i64 M)
                replace Y1 := Y1.apart (C := gy) (by omega) 0 (.int .i64 M)
                replace Zz := Zz.apart (C := gy) (by omega) 0 (.int .i64 M)
                replace Zy := Zy.set 0 (.int .i64 M)
                simp only [List.set_cons_zero] at Zy
                replace HB := HB.setCell (p := ⟨gy, 0, none⟩) (by show w5.heap.size ≤ gy; omega) (.int .i64 M)
                generalize World.setCell wd ⟨gy, 0, none⟩ (.int .i64 M) = wx at Y0 Y1 Zy Zz HB ⊢
                obtain ⟨wd, hwd⟩ : ∃ x, x = wx := ⟨_, rfl⟩
                subst hwd
                refine wpAnyH_ready (rs := [7]) (by kernel_rfl) (by simp) ?_
                refine AllReadyH.cons rfl (fun K hK => ?_) AllReadyH.nil
                try simp only [List.getElem_toArray, List.getElem_cons_zero, List.getElem_cons_succ]
                rw [if_pos (by rfl)]
                have hc := Zz.cell 0
                simp only [List.getElem?_cons_zero] at hc
                have hf := Zz.frozen 0
                go_simp
                refine hK.out _ _ ⟨Y0.apart (by omega) _ _, Y1.apart (by omega) _ _⟩ (fun _ => ?_)
                clear hK K hc hf
                try simp only [Act.put, List.getElem_toArray, List.getElem_cons_zero, List.getElem_cons_succ, List.setIfInBounds_toArray, List.set_cons_zero, List.set_cons_succ]
                replace Y0 := Y0.apart (C := gz) (by omega) 0 (.int .i64 G)
                replace Y1 := Y1.apart (C := gz) (by omega) 0 (.int .i64 G)
                replace Zy := Zy.apart (C := gz) (by omega) 0 (.int .i64 G)
                replace Zz := Zz.set 0 (.int .i64 G)
                simp only [List.set_cons_zero] at Zz
                replace HB := HB.setCell (p := ⟨gz, 0, none⟩) (by show w5.heap.size ≤ gz; omega) (.int .i64 G)
                generalize World.setCell wd ⟨gz, 0, none⟩ (.int .i64 G) = wx at Y0 Y1 Zy Zz HB ⊢
                obtain ⟨wd, hwd⟩ : ∃ x, x = wx := ⟨_, rfl⟩
                subst hwd
                refine wpAnyH_done (by kernel_rfl) ?_ _
                go_wp2_with fail
                go_meet
                exact ⟨gy, gz, rfl, rfl, by omega, by omega, by omega, Lib.hid Zy, Lib.hid Zz, Lib.hid HB⟩
              exact AllReadyH.nil
            exact AllReadyH.nil
          exact AllReadyH.nil
        refine AllReadyH.cons rfl (fun K hK => ?_) ?_
        · try simp only [List.getElem_toArray, List.getElem_cons_zero, List.getElem_cons_succ]
          rw [if_pos (by rfl)]
          go_simp
          refine hK.out _ _ ⟨Y0.below (below_alloc1 _ _), Y1.below (below_alloc1 _ _)⟩ (fun _ => ?_)
          clear hK K
          try simp only [Act.put, List.getElem_toArray, List.getElem_cons_zero, List.getElem_cons_succ, List.setIfInBounds_toArray, List.set_cons_zero, List.set_cons_succ]
          have Zy := Row.alloc wd [.int .i64 0] 2
          have hgy := HB.size
          replace Y0 := Y0.below (below_alloc1 _ (.cells #[.int .i64 0] 2))
          replace Y1 := Y1.below (below_alloc1 _ (.cells #[.int .i64 0] 2))
          replace HB := HB.alloc HB.size (.cells #[.int .i64 0] 2)
          generalize World.alloc wd (.cells #[.int .i64 0] 2) = wz at Y0 Y1 Zy HB ⊢
          generalize wd.heap.size = gy at *
          obtain ⟨wd, hwd⟩ : ∃ x, x = wz := ⟨_, rfl⟩
          subst hwd
          refine wpAnyH_ready (rs := [1, 5]) (by kernel_rfl) (by simp) ?_
          refine AllReadyH.cons rfl (fun K hK => ?_) ?_
          · try simp only [List.getElem_toArray, List.getElem_cons_zero, List.getElem_cons_succ]
            rw [if_pos (by rfl)]
            go_simp
            refine (HCO.out _ (below_then B.out B.out.size HB)).mono ?_
            rintro e we ⟨rfl, hb⟩
            refine hK.out _ _ ⟨Y0.below hb, Y1.below hb⟩ (fun _ => ?_)
            clear hK K
            try simp only [Act.put, List.getElem_toArray, List.getElem_cons_zero, List.getElem_cons_succ, List.setIfInBounds_toArray, List.set_cons_zero, List.set_cons_succ]
            replace Y0 := Y0.below hb
            replace Y1 := Y1.below hb
            replace Zy := Zy.below hb
            replace HB := below_then HB HB.size hb
            clear hb
            obtain ⟨wd, hwd⟩ : ∃ x, x = we := ⟨_, rfl⟩
            subst hwd
            refine wpAnyH_ready (rs := [3, 5]) (by kernel_rfl) (by simp) ?_
            refine AllReadyH.cons rfl (fun K hK => ?_) ?_
            · try simp only [List.getElem_toArray, List.getElem_cons_zero, List.getElem_cons_succ]
              rw [if_pos (by rfl)]
              go_simp
              refine (HAL.out _).mono ?_
              rintro e we ⟨rfl, hb⟩
              refine hK.out _ _ ⟨Y0.below hb, Y1.below hb⟩ (fun _ => ?_)
              clear hK K
              try simp only [Act.put, List.getElem_toArray, List.getElem_cons_zero, List.getElem_cons_succ, List.setIfInBounds_toArray, List.set_cons_zero, List.set_cons_succ]
              replace Y0 := Y0.below hb
              replace Y1 := Y1.below hb
              replace Zy := Zy.below hb
              replace HB := below_then HB HB.size hb
              clear hb
              obtain ⟨wd, hwd⟩ : ∃ x, x = we := ⟨_, rfl⟩
              subst hwd
              refine wpAnyH_ready (rs := [5]) (by kernel_rfl) (by simp) ?_
              refine AllReadyH.cons rfl (fun K hK => ?_) ?_
              · try simp only [List.getElem_toArray, List.getElem_cons_zero, List.getElem_cons_succ]
                rw [if_pos (by rfl)]
                go_simp
                refine hK.out _ _ ⟨Y0.below (below_alloc1 _ _), Y1.below (below_alloc1 _ _)⟩ (fun _ => ?_)
                clear hK K
                try simp only [Act.put, List.getElem_toArray, List.getElem_cons_zero, List.getElem_cons_succ, List.setIfInBounds_toArray, List.set_cons_zero, List.set_cons_succ]
                have Zz := Row.alloc wd [.int .i64 0] 2
                have hgz := HB.size
                have hne := Zy.lt
                replace Y0 := Y0.below (below_alloc1 _ (.cells #[.int .i64 0] 2))
                replace Y1 := Y1.below (below_alloc1 _ (.cells #[.int .i64 0] 2))
                replace Zy := Zy.below (below_alloc1 _ (.cells #[.int .i64 0] 2))
                replace HB := HB.alloc HB.size (.cells #[.int .i64 0] 2)
                generalize World.alloc wd (.cells #[.int .i64 0] 2) = wz at Y0 Y1 Zy Zz HB ⊢
                generalize wd.heap.size = gz at *
                obtain ⟨wd, hwd⟩ : ∃ x, x = wz := ⟨_, rfl⟩
                subst hwd
                refine wpAnyH_ready (rs := [6]) (by kernel_rfl) (by simp) ?_
                refine AllReadyH.cons rfl (fun K hK => ?_) AllReadyH.nil
                try simp only [List.getElem_toArray, List.getElem_cons_zero, List.getElem_cons_succ]
                rw [if_pos (by rfl)]
                have hc := Zy.cell 0
                simp only [List.getElem?_cons_zero] at hc
                have hf := Zy.frozen 0
                go_simp
                refine hK.out _ _ ⟨Y0.apart (by omega) _ _, Y1.apart (by omega) _ _⟩ (fun _ => ?_)
                clear hK K hc hf
                try simp only [Act.put, List.getElem_toArray, List.getElem_cons_zero, List.getElem_cons_succ, List.setIfInBounds_toArray, List.set_cons_zero, List.set_cons_succ]
                replace Y0 := Y0.apart (C := gy) (by omega) 0 (.int .i64 M)
                replace Y1 := Y1.apart (C := gy) (by omega) 0 (.int .i64 M)
                replace Zz := Zz.apart (C := gy) (by omega) 0 (.int .i64 M)
                replace Zy := Zy.set 0 (.int .i64 M)
                simp only [List.set_cons_zero] at Zy
                replace HB := HB.setCell (p := ⟨gy, 0, none⟩) (by show w5.heap.size ≤ gy; omega) (.int .i64 M)
                generalize World.setCell wd ⟨gy, 0, none⟩ (.int .i64 M) = wx at Y0 Y1 Zy Zz HB ⊢
                obtain ⟨wd, hwd⟩ : ∃ x, x = wx := ⟨_, rfl⟩
                subst hwd
                refine wpAnyH_ready (rs := [7]) (by kernel_rfl) (by simp) ?_
                refine AllReadyH.cons rfl (fun K hK => ?_) AllReadyH.nil
                try simp only [List.getElem_toArray, List.getElem_cons_zero, List.getElem_cons_succ]
                rw [if_pos (by rfl)]
                have hc := Zz.cell 0
                simp only [List.getElem?_cons_zero] at hc
                have hf := Zz.frozen 0
                go_simp
                refine hK.out _ _ ⟨Y0.apart (by omega) _ _, Y1.apart (by omega) _ _⟩ (fun _ => ?_)
                clear hK K hc hf
                try simp only [Act.put, List.getElem_toArray, List.getElem_cons_zero, List.getElem_cons_succ, List.setIfInBounds_toArray, List.set_cons_zero, List.set_cons_succ]
                replace Y0 := Y0.apart (C := gz) (by omega) 0 (.int .i64 G)
                replace Y1 := Y1.apart (C := gz) (by omega) 0 (.int .i64 G)
                replace Zy := Zy.apart (C := gz) (by omega) 0 (.int .i64 G)
                replace Zz := Zz.set 0 (.int .i64 G)
                simp only [List.set_cons_zero] at Zz
                replace HB := HB.setCell (p := ⟨gz, 0, none⟩) (by show w5.heap.size ≤ gz; omega) (.int .i64 G)
                generalize World.setCell wd ⟨gz, 0, none⟩ (.int .i64 G) = wx at Y0 Y1 Zy Zz HB ⊢
                obtain ⟨wd, hwd⟩ : ∃ x, x = wx := ⟨_, rfl⟩
                subst hwd
                refine wpAnyH_done (by kernel_rfl) ?_ _
                go_wp2_with fail
                go_meet
                exact ⟨gy, gz, rfl, rfl, by omega, by omega, by omega, Lib.hid Zy, Lib.hid Zz, Lib.hid HB⟩
              exact AllReadyH.nil
            refine AllReadyH.cons rfl (fun K hK => ?_) ?_
            · try simp only [List.getElem_toArray, List.getElem_cons_zero, List.getElem_cons_succ]
              rw [if_pos (by rfl)]
              go_simp
              refine hK.out _ _ ⟨Y0.below (below_alloc1 _ _), Y1.below (below_alloc1 _ _)⟩ (fun _ => ?_)
              clear hK K
              try simp only [Act.put, List.getElem_toArray, List.getElem_cons_zero, List.getElem_cons_succ, List.setIfInBounds_toArray, List.set_cons_zero, List.set_cons_succ]
              have Zz := Row.alloc wd [.int .i64 0] 2
              have hgz := HB.size
              have hne := Zy.lt
              replace Y0 := Y0.below (below_alloc1 _ (.cells #[.int .i64 0] 2))
              replace Y1 := Y1.below (below_alloc1 _ (.cells #[.int .i64 0] 2))
              replace Zy := Zy.below (below_alloc1 _ (.cells #[.int .i64 0] 2))
              replace HB := HB.alloc HB.size (.cells #[.int .i64 0] 2)
              generalize World.alloc wd (.cells #[.int .i64 0] 2) = wz at Y0 Y1 Zy Zz HB ⊢
              generalize wd.heap.size = gz at *
              obtain ⟨wd, hwd⟩ : ∃ x, x = wz := ⟨_, rfl⟩
              subst hwd
              refine wpAnyH_ready (rs := [3]) (by kernel_rfl) (by simp) ?_
              refine AllReadyH.cons rfl (fun K hK => ?_) ?_
              · try simp only [List.getElem_toArray, List.getElem_cons_zero, List.getElem_cons_succ]
                rw [if_pos (by rfl)]
                go_simp
                refine (HAL.out _).mono ?_
                rintro e we ⟨rfl, hb⟩
                refine hK.out _ _ ⟨Y0.below hb, Y1.below hb⟩ (fun _ => ?_)
                clear hK K
                try simp only [Act.put, List.getElem_toArray, List.getElem_cons_zero, List.getElem_cons_succ, List.setIfInBounds_toArray, List.set_cons_zero, List.set_cons_succ]
                replace Y0 := Y0.below hb
                replace Y1 := Y1.below hb
                replace Zy := Zy.below hb
                replace Zz := Zz.below hb
                replace HB := below_then HB HB.size hb
                clear hb
                obtain ⟨wd, hwd⟩ : ∃ x, x = we := ⟨_, rfl⟩
                subst hwd
                refine wpAnyH_ready (rs := [6]) (by kernel_rfl) (by simp) ?_
                refine AllReadyH.cons rfl (fun K hK => ?_) AllReadyH.nil
                try simp only [List.getElem_toArray, List.getElem_cons_zero, List.getElem_cons_succ]
                rw [if_pos (by rfl)]
                have hc := Zy.cell 0
                simp only [List.getElem?_cons_zero] at hc
                have hf := Zy.frozen 0
                go_simp
                refine hK.out _ _ ⟨Y0.apart (by omega) _ _, Y1.apart (by omega) _ _⟩ (fun _ => ?_)
                clear hK K hc hf
                try simp only [Act.put, List.getElem_toArray, List.getElem_cons_zero, List.getElem_cons_succ, List.setIfInBounds_toArray, List.set_cons_zero, List.set_cons_succ]
                replace Y0 := Y0.apart (C := gy) (by omega) 0 (.int .i64 M)
                replace Y1 := Y1.apart (C := gy) (by omega) 0 (.int .i64 M)
                replace Zz := Zz.apart (C := gy) (by omega) 0 (.int .i64 M)
                replace Zy := Zy.set 0 (.int .i64 M)
                simp only [List.set_cons_zero] at Zy
                replace HB := HB.setCell (p := ⟨gy, 0, none⟩) (by show w5.heap.size ≤ gy; omega) (.int .i64 M)
                generalize World.setCell wd ⟨gy, 0, none⟩ (.int .i64 M) = wx at Y0 Y1 Zy Zz HB ⊢
                obtain ⟨wd, hwd⟩ : ∃ x, x = wx := ⟨_, rfl⟩
                subst hwd
                refine wpAnyH_ready (rs := [7]) (by kernel_rfl) (by simp) ?_
                refine AllReadyH.cons rfl (fun K hK => ?_) AllReadyH.nil
                try simp only [List.getElem_toArray, List.getElem_cons_zero, List.getElem_cons_succ]
                rw [if_pos (by rfl)]
                have hc := Zz.cell 0
                simp only [List.getElem?_cons_zero] at hc
                have hf := Zz.frozen 0
                go_simp
                refine hK.out _ _ ⟨Y0.apart (by omega) _ _, Y1.apart (by omega) _ _⟩ (fun _ => ?_)
                clear hK K hc hf
                try simp only [Act.put, List.getElem_toArray, List.getElem_cons_zero, List.getElem_cons_succ, List.setIfInBounds_toArray, List.set_cons_zero, List.set_cons_succ]
                replace Y0 := Y0.apart (C := gz) (by omega) 0 (.int .i64 G)
                replace Y1 := Y1.apart (C := gz) (by omega) 0 (.int .i64 G)
                replace Zy := Zy.apart (C := gz) (by omega) 0 (.int .i64 G)
                replace Zz := Zz.set 0 (.int .i64 G)
                simp only [List.set_cons_zero] at Zz
                replace HB := HB.setCell (p := ⟨gz, 0, none⟩) (by show w5.heap.size ≤ gz; omega) (.int .i64 G)
                generalize World.setCell wd ⟨gz, 0, none⟩ (.int .i64 G) = wx at Y0 Y1 Zy Zz HB ⊢
                obtain ⟨wd, hwd⟩ : ∃ x, x = wx := ⟨_, rfl⟩
                subst hwd
                refine wpAnyH_done (by kernel_rfl) ?_ _
                go_wp2_with fail
                go_meet
                exact ⟨gy, gz, rfl, rfl, by omega, by omega, by omega, Lib.hid Zy, Lib.hid Zz, Lib.hid HB⟩
              exact AllReadyH.nil
            exact AllReadyH.nil
          refine AllReadyH.cons rfl (fun K hK => ?_) ?_
          · try simp only [List.getElem_toArray, List.getElem_cons_zero, List.getElem_cons_succ]
            rw [if_pos (by rfl)]
            go_simp
            refine hK.out _ _ ⟨Y0.below (below_alloc1 _ _), Y1.below (below_alloc1 _ _)⟩ (fun _ => ?_)
            clear hK K
            try simp only [Act.put, List.getElem_toArray, List.getElem_cons_zero, List.getElem_cons_succ, List.setIfInBounds_toArray, List.set_cons_zero, List.set_cons_succ]
            have Zz := Row.alloc wd [.int .i64 0] 2
            have hgz := HB.size
            have hne := Zy.lt
            replace Y0 := Y0.below (below_alloc1 _ (.cells #[.int .i64 0] 2))
            replace Y1 := Y1.below (below_alloc1 _ (.cells #[.int .i64 0] 2))
            replace Zy := Zy.below (below_alloc1 _ (.cells #[.int .i64 0] 2))
            replace HB := HB.alloc HB.size (.cells #[.int .i64 0] 2)
            generalize World.alloc wd (.cells #[.int .i64 0] 2) = wz at Y0 Y1 Zy Zz HB ⊢
            generalize wd.heap.size = gz at *
            obtain ⟨wd, hwd⟩ : ∃ x, x = wz := ⟨_, rfl⟩
            subst hwd
            refine wpAnyH_ready (rs := [1]) (by kernel_rfl) (by simp) ?_
            refine AllReadyH.cons rfl (fun K hK => ?_) ?_
            · try simp only [List.getElem_toArray, List.getElem_cons_zero, List.getElem_cons_succ]
              rw [if_pos (by rfl)]
              go_simp
              refine (HCO.out _ (below_then B.out B.out.size HB)).mono ?_
              rintro e we ⟨rfl, hb⟩
              refine hK.out _ _ ⟨Y0.below hb, Y1.below hb⟩ (fun _ => ?_)
              clear hK K
              try simp only [Act.put, List.getElem_toArray, List.getElem_cons_zero, List.getElem_cons_succ, List.setIfInBounds_toArray, List.set_cons_zero, List.set_cons_succ]
              replace Y0 := Y0.below hb
              replace Y1 := Y1.below hb
              replace Zy := Zy.below hb
              replace Zz := Zz.below hb
              replace HB := below_then HB HB.size hb
              clear hb
              obtain ⟨wd, hwd⟩ : ∃ x, x = we := ⟨_, rfl⟩
              subst hwd
              refine wpAnyH_ready (rs := [3]) (by kernel_rfl) (by simp) ?_
              refine AllReadyH.cons rfl (fun K hK => ?_) ?_
              · try simp only [List.getElem_toArray, List.getElem_cons_zero, List.getElem_cons_succ]
                rw [if_pos (by rfl)]
                go_simp
                refine (HAL.out _).mono ?_
                rintro e we ⟨rfl, hb⟩
                refine hK.out _ _ ⟨Y0.below hb, Y1.below hb⟩ (fun _ => ?_)
                clear hK K
                try simp only [Act.put, List.getElem_toArray, List.getElem_cons_zero, List.getElem_cons_succ, List.setIfInBounds_toArray, List.set_cons_zero, List.set_cons_succ]
                replace Y0 := Y0.below hb
                replace Y1 := Y1.below hb
                replace Zy := Zy.below hb
                replace Zz := Zz.below hb
                replace HB := below_then HB HB.size hb
                clear hb
                obtain ⟨wd, hwd⟩ : ∃ x, x = we := ⟨_, rfl⟩
                subst hwd
                refine wpAnyH_ready (rs := [6]) (by kernel_rfl) (by simp) ?_
                refine AllReadyH.cons rfl (fun K hK => ?_) AllReadyH.nil
                try simp only [List.getElem_toArray, List.getElem_cons_zero, List.getElem_cons_succ]
                rw [if_pos (by rfl)]
                have hc := Zy.cell 0
                simp only [List.getElem?_cons_zero] at hc
                have hf := Zy.frozen 0
                go_simp
                refine hK.out _ _ ⟨Y0.apart (by omega) _ _, Y1.apart (by omega) _ _⟩ (fun _ => ?_)
                clear hK K hc hf
                try simp only [Act.put, List.getElem_toArray, List.getElem_cons_zero, List.getElem_cons_succ, List.setIfInBounds_toArray, List.set_cons_zero, List.set_cons_succ]
                replace Y0 := Y0.apart (C := gy) (by omega) 0 (.int .i64 M)
                replace Y1 := Y1.apart (C := gy) (by omega) 0 (.int .i64 M)
                replace Zz := Zz.apart (C := gy) (by omega) 0 (.int .i64 M)
                replace Zy := Zy.set 0 (.int .i64 M)
                simp only [List.set_cons_zero] at Zy
                replace HB := HB.setCell (p := ⟨gy, 0, none⟩) (by show w5.heap.size ≤ gy; omega) (.int .i64 M)
                generalize World.setCell wd ⟨gy, 0, none⟩ (.int .i64 M) = wx at Y0 Y1 Zy Zz HB ⊢
                obtain ⟨wd, hwd⟩ : ∃ x, x = wx := ⟨_, rfl⟩
                subst hwd
                refine wpAnyH_ready (rs := [7]) (by kernel_rfl) (by simp) ?_
                refine AllReadyH.cons rfl (fun K hK => ?_) AllReadyH.nil
                try simp only [List.getElem_toArray, List.getElem_cons_zero, List.getElem_cons_succ]
                rw [if_pos (by rfl)]
                have hc := Zz.cell 0
                simp only [List.getElem?_cons_zero] at hc
                have hf := Zz.frozen 0
                go_simp
                refine hK.out _ _ ⟨Y0.apart (by omega) _ _, Y1.apart (by omega) _ _⟩ (fun _ => ?_)
                clear hK K hc hf
                try simp only [Act.put, List.getElem_toArray, List.getElem_cons_zero, List.getElem_cons_succ, List.setIfInBounds_toArray, List.set_cons_zero, List.set_cons_succ]
                replace Y0 := Y0.apart (C := gz) (by omega) 0 (.int .i64 G)
                replace Y1 := Y1.apart (C := gz) (by omega) 0 (.int .i64 G)
                replace Zy := Zy.apart (C := gz) (by omega) 0 (.int .i64 G)
                replace Zz := Zz.set 0 (.int .i64 G)
                simp only [List.set_cons_zero] at Zz
                replace HB := HB.setCell (p := ⟨gz, 0, none⟩) (by show w5.heap.size ≤ gz; omega) (.int .i64 G)
                generalize World.setCell wd ⟨gz, 0, none⟩ (.int .i64 G) = wx at Y0 Y1 Zy Zz HB ⊢
                obtain ⟨wd, hwd⟩ : ∃ x, x = wx := ⟨_, rfl⟩
                subst hwd
                refine wpAnyH_done (by kernel_rfl) ?_ _
                go_wp2_with fail
                go_meet
                exact ⟨gy, gz, rfl, rfl, by omega, by omega, by omega, Lib.hid Zy, Lib.hid Zz, Lib.hid HB⟩
              exact AllReadyH.nil
            exact AllReadyH.nil
          exact AllReadyH.nil
        refine AllReadyH.cons rfl (fun K hK => ?_) ?_
        · try simp only [List.getElem_toArray, List.getElem_cons_zero, List.getElem_cons_succ]
          rw [if_pos (by rfl)]
          go_simp
          refine hK.out _ _ ⟨Y0.below (below_alloc1 _ _), Y1.below (below_alloc1 _ _)⟩ (fun _ => ?_)
          clear hK K
          try simp only [Act.put, List.getElem_toArray, List.getElem_cons_zero, List.getElem_cons_succ, List.setIfInBounds_toArray, List.set_cons_zero, List.set_cons_succ]
          have Zz := Row.alloc wd [.int .i64 0] 2
          have hgz := HB.size
          replace Y0 := Y0.below (below_alloc1 _ (.cells #[.int .i64 0] 2))
          replace Y1 := Y1.below (below_alloc1 _ (.cells #[.int .i64 0] 2))
          replace HB := HB.alloc HB.size (.cells #[.int .i64 0] 2)
          generalize World.alloc wd (.cells #[.int .i64 0] 2) = wz at Y0 Y1 Zz HB ⊢
          generalize wd.heap.size = gz at *
          obtain ⟨wd, hwd⟩ : ∃ x, x = wz := ⟨_, rfl⟩
          subst hwd
          refine wpAnyH_ready (rs := [1, 4]) (by kernel_rfl) (by simp) ?_
          refine AllReadyH.cons rfl (fun K hK => ?_) ?_
          · try simp only [List.getElem_toArray, List.getElem_cons_zero, List.getElem_cons_succ]
            rw [if_pos (by rfl)]
            go_simp
            refine (HCO.out _ (below_then B.out B.out.size HB)).mono ?_
            rintro e we ⟨rfl, hb⟩
            refine hK.out _ _ ⟨Y0.below hb, Y1.below hb⟩ (fun _ => ?_)
            clear hK K
            try simp only [Act.put, List.getElem_toArray, List.getElem_cons_zero, List.getElem_cons_succ, List.setIfInBounds_toArray, List.set_cons_zero, List.set_cons_succ]
            replace Y0 := Y0.below hb
            replace Y1 := Y1.below hb
            replace Zz := Zz.below hb
            replace HB := below_then HB HB.size hb
            clear hb
            obtain ⟨wd, hwd⟩ : ∃ x, x = we := ⟨_, rfl⟩
            subst hwd
            refine wpAnyH_ready (rs := [3, 4]) (by kernel_rfl) (by simp) ?_
            refine AllReadyH.cons rfl (fun K hK => ?_) ?_
            · try simp only [List.getElem_toArray, List.getElem_cons_zero, List.getElem_cons_succ]
              rw [if_pos (by rfl)]
              go_simp
              refine (HAL.out _).mono ?_
              rintro e we ⟨rfl, hb⟩
              refine hK.out _ _ ⟨Y0.below hb, Y1.below hb⟩ (fun _ => ?_)
              clear hK K
              try simp only [Act.put, List.getElem_toArray, List.getElem_cons_zero, List.getElem_cons_succ, List.setIfInBounds_toArray, List.set_cons_zero, List.set_cons_succ]
              replace Y0 := Y0.below hb
              replace Y1 := Y1.below hb
              replace Zz := Zz.below hb
              replace HB := below_then HB HB.size hb
              clear hb
              obtain ⟨wd, hwd⟩ : ∃ x, x = we := ⟨_, rfl⟩
              subst hwd
              refine wpAnyH_ready (rs := [4]) (by kernel_rfl) (by simp) ?_
              refine AllReadyH.cons rfl (fun K hK => ?_) ?_
              · try simp only [List.getElem_toArray, List.getElem_cons_zero, List.getElem_cons_succ]
                rw [if_pos (by rfl)]
                go_simp
                refine hK.out _ _ ⟨Y0.below (below_alloc1 _ _), Y1.below (below_alloc1 _ _)⟩ (fun _ => ?_)
                clear hK K
                try simp only [Act.put, List.getElem_toArray, List.getElem_cons_zero, List.getElem_cons_succ, List.setIfInBounds_toArray, List.set_cons_zero, List.set_cons_succ]
                have Zy := Row.alloc wd [.int .i64 0] 2
                have hgy := HB.size
                have hne := Zz.lt
                replace Y0 := Y0.below (below_alloc1 _ (.cells #[.int .i64 0] 2))
                replace Y1 := Y1.below (below_alloc1 _ (.cells #[.int .i64 0] 2))
                replace Zz := Zz.below (below_alloc1 _ (.cells #[.int .i64 0] 2))
                replace HB := HB.alloc HB.size (.cells #[.int .i64 0] 2)
                generalize World.alloc wd (.cells #[.int .i64 0] 2) = wz at Y0 Y1 Zz Zy HB ⊢
                generalize wd.heap.size = gy at *
                obtain ⟨wd, hwd⟩ : ∃ x, x = wz := ⟨_, rfl⟩
                subst hwd
                refine wpAnyH_ready (rs := [6]) (by kernel_rfl) (by simp) ?_
                refine AllReadyH.cons rfl (fun K hK => ?_) AllReadyH.nil
                try simp only [List.getElem_toArray, List.getElem_cons_zero, List.getElem_cons_succ]
                rw [if_pos (by rfl)]
                have hc := Zy.cell 0
                simp only [List.getElem?_cons_zero] at hc
                have hf := Zy.frozen 0
                go_simp
                refine hK.out _ _ ⟨Y0.apart (by omega) _ _, Y1.apart (by omega) _ _⟩ (fun _ => ?_)
                clear hK K hc hf
                try simp only [Act.put, List.getElem_toArray, List.getElem_cons_zero, List.getElem_cons_succ, List.setIfInBounds_toArray, List.set_cons_zero, List.set_cons_succ]
                replace Y0 := Y0.apart (C := gy) (by omega) 0 (.int .i64 M)
                replace Y1 := Y1.apart (C := gy) (by omega) 0 (.int .i64 M)
                replace Zz := Zz.apart (C := gy) (by omega) 0 (.int .i64 M)
                replace Zy := Zy.set 0 (.int .i64 M)
                simp only [List.set_cons_zero] at Zy
                replace HB := HB.setCell (p := ⟨gy, 0, none⟩) (by show w5.heap.size ≤ gy; omega) (.int .i64 M)
                generalize World.setCell wd ⟨gy, 0, none⟩ (.int .i64 M) = wx at Y0 Y1 Zy Zz HB ⊢
                obtain ⟨wd, hwd⟩ : ∃ x, x = wx := ⟨_, rfl⟩
                subst hwd
                refine wpAnyH_ready (rs := [7]) (by kernel_rfl) (by simp) ?_
                refine AllReadyH.cons rfl (fun K hK => ?_) AllReadyH.nil
                try simp only [List.getElem_toArray, List.getElem_cons_zero, List.getElem_cons_succ]
                rw [if_pos (by rfl)]
                have hc := Zz.cell 0
                simp only [List.getElem?_cons_zero] at hc
                have hf := Zz.frozen 0
                go_simp
                refine hK.out _ _ ⟨Y0.apart (by omega) _ _, Y1.apart (by omega) _ _⟩ (fun _ => ?_)
                clear hK K hc hf
                try simp only [Act.put, List.getElem_toArray, List.getElem_cons_zero, List.getElem_cons_succ, List.setIfInBounds_toArray, List.set_cons_zero, List.set_cons_succ]
                replace Y0 := Y0.apart (C := gz) (by omega) 0 (.int .i64 G)
                replace Y1 := Y1.apart (C := gz) (by omega) 0 (.int .i64 G)
                replace Zy := Zy.apart (C := gz) (by omega) 0 (.int .i64 G)
                replace Zz := Zz.set 0 (.int .i64 G)
                simp only [List.set_cons_zero] at Zz
                replace HB := HB.setCell (p := ⟨gz, 0, none⟩) (by show w5.heap.size ≤ gz; omega) (.int .i64 G)
                generalize World.setCell wd ⟨gz, 0, none⟩ (.int .i64 G) = wx at Y0 Y1 Zy Zz HB ⊢
                obtain ⟨wd, hwd⟩ : ∃ x, x = wx := ⟨_, rfl⟩
                subst hwd
                refine wpAnyH_done (by kernel_rfl) ?_ _
                go_wp2_with fail
                go_meet
                exact ⟨gy, gz, rfl, rfl, by omega, by omega, by omega, Lib.hid Zy, Lib.hid Zz, Lib.hid HB⟩
              exact AllReadyH.nil
            refine AllReadyH.cons rfl (fun K hK => ?_) ?_
            · try simp only [List.getElem_toArray, List.getElem_cons_zero, List.getElem_cons_succ]
              rw [if_pos (by rfl)]
              go_simp
              refine hK.out _ _ ⟨Y0.below (below_alloc1 _ _), Y1.below (below_alloc1 _ _)⟩ (fun _ => ?_)
              clear hK K
              try simp only [Act.put, List.getElem_toArray, List.getElem_cons_zero, List.getElem_cons_succ, List.setIfInBounds_toArray, List.set_cons_zero, List.set_cons_succ]
              have Zy := Row.alloc wd [.int .i64 0] 2
              have hgy := HB.size
              have hne := Zz.lt
              replace Y0 := Y0.below (below_alloc1 _ (.cells #[.int .i64 0] 2))
              replace Y1 := Y1.below (below_alloc1 _ (.cells #[.int .i64 0] 2))
              replace Zz := Zz.below (below_alloc1 _ (.cells #[.int .i64 0] 2))
              replace HB := HB.alloc HB.size (.cells #[.int .i64 0] 2)
              generalize World.alloc wd (.cells #[.int .i64 0] 2) = wz at Y0 Y1 Zz Zy HB ⊢
              generalize wd.heap.size = gy at *
              obtain ⟨wd, hwd⟩ : ∃ x, x = wz := ⟨_, rfl⟩
              subst hwd
              refine wpAnyH_ready (rs := [3]) (by kernel_rfl) (by simp) ?_
              refine AllReadyH.cons rfl (fun K hK => ?_) ?_
              · try simp only [List.getElem_toArray, List.getElem_cons_zero, List.getElem_cons_succ]
                rw [if_pos (by rfl)]
                go_simp
                refine (HAL.out _).mono ?_
                rintro e we ⟨rfl, hb⟩
                refine hK.out _ _ ⟨Y0.below hb, Y1.below hb⟩ (fun _ => ?_)
                clear hK K
                try simp only [Act.put, List.getElem_toArray, List.getElem_cons_zero, List.getElem_cons_succ, List.setIfInBounds_toArray, List.set_cons_zero, List.set_cons_succ]
                replace Y0 := Y0.below hb
                replace Y1 := Y1.below hb
                replace Zz := Zz.below hb
                replace Zy := Zy.below hb
                replace HB := below_then HB HB.size hb
                clear hb
                obtain ⟨wd, hwd⟩ : ∃ x, x = we := ⟨_, rfl⟩
                subst hwd
                refine wpAnyH_ready (rs := [6]) (by kernel_rfl) (by simp) ?_
                refine AllReadyH.cons rfl (fun K hK => ?_) AllReadyH.nil
                try simp only [List.getElem_toArray, List.getElem_cons_zero, List.getElem_cons_succ]
                rw [if_pos (by rfl)]
                have hc := Zy.cell 0
                simp only [List.getElem?_cons_zero] at hc
                have hf := Zy.frozen 0
                go_simp
                refine hK.out _ _ ⟨Y0.apart (by omega) _ _, Y1.apart (by omega) _ _⟩ (fun _ => ?_)
                clear hK K hc hf
                try simp only [Act.put, List.getElem_toArray, List.getElem_cons_zero, List.getElem_cons_succ, List.setIfInBounds_toArray, List.set_cons_zero, List.set_cons_succ]
                replace Y0 := Y0.apart (C := gy) (by omega) 0 (.int .i64 M)
                replace Y1 := Y1.apart (C := gy) (by omega) 0 (.int .i64 M)
                replace Zz := Zz.apart (C := gy) (by omega) 0 (.int .i64 M)
                replace Zy := Zy.set 0 (.int .i64 M)
                simp only [List.set_cons_zero] at Zy
                replace HB := HB.setCell (p := ⟨gy, 0, none⟩) (by show w5.heap.size ≤ gy; omega) (.int .i64 M)
                generalize World.setCell wd ⟨gy, 0, none⟩ (.int .i64 M) = wx at Y0 Y1 Zy Zz HB ⊢
                obtain ⟨wd, hwd⟩ : ∃ x, x = wx := ⟨_, rfl⟩
                subst hwd
                refine wpAnyH_ready (rs := [7]) (by kernel_rfl) (by simp) ?_
                refine AllReadyH.cons rfl (fun K hK => ?_) AllReadyH.nil
                try simp only [List.getElem_toArray, List.getElem_cons_zero, List.getElem_cons_succ]
                rw [if_pos (by rfl)]
                have hc := Zz.cell 0
                simp only [List.getElem?_cons_zero] at hc
                have hf := Zz.frozen 0
                go_simp
                refine hK.out _ _ ⟨Y0.apart (by omega) _ _, Y1.apart (by omega) _ _⟩ (fun _ => ?_)
                clear hK K hc hf
                try simp only [Act.put, List.getElem_toArray, List.getElem_cons_zero, List.getElem_cons_succ, List.setIfInBounds_toArray, List.set_cons_zero, List.set_cons_succ]
                replace Y0 := Y0.apart (C := gz) (by omega) 0 (.int .i64 G)
                replace Y1 := Y1.apart (C := gz) (by omega) 0 (.int .i64 G)
                replace Zy := Zy.apart (C := gz) (by omega) 0 (.int .i64 G)
                replace Zz := Zz.set 0 (.int .i64 G)
                simp only [List.set_cons_zero] at Zz
                replace HB := HB.setCell (p := ⟨gz, 0, none⟩) (by show w5.heap.size ≤ gz; omega) (.int .i64 G)
                generalize World.setCell wd ⟨gz, 0, none⟩ (.int .i64 G) = wx at Y0 Y1 Zy Zz HB ⊢
                obtain ⟨wd, hwd⟩ : ∃ x, x = wx := ⟨_, rfl⟩
                subst hwd
                refine wpAnyH_done (by kernel_rfl) ?_ _
                go_wp2_with fail
                go_meet
                exact ⟨gy, gz, rfl, rfl, by omega, by omega, by omega, Lib.hid Zy, Lib.hid Zz, Lib.hid HB⟩
              exact AllReadyH.nil
            exact AllReadyH.nil
          refine AllReadyH.cons rfl (fun K hK => ?_) ?_
          · try simp only [List.getElem_toArray, List.getElem_cons_zero, List.getElem_cons_succ]
            rw [if_pos (by rfl)]
            go_simp
            refine hK.out _ _ ⟨Y0.below (below_alloc1 _ _), Y1.below (below_alloc1 _ _)⟩ (fun _ => ?_)
            clear hK K
            try simp only [Act.put, List.getElem_toArray, List.getElem_cons_zero, List.getElem_cons_succ, List.setIfInBounds_toArray, List.set_cons_zero, List.set_cons_succ]
            have Zy := Row.alloc wd [.int .i64 0] 2
            have hgy := HB.size
            have hne := Zz.lt
            replace Y0 := Y0.below (below_alloc1 _ (.cells #[.int .i64 0] 2))
            replace Y1 := Y1.below (below_alloc1 _ (.cells #[.int .i64 0] 2))
            replace Zz := Zz.below (below_alloc1 _ (.cells #[.int .i64 0] 2))
            replace HB := HB.alloc HB.size (.cells #[.int .i64 0] 2)
            generalize World.alloc wd (.cells #[.int .i64 0] 2) = wz at Y0 Y1 Zz Zy HB ⊢
            generalize wd.heap.size = gy at *
            obtain ⟨wd, hwd⟩ : ∃ x, x = wz := ⟨_, rfl⟩
            subst hwd
            refine wpAnyH_ready (rs := [1]) (by kernel_rfl) (by simp) ?_
            refine AllReadyH.cons rfl (fun K hK => ?_) ?_
            · try simp only [List.getElem_toArray, List.getElem_cons_zero, List.getElem_cons_succ]
              rw [if_pos (by rfl)]
              go_simp
              refine (HCO.out _ (below_then B.out B.out.size HB)).mono ?_
              rintro e we ⟨rfl, hb⟩
              refine hK.out _ _ ⟨Y0.below hb, Y1.below hb⟩ (fun _ => ?_)
              clear hK K
              try simp only [Act.put, List.getElem_toArray, List.getElem_cons_zero, List.getElem_cons_succ, List.setIfInBounds_toArray, List.set_cons_zero, List.set_cons_succ]
              replace Y0 := Y0.below hb
              replace Y1 := Y1.below hb
              replace Zz := Zz.below hb
              replace Zy := Zy.below hb
              replace HB := below_then HB HB.size hb
              clear hb
              obtain ⟨wd, hwd⟩ : ∃ x, x = we := ⟨_, rfl⟩
              subst hwd
              refine wpAnyH_ready (rs := [3]) (by kernel_rfl) (by simp) ?_
              refine AllReadyH.cons rfl (fun K hK => ?_) ?_
              · try simp only [List.getElem_toArray, List.getElem_cons_zero, List.getElem_cons_succ]
                rw [if_pos (by rfl)]
                go_simp
                refine (HAL.out _).mono ?_
                rintro e we ⟨rfl, hb⟩
                refine hK.out _ _ ⟨Y0.below hb, Y1.below hb⟩ (fun _ => ?_)
                clear hK K
                try simp only [Act.put, List.getElem_toArray, List.getElem_cons_zero, List.getElem_cons_succ, List.setIfInBounds_toArray, List.set_cons_zero, List.set_cons_succ]
                replace Y0 := Y0.below hb
                replace Y1 := Y1.below hb
                replace Zz := Zz.below hb
                replace Zy := Zy.below hb
                replace HB := below_then HB HB.size hb
                clear hb
                obtain ⟨wd, hwd⟩ : ∃ x, x = we := ⟨_, rfl⟩
                subst hwd
                refine wpAnyH_ready (rs := [6]) (by kernel_rfl) (by simp) ?_
                refine AllReadyH.cons rfl (fun K hK => ?_) AllReadyH.nil
                try simp only [List.getElem_toArray, List.getElem_cons_zero, List.getElem_cons_succ]
                rw [if_pos (by rfl)]
                have hc := Zy.cell 0
                simp only [List.getElem?_cons_zero] at hc
                have hf := Zy.frozen 0
                go_simp
                refine hK.out _ _ ⟨Y0.apart (by omega) _ _, Y1.apart (by omega) _ _⟩ (fun _ => ?_)
                clear hK K hc hf
                try simp only [Act.put, List.getElem_toArray, List.getElem_cons_zero, List.getElem_cons_succ, List.setIfInBounds_toArray, List.set_cons_zero, List.set_cons_succ]
                replace Y0 := Y0.apart (C := gy) (by omega) 0 (.int .i64 M)
                replace Y1 := Y1.apart (C := gy) (by omega) 0 (.int .i64 M)
                replace Zz := Zz.apart (C := gy) (by omega) 0 (.int .i64 M)
                replace Zy := Zy.set 0 (.int .i64 M)
                simp only [List.set_cons_zero] at Zy
                replace HB := HB.setCell (p := ⟨gy, 0, none⟩) (by show w5.heap.size ≤ gy; omega) (.int .i64 M)
                generalize World.setCell wd ⟨gy, 0, none⟩ (.int .i64 M) = wx at Y0 Y1 Zy Zz HB ⊢
                obtain ⟨wd, hwd⟩ : ∃ x, x = wx := ⟨_, rfl⟩
                subst hwd
                refine wpAnyH_ready (rs := [7]) (by kernel_rfl) (by simp) ?_
                refine AllReadyH.cons rfl (fun K hK => ?_) AllReadyH.nil
                try simp only [List.getElem_toArray, List.getElem_cons_zero, List.getElem_cons_succ]
                rw [if_pos (by rfl)]
                have hc := Zz.cell 0
                simp only [List.getElem?_cons_zero] at hc
                have hf := Zz.frozen 0
                go_simp
                refine hK.out _ _ ⟨Y0.apart (by omega) _ _, Y1.apart (by omega) _ _⟩ (fun _ => ?_)
                clear hK K hc hf
                try simp only [Act.put, List.getElem_toArray, List.getElem_cons_zero, List.getElem_cons_succ, List.setIfInBounds_toArray, List.set_cons_zero, List.set_cons_succ]
                replace Y0 := Y0.apart (C := gz) (by omega) 0 (.int .i64 G)
                replace Y1 := Y1.apart (C := gz) (by omega) 0 (.int .i64 G)
                replace Zy := Zy.apart (C := gz) (by omega) 0 (.int .i64 G)
                replace Zz := Zz.set 0 (.int .i64 G)
                simp only [List.set_cons_zero] at Zz
                replace HB := HB.setCell (p := ⟨gz, 0, none⟩) (by show w5.heap.size ≤ gz; omega) (.int .i64 G)
                generalize World.setCell wd ⟨gz, 0, none⟩ (.int .i64 G) = wx at Y0 Y1 Zy Zz HB ⊢
                obtain ⟨wd, hwd⟩ : ∃ x, x = wx := ⟨_, rfl⟩
                subst hwd
                refine wpAnyH_done (by kernel_rfl) ?_ _
                go_wp2_with fail
                go_meet
                exact ⟨gy, gz, rfl, rfl, by omega, by omega, by omega, Lib.hid Zy, Lib.hid Zz, Lib.hid HB⟩
              exact AllReadyH.nil
            exact AllReadyH.nil
          exact AllReadyH.nil
        exact AllReadyH.nil
      case rest =>
        obtain ⟨gy, gz, rfl, rfl, hgy, hgz, hyz, QY, QZ, QB⟩ := hcut
        have hl1 := RL.out.lt; have hl2 := RW.out.lt; have hl3 := RP.out.lt; have hl4 := RR.out.lt
        have hl5 := QY.out.lt; have hl6 := QZ.out.lt; have hq := QB.out.size
        have cRL := RL.out.below QB.out; have cRW := RW.out.below QB.out; have cRP := RP.out.below QB.out; have cRR := RR.out.below QB.out
        have BC := Lib.hid (below_then B.out B.out.size QB.out)
        obtain ⟨V1, hV1⟩ : ∃ x, x = wc.alloc (.cells #[.slice none 0 0] 37) := ⟨_, rfl⟩
        obtain ⟨V2, hV2⟩ : ∃ x, x = V1.alloc (.cells #[.int .i64 0] 2) := ⟨_, rfl⟩
        have t1 : V1.heap.size = wc.heap.size + 1 := by rw [hV1, World.size_alloc]
        have t2 : V2.heap.size = wc.heap.size + 1 + 1 := by rw [hV2, World.size_alloc, t1]
        have d1 : Below wc.heap.size wc V1 := by rw [hV1]; exact below_alloc1 _ _
        have d2 : Below V1.heap.size V1 V2 := by rw [hV2]; exact below_alloc1 _ _
        have d3 := below_then d1 d1.size d2
        have e1 : Row V2 wc.heap.size 37 [.slice none 0 0] := by
          have h := Row.alloc wc [.slice none 0 0] 37
          rw [← hV1] at h
          exact h.below d2
        have e2 : Row V2 (wc.heap.size + 1) 2 [.int .i64 0] := by rw [← t1, hV2]; exact Row.alloc V1 [.int .i64 0] 2
        have hrW : Row wc (w.heap.size + 1) 27 (nums .i32 W) := by rw [← HWE.out]; exact cRW
        have BV := Lib.hid (below_then BC.out BC.out.size d3)
        have hAd : ∀ ad, A = some ad → ad.block < w.heap.size := by
          intro ad hA
          obtain ⟨ad', f, b0, b1, b2, b3, b4, b5, b6, b7, hA', hx, e0, _⟩ := R.fleece hF.out.len (k := 0) (by omega)
          rw [hA] at hA'
          cases hA'
          have := World.block_lt_of_cell? _ _ e0
          have hb : (ad.add (0 * 9)).block = ad.block := by unfold Addr.add; split <;> rfl
          omega
        have bs := B.out.size
        have HO' : Hid (NbOk xs M G (P.toNat : Int) W) := Lib.hid (by rw [p3]; exact HO.out)
        have hsp := splits_any A n c xs W M G P.toNat w.heap.size gy gz (w.heap.size + 1) (w.heap.size + 1 + 1) wc.heap.size (wc.heap.size + 1) V2 HO' hn1 h6 (by omega)
          (Lib.hid ⟨cRL.below d3, QY.out.below d3, QZ.out.below d3, hrW.below d3, (by have := cRP.below d3; rw [p3]; exact this), R.below BV.out⟩)
          (Lib.hid ⟨e1, e2⟩) (by omega)
          (Lib.hid ⟨by
            intro b hb
            rcases hb with hb | hb | hb | hb | hb <;> (subst hb; omega), by
            intro ad hA
            have := hAd ad hA
            omega⟩)
        rw [p3, HST.out] at hsp
        have HSP := Lib.hid hsp
        have H1 := Lib.hid hV1; have H2 := Lib.hid hV2; have T2 := Lib.hid t2
        have CRR := Lib.hid (cRR.below d3); have CRP := Lib.hid (cRP.below d3); have CY := Lib.hid (QY.out.below d3); have CZ := Lib.hid (QZ.out.below d3)
        have cL := (cRL.below d3).cell 0; simp only [List.getElem?_cons_zero] at cL
        have cP := (cRP.below d3).cell 0; simp only [List.getElem?_cons_zero] at cP
        clear hsp hV1 hV2 t1 t2 d1 d2 d3 e1 e2 hrW hAd cRL cRW cRP cRR HCO HAL v1' v2'
        go_upto_region 18 with fail
        rw [← H1.out, ← H2.out]
        go_wp2_with fail
        refine HSP.out.mono ?_
        rintro e wn ⟨rfl, hI, hk⟩
        obtain ⟨ad, cb, n1, n2, O⟩ := hI
        clear cL cP HSP
        have v1' : IntKind.i64.wrap (M * P) = M * P := IntWalk.i64_in _ (by have := HO.out.hM; have := HO.out.hP; have := mul_bd2 HO.out.hM.1 HO.out.hM.2 HO.out.hP.1 HO.out.hP.2; omega)
        have v2' : IntKind.i64.wrap (M * P * G) = M * P * G := IntWalk.i64_in _ (by have := Q.out; omega)
        have T2' := T2.out
        have m1 := hk.row CRR.out (by omega); have m2 := hk.row CRP.out (by omega); have m3 := hk.row CY.out (by omega); have m4 := hk.row CZ.out (by omega)
        have BN : Below w.heap.size w wn := ⟨hk.os.trans BV.out.os, hk.tape.trans BV.out.tape, hk.output.trans BV.out.output, Nat.le_trans BV.out.size hk.size, fun k hk1 => (hk.block k (by omega) (by omega)).trans (BV.out.block k hk1)⟩
        have l0 : wn.cell? ⟨wc.heap.size, 0, none⟩ = some (.slice (some ad) ps.length cb) := n1.cell 0
        have l1' : wn.cell? ⟨wc.heap.size + 1, 0, none⟩ = some (.int .i64 l) := n2.cell 0
        have l2' : wn.cell? ⟨gy, 0, none⟩ = some (.int .i64 M) := m3.cell 0
        have l3 : wn.cell? ⟨gz, 0, none⟩ = some (.int .i64 G) := m4.cell 0
        have l4 : wn.cell? ⟨w.heap.size + 1 + 1, 0, none⟩ = some (.int .i64 P) := m2.cell 0
        obtain ⟨x0, x1⟩ := m1.cells2
        have f0 := m1.frozen 0
        have f1 := m1.frozen 1
        have BNH := Lib.hid BN; have RRH := Lib.hid m1; have OH := Lib.hid (own_lower (b' := w.heap.size + 1 + 1 + 1 + 1) O (by omega))
        have MK := Lib.hid (fun w' => fraction_any l (M * P * G) w' (by unfold Mid; have := Q.out; omega) (by unfold Mid; have := Q.out; omega) (by have := Q.out; omega))
        obtain ⟨fa, hfa⟩ : ∃ y, frN l (M * P * G) = y := ⟨_, rfl⟩
        obtain ⟨fb, hfb⟩ : ∃ y, frD l (M * P * G) = y := ⟨_, rfl⟩
        rw [hfa, hfb] at MK
        rw [hfa] at EN
        rw [hfb] at ED
        clear hfa hfb n1 n2 O hk m1 m2 m3 m4 BN H1 H2 T2 T2' CRR CRP CY CZ HST
        go_wp2_with fail
        go_cut [6, 8] (fun s6 s8 wx => s6 = .slice (some ad) ps.length cb ∧ s8 = .int .i64 0 ∧ Hid (Row wx (w.heap.size + 1 + 1 + 1) 34 [.int .i64 fa, .int .i64 fb]) ∧ Hid (wx.ownsRow w.heap.size 2 1 (.slice (some ad) ps.length cb) ps.length (nums .i64 ps)) ∧ Hid (Below w.heap.size w wx))
        case first =>
          go_region_held3 (fun w' => w'.cell? ⟨wc.heap.size, 0, none⟩ = some (.slice (some ad) ps.length cb) ∧ w'.cell? ⟨wc.heap.size + 1, 0, none⟩ = some (.int .i64 l) ∧ w'.cell? ⟨gy, 0, none⟩ = some (.int .i64 M) ∧ w'.cell? ⟨gz, 0, none⟩ = some (.int .i64 G) ∧ w'.cell? ⟨w.heap.size + 1 + 1, 0, none⟩ = some (.int .i64 P))
            (first | exact ⟨h0, h1, h2, h3, h4⟩ | exact ⟨l0, l1', l2', l3, l4⟩ | (refine ⟨?_, ?_, ?_, ?_, ?_⟩ <;> (rw [World.cell?_setCell_far _ _ _ _ (by simp only [ne_eq]; omega), World.cell?_setCell_far _ _ _ _ (by simp only [ne_eq]; omega)]; assumption)) | go_keep)
            ((go_at_call 28; refine (MK.out _).mono ?_; rintro e w8 ⟨rfl, hb8⟩; have h0 := (hb8.cell (World.block_lt_of_cell? _ _ l0)).trans l0; have h1 := (hb8.cell (World.block_lt_of_cell? _ _ l1')).trans l1'; have h2 := (hb8.cell (World.block_lt_of_cell? _ _ l2')).trans l2'; have h3 := (hb8.cell (World.block_lt_of_cell? _ _ l3)).trans l3; have h4 := (hb8.cell (World.block_lt_of_cell? _ _ l4)).trans l4; have y0 := (hb8.cell (World.block_lt_of_cell? _ _ x0)).trans x0; have y1 := (hb8.cell (World.block_lt_of_cell? _ _ x1)).trans x1; have g0 := (hb8.frozen (p := ⟨w.heap.size + 1 + 1 + 1, 0, none⟩) (World.block_lt_of_cell? _ _ x0)).trans f0; have g1_ := (hb8.frozen (p := ⟨w.heap.size + 1 + 1 + 1, 1, none⟩) (World.block_lt_of_cell? _ _ x1)).trans f1; have B8 := Lib.hid (show Below w.heap.size w w8 from by first | exact below_then BNH.out BNH.out.size hb8 | exact below_then BNH.out.drew BNH.out.drew.size hb8); have R8 := Lib.hid (show Row w8 (w.heap.size + 1 + 1 + 1) 34 [.int .i64 0, .int .i64 0] from by first | exact RRH.out.below hb8 | exact RRH.out.drew.below hb8); have O8 := Lib.hid (show w8.ownsRow (w.heap.size + 1 + 1 + 1 + 1) 2 1 (.slice (some ad) ps.length cb) ps.length (nums .i64 ps) from by first | exact own_below OH.out hb8 | exact own_below OH.out.drew hb8)))
          all_goals (
            have S8 := Lib.hid ((R8.out.set 0 (.int .i64 fa)).set 1 (.int .i64 fb))
            have K8 : Keeps (fun k => k = w.heap.size + 1 + 1 + 1) w8 ((w8.setCell ⟨w.heap.size + 1 + 1 + 1, 0, none⟩ (.int .i64 fa)).setCell ⟨w.heap.size + 1 + 1 + 1, 1, none⟩ (.int .i64 fb)) := ((Keeps.refl (fun k => k = w.heap.size + 1 + 1 + 1) w8).set (w.heap.size + 1 + 1 + 1) 0 (.int .i64 fa) rfl).set (w.heap.size + 1 + 1 + 1) 1 (.int .i64 fb) rfl
            have OX := Lib.hid (own_lower (b' := w.heap.size) (K8.own O8.out (fun k h1 h2 => by omega)) (by omega))
            have BX := Lib.hid ((B8.out.setCell (p := ⟨w.heap.size + 1 + 1 + 1, 0, none⟩) (by show w.heap.size ≤ w.heap.size + 1 + 1 + 1; omega) (.int .i64 fa)).setCell (p := ⟨w.heap.size + 1 + 1 + 1, 1, none⟩) (by show w.heap.size ≤ w.heap.size + 1 + 1 + 1; omega) (.int .i64 fb))
            clear K8
            go_wp2_with fail
            go_meet
            exact ⟨rfl, rfl, (by first | exact S8 | exact Lib.hid S8.out.drew), (by first | exact OX | exact Lib.hid OX.out.drew), (by first | exact BX | exact Lib.hid BX.out.drew)⟩)
        case rest =>
          obtain ⟨rfl, rfl, RX, OX, BX⟩ := hcut
          obtain ⟨s0, s1⟩ := RX.out.cells2
          go_wp2_with fail
          refine bodyPost_ret (v := .tuple #[.slice (some ad) ps.length cb, .agg #[.int .i64 fa, .int .i64 fb], .int .i64 0]) (by simp [results, Try.results11, go_sem, s0, s1]) rfl ?_
          rw [EC.out, ER.out, EN.out, ED.out]
          exact ⟨some ad, cb, rfl, OX.out, BX.out⟩
end Go.Proofs.Ytjbaaomodcgdgaa
