/- Contracts: impl.BlendOf. -/
import Derived.Test.YtjbaaomodcgdgaaU10
import Derived.Deep.AppendLies
namespace Go.Proofs.Ytjbaaomodcgdgaa
open Go.RowKit
set_option linter.unusedVariables false
set_option linter.unusedSimpArgs false
theorem bl_code (xs : List (Int × List Int)) (ps : List Int) : blC xs ps = if flB xs then (if pfB xs ps then (if xs.length ≤ 6 then (if hvB xs then (if nzB xs then 0 else 6) else 3) else 3) else 2) else 1 := by
  unfold blC bdC flC
  cases flB xs
  · simp
  · cases pfB xs ps
    · simp
    · by_cases h6 : xs.length ≤ 6
      · simp [h6]
      · simp [h6]
theorem pf_len {xs : List (Int × List Int)} {ps : List Int} (h : ps.length ≠ xs.length) : pfB xs ps = false := by
  unfold pfB
  rw [decide_eq_false h]
  rfl
theorem pf_all {xs : List (Int × List Int)} {ps : List Int} (h : (ps.all fun x => inB x 0 8) = false) : pfB xs ps = false := by
  unfold pfB prC
  rw [h]
  simp
theorem pf_sum {xs : List (Int × List Int)} {ps : List Int} (h : (ps.all fun x => inB x 0 8) = true) (hs : ps.sum = 0) : pfB xs ps = false := by
  unfold pfB prC
  rw [h]
  simp [hs]
theorem pf_yes {xs : List (Int × List Int)} {ps : List Int} (hl : ps.length = xs.length) (h : (ps.all fun x => inB x 0 8) = true) (hs : 0 < ps.sum) : pfB xs ps = true := by
  unfold pfB prC
  rw [h]
  simp [hl, hs]
theorem idxF8 (z0 z1 z2 z3 z4 z5 z6 z7 : Int) : ∀ k : Nat, k < 8 → ∀ w : World, (Instr.index 71 (.agg #[.int .i64 z0, .int .i64 z1, .int .i64 z2, .int .i64 z3, .int .i64 z4, .int .i64 z5, .int .i64 z6, .int .i64 z7]) (.int .i64 k)).run Try.prog w = .ok (.int .i64 ([z0, z1, z2, z3, z4, z5, z6, z7].getD k 0)) w := by
  intro k hk w
  match k, hk with
  | 0, _ => exact (show (Instr.index 71 (.agg #[.int .i64 z0, .int .i64 z1, .int .i64 z2, .int .i64 z3, .int .i64 z4, .int .i64 z5, .int .i64 z6, .int .i64 z7]) (.int .i64 0)).run Try.prog w = .ok (.int .i64 z0) w from by kernel_rfl)
  | 1, _ => exact (show (Instr.index 71 (.agg #[.int .i64 z0, .int .i64 z1, .int .i64 z2, .int .i64 z3, .int .i64 z4, .int .i64 z5, .int .i64 z6, .int .i64 z7]) (.int .i64 1)).run Try.prog w = .ok (.int .i64 z1) w from by kernel_rfl)
  | 2, _ => exact (show (Instr.index 71 (.agg #[.int .i64 z0, .int .i64 z1, .int .i64 z2, .int .i64 z3, .int .i64 z4, .int .i64 z5, .int .i64 z6, .int .i64 z7]) (.int .i64 2)).run Try.prog w = .ok (.int .i64 z2) w from by kernel_rfl)
  | 3, _ => exact (show (Instr.index 71 (.agg #[.int .i64 z0, .int .i64 z1, .int .i64 z2, .int .i64 z3, .int .i64 z4, .int .i64 z5, .int .i64 z6, .int .i64 z7]) (.int .i64 3)).run Try.prog w = .ok (.int .i64 z3) w from by kernel_rfl)
  | 4, _ => exact (show (Instr.index 71 (.agg #[.int .i64 z0, .int .i64 z1, .int .i64 z2, .int .i64 z3, .int .i64 z4, .int .i64 z5, .int .i64 z6, .int .i64 z7]) (.int .i64 4)).run Try.prog w = .ok (.int .i64 z4) w from by kernel_rfl)
  | 5, _ => exact (show (Instr.index 71 (.agg #[.int .i64 z0, .int .i64 z1, .int .i64 z2, .int .i64 z3, .int .i64 z4, .int .i64 z5, .int .i64 z6, .int .i64 z7]) (.int .i64 5)).run Try.prog w = .ok (.int .i64 z5) w from by kernel_rfl)
  | 6, _ => exact (show (Instr.index 71 (.agg #[.int .i64 z0, .int .i64 z1, .int .i64 z2, .int .i64 z3, .int .i64 z4, .int .i64 z5, .int .i64 z6, .int .i64 z7]) (.int .i64 6)).run Try.prog w = .ok (.int .i64 z6) w from by kernel_rfl)
  | 7, _ => exact (show (Instr.index 71 (.agg #[.int .i64 z0, .int .i64 z1, .int .i64 z2, .int .i64 z3, .int .i64 z4, .int .i64 z5, .int .i64 z6, .int .i64 z7]) (.int .i64 7)).run Try.prog w = .ok (.int .i64 z7) w from by kernel_rfl)
set_option maxHeartbeats 8000000 in
theorem iBlendOf (A : Option Addr) (n c : Nat) (xs : List (Int × List Int)) (B : Option Addr) (m d : Nat) (ps : List Int) (w : World) (R : Rds w A n 9 FlC xs) (hF : Hid (FlOk xs)) (hn : n ≤ 1048576) (R2 : Rds w B m 1 (fun x : Int => [.int .i64 x]) ps) (hm : m ≤ 1048576) :
    Calls Try.prog 18 #[.slice A n c, .slice B m d] w (RetOwnT 34 2 (blR xs ps).length ((blR xs ps).flatMap FrC) [.int .i64 (blC xs ps)] w) := by
  have HXL := Lib.hid R.1
  have HPL := Lib.hid R2.1
  have a1 : ∀ w', Below w.heap.size w w' → Calls Try.prog 34 #[.slice A n c, .func (.func 35) #[] #[]] w' fun e w2 => e = .returned (.bool (flB xs)) ∧ Below w'.heap.size w' w2 := fun w' hb =>
    areAll_F (p := fun x => fleeceOk x.1 x.2) (xs := xs) (k := 35) (enters_of Try.func35 rfl (by decide)) (Lib.hid fun f a0 a1 a2 a3 a4 a5 a6 a7 w' hm => iValidFleece f a0 a1 a2 a3 a4 a5 a6 a7 w' (i8_rng (hF.out _ hm).1) (Lib.hid (hF.out _ hm).2.2)) (Lib.hid hF.out.len) A n c w' (R.below hb)
  have a2 : ∀ w', Below w.heap.size w w' → Calls Try.prog 52 #[.slice B m d, .func (.func 53) #[] #[]] w' fun e w2 => e = .returned (.bool (ps.all fun x => inB x 0 8)) ∧ Below w'.heap.size w' w2 := fun w' hb =>
    areAll_i64 (p := fun x => inB x 0 8) (xs := ps) (k := 53) (enters_of Try.func53 rfl (by decide)) (Lib.hid fun x w' _ => blend1 x w') B m d w' (R2.below hb)
  have a3 : ∀ w', Below w.heap.size w w' → Calls Try.prog 34 #[.slice A n c, .func (.func 55) #[] #[]] w' fun e w2 => e = .returned (.bool (hvB xs)) ∧ Below w'.heap.size w' w2 := fun w' hb =>
    areAll_F (p := fun x => decide (hsL x.2 ≤ 100)) (xs := xs) (k := 55) (enters_of Try.func55 rfl (by decide)) (Lib.hid fun f a0 a1 a2 a3 a4 a5 a6 a7 w' hm => blend2 f a0 a1 a2 a3 a4 a5 a6 a7 w' (Lib.hid (hF.out _ hm).2.2)) (Lib.hid hF.out.len) A n c w' (R.below hb)
  have a4 : ∀ w', Below w.heap.size w w' → Calls Try.prog 34 #[.slice A n c, .func (.func 56) #[] #[]] w' fun e w2 => e = .returned (.bool (nzB xs)) ∧ Below w'.heap.size w' w2 := fun w' hb =>
    areAll_F (p := fun x => decide (0 < hsL x.2)) (xs := xs) (k := 56) (enters_of Try.func56 rfl (by decide)) (Lib.hid fun f a0 a1 a2 a3 a4 a5 a6 a7 w' hm => blend3 f a0 a1 a2 a3 a4 a5 a6 a7 w' (Lib.hid (hF.out _ hm).2.2)) (Lib.hid hF.out.len) A n c w' (R.below hb)
  have A1 := Lib.hid a1; have A2 := Lib.hid a2; have A3 := Lib.hid a3; have A4 := Lib.hid a4
  clear a1 a2 a3 a4
  have HC := Lib.hid (bl_code xs ps)
  have HB0 := Lib.hid (Below.refl w.heap.size w)
  cases v1 : flB xs
  · have V1 := Lib.hid v1
    have ec : blC xs ps = 1 := by rw [HC.out]; simp [v1]
    have er : blR xs ps = [] := by unfold blR; rw [ec]; rfl
    rw [ec, er]
    clear ec er
    go_enter Try.func18, Try.ntmps18
    go_wp2_with fail
    refine (A1.out _ HB0.out).mono ?_
    rintro e w1 ⟨rfl, hb⟩
    rw [V1.out]
    have HB1 := Lib.hid (below_then HB0.out HB0.out.size hb)
    clear hb
    go_wp2_with fail
    go_ret2
    exact ⟨none, 0, rfl, own_nil _ _ _ _, HB1.out⟩
  have V1 := Lib.hid v1
  by_cases hmn : m = n
  rotate_left
  · have hmi : ¬ (m : Int) = (n : Int) := by omega
    have pf := pf_len (xs := xs) (ps := ps) (by rw [HXL.out, HPL.out]; exact hmn)
    have ec : blC xs ps = 2 := by rw [HC.out]; simp [v1, pf]
    have er : blR xs ps = [] := by unfold blR; rw [ec]; rfl
    rw [ec, er]
    clear ec er
    go_enter Try.func18, Try.ntmps18
    go_wp2_with fail
    refine (A1.out _ HB0.out).mono ?_
    rintro e w1 ⟨rfl, hb⟩
    rw [V1.out]
    have HB1 := Lib.hid (below_then HB0.out HB0.out.size hb)
    clear hb
    go_wp2_with fail
    go_ret2
    exact ⟨none, 0, rfl, own_nil _ _ _ _, HB1.out⟩
  subst hmn
  cases v2 : (ps.all fun x => inB x 0 8)
  · have V2 := Lib.hid v2
    have pf := pf_all (xs := xs) v2
    have ec : blC xs ps = 2 := by rw [HC.out]; simp [v1, pf]
    have er : blR xs ps = [] := by unfold blR; rw [ec]; rfl
    rw [ec, er]
    clear ec er
    go_enter Try.func18, Try.ntmps18
    go_wp2_with fail
    refine (A1.out _ HB0.out).mono ?_
    rintro e w1 ⟨rfl, hb⟩
    rw [V1.out]
    have HB1 := Lib.hid (below_then HB0.out HB0.out.size hb)
    clear hb
    go_wp2_with fail
    refine (A2.out _ HB1.out).mono ?_
    rintro e w2 ⟨rfl, hb⟩
    rw [V2.out]
    have HB2 := Lib.hid (below_then HB1.out HB1.out.size hb)
    clear hb
    go_wp2_with fail
    go_ret2
    exact ⟨none, 0, rfl, own_nil _ _ _ _, HB2.out⟩
  have V2 := Lib.hid v2
  have hps : ∀ x ∈ ps, 0 ≤ x ∧ x ≤ 8 := by simpa [inB] using v2
  have hsl := sum_le hps
  rw [HPL.out] at hsl
  have HSB : Hid (SumB ps m) := Lib.hid ⟨HPL.out, fun k hk => by have := sumTo_bound (xs := ps) (M := 8) (by omega) hps k; omega⟩
  obtain ⟨S, hSM⟩ : ∃ S, ps.sum = S := ⟨_, rfl⟩
  rw [hSM] at hsl
  have HSM := Lib.hid hSM
  have HPS := Lib.hid hps
  by_cases hs0 : S = 0
  · have pf := pf_sum (xs := xs) v2 (by rw [hSM, hs0])
    have hz : (S == 0) = true := by simp [hs0]
    have ec : blC xs ps = 2 := by rw [HC.out]; simp [v1, pf]
    have er : blR xs ps = [] := by unfold blR; rw [ec]; rfl
    rw [ec, er]
    clear ec er
    go_enter Try.func18, Try.ntmps18
    go_wp2_with fail
    refine (A1.out _ HB0.out).mono ?_
    rintro e w1 ⟨rfl, hb⟩
    rw [V1.out]
    have HB1 := Lib.hid (below_then HB0.out HB0.out.size hb)
    clear hb
    go_wp2_with fail
    refine (A2.out _ HB1.out).mono ?_
    rintro e w2 ⟨rfl, hb⟩
    rw [V2.out]
    have HB2 := Lib.hid (below_then HB1.out HB1.out.size hb)
    clear hb
    go_wp2_with fail
    refine (sumAll_any B m d ps _ (R2.below HB2.out) HSB.out).mono ?_
    rintro e w_ ⟨rfl, rfl⟩
    rw [HSM.out]
    go_wp2_with fail
    go_ret2
    exact ⟨none, 0, rfl, own_nil _ _ _ _, HB2.out⟩
  have hs1 : 0 < S := by omega
  have pf := pf_yes (xs := xs) (ps := ps) (by rw [HXL.out, HPL.out]) v2 (by rw [hSM]; exact hs1)
  have hz : (S == 0) = false := by simpa using hs0
  by_cases h6 : m ≤ 6
  rotate_left
  · have h6x : ¬ xs.length ≤ 6 := by rw [HXL.out]; exact h6
    have h6i : (6 : Int) < (m : Int) := by omega
    have ec : blC xs ps = 3 := by rw [HC.out]; simp [v1, pf, h6x]
    have er : blR xs ps = [] := by unfold blR; rw [ec]; rfl
    rw [ec, er]
    clear ec er
    go_enter Try.func18, Try.ntmps18
    go_wp2_with fail
    refine (A1.out _ HB0.out).mono ?_
    rintro e w1 ⟨rfl, hb⟩
    rw [V1.out]
    have HB1 := Lib.hid (below_then HB0.out HB0.out.size hb)
    clear hb
    go_wp2_with fail
    refine (A2.out _ HB1.out).mono ?_
    rintro e w2 ⟨rfl, hb⟩
    rw [V2.out]
    have HB2 := Lib.hid (below_then HB1.out HB1.out.size hb)
    clear hb
    go_wp2_with fail
    refine (sumAll_any B m d ps _ (R2.below HB2.out) HSB.out).mono ?_
    rintro e w_ ⟨rfl, rfl⟩
    rw [HSM.out]
    go_wp2_with fail
    go_ret2
    exact ⟨none, 0, rfl, own_nil _ _ _ _, HB2.out⟩
  have h6x : xs.length ≤ 6 := by rw [HXL.out]; exact h6
  have h6i : ¬ (6 : Int) < (m : Int) := by omega
  cases v3 : hvB xs
  · have V3 := Lib.hid v3
    have ec : blC xs ps = 3 := by rw [HC.out]; simp [v1, pf, h6x, v3]
    have er : blR xs ps = [] := by unfold blR; rw [ec]; rfl
    rw [ec, er]
    clear ec er
    go_enter Try.func18, Try.ntmps18
    go_wp2_with fail
    refine (A1.out _ HB0.out).mono ?_
    rintro e w1 ⟨rfl, hb⟩
    rw [V1.out]
    have HB1 := Lib.hid (below_then HB0.out HB0.out.size hb)
    clear hb
    go_wp2_with fail
    refine (A2.out _ HB1.out).mono ?_
    rintro e w2 ⟨rfl, hb⟩
    rw [V2.out]
    have HB2 := Lib.hid (below_then HB1.out HB1.out.size hb)
    clear hb
    go_wp2_with fail
    refine (sumAll_any B m d ps _ (R2.below HB2.out) HSB.out).mono ?_
    rintro e w_ ⟨rfl, rfl⟩
    rw [HSM.out]
    go_wp2_with fail
    refine (A3.out _ HB2.out).mono ?_
    rintro e w3 ⟨rfl, hb⟩
    rw [V3.out]
    have HB3 := Lib.hid (below_then HB2.out HB2.out.size hb)
    clear hb
    go_wp2_with fail
    go_ret2
    exact ⟨none, 0, rfl, own_nil _ _ _ _, HB3.out⟩
  have V3 := Lib.hid v3
  cases v4 : nzB xs
  · have V4 := Lib.hid v4
    have ec : blC xs ps = 6 := by rw [HC.out]; simp [v1, pf, h6x, v3, v4]
    have er : blR xs ps = [] := by unfold blR; rw [ec]; rfl
    rw [ec, er]
    clear ec er
    go_enter Try.func18, Try.ntmps18
    go_wp2_with fail
    refine (A1.out _ HB0.out).mono ?_
    rintro e w1 ⟨rfl, hb⟩
    rw [V1.out]
    have HB1 := Lib.hid (below_then HB0.out HB0.out.size hb)
    clear hb
    go_wp2_with fail
    refine (A2.out _ HB1.out).mono ?_
    rintro e w2 ⟨rfl, hb⟩
    rw [V2.out]
    have HB2 := Lib.hid (below_then HB1.out HB1.out.size hb)
    clear hb
    go_wp2_with fail
    refine (sumAll_any B m d ps _ (R2.below HB2.out) HSB.out).mono ?_
    rintro e w_ ⟨rfl, rfl⟩
    rw [HSM.out]
    go_wp2_with fail
    refine (A3.out _ HB2.out).mono ?_
    rintro e w3 ⟨rfl, hb⟩
    rw [V3.out]
    have HB3 := Lib.hid (below_then HB2.out HB2.out.size hb)
    clear hb
    go_wp2_with fail
    refine (A4.out _ HB3.out).mono ?_
    rintro e w4 ⟨rfl, hb⟩
    rw [V4.out]
    have HB4 := Lib.hid (below_then HB3.out HB3.out.size hb)
    clear hb
    go_wp2_with fail
    go_ret2
    exact ⟨none, 0, rfl, own_nil _ _ _ _, HB4.out⟩
  have V4 := Lib.hid v4
  have ec : blC xs ps = 0 := by rw [HC.out]; simp [v1, pf, h6x, v3, v4]
  have er : blR xs ps = blTo xs ps m 8 := by unfold blR; rw [ec, if_pos rfl, HXL.out]
  rw [ec, er, blTo_len]
  clear ec er pf h6x v1 v2 v3 v4 hps hSM
  have H4 : Hid (∀ k, 0 ≤ gd ps k ∧ gd ps k ≤ 8) := Lib.hid (gd_ps HPS.out)
  have hmu := mul_all V3.out V4.out h6
  obtain ⟨M, hMM⟩ : ∃ M, mulTo xs m = M := ⟨_, rfl⟩
  rw [hMM] at hmu
  have HMM := Lib.hid hMM; clear hMM
  have hq := mul_bd2 hsl.1 (show S ≤ 48 by omega) (show 0 ≤ M by omega) hmu.2
  have hq0 : 0 < S * M := Int.mul_pos hs1 (by omega)
  rw [Int.mul_comm] at hq hq0
  have vv : IntKind.i64.wrap (M * S) = M * S := IntWalk.i64_in _ (by omega)
  go_enter Try.func18, Try.ntmps18
  go_wp2_with fail
  refine (A1.out _ HB0.out).mono ?_
  rintro e w1 ⟨rfl, hb⟩
  rw [V1.out]
  have HB1 := Lib.hid (below_then HB0.out HB0.out.size hb)
  clear hb
  go_wp2_with fail
  refine (A2.out _ HB1.out).mono ?_
  rintro e w2 ⟨rfl, hb⟩
  rw [V2.out]
  have HB2 := Lib.hid (below_then HB1.out HB1.out.size hb)
  clear hb
  go_wp2_with fail
  refine (sumAll_any B m d ps _ (R2.below HB2.out) HSB.out).mono ?_
  rintro e w_ ⟨rfl, rfl⟩
  rw [HSM.out]
  go_wp2_with fail
  refine (A3.out _ HB2.out).mono ?_
  rintro e w3 ⟨rfl, hb⟩
  rw [V3.out]
  have HB3 := Lib.hid (below_then HB2.out HB2.out.size hb)
  clear hb
  go_wp2_with fail
  refine (A4.out _ HB3.out).mono ?_
  rintro e w4 ⟨rfl, hb⟩
  rw [V4.out]
  have HB4 := Lib.hid (below_then HB3.out HB3.out.size hb)
  clear hb
  go_wp2_with fail
  refine (common_any A m c xs _ (R.below HB4.out) hF V3 V4 h6).mono ?_
  rintro e w5 ⟨rfl, hb⟩
  rw [HMM.out]
  have HB5 := Lib.hid (below_then HB4.out HB4.out.size hb)
  clear hb
  go_wp2_with fail
  refine (blended_any A B m c d xs ps M _ (R.below HB5.out) hF (R2.below HB5.out) V1 V3 V4 h6 H4 (by omega)).mono ?_
  rintro e w6 ⟨rfl, hb⟩
  have HB6 := Lib.hid (below_then HB5.out HB5.out.size hb)
  clear hb
  obtain ⟨z0, hz0⟩ : ∃ z, shaTo xs ps M 0 m = z := ⟨_, rfl⟩
  have HZ0 := Lib.hid hz0
  rw [hz0]
  clear hz0
  obtain ⟨z1, hz1⟩ : ∃ z, shaTo xs ps M 1 m = z := ⟨_, rfl⟩
  have HZ1 := Lib.hid hz1
  rw [hz1]
  clear hz1
  obtain ⟨z2, hz2⟩ : ∃ z, shaTo xs ps M 2 m = z := ⟨_, rfl⟩
  have HZ2 := Lib.hid hz2
  rw [hz2]
  clear hz2
  obtain ⟨z3, hz3⟩ : ∃ z, shaTo xs ps M 3 m = z := ⟨_, rfl⟩
  have HZ3 := Lib.hid hz3
  rw [hz3]
  clear hz3
  obtain ⟨z4, hz4⟩ : ∃ z, shaTo xs ps M 4 m = z := ⟨_, rfl⟩
  have HZ4 := Lib.hid hz4
  rw [hz4]
  clear hz4
  obtain ⟨z5, hz5⟩ : ∃ z, shaTo xs ps M 5 m = z := ⟨_, rfl⟩
  have HZ5 := Lib.hid hz5
  rw [hz5]
  clear hz5
  obtain ⟨z6, hz6⟩ : ∃ z, shaTo xs ps M 6 m = z := ⟨_, rfl⟩
  have HZ6 := Lib.hid hz6
  rw [hz6]
  clear hz6
  obtain ⟨z7, hz7⟩ : ∃ z, shaTo xs ps M 7 m = z := ⟨_, rfl⟩
  have HZ7 := Lib.hid hz7
  rw [hz7]
  clear hz7
  have IX := Lib.hid (idxF8 z0 z1 z2 z3 z4 z5 z6 z7)
  have hzs : ∀ k, k < 8 → shaTo xs ps M k m = [z0, z1, z2, z3, z4, z5, z6, z7].getD k 0 := by
    intro k hk
    have h8 : k = 0 ∨ k = 1 ∨ k = 2 ∨ k = 3 ∨ k = 4 ∨ k = 5 ∨ k = 6 ∨ k = 7 := by omega
    rcases h8 with rfl | rfl | rfl | rfl | rfl | rfl | rfl | rfl
    · exact HZ0.out
    · exact HZ1.out
    · exact HZ2.out
    · exact HZ3.out
    · exact HZ4.out
    · exact HZ5.out
    · exact HZ6.out
    · exact HZ7.out
  have HZS := Lib.hid hzs; clear hzs
  go_wp2_with fail
  go_loopw [7, 49] (fun s v wr => ∃ (k : Nat) (A' : Option Addr) (c' : Nat), k ≤ 8 ∧ v = .int .i64 k ∧ s = .slice A' k c' ∧ wr.ownsRow w.heap.size 34 2 (.slice A' k c') k ((blTo xs ps m k).flatMap FrC) ∧ Hid (Below w.heap.size w wr)) (fun _ v _ => 8 - (intOf v).toNat)
  case atStart => exact ⟨0, _, _, by omega, rfl, rfl, own_nil _ _ _ _, HB6⟩
  case round =>
    obtain ⟨k, A', c', hk, rfl, rfl, O, hB⟩ := hrel
    by_cases hlt : k < 8
    · have hk1 : (k : Int) < 8 := by omega
      have ix := IX.out k hlt
      have hsb := shaTo_bd V1.out (gA_bd V3.out V4.out) H4.out (M := M) (by omega) k m
      have hsnoc := bl_snoc xs ps m k rfl rfl
      rw [HMM.out, HSM.out, Int.mul_comm S M] at hsnoc
      rw [HZS.out k hlt] at hsb hsnoc
      obtain ⟨z, hz⟩ : ∃ z, ([z0, z1, z2, z3, z4, z5, z6, z7] : List Int).getD k 0 = z := ⟨_, rfl⟩
      rw [hz] at hsb hsnoc ix
      clear hz
      obtain ⟨fa, hfa⟩ : ∃ y, frN z (M * S) = y := ⟨_, rfl⟩
      obtain ⟨fb, hfb⟩ : ∃ y, frD z (M * S) = y := ⟨_, rfl⟩
      rw [hfa, hfb] at hsnoc
      have HS := Lib.hid hsnoc; have HFA := Lib.hid hfa; have HFB := Lib.hid hfb
      clear hsnoc hfa hfb
      go_wp2_with fail
      refine (sumAll_any B m d ps _ (R2.below hB.out) HSB.out).mono ?_
      rintro e w_ ⟨rfl, rfl⟩
      rw [HSM.out]
      go_wp2_with fail
      refine (fraction_any z (M * S) _ (by unfold Mid; omega) (by unfold Mid; omega) (by omega)).mono ?_
      rintro e w8 ⟨rfl, hb8⟩
      rw [HFA.out, HFB.out]
      replace O := own_below O hb8
      have hB8 := below_then hB.out hB.out.size hb8
      have hB9 := hB8.size
      clear hb8 ix
      go_wp2_with ((at_builtin; refine app_any (w0 := w) w.heap.size (by rfl) _ _ 30 34 (.agg #[.int .i64 0, .int .i64 0]) 2 16 (by rfl) Try.underlying30 info_frac2 rfl (by omega) (by omega) _ (by rfl) 1 1 [.int .i64 fa, .int .i64 fb] (by rfl) (by rfl) (by simp [Value.oneCell']) O hB8 hB9 (by omega) ?_; intro A2 c2 w9 O2 HBn hg2))
      rw [HS.out] at O2
      go_wp2_with fail
      go_roundw
      case rel => exact ⟨k + 1, A2, c2, by omega, by go_num, rfl, O2, Lib.hid HBn⟩
      case measure => simp [intOf]; omega
    · have hk1 : ¬ (k : Int) < 8 := by omega
      obtain rfl : k = 8 := by omega
      go_wp2_with fail
      go_ret2
      exact ⟨A', c', by rfl, O, hB.out⟩
end Go.Proofs.Ytjbaaomodcgdgaa
