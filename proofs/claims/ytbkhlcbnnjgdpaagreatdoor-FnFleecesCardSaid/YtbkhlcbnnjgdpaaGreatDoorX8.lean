/- The walk of FnFleeces, from the mean on. -/
import Derived.Test.YtbkhlcbnnjgdpaaGreatDoorX7
import Derived.Test.YtbkhlcbnnjgdpaaGreatDoorR2
import Derived.Test.YtbkhlcbnnjgdpaaGreatDoorR3
import Derived.BigQuiet
import Derived.Deep.QuietTactic
import Derived.Deep.DeepCutAuto
import Derived.Deep.MidRow
import Derived.IntWalk
namespace Go.Proofs.YtbkhlcbnnjgdpaaGreatDoor
open Go.RowKit
set_option linter.unusedVariables false
set_option linter.unusedSimpArgs false
set_option maxRecDepth 100000 in
set_option maxHeartbeats 8000000 in
theorem fl47 (w0 w : World) {n cx : Nat} {Ax : Option Addr} {xs : List (Int × List Int)} (HL : Hid (∀ x ∈ xs, FlD x)) (hn4 : n ≤ 4) (RF : Hid (Rds w Ax n 9 FlC xs)) {bh : Nat} {a0 a1 a2 a3 a4 a5 a6 a7 A : Int} (HH : Hid (Hp [a0, a1, a2, a3, a4, a5, a6, a7])) (X5 : Hid (Row w bh 25 [.int .i32 a0, .int .i32 a1, .int .i32 a2, .int .i32 a3, .int .i32 a4, .int .i32 a5, .int .i32 a6, .int .i32 a7])) (hA : Hid (hsL [a0, a1, a2, a3, a4, a5, a6, a7] = A)) (HB : Hid (Below w0.heap.size w0 w))
    (t : Array Value) (ht : t.size = 648) (h5 : t[5]! = .pointer (some ⟨bh, 0, none⟩)) (h6 : t[6]! = .slice Ax n cx) (h11 : t[11]! = .int .i64 A)
    (Kk : Act → World → Prop) (hK : ∀ a w, (rs (cd 27 flCode)).wp Tryz.prog (bodyPost Tryz.prog Tryz.f3 fun e w' => e = .returned (.bool true) ∧ Below w0.heap.size w0 w') a w → Kk a w) :
    (hd (cd 27 flCode)).wp Tryz.prog (Exit.then Kk (bodyPost Tryz.prog Tryz.f3 fun e w' => e = .returned (.bool true) ∧ Below w0.heap.size w0 w')) ⟨t, []⟩ w := by
  rw [(slots648 t ht).choose_spec.1] at h5 h6 h11
  obtain ⟨z, hz⟩ : ∃ z, (slots648 t ht).choose = z := ⟨_, rfl⟩
  have e := (slots648 t ht).choose_spec.2
  rw [hz] at h5 h6 h11 e
  rw [e, h5, h6, h11]
  clear e hz h5 h6 h11 ht t
  conv => arg 2; whnf
  conv at hK => enter [a, w, 1, 2]; whnf
  have wfA : Hid (∀ x ∈ [a0, a1, a2, a3, a4, a5, a6, a7], (Lit.int .i32 x).wf = true) := Lib.hid HH.out.wf
  have hA0 := HH.out.all
  rw [hA.out] at hA0
  obtain ⟨C, hC⟩ : ∃ x, smC [a0, a1, a2, a3, a4, a5, a6, a7] = x := ⟨_, rfl⟩
  obtain ⟨MN, hMN⟩ : ∃ x, jn C (frN (wsum [a0, a1, a2, a3, a4, a5, a6, a7] 8) A) = x := ⟨_, rfl⟩
  obtain ⟨MD, hMD⟩ : ∃ x, jn C (frD (wsum [a0, a1, a2, a3, a4, a5, a6, a7] 8) A) = x := ⟨_, rfl⟩
  obtain ⟨M, hM⟩ : ∃ x, jn C (mdn [a0, a1, a2, a3, a4, a5, a6, a7]) = x := ⟨_, rfl⟩
  obtain ⟨q1, q2⟩ := sm_is HH.out
  rw [hA.out, hC] at q1 q2
  have hCC : (C = 0 ∧ 0 < A) ∨ (C = 6 ∧ A = 0) := by
    by_cases h : 0 < A
    · exact .inl ⟨q1 h, h⟩
    · exact .inr ⟨q2 (by omega), by omega⟩
  have hFM : Hid (0 < A → M = mdn [a0, a1, a2, a3, a4, a5, a6, a7] ∧ MN * A = wsum [a0, a1, a2, a3, a4, a5, a6, a7] 8 * MD ∧ 1 ≤ MD ∧ 0 ≤ MN ∧ MN ≤ 1000 ∧ MD ≤ 1000) := Lib.hid (fun h => by
    have hw := wsum_bd12 HH.out 8 (by omega)
    obtain ⟨r1, r2, r3, r4, r5⟩ := fr_mul (a := wsum [a0, a1, a2, a3, a4, a5, a6, a7] 8) (b := A) hw.1 h
    rw [q1 h] at hMN hMD hM
    have e1 : frN (wsum [a0, a1, a2, a3, a4, a5, a6, a7] 8) A = MN := hMN
    have e2 : frD (wsum [a0, a1, a2, a3, a4, a5, a6, a7] 8) A = MD := hMD
    have e3 : mdn [a0, a1, a2, a3, a4, a5, a6, a7] = M := hM
    rw [e1, e2] at r1; rw [e2] at r2 r5; rw [e1] at r3 r4
    exact ⟨e3.symm, r1, r2, r3, by omega, by omega⟩)
  have HMI : Hid (∀ wx, Calls Tryz.prog 24 #[.agg #[.int .i32 a0, .int .i32 a1, .int .i32 a2, .int .i32 a3, .int .i32 a4, .int .i32 a5, .int .i32 a6, .int .i32 a7]] wx fun e w' => e = .returned (.tuple #[.agg #[.int .i64 MN, .int .i64 MD], .int .i64 C]) ∧ Below wx.heap.size wx w') := Lib.hid (fun wx => by have h := iMeanLength a0 a1 a2 a3 a4 a5 a6 a7 wx wfA; rw [hC, hA.out, hMN, hMD] at h; exact h)
  have HMS : Hid (∀ wx, Calls Tryz.prog 25 #[.agg #[.int .i32 a0, .int .i32 a1, .int .i32 a2, .int .i32 a3, .int .i32 a4, .int .i32 a5, .int .i32 a6, .int .i32 a7]] wx fun e w' => e = .returned (.tuple #[.agg #[.int .i64 MN, .int .i64 MD], .int .i64 C]) ∧ Below wx.heap.size wx w') := Lib.hid (fun wx => by have h := sMeanLength a0 a1 a2 a3 a4 a5 a6 a7 wx wfA; rw [hC, hA.out, hMN, hMD] at h; exact h)
  have HDI : Hid (∀ wx, Calls Tryz.prog 26 #[.agg #[.int .i32 a0, .int .i32 a1, .int .i32 a2, .int .i32 a3, .int .i32 a4, .int .i32 a5, .int .i32 a6, .int .i32 a7]] wx fun e w' => e = .returned (.tuple #[.int .i64 M, .int .i64 C]) ∧ Below wx.heap.size wx w') := Lib.hid (fun wx => by have h := iMedianLength a0 a1 a2 a3 a4 a5 a6 a7 wx wfA; rw [hC, hM] at h; exact h)
  have HDS : Hid (∀ wx, Calls Tryz.prog 27 #[.agg #[.int .i32 a0, .int .i32 a1, .int .i32 a2, .int .i32 a3, .int .i32 a4, .int .i32 a5, .int .i32 a6, .int .i32 a7]] wx fun e w' => e = .returned (.tuple #[.int .i64 M, .int .i64 C]) ∧ Below wx.heap.size wx w') := Lib.hid (fun wx => by have h := sMedianLength a0 a1 a2 a3 a4 a5 a6 a7 wx wfA; rw [hC, hM] at h; exact h)
  clear q1 q2 hMN hMD hM hC
  obtain ⟨e0, e1, e2, e3, e4, e5, e6, e7⟩ := X5.out.cells8
  go_wp2_with fail
  refine (HMI.out _).mono ?_
  rintro e w1 ⟨rfl, hb⟩
  clear e0 e1 e2 e3 e4 e5 e6 e7
  replace HB := Lib.hid (below_then HB.out HB.out.size hb)
  replace RF := Lib.hid (RF.out.below hb)
  replace X5 := Lib.hid (X5.out.below hb)
  clear hb
  clear HMI
  go_upto_region 48 with fail
  have hb := below_alloc1 w1 (.cells #[.int .i64 MN, .int .i64 MD] 48)
  have X49 := Lib.hid (Row.alloc w1 [.int .i64 MN, .int .i64 MD] 48)
  replace HB := Lib.hid (below_then HB.out HB.out.size hb)
  replace RF := Lib.hid (RF.out.below hb)
  replace X5 := Lib.hid (X5.out.below hb)
  clear hb
  obtain ⟨wz, hwz⟩ : ∃ x, x = World.alloc w1 (.cells #[.int .i64 MN, .int .i64 MD] 48) := ⟨_, rfl⟩
  obtain ⟨bX49, hbX49⟩ : ∃ x, x = w1.heap.size := ⟨_, rfl⟩
  rw [← hwz] at HB RF X5 X49 ⊢
  rw [← hbX49] at X49 ⊢
  clear hwz hbX49 w1
  obtain ⟨w1, hw_⟩ : ∃ x, x = wz := ⟨_, rfl⟩
  subst hw_
  obtain ⟨e0, e1, e2, e3, e4, e5, e6, e7⟩ := X5.out.cells8
  go_wp2_with fail
  refine (HMS.out _).mono ?_
  rintro e w2 ⟨rfl, hb⟩
  clear e0 e1 e2 e3 e4 e5 e6 e7
  replace HB := Lib.hid (below_then HB.out HB.out.size hb)
  replace RF := Lib.hid (RF.out.below hb)
  replace X5 := Lib.hid (X5.out.below hb)
  replace X49 := Lib.hid (X49.out.below hb)
  clear hb
  clear HMS
  go_upto_region 49 with fail
  have hb := below_alloc1 w2 (.cells #[.int .i64 MN, .int .i64 MD] 48)
  have X51 := Lib.hid (Row.alloc w2 [.int .i64 MN, .int .i64 MD] 48)
  replace HB := Lib.hid (below_then HB.out HB.out.size hb)
  replace RF := Lib.hid (RF.out.below hb)
  replace X5 := Lib.hid (X5.out.below hb)
  replace X49 := Lib.hid (X49.out.below hb)
  clear hb
  obtain ⟨wz, hwz⟩ : ∃ x, x = World.alloc w2 (.cells #[.int .i64 MN, .int .i64 MD] 48) := ⟨_, rfl⟩
  obtain ⟨bX51, hbX51⟩ : ∃ x, x = w2.heap.size := ⟨_, rfl⟩
  rw [← hwz] at HB RF X5 X49 X51 ⊢
  rw [← hbX51] at X51 ⊢
  clear hwz hbX51 w2
  obtain ⟨w2, hw_⟩ : ∃ x, x = wz := ⟨_, rfl⟩
  subst hw_
  obtain ⟨e0, e1, e2, e3, e4, e5, e6, e7⟩ := X5.out.cells8
  go_wp2_with fail
  refine (HDI.out _).mono ?_
  rintro e w3 ⟨rfl, hb⟩
  clear e0 e1 e2 e3 e4 e5 e6 e7
  replace HB := Lib.hid (below_then HB.out HB.out.size hb)
  replace RF := Lib.hid (RF.out.below hb)
  replace X5 := Lib.hid (X5.out.below hb)
  replace X49 := Lib.hid (X49.out.below hb)
  replace X51 := Lib.hid (X51.out.below hb)
  clear hb
  clear HDI
  obtain ⟨e0, e1, e2, e3, e4, e5, e6, e7⟩ := X5.out.cells8
  go_wp2_with fail
  refine (HDS.out _).mono ?_
  rintro e w4 ⟨rfl, hb⟩
  clear e0 e1 e2 e3 e4 e5 e6 e7
  replace HB := Lib.hid (below_then HB.out HB.out.size hb)
  replace RF := Lib.hid (RF.out.below hb)
  replace X5 := Lib.hid (X5.out.below hb)
  replace X49 := Lib.hid (X49.out.below hb)
  replace X51 := Lib.hid (X51.out.below hb)
  clear hb
  clear HDS
  obtain ⟨f0, f1⟩ := X49.out.cells2; obtain ⟨f2, f3⟩ := X51.out.cells2
  rcases hCC with ⟨rfl, hp⟩ | ⟨rfl, rfl⟩
  · as_aux_lemma =>
    go_upto_region 53 with fail
    exact fl53 w0 _ HL hn4 RF HH X5 hA X51 hFM.out hA0 HB _ rfl rfl rfl rfl rfl rfl _ (by assumption) _ (by assumption)
  · as_aux_lemma =>
    go_upto_region 53 with fail
    exact fl53 w0 _ HL hn4 RF HH X5 hA X51 hFM.out hA0 HB _ rfl rfl rfl rfl rfl rfl _ (by assumption) _ (by assumption)
end Go.Proofs.YtbkhlcbnnjgdpaaGreatDoor
