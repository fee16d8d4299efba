/- The walk of FnFleeces, from the washed heap on. -/
import Derived.Test.YtbkhlcbnnjgdpaaGreatDoorX8
import Derived.Test.YtbkhlcbnnjgdpaaGreatDoorH6
import Derived.BigQuiet
import Derived.Deep.QuietTactic
import Derived.Deep.DeepCutAuto
import Derived.Deep.MidRow
import Derived.IntWalk
namespace Go.Proofs.YtbkhlcbnnjgdpaaGreatDoor
open Go.RowKit
set_option linter.unusedVariables false
set_option linter.unusedSimpArgs false
set_option maxRecDepth 100000 in
set_option maxHeartbeats 8000000 in
theorem fl42 (w0 w : World) {n cx : Nat} {Ax : Option Addr} {xs : List (Int × List Int)} (HL : Hid (∀ x ∈ xs, FlD x)) (hn4 : n ≤ 4) (RF : Hid (Rds w Ax n 9 FlC xs)) {bh : Nat} {a0 a1 a2 a3 a4 a5 a6 a7 A : Int} (HH : Hid (Hp [a0, a1, a2, a3, a4, a5, a6, a7])) (X5 : Hid (Row w bh 25 [.int .i32 a0, .int .i32 a1, .int .i32 a2, .int .i32 a3, .int .i32 a4, .int .i32 a5, .int .i32 a6, .int .i32 a7])) (hA : Hid (hsL [a0, a1, a2, a3, a4, a5, a6, a7] = A)) (HB : Hid (Below w0.heap.size w0 w))
    (t : Array Value) (ht : t.size = 648) (h5 : t[5]! = .pointer (some ⟨bh, 0, none⟩)) (h6 : t[6]! = .slice Ax n cx) (h11 : t[11]! = .int .i64 A)
    (Kk : Act → World → Prop) (hK : ∀ a w, (rs (cd 23 flCode)).wp Tryz.prog (bodyPost Tryz.prog Tryz.f3 fun e w' => e = .returned (.bool true) ∧ Below w0.heap.size w0 w') a w → Kk a w) :
    (hd (cd 23 flCode)).wp Tryz.prog (Exit.then Kk (bodyPost Tryz.prog Tryz.f3 fun e w' => e = .returned (.bool true) ∧ Below w0.heap.size w0 w')) ⟨t, []⟩ w := by
  rw [(slots648 t ht).choose_spec.1] at h5 h6 h11
  obtain ⟨z, hz⟩ : ∃ z, (slots648 t ht).choose = z := ⟨_, rfl⟩
  have e := (slots648 t ht).choose_spec.2
  rw [hz] at h5 h6 h11 e
  rw [e, h5, h6, h11]
  clear e hz h5 h6 h11 ht t
  conv => arg 2; whnf
  conv at hK => enter [a, w, 1, 2]; whnf
  have wfA : Hid (∀ x ∈ [a0, a1, a2, a3, a4, a5, a6, a7], (Lit.int .i32 x).wf = true) := Lib.hid HH.out.wf
  have hA0 := HH.out.all
  rw [hA.out] at hA0
  have hwc := wa_ok HH.out
  obtain ⟨z1, z2, z3, z4⟩ := wsh_sum HH.out
  have hAs : hS a0 a1 a2 a3 a4 a5 a6 a7 = A := hA.out
  rw [hAs] at z3 z4
  clear hAs
  obtain ⟨v0, hv0⟩ : ∃ x, wsh a0 10 = x := ⟨_, rfl⟩
  obtain ⟨v1, hv1⟩ : ∃ x, wsh a1 10 = x := ⟨_, rfl⟩
  obtain ⟨v2, hv2⟩ : ∃ x, wsh a2 10 = x := ⟨_, rfl⟩
  obtain ⟨v3, hv3⟩ : ∃ x, wsh a3 10 = x := ⟨_, rfl⟩
  obtain ⟨v4, hv4⟩ : ∃ x, wsh a4 10 = x := ⟨_, rfl⟩
  obtain ⟨v5, hv5⟩ : ∃ x, wsh a5 10 = x := ⟨_, rfl⟩
  obtain ⟨v6, hv6⟩ : ∃ x, wsh a6 10 = x := ⟨_, rfl⟩
  obtain ⟨v7, hv7⟩ : ∃ x, wsh a7 10 = x := ⟨_, rfl⟩
  rw [hv0, hv1, hv2, hv3, hv4, hv5, hv6, hv7] at z1 z2 z3 z4
  obtain ⟨V, hV⟩ : ∃ x, hS v0 v1 v2 v3 v4 v5 v6 v7 = x := ⟨_, rfl⟩
  rw [hV] at z2 z3 z4
  have wfV : Hid (∀ x ∈ [v0, v1, v2, v3, v4, v5, v6, v7], (Lit.int .i32 x).wf = true) := Lib.hid z1.wf
  have HWI : Hid (∀ wx, Calls Tryz.prog 22 #[.agg #[.int .i32 a0, .int .i32 a1, .int .i32 a2, .int .i32 a3, .int .i32 a4, .int .i32 a5, .int .i32 a6, .int .i32 a7], .int .i64 10] wx fun e w' => e = .returned (.tuple #[.agg #[.int .i32 v0, .int .i32 v1, .int .i32 v2, .int .i32 v3, .int .i32 v4, .int .i32 v5, .int .i32 v6, .int .i32 v7], .int .i64 0]) ∧ Below wx.heap.size wx w') := Lib.hid (fun wx => by have h := iWashedHeap a0 a1 a2 a3 a4 a5 a6 a7 10 wx wfA (by omega); rw [hwc, hv0, hv1, hv2, hv3, hv4, hv5, hv6, hv7] at h; exact h)
  have HWS : Hid (∀ wx, Calls Tryz.prog 23 #[.agg #[.int .i32 a0, .int .i32 a1, .int .i32 a2, .int .i32 a3, .int .i32 a4, .int .i32 a5, .int .i32 a6, .int .i32 a7], .int .i64 10] wx fun e w' => e = .returned (.tuple #[.agg #[.int .i32 v0, .int .i32 v1, .int .i32 v2, .int .i32 v3, .int .i32 v4, .int .i32 v5, .int .i32 v6, .int .i32 v7], .int .i64 0]) ∧ Below wx.heap.size wx w') := Lib.hid (fun wx => by have h := sWashedHeap a0 a1 a2 a3 a4 a5 a6 a7 10 wx wfA (by omega); rw [hwc, hv0, hv1, hv2, hv3, hv4, hv5, hv6, hv7] at h; exact h)
  have HGR : Hid (∀ wx, Calls Tryz.prog 8 #[.agg #[.int .i32 v0, .int .i32 v1, .int .i32 v2, .int .i32 v3, .int .i32 v4, .int .i32 v5, .int .i32 v6, .int .i32 v7]] wx fun e w' => e = .returned (.tuple #[.int .i64 V, .int .i64 0]) ∧ Below wx.heap.size wx w') := Lib.hid (fun wx => by have h := iGramsOf v0 v1 v2 v3 v4 v5 v6 v7 wx wfV; unfold grV grC at h; rw [if_pos z1.ok, if_pos z1.ok, hV] at h; exact h)
  have hEQ := fun wx => eqHp 9998 v0 v1 v2 v3 v4 v5 v6 v7 wx
  have w1_ : IntKind.i64.wrap (10 * V) = 10 * V := IntWalk.i64_in _ (by omega)
  have w2_ : IntKind.i64.wrap (9 * A) = 9 * A := IntWalk.i64_in _ (by omega)
  have w3_ : IntKind.i64.wrap (9 * A - 80) = 9 * A - 80 := IntWalk.i64_in _ (by omega)
  have n1 : ¬ A < V := by omega
  have n2 : ¬ 10 * V < 9 * A - 80 := by omega
  clear hwc z1 z2 z3 z4 hV hA0 hv0 hv1 hv2 hv3 hv4 hv5 hv6 hv7
  obtain ⟨e0, e1, e2, e3, e4, e5, e6, e7⟩ := X5.out.cells8
  go_wp2_with fail
  refine (HWI.out _).mono ?_
  rintro e w1 ⟨rfl, hb⟩
  clear e0 e1 e2 e3 e4 e5 e6 e7
  replace HB := Lib.hid (below_then HB.out HB.out.size hb)
  replace RF := Lib.hid (RF.out.below hb)
  replace X5 := Lib.hid (X5.out.below hb)
  clear hb
  clear HWI
  go_upto_region 43 with fail
  have hb := below_alloc1 w1 (.cells #[.int .i32 v0, .int .i32 v1, .int .i32 v2, .int .i32 v3, .int .i32 v4, .int .i32 v5, .int .i32 v6, .int .i32 v7] 25)
  have X43 := Lib.hid (Row.alloc w1 [.int .i32 v0, .int .i32 v1, .int .i32 v2, .int .i32 v3, .int .i32 v4, .int .i32 v5, .int .i32 v6, .int .i32 v7] 25)
  replace HB := Lib.hid (below_then HB.out HB.out.size hb)
  replace RF := Lib.hid (RF.out.below hb)
  replace X5 := Lib.hid (X5.out.below hb)
  clear hb
  obtain ⟨wz, hwz⟩ : ∃ x, x = World.alloc w1 (.cells #[.int .i32 v0, .int .i32 v1, .int .i32 v2, .int .i32 v3, .int .i32 v4, .int .i32 v5, .int .i32 v6, .int .i32 v7] 25) := ⟨_, rfl⟩
  obtain ⟨bX43, hbX43⟩ : ∃ x, x = w1.heap.size := ⟨_, rfl⟩
  rw [← hwz] at HB RF X5 X43 ⊢
  rw [← hbX43] at X43 ⊢
  clear hwz hbX43 w1
  obtain ⟨w1, hw_⟩ : ∃ x, x = wz := ⟨_, rfl⟩
  subst hw_
  obtain ⟨e0, e1, e2, e3, e4, e5, e6, e7⟩ := X5.out.cells8
  go_wp2_with fail
  refine (HWS.out _).mono ?_
  rintro e w2 ⟨rfl, hb⟩
  clear e0 e1 e2 e3 e4 e5 e6 e7
  replace HB := Lib.hid (below_then HB.out HB.out.size hb)
  replace RF := Lib.hid (RF.out.below hb)
  replace X5 := Lib.hid (X5.out.below hb)
  replace X43 := Lib.hid (X43.out.below hb)
  clear hb
  clear HWS
  go_upto_region 44 with fail
  have hb := below_alloc1 w2 (.cells #[.int .i32 v0, .int .i32 v1, .int .i32 v2, .int .i32 v3, .int .i32 v4, .int .i32 v5, .int .i32 v6, .int .i32 v7] 25)
  have X45 := Lib.hid (Row.alloc w2 [.int .i32 v0, .int .i32 v1, .int .i32 v2, .int .i32 v3, .int .i32 v4, .int .i32 v5, .int .i32 v6, .int .i32 v7] 25)
  replace HB := Lib.hid (below_then HB.out HB.out.size hb)
  replace RF := Lib.hid (RF.out.below hb)
  replace X5 := Lib.hid (X5.out.below hb)
  replace X43 := Lib.hid (X43.out.below hb)
  clear hb
  obtain ⟨wz, hwz⟩ : ∃ x, x = World.alloc w2 (.cells #[.int .i32 v0, .int .i32 v1, .int .i32 v2, .int .i32 v3, .int .i32 v4, .int .i32 v5, .int .i32 v6, .int .i32 v7] 25) := ⟨_, rfl⟩
  obtain ⟨bX45, hbX45⟩ : ∃ x, x = w2.heap.size := ⟨_, rfl⟩
  rw [← hwz] at HB RF X5 X43 X45 ⊢
  rw [← hbX45] at X45 ⊢
  clear hwz hbX45 w2
  obtain ⟨w2, hw_⟩ : ∃ x, x = wz := ⟨_, rfl⟩
  subst hw_
  obtain ⟨e0, e1, e2, e3, e4, e5, e6, e7⟩ := X45.out.cells8
  go_wp2_with fail
  refine (HGR.out _).mono ?_
  rintro e w3 ⟨rfl, hb⟩
  clear e0 e1 e2 e3 e4 e5 e6 e7
  replace HB := Lib.hid (below_then HB.out HB.out.size hb)
  replace RF := Lib.hid (RF.out.below hb)
  replace X5 := Lib.hid (X5.out.below hb)
  replace X43 := Lib.hid (X43.out.below hb)
  replace X45 := Lib.hid (X45.out.below hb)
  clear hb
  clear HGR
  obtain ⟨f0, f1, f2, f3, f4, f5, f6, f7⟩ := X43.out.cells8
  obtain ⟨e0, e1, e2, e3, e4, e5, e6, e7⟩ := X45.out.cells8
  go_upto_region 47 with fail
  exact fl47 w0 _ HL hn4 RF HH X5 hA HB _ rfl rfl rfl rfl _ (by assumption)
end Go.Proofs.YtbkhlcbnnjgdpaaGreatDoor
