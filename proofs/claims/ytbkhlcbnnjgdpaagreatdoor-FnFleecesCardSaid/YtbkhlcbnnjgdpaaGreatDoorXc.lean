/- The walk of FnFleeces, the great test. -/
import Derived.Test.YtbkhlcbnnjgdpaaGreatDoorXb
import Derived.BigQuiet
import Derived.Deep.QuietTactic
import Derived.Deep.DeepCutAuto
import Derived.Deep.MidRow
import Derived.IntWalk
namespace Go.Proofs.YtbkhlcbnnjgdpaaGreatDoor
open Go.RowKit
set_option linter.unusedVariables false
set_option linter.unusedSimpArgs false
set_option maxRecDepth 100000 in
set_option maxHeartbeats 8000000 in
theorem fl18 (w0 w : World) {n cx : Nat} {Ax : Option Addr} {xs : List (Int × List Int)} (HL : Hid (∀ x ∈ xs, FlD x)) (hn4 : n ≤ 4) (RF : Hid (Rds w Ax n 9 FlC xs)) (hAx : n = 0 ∨ ∃ g, Ax = some ⟨g, 0, none⟩) {bh : Nat} {a0 a1 a2 a3 a4 a5 a6 a7 A : Int} (HH : Hid (Hp [a0, a1, a2, a3, a4, a5, a6, a7])) (X5 : Hid (Row w bh 25 [.int .i32 a0, .int .i32 a1, .int .i32 a2, .int .i32 a3, .int .i32 a4, .int .i32 a5, .int .i32 a6, .int .i32 a7])) (hA : Hid (hsL [a0, a1, a2, a3, a4, a5, a6, a7] = A)) {b13 b14 b16 b17 b19 b22 b23 b25 b26 b28 : Nat} {p0 p1 p2 p3 p4 p5 p6 p7 r0 r1 r2 r3 r4 r5 r6 r7 t0 t1 t2 t3 t4 t5 t6 t7 s0 s1 s2 s3 s4 s5 s6 s7 : Int} (X13 : Hid (Row w b13 25 [.int .i32 p0, .int .i32 p1, .int .i32 p2, .int .i32 p3, .int .i32 p4, .int .i32 p5, .int .i32 p6, .int .i32 p7])) (X14 : Hid (Row w b14 25 [.int .i32 r0, .int .i32 r1, .int .i32 r2, .int .i32 r3, .int .i32 r4, .int .i32 r5, .int .i32 r6, .int .i32 r7])) (X16 : Hid (Row w b16 25 [.int .i32 p0, .int .i32 p1, .int .i32 p2, .int .i32 p3, .int .i32 p4, .int .i32 p5, .int .i32 p6, .int .i32 p7])) (X17 : Hid (Row w b17 25 [.int .i32 r0, .int .i32 r1, .int .i32 r2, .int .i32 r3, .int .i32 r4, .int .i32 r5, .int .i32 r6, .int .i32 r7])) (X19 : Hid (Row w b19 25 [.int .i32 a0, .int .i32 a1, .int .i32 a2, .int .i32 a3, .int .i32 a4, .int .i32 a5, .int .i32 a6, .int .i32 a7])) (X22 : Hid (Row w b22 25 [.int .i32 t0, .int .i32 t1, .int .i32 t2, .int .i32 t3, .int .i32 t4, .int .i32 t5, .int .i32 t6, .int .i32 t7])) (X23 : Hid (Row w b23 25 [.int .i32 s0, .int .i32 s1, .int .i32 s2, .int .i32 s3, .int .i32 s4, .int .i32 s5, .int .i32 s6, .int .i32 s7])) (X25 : Hid (Row w b25 25 [.int .i32 t0, .int .i32 t1, .int .i32 t2, .int .i32 t3, .int .i32 t4, .int .i32 t5, .int .i32 t6, .int .i32 t7])) (X26 : Hid (Row w b26 25 [.int .i32 s0, .int .i32 s1, .int .i32 s2, .int .i32 s3, .int .i32 s4, .int .i32 s5, .int .i32 s6, .int .i32 s7])) (X28 : Hid (Row w b28 25 [.int .i32 a0, .int .i32 a1, .int .i32 a2, .int .i32 a3, .int .i32 a4, .int .i32 a5, .int .i32 a6, .int .i32 a7])) {lo hi : Int} (hR0 : Hid (∀ k : Nat, k < 8 → lo ≤ (k : Int) ∧ (k : Int) ≤ hi → [r0, r1, r2, r3, r4, r5, r6, r7].getD k 0 = 0)) (hP0 : Hid (∀ k : Nat, k < 8 → ¬ (lo ≤ (k : Int) ∧ (k : Int) ≤ hi) → [p0, p1, p2, p3, p4, p5, p6, p7].getD k 0 = 0)) (hTS : Hid (∀ j k : Nat, j < k → k < 8 → 0 < [s0, s1, s2, s3, s4, s5, s6, s7].getD k 0 → [t0, t1, t2, t3, t4, t5, t6, t7].getD j 0 = 0)) {G : Int} {A1 : Option Addr} {n1 c1 : Nat} {x1 : List Int} (HR1 : Hid (Rds w0 A1 n1 1 (fun x : Int => [.int .u8 x]) x1)) (G1 : Hid (∀ x ∈ x1, (Lit.int .u8 x).wf = true)) {Ar : Option Addr} {cr : Nat} (RR : Hid (Rds w Ar n 9 FlC xs)) (hAr : n = 0 ∨ ∃ g, Ar = some ⟨g, 0, none⟩) (HB : Hid (Below w0.heap.size w0 w))
    (t : Array Value) (ht : t.size = 648) (h1 : t[1]! = .slice A1 n1 c1) (h5 : t[5]! = .pointer (some ⟨bh, 0, none⟩)) (h6 : t[6]! = .slice Ax n cx) (h7 : t[7]! = .int .i64 lo) (h8 : t[8]! = .int .i64 hi) (h9 : t[9]! = .int .i64 A) (h10 : t[10]! = .int .i64 0) (h11 : t[11]! = .int .i64 A) (h12 : t[12]! = .int .i64 0) (h13 : t[13]! = .pointer (some ⟨b13, 0, none⟩)) (h14 : t[14]! = .pointer (some ⟨b14, 0, none⟩)) (h15 : t[15]! = .int .i64 0) (h16 : t[16]! = .pointer (some ⟨b16, 0, none⟩)) (h17 : t[17]! = .pointer (some ⟨b17, 0, none⟩)) (h18 : t[18]! = .int .i64 0) (h19 : t[19]! = .pointer (some ⟨b19, 0, none⟩)) (h20 : t[20]! = .int .i64 0) (h21 : t[21]! = .int .i64 G) (h22 : t[22]! = .pointer (some ⟨b22, 0, none⟩)) (h23 : t[23]! = .pointer (some ⟨b23, 0, none⟩)) (h24 : t[24]! = .int .i64 0) (h25 : t[25]! = .pointer (some ⟨b25, 0, none⟩)) (h26 : t[26]! = .pointer (some ⟨b26, 0, none⟩)) (h27 : t[27]! = .int .i64 0) (h28 : t[28]! = .pointer (some ⟨b28, 0, none⟩)) (h29 : t[29]! = .int .i64 0) (h30 : t[30]! = .int .i64 G) (h31 : t[31]! = .int .i64 0) (h32 : t[32]! = .slice Ar n cr) (h33 : t[33]! = .int .i64 0)
    (Kk : Act → World → Prop) (hK : ∀ a w, (rs (cd 17 flCode)).wp Tryz.prog (bodyPost Tryz.prog Tryz.f3 fun e w' => e = .returned (.bool true) ∧ Below w0.heap.size w0 w') a w → Kk a w)
    (K1 : Act → World → Prop) (hK1 : ∀ a w, (rs (hd (cd 17 flCode))).wp Tryz.prog (Exit.then Kk (bodyPost Tryz.prog Tryz.f3 fun e w' => e = .returned (.bool true) ∧ Below w0.heap.size w0 w')) a w → K1 a w) :
    (hd (hd (cd 17 flCode))).wp Tryz.prog (Exit.then K1 (Exit.then Kk (bodyPost Tryz.prog Tryz.f3 fun e w' => e = .returned (.bool true) ∧ Below w0.heap.size w0 w'))) ⟨t, []⟩ w := by
  rw [(slots648 t ht).choose_spec.1] at h1 h5 h6 h7 h8 h9 h10 h11 h12 h13 h14 h15 h16 h17 h18 h19 h20 h21 h22 h23 h24 h25 h26 h27 h28 h29 h30 h31 h32 h33
  obtain ⟨z, hz⟩ : ∃ z, (slots648 t ht).choose = z := ⟨_, rfl⟩
  have e := (slots648 t ht).choose_spec.2
  rw [hz] at h1 h5 h6 h7 h8 h9 h10 h11 h12 h13 h14 h15 h16 h17 h18 h19 h20 h21 h22 h23 h24 h25 h26 h27 h28 h29 h30 h31 h32 h33 e
  rw [e, h1, h5, h6, h7, h8, h9, h10, h11, h12, h13, h14, h15, h16, h17, h18, h19, h20, h21, h22, h23, h24, h25, h26, h27, h28, h29, h30, h31, h32, h33]
  clear e hz h1 h5 h6 h7 h8 h9 h10 h11 h12 h13 h14 h15 h16 h17 h18 h19 h20 h21 h22 h23 h24 h25 h26 h27 h28 h29 h30 h31 h32 h33 ht t
  conv => arg 2; whnf
  conv at hK => enter [a, w, 1, 2]; whnf
  conv at hK1 => enter [a, w, 1, 2]; whnf
  have wfA : Hid (∀ x ∈ [a0, a1, a2, a3, a4, a5, a6, a7], (Lit.int .i32 x).wf = true) := Lib.hid HH.out.wf
  have HV : Hid (∀ wx, Calls Tryz.prog 18 #[.agg #[.int .i32 a0, .int .i32 a1, .int .i32 a2, .int .i32 a3, .int .i32 a4, .int .i32 a5, .int .i32 a6, .int .i32 a7]] wx fun e w' => e = .returned (.bool true) ∧ Below wx.heap.size wx w') := Lib.hid (fun wx => by have h := iValidHeap a0 a1 a2 a3 a4 a5 a6 a7 wx wfA; rw [HH.out.ok] at h; exact h)
  have hEQp := fun wx => eqHp 9998 p0 p1 p2 p3 p4 p5 p6 p7 wx
  have hEQr := fun wx => eqHp 9998 r0 r1 r2 r3 r4 r5 r6 r7 wx
  have hEQa := fun wx => eqHp 9998 a0 a1 a2 a3 a4 a5 a6 a7 wx
  have hEQt := fun wx => eqHp 9998 t0 t1 t2 t3 t4 t5 t6 t7 wx
  have hEQs := fun wx => eqHp 9998 s0 s1 s2 s3 s4 s5 s6 s7 wx
  obtain ⟨f5_0, f5_1, f5_2, f5_3, f5_4, f5_5, f5_6, f5_7⟩ := X5.out.cells8
  obtain ⟨f13_0, f13_1, f13_2, f13_3, f13_4, f13_5, f13_6, f13_7⟩ := X13.out.cells8
  obtain ⟨f14_0, f14_1, f14_2, f14_3, f14_4, f14_5, f14_6, f14_7⟩ := X14.out.cells8
  obtain ⟨f16_0, f16_1, f16_2, f16_3, f16_4, f16_5, f16_6, f16_7⟩ := X16.out.cells8
  obtain ⟨f17_0, f17_1, f17_2, f17_3, f17_4, f17_5, f17_6, f17_7⟩ := X17.out.cells8
  obtain ⟨f19_0, f19_1, f19_2, f19_3, f19_4, f19_5, f19_6, f19_7⟩ := X19.out.cells8
  obtain ⟨f22_0, f22_1, f22_2, f22_3, f22_4, f22_5, f22_6, f22_7⟩ := X22.out.cells8
  obtain ⟨f23_0, f23_1, f23_2, f23_3, f23_4, f23_5, f23_6, f23_7⟩ := X23.out.cells8
  obtain ⟨f25_0, f25_1, f25_2, f25_3, f25_4, f25_5, f25_6, f25_7⟩ := X25.out.cells8
  obtain ⟨f26_0, f26_1, f26_2, f26_3, f26_4, f26_5, f26_6, f26_7⟩ := X26.out.cells8
  obtain ⟨f28_0, f28_1, f28_2, f28_3, f28_4, f28_5, f28_6, f28_7⟩ := X28.out.cells8
  go_wp2_with fail
  refine (sameFleeces_true Ar Ax n cr cx xs _ RR.out RF.out hAr hAx (Lib.hid (fun x hx => (HL.out x hx).2.1))).mono ?_
  rintro e w1 ⟨rfl, hb⟩
  clear f5_0 f5_1 f5_2 f5_3 f5_4 f5_5 f5_6 f5_7 f13_0 f13_1 f13_2 f13_3 f13_4 f13_5 f13_6 f13_7 f14_0 f14_1 f14_2 f14_3 f14_4 f14_5 f14_6 f14_7 f16_0 f16_1 f16_2 f16_3 f16_4 f16_5 f16_6 f16_7 f17_0 f17_1 f17_2 f17_3 f17_4 f17_5 f17_6 f17_7 f19_0 f19_1 f19_2 f19_3 f19_4 f19_5 f19_6 f19_7 f22_0 f22_1 f22_2 f22_3 f22_4 f22_5 f22_6 f22_7 f23_0 f23_1 f23_2 f23_3 f23_4 f23_5 f23_6 f23_7 f25_0 f25_1 f25_2 f25_3 f25_4 f25_5 f25_6 f25_7 f26_0 f26_1 f26_2 f26_3 f26_4 f26_5 f26_6 f26_7 f28_0 f28_1 f28_2 f28_3 f28_4 f28_5 f28_6 f28_7
  clear X13 X14 X19 X22 X23 X28 RR hAr hAx hEQp hEQr hEQa hEQt hEQs
  replace HB := Lib.hid (below_then HB.out HB.out.size hb)
  replace RF := Lib.hid (RF.out.below hb)
  replace X5 := Lib.hid (X5.out.below hb)
  replace X16 := Lib.hid (X16.out.below hb)
  replace X17 := Lib.hid (X17.out.below hb)
  replace X25 := Lib.hid (X25.out.below hb)
  replace X26 := Lib.hid (X26.out.below hb)
  clear hb
  obtain ⟨e0, e1, e2, e3, e4, e5, e6, e7⟩ := X5.out.cells8
  go_wp2_with fail
  refine (HV.out _).mono ?_
  rintro e w2 ⟨rfl, hb⟩
  clear e0 e1 e2 e3 e4 e5 e6 e7
  replace HB := Lib.hid (below_then HB.out HB.out.size hb)
  replace RF := Lib.hid (RF.out.below hb)
  replace X5 := Lib.hid (X5.out.below hb)
  replace X16 := Lib.hid (X16.out.below hb)
  replace X17 := Lib.hid (X17.out.below hb)
  replace X25 := Lib.hid (X25.out.below hb)
  replace X26 := Lib.hid (X26.out.below hb)
  clear hb
  clear HV
  go_upto_region 20 with fail
  exact fl20 w0 _ HL hn4 RF HH X5 hA X16 X17 X25 X26 ⟨rfl, rfl, rfl, rfl⟩ hR0 hP0 hTS HR1 G1 HB _ rfl rfl rfl rfl rfl rfl rfl rfl rfl rfl rfl _ (by assumption)
end Go.Proofs.YtbkhlcbnnjgdpaaGreatDoor
