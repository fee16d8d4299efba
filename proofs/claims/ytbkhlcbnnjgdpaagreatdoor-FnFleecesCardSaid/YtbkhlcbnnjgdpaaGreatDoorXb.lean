/- The walk of FnFleeces, from PartHeap on. -/
import Derived.Test.YtbkhlcbnnjgdpaaGreatDoorXa
import Derived.Test.YtbkhlcbnnjgdpaaGreatDoorT3
import Derived.BigQuiet
import Derived.Deep.QuietTactic
import Derived.Deep.DeepCutAuto
import Derived.Deep.MidRow
import Derived.IntWalk
namespace Go.Proofs.YtbkhlcbnnjgdpaaGreatDoor
open Go.RowKit
set_option linter.unusedVariables false
set_option linter.unusedSimpArgs false
set_option maxRecDepth 100000 in
set_option maxHeartbeats 8000000 in
theorem fl20 (w0 w : World) {n cx : Nat} {Ax : Option Addr} {xs : List (Int × List Int)} (HL : Hid (∀ x ∈ xs, FlD x)) (hn4 : n ≤ 4) (RF : Hid (Rds w Ax n 9 FlC xs)) {bh : Nat} {a0 a1 a2 a3 a4 a5 a6 a7 A : Int} (HH : Hid (Hp [a0, a1, a2, a3, a4, a5, a6, a7])) (X5 : Hid (Row w bh 25 [.int .i32 a0, .int .i32 a1, .int .i32 a2, .int .i32 a3, .int .i32 a4, .int .i32 a5, .int .i32 a6, .int .i32 a7])) (hA : Hid (hsL [a0, a1, a2, a3, a4, a5, a6, a7] = A)) {b16 b17 b25 b26 : Nat} {LP LR LT LS : List Int} (X16 : Hid (Row w b16 25 (nums .i32 LP))) (X17 : Hid (Row w b17 25 (nums .i32 LR))) (X25 : Hid (Row w b25 25 (nums .i32 LT))) (X26 : Hid (Row w b26 25 (nums .i32 LS)))
    (h8 : LP.length = 8 ∧ LR.length = 8 ∧ LT.length = 8 ∧ LS.length = 8) {lo hi : Int} (hR0 : Hid (∀ k : Nat, k < 8 → lo ≤ (k : Int) ∧ (k : Int) ≤ hi → LR.getD k 0 = 0)) (hP0 : Hid (∀ k : Nat, k < 8 → ¬ (lo ≤ (k : Int) ∧ (k : Int) ≤ hi) → LP.getD k 0 = 0)) (hTS : Hid (∀ j k : Nat, j < k → k < 8 → 0 < LS.getD k 0 → LT.getD j 0 = 0)) {A1 : Option Addr} {n1 c1 : Nat} {x1 : List Int} (HR1 : Hid (Rds w0 A1 n1 1 (fun x : Int => [.int .u8 x]) x1)) (G1 : Hid (∀ x ∈ x1, (Lit.int .u8 x).wf = true)) (HB : Hid (Below w0.heap.size w0 w))
    (t : Array Value) (ht : t.size = 648) (h1 : t[1]! = .slice A1 n1 c1) (h5 : t[5]! = .pointer (some ⟨bh, 0, none⟩)) (h6 : t[6]! = .slice Ax n cx) (h7 : t[7]! = .int .i64 lo) (h8 : t[8]! = .int .i64 hi) (h11 : t[11]! = .int .i64 A) (h16 : t[16]! = .pointer (some ⟨b16, 0, none⟩)) (h17 : t[17]! = .pointer (some ⟨b17, 0, none⟩)) (h25 : t[25]! = .pointer (some ⟨b25, 0, none⟩)) (h26 : t[26]! = .pointer (some ⟨b26, 0, none⟩))
    (Kk : Act → World → Prop) (hK : ∀ a w, (rs (cd 18 flCode)).wp Tryz.prog (bodyPost Tryz.prog Tryz.f3 fun e w' => e = .returned (.bool true) ∧ Below w0.heap.size w0 w') a w → Kk a w) :
    (hd (cd 18 flCode)).wp Tryz.prog (Exit.then Kk (bodyPost Tryz.prog Tryz.f3 fun e w' => e = .returned (.bool true) ∧ Below w0.heap.size w0 w')) ⟨t, []⟩ w := by
  rw [(slots648 t ht).choose_spec.1] at h1 h5 h6 h7 h8 h11 h16 h17 h25 h26
  obtain ⟨z, hz⟩ : ∃ z, (slots648 t ht).choose = z := ⟨_, rfl⟩
  have e := (slots648 t ht).choose_spec.2
  rw [hz] at h1 h5 h6 h7 h8 h11 h16 h17 h25 h26 e
  rw [e, h1, h5, h6, h7, h8, h11, h16, h17, h25, h26]
  clear e hz h1 h5 h6 h7 h8 h11 h16 h17 h25 h26 ht t
  conv => arg 2; whnf
  conv at hK => enter [a, w, 1, 2]; whnf
  have wfA : Hid (∀ x ∈ [a0, a1, a2, a3, a4, a5, a6, a7], (Lit.int .i32 x).wf = true) := Lib.hid HH.out.wf
  go_wp2_with fail
  refine (p6Pick_any A1 n1 c1 x1 6 _ (HR1.out.below HB.out) G1.out (by omega)).mono ?_
  rintro e w1 ⟨b, rfl, hb0, hb1, -, hb⟩
  replace HB := Lib.hid (below_then HB.out HB.out.size hb)
  replace RF := Lib.hid (RF.out.below hb)
  replace X5 := Lib.hid (X5.out.below hb)
  replace X16 := Lib.hid (X16.out.below hb)
  replace X17 := Lib.hid (X17.out.below hb)
  replace X25 := Lib.hid (X25.out.below hb)
  replace X26 := Lib.hid (X26.out.below hb)
  clear hb
  have hb6 : b < 6 := hb1 (by omega)
  clear hb1
  have v1 : IntKind.i64.wrap (1 + b) = 1 + b := IntWalk.i64_in _ (by omega)
  go_upto_region 21 with fail
  obtain ⟨m, hm⟩ : ∃ m : Nat, 1 + b = (m : Int) := ⟨(1 + b).toNat, by omega⟩
  rw [hm]
  have hm6 : 1 ≤ m ∧ m ≤ 6 := by omega
  clear hm hb0 hb6 v1
  have p1 := ph_ok HH.out (m := (m : Int)) (by omega) (by omega)
  have p2 := phR_0 p1
  rw [show ((m : Int)).toNat = m from by omega] at p2
  have hwfm : (Lit.int .i64 (m : Int)).wf = true := by simp [Lit.wf, IntKind.min, IntKind.max, IntKind.signed, IntKind.bits]; omega
  have HPI : Hid (∀ wx, Calls Tryz.prog 19 #[.agg #[.int .i32 a0, .int .i32 a1, .int .i32 a2, .int .i32 a3, .int .i32 a4, .int .i32 a5, .int .i32 a6, .int .i32 a7], .int .i64 (m : Int)] wx (RetOwnT 25 8 m ((phTo [a0, a1, a2, a3, a4, a5, a6, a7] (m : Int) m).flatMap HE) [.int .i64 0] wx)) := Lib.hid (fun wx => by have h := iPartHeap a0 a1 a2 a3 a4 a5 a6 a7 (m : Int) wx wfA hwfm; rw [p1, p2, phTo_len] at h; exact h)
  have HPS : Hid (∀ wx, Calls Tryz.prog 20 #[.agg #[.int .i32 a0, .int .i32 a1, .int .i32 a2, .int .i32 a3, .int .i32 a4, .int .i32 a5, .int .i32 a6, .int .i32 a7], .int .i64 (m : Int)] wx (RetOwnT 25 8 m ((phTo [a0, a1, a2, a3, a4, a5, a6, a7] (m : Int) m).flatMap HE) [.int .i64 0] wx)) := Lib.hid (fun wx => by have h := sPartHeap a0 a1 a2 a3 a4 a5 a6 a7 (m : Int) wx wfA hwfm; rw [p1, p2, phTo_len] at h; exact h)
  clear p1 p2 hwfm
  obtain ⟨e0, e1, e2, e3, e4, e5, e6, e7⟩ := X5.out.cells8
  go_wp2_with fail
  refine (HPI.out _).mono ?_
  rintro e w2 ⟨A35, c35, rfl, O, hb⟩
  clear e0 e1 e2 e3 e4 e5 e6 e7
  replace HB := Lib.hid (below_then HB.out HB.out.size hb)
  replace RF := Lib.hid (RF.out.below hb)
  replace X5 := Lib.hid (X5.out.below hb)
  replace X16 := Lib.hid (X16.out.below hb)
  replace X17 := Lib.hid (X17.out.below hb)
  replace X25 := Lib.hid (X25.out.below hb)
  replace X26 := Lib.hid (X26.out.below hb)
  clear hb
  have R35 := Lib.hid (own_rdsH O (by omega))
  have hA35 : m = 0 ∨ ∃ g, A35 = some ⟨g, 0, none⟩ := by
    by_cases hz : m = 0
    · exact .inl hz
    · obtain ⟨g, L, h, -⟩ := own_row O (by omega) (by omega)
      exact .inr ⟨g, h⟩
  clear O
  clear HPI
  obtain ⟨e0, e1, e2, e3, e4, e5, e6, e7⟩ := X5.out.cells8
  go_wp2_with fail
  refine (HPS.out _).mono ?_
  rintro e w3 ⟨A37, c37, rfl, O, hb⟩
  clear e0 e1 e2 e3 e4 e5 e6 e7
  replace HB := Lib.hid (below_then HB.out HB.out.size hb)
  replace RF := Lib.hid (RF.out.below hb)
  replace X5 := Lib.hid (X5.out.below hb)
  replace X16 := Lib.hid (X16.out.below hb)
  replace X17 := Lib.hid (X17.out.below hb)
  replace X25 := Lib.hid (X25.out.below hb)
  replace X26 := Lib.hid (X26.out.below hb)
  replace R35 := Lib.hid (R35.out.below hb)
  clear hb
  have R37 := Lib.hid (own_rdsH O (by omega))
  have hA37 : m = 0 ∨ ∃ g, A37 = some ⟨g, 0, none⟩ := by
    by_cases hz : m = 0
    · exact .inl hz
    · obtain ⟨g, L, h, -⟩ := own_row O (by omega) (by omega)
      exact .inr ⟨g, h⟩
  clear O
  clear HPS
  go_wp2_with fail
  refine (sameHeaps_true A35 A37 m c35 c37 _ _ R35.out R37.out hA35 hA37).mono ?_
  rintro e w4 ⟨rfl, hb⟩
  replace HB := Lib.hid (below_then HB.out HB.out.size hb)
  replace RF := Lib.hid (RF.out.below hb)
  replace X5 := Lib.hid (X5.out.below hb)
  replace X16 := Lib.hid (X16.out.below hb)
  replace X17 := Lib.hid (X17.out.below hb)
  replace X25 := Lib.hid (X25.out.below hb)
  replace X26 := Lib.hid (X26.out.below hb)
  replace R37 := Lib.hid (R37.out.below hb)
  clear hb
  clear R35 hA35 hA37
  go_upto_region 25 with fail
  exact fl25 w0 _ HL hn4 RF HH X5 hA X16 X17 X25 X26 h8 hR0 hP0 hTS hm6 R37 HB _ rfl rfl rfl rfl rfl rfl rfl rfl rfl rfl rfl _ (by assumption) _ (by assumption)
end Go.Proofs.YtbkhlcbnnjgdpaaGreatDoor
