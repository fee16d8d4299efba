/- The walk of FnWebs, from the drawn web on. -/
import Derived.Test.YtefipngapgffdaaGreatDoorZ1
import Derived.Test.YtefipngapgffdaaGreatDoorZ4
import Derived.Test.YtefipngapgffdaaGreatDoorC17
import Derived.Test.YtefipngapgffdaaGreatDoorD1
import Derived.BigQuiet
import Derived.Deep.QuietTactic
import Derived.IntWalk
namespace Go.Proofs.YtefipngapgffdaaGreatDoor
open Go.RowKit
set_option linter.unusedVariables false
set_option linter.unusedSimpArgs false
set_option maxRecDepth 100000 in
set_option maxHeartbeats 8000000 in
theorem web35 (w0 w : World) {A : Option Addr} {n c : Nat} {xs : List Int} {s : ByteArray} {p b : Int} {m : Nat} {S : ByteArray} {D M V H C K : List Int} {O T P uN uD uC : Int} (F : Hid (WFacts xs s p b n m S D M V H C K O T P uN uD uC)) (HCP : Hid (n ≤ c ∧ c ≤ 9223372036854775807)) (hnb : 2 ≤ n ∧ n ≤ 8)
    (R : Hid (Rds w A n 1 (fun x : Int => [.int .i64 x]) xs)) {Ah Ax : Option Addr} {ch cx : Nat} (RH : Hid (Rds w Ah m 1 (fun x : Int => [.int .i64 x]) H)) (RC : Hid (Rds w Ax m 1 (fun x : Int => [.int .i64 x]) C)) (HB : Hid (Below w0.heap.size w0 w))
    (t : Array Value) (ht : t.size = 548) (h5 : t[5]! = .slice A n c) (h10 : t[10]! = .int .i64 T) (h31 : t[31]! = .int .i64 P) (h38 : t[38]! = .slice Ah m ch) (h42 : t[42]! = .slice Ax m cx)
    (Kk : Act → World → Prop) (hK : ∀ a w, (rs (cd 27 webCode)).wp Tryz.prog (bodyPost Tryz.prog Tryz.f3 fun e w' => e = .returned (.bool true) ∧ Below w0.heap.size w0 w') a w → Kk a w) :
    (hd (cd 27 webCode)).wp Tryz.prog (Exit.then Kk (bodyPost Tryz.prog Tryz.f3 fun e w' => e = .returned (.bool true) ∧ Below w0.heap.size w0 w')) ⟨t, []⟩ w := by
  rw [(slots548 t ht).choose_spec.1] at h5 h10 h31 h38 h42
  obtain ⟨z, hz⟩ : ∃ z, (slots548 t ht).choose = z := ⟨_, rfl⟩
  have e := (slots548 t ht).choose_spec.2
  rw [hz] at h5 h10 h31 h38 h42 e
  rw [e, h5, h10, h31, h38, h42]
  clear e hz h5 h10 h31 h38 h42 ht t
  conv => arg 2; whnf
  conv at hK => enter [a, w, 1, 2]; whnf
  have HDR : Hid (∀ wx, Rds wx Ah m 1 (fun x : Int => [.int .i64 x]) H → Calls Tryz.prog 24 #[.slice Ah m ch, .int .i64 (n : Int)] wx (RetOwnT 2 1 n (nums .i64 K) [.int .i64 0] wx)) := Lib.hid (fun wx Rx => by have h := iDrawOut Ah m ch H (n : Int) wx Rx; rw [F.out.dC, F.out.dR, F.out.wK] at h; exact h)
  have HCI : Hid (∀ wx, Rds wx A n 1 (fun x : Int => [.int .i64 x]) xs → Calls Tryz.prog 25 #[.slice A n c, .int .u8 102, .int .i64 0] wx (RetOwnT 2 1 n (nums .i64 K) [.int .i64 0, .int .i64 0] wx)) := Lib.hid (fun wx Rx => by have h := iCardOnce A n c xs 102 0 wx Rx HCP.out (by decide) (by decide); rw [F.out.o1, F.out.o2, F.out.o3, F.out.wK] at h; exact h)
  have HCS : Hid (∀ wx, Rds wx A n 1 (fun x : Int => [.int .i64 x]) xs → Calls Tryz.prog 26 #[.slice A n c, .int .u8 102, .int .i64 0] wx (RetOwnT 2 1 n (nums .i64 K) [.int .i64 0, .int .i64 0] wx)) := Lib.hid (fun wx Rx => by have h := sCardOnce A n c xs 102 0 wx Rx HCP.out (by decide) (by decide); rw [F.out.o1, F.out.o2, F.out.o3, F.out.wK] at h; exact h)
  go_wp2_with fail
  refine (HDR.out _ RH.out).mono ?_
  rintro e w1 ⟨Al, cl, rfl, O, hb⟩
  replace HB := Lib.hid (below_then HB.out HB.out.size hb)
  replace R := Lib.hid (R.out.below hb)
  replace RH := Lib.hid (RH.out.below hb)
  replace RC := Lib.hid (RC.out.below hb)
  have Rl := Lib.hid (own_rds1 O (by omega))
  clear O hb
  go_wp2_with fail
  refine (HCI.out _ R.out).mono ?_
  rintro e w2 ⟨Ao, co, rfl, O, hb⟩
  replace HB := Lib.hid (below_then HB.out HB.out.size hb)
  replace R := Lib.hid (R.out.below hb)
  replace RH := Lib.hid (RH.out.below hb)
  replace RC := Lib.hid (RC.out.below hb)
  replace Rl := Lib.hid (Rl.out.below hb)
  have Ro := Lib.hid (own_rds1 O (by omega))
  clear O hb
  go_wp2_with fail
  refine (HCS.out _ R.out).mono ?_
  rintro e w3 ⟨Ak, ck, rfl, O, hb⟩
  replace HB := Lib.hid (below_then HB.out HB.out.size hb)
  replace R := Lib.hid (R.out.below hb)
  replace RH := Lib.hid (RH.out.below hb)
  replace RC := Lib.hid (RC.out.below hb)
  replace Rl := Lib.hid (Rl.out.below hb)
  replace Ro := Lib.hid (Ro.out.below hb)
  have Rk := Lib.hid (own_rds1 O (by omega))
  clear O hb
  clear HDR HCI HCS
  go_wp2_with fail
  refine (a2Same_true Ao Ak n co ck K _ Ro.out Rk.out).mono ?_
  rintro e w4 ⟨rfl, hb⟩
  replace HB := Lib.hid (below_then HB.out HB.out.size hb)
  replace R := Lib.hid (R.out.below hb)
  replace RH := Lib.hid (RH.out.below hb)
  replace RC := Lib.hid (RC.out.below hb)
  replace Rl := Lib.hid (Rl.out.below hb)
  replace Ro := Lib.hid (Ro.out.below hb)
  replace Rk := Lib.hid (Rk.out.below hb)
  clear hb
  clear Ro
  go_wp2_with fail
  refine (a2Same_true Al Ak n cl ck K _ Rl.out Rk.out).mono ?_
  rintro e w5 ⟨rfl, hb⟩
  replace HB := Lib.hid (below_then HB.out HB.out.size hb)
  replace R := Lib.hid (R.out.below hb)
  replace RH := Lib.hid (RH.out.below hb)
  replace RC := Lib.hid (RC.out.below hb)
  replace Rl := Lib.hid (Rl.out.below hb)
  replace Rk := Lib.hid (Rk.out.below hb)
  clear hb
  clear Rl
  go_wp2_with fail
  have U : Hid (∀ wx : World, True) := Lib.hid (fun _ => trivial)
  go_loopw [52] (fun v wr => ∃ k : Nat, k ≤ m ∧ v = .int .i64 k ∧ Hid (Below w5.heap.size w5 wr)) (fun v _ => m - (intOf v).toNat)
  case atStart => exact ⟨0, by omega, rfl, Lib.hid (Below.refl _ _)⟩
  case round =>
    obtain ⟨k, hk, rfl, hbw⟩ := hrel
    replace R := Lib.hid (R.out.below hbw.out)
    replace RH := Lib.hid (RH.out.below hbw.out)
    replace RC := Lib.hid (RC.out.below hbw.out)
    replace Rk := Lib.hid (Rk.out.below hbw.out)
    replace HB := Lib.hid (below_then HB.out HB.out.size hbw.out)
    by_cases hlt : k < m
    · as_aux_lemma =>
      have hm : n = 2 * m := F.out.nm
      obtain ⟨j, gj⟩ : ∃ x, n - 1 - k = x := ⟨_, rfl⟩
      obtain ⟨k2, gk2⟩ : ∃ x, 2 * k = x := ⟨_, rfl⟩
      obtain ⟨k3, gk3⟩ : ∃ x, 2 * k + 1 = x := ⟨_, rfl⟩
      obtain ⟨k4, gk4⟩ : ∃ x, k + m = x := ⟨_, rfl⟩
      have hjn : j < n := by omega
      have hk2 : k2 < n := by omega
      have hk3 : k3 < n := by omega
      have hk4 : k4 < n := by omega
      have hkn : k < n := by omega
      obtain ⟨ah, h, rfl, hh, ch0⟩ := RH.out.at1 hlt
      obtain ⟨ac, y, rfl, hy, cc0⟩ := RC.out.at1 hlt
      obtain ⟨ax, x1, rfl, hx1, cx1⟩ := R.out.at1 hkn
      obtain ⟨x2, hx2⟩ : ∃ x, xs[j]? = some x := ⟨_, List.getElem?_eq_getElem (by rw [F.out.web.1]; omega)⟩
      have cx2 := R.out.cellOf hx2
      obtain ⟨x3, hx3⟩ : ∃ x, xs[k4]? = some x := ⟨_, List.getElem?_eq_getElem (by rw [F.out.web.1]; omega)⟩
      have cx3 := R.out.cellOf hx3
      obtain ⟨ak, a, rfl, ha, ca0⟩ := Rk.out.at1 hk2
      obtain ⟨b1, hb1⟩ : ∃ x, K[k3]? = some x := ⟨_, List.getElem?_eq_getElem (by rw [F.out.wK]; omega)⟩
      have cb0 := Rk.out.cellOf hb1
      have q1 := F.out.aH k hlt; have q2 := F.out.aC k hlt; have q3 := F.out.aK k hlt
      rw [gj, gd_of hh, gd_of hx1, gd_of hx2] at q1; rw [gk4, gd_of hy, gd_of hx1, gd_of hx3] at q2; rw [gk3, gk2, gd_of ha, gd_of hb1, gd_of hh] at q3
      have r1 := F.out.web.2.2.2.2 x1 (List.mem_of_getElem? hx1)
      have r2 := F.out.web.2.2.2.2 x2 (List.mem_of_getElem? hx2)
      have r3 := F.out.web.2.2.2.2 x3 (List.mem_of_getElem? hx3)
      obtain ⟨q3, q4⟩ := q3
      subst q1 q2
      clear hh hy hx1 hx2 hx3 ha hb1
      have v1 : IntKind.i64.wrap ((n : Int) - 1) = (n : Int) - 1 := (IntWalk.i64_in _ (by omega)).trans (by omega)
      have v2 : IntKind.i64.wrap ((n : Int) - 1 - (k : Int)) = (j : Int) := (IntWalk.i64_in _ (by omega)).trans (by omega)
      have v3 : IntKind.i64.wrap ((k : Int) + (m : Int)) = (k4 : Int) := (IntWalk.i64_in _ (by omega)).trans (by omega)
      have v4 : IntKind.i64.wrap (2 * (k : Int)) = (k2 : Int) := (IntWalk.i64_in _ (by omega)).trans (by omega)
      have v5 : IntKind.i64.wrap ((k2 : Int) + 1) = (k3 : Int) := (IntWalk.i64_in _ (by omega)).trans (by omega)
      have v6 : IntKind.i64.wrap (x1 + x2) = x1 + x2 := (IntWalk.i64_in _ (by omega)).trans (by omega)
      have v7 : IntKind.i64.wrap (x1 + x3) = x1 + x3 := (IntWalk.i64_in _ (by omega)).trans (by omega)
      have v8 : IntKind.i64.wrap (a + b1) = x1 + x2 := (IntWalk.i64_in _ (by omega)).trans (by omega)
      have v9 : IntKind.i64.wrap (a - b1) = a - b1 := (IntWalk.i64_in _ (by omega)).trans (by omega)
      have t1 : ¬ 1 < a - b1 := by omega
      have t2 : ¬ a < b1 := by omega
      have t3 : decide (1 < a - b1) = false := decide_eq_false t1
      have t4 : decide (a < b1) = false := decide_eq_false t2
      clear gj gk2 gk3 gk4 q3 q4 r1 r2 r3 hm
      go_wp2_with fail
      go_quiet (fail)
      go_wp2_with fail
      go_roundw
      case rel => exact ⟨k + 1, by omega, by go_num, Lib.hid (hbw.out.trans (Joins.below_draws _ _ _))⟩
      case measure => simp [intOf]; omega
    · obtain rfl : k = m := by omega
      have hni : ¬ (k : Int) < (k : Int) := by omega
      go_upto_region 45 with fail
      exact web45 w0 _ A n c xs R HB T P uN uD uC F.out.eN F.out.eD F.out.eC F.out.un _ rfl rfl rfl rfl _ (by assumption)
end Go.Proofs.YtefipngapgffdaaGreatDoor
