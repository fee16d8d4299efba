/- The walk of FnWebs, from the folded web on. -/
import Derived.Test.YtefipngapgffdaaGreatDoorZ5
import Derived.Test.YtefipngapgffdaaGreatDoorC4
import Derived.BigQuiet
import Derived.Deep.QuietTactic
import Derived.IntWalk
namespace Go.Proofs.YtefipngapgffdaaGreatDoor
open Go.RowKit
set_option linter.unusedVariables false
set_option linter.unusedSimpArgs false
set_option maxRecDepth 100000 in
set_option maxHeartbeats 8000000 in
theorem web29 (w0 w : World) {A : Option Addr} {n c : Nat} {xs : List Int} {s : ByteArray} {p b : Int} {m : Nat} {S : ByteArray} {D M V H C K : List Int} {O T P uN uD uC : Int} (F : Hid (WFacts xs s p b n m S D M V H C K O T P uN uD uC)) (HCP : Hid (n ≤ c ∧ c ≤ 9223372036854775807)) (hnb : 2 ≤ n ∧ n ≤ 8)
    (R : Hid (Rds w A n 1 (fun x : Int => [.int .i64 x]) xs))  (HB : Hid (Below w0.heap.size w0 w))
    (t : Array Value) (ht : t.size = 548) (h5 : t[5]! = .slice A n c) (h10 : t[10]! = .int .i64 T) (h31 : t[31]! = .int .i64 P)
    (Kk : Act → World → Prop) (hK : ∀ a w, (rs (cd 22 webCode)).wp Tryz.prog (bodyPost Tryz.prog Tryz.f3 fun e w' => e = .returned (.bool true) ∧ Below w0.heap.size w0 w') a w → Kk a w) :
    (hd (cd 22 webCode)).wp Tryz.prog (Exit.then Kk (bodyPost Tryz.prog Tryz.f3 fun e w' => e = .returned (.bool true) ∧ Below w0.heap.size w0 w')) ⟨t, []⟩ w := by
  rw [(slots548 t ht).choose_spec.1] at h5 h10 h31
  obtain ⟨z, hz⟩ : ∃ z, (slots548 t ht).choose = z := ⟨_, rfl⟩
  have e := (slots548 t ht).choose_spec.2
  rw [hz] at h5 h10 h31 e
  rw [e, h5, h10, h31]
  clear e hz h5 h10 h31 ht t
  conv => arg 2; whnf
  conv at hK => enter [a, w, 1, 2]; whnf
  have HFI : Hid (∀ wx, Rds wx A n 1 (fun x : Int => [.int .i64 x]) xs → Calls Tryz.prog 20 #[.slice A n c] wx (RetOwnT 2 1 m (nums .i64 H) [.int .i64 0] wx)) := Lib.hid (fun wx Rx => by have h := iFoldWeb A n c xs wx Rx; rw [F.out.fH, F.out.lH, F.out.oC] at h; exact h)
  have HFS : Hid (∀ wx, Rds wx A n 1 (fun x : Int => [.int .i64 x]) xs → Calls Tryz.prog 21 #[.slice A n c] wx (RetOwnT 2 1 m (nums .i64 H) [.int .i64 0] wx)) := Lib.hid (fun wx Rx => by have h := sFoldWeb A n c xs wx Rx; rw [F.out.fH, F.out.lH, F.out.oC] at h; exact h)
  have HXI : Hid (∀ wx, Rds wx A n 1 (fun x : Int => [.int .i64 x]) xs → Calls Tryz.prog 22 #[.slice A n c] wx (RetOwnT 2 1 m (nums .i64 C) [.int .i64 0] wx)) := Lib.hid (fun wx Rx => by have h := iCrossWeb A n c xs wx Rx; rw [F.out.xC, F.out.lC, F.out.oC] at h; exact h)
  have HXS : Hid (∀ wx, Rds wx A n 1 (fun x : Int => [.int .i64 x]) xs → Calls Tryz.prog 23 #[.slice A n c] wx (RetOwnT 2 1 m (nums .i64 C) [.int .i64 0] wx)) := Lib.hid (fun wx Rx => by have h := sCrossWeb A n c xs wx Rx; rw [F.out.xC, F.out.lC, F.out.oC] at h; exact h)
  have hm8 : m ≤ 4 := by have := F.out.nm; omega
  go_wp2_with fail
  refine (HFI.out _ R.out).mono ?_
  rintro e w1 ⟨Af, cf, rfl, O, hb⟩
  replace HB := Lib.hid (below_then HB.out HB.out.size hb)
  replace R := Lib.hid (R.out.below hb)
  have Rf := Lib.hid (own_rds1 O (by omega))
  clear O hb
  go_wp2_with fail
  refine (HFS.out _ R.out).mono ?_
  rintro e w2 ⟨Ah, ch, rfl, O, hb⟩
  replace HB := Lib.hid (below_then HB.out HB.out.size hb)
  replace R := Lib.hid (R.out.below hb)
  replace Rf := Lib.hid (Rf.out.below hb)
  have Rh := Lib.hid (own_rds1 O (by omega))
  clear O hb
  go_wp2_with fail
  refine (HXI.out _ R.out).mono ?_
  rintro e w3 ⟨Ax, cx, rfl, O, hb⟩
  replace HB := Lib.hid (below_then HB.out HB.out.size hb)
  replace R := Lib.hid (R.out.below hb)
  replace Rf := Lib.hid (Rf.out.below hb)
  replace Rh := Lib.hid (Rh.out.below hb)
  have Rx := Lib.hid (own_rds1 O (by omega))
  clear O hb
  go_wp2_with fail
  refine (HXS.out _ R.out).mono ?_
  rintro e w4 ⟨Ay, cy, rfl, O, hb⟩
  replace HB := Lib.hid (below_then HB.out HB.out.size hb)
  replace R := Lib.hid (R.out.below hb)
  replace Rf := Lib.hid (Rf.out.below hb)
  replace Rh := Lib.hid (Rh.out.below hb)
  replace Rx := Lib.hid (Rx.out.below hb)
  have Ry := Lib.hid (own_rds1 O (by omega))
  clear O hb
  clear HFI HFS HXI HXS
  have v1 : IntKind.i64.wrap (2 * (m : Int)) = (n : Int) := (IntWalk.i64_in _ (by omega)).trans (by have := F.out.nm; omega)
  go_wp2_with fail
  refine (a2Same_true Af Ah m cf ch H _ Rf.out Rh.out).mono ?_
  rintro e w5 ⟨rfl, hb⟩
  replace HB := Lib.hid (below_then HB.out HB.out.size hb)
  replace R := Lib.hid (R.out.below hb)
  replace Rf := Lib.hid (Rf.out.below hb)
  replace Rh := Lib.hid (Rh.out.below hb)
  replace Rx := Lib.hid (Rx.out.below hb)
  replace Ry := Lib.hid (Ry.out.below hb)
  clear hb
  clear Rf
  go_wp2_with fail
  refine (a2Same_true Ax Ay m cx cy C _ Rx.out Ry.out).mono ?_
  rintro e w6 ⟨rfl, hb⟩
  replace HB := Lib.hid (below_then HB.out HB.out.size hb)
  replace R := Lib.hid (R.out.below hb)
  replace Rh := Lib.hid (Rh.out.below hb)
  replace Rx := Lib.hid (Rx.out.below hb)
  replace Ry := Lib.hid (Ry.out.below hb)
  clear hb
  clear Rx
  go_upto_region 35 with fail
  exact web35 w0 _ F HCP hnb R Rh Ry HB _ rfl rfl rfl rfl rfl rfl _ (by assumption)
end Go.Proofs.YtefipngapgffdaaGreatDoor
