/- The walk of FnFleeces, its grades. -/
import Derived.Test.YtbkhlcbnnjgdpaaGreatDoorX5
import Derived.Test.YtbkhlcbnnjgdpaaGreatDoorX3
import Derived.Test.YtbkhlcbnnjgdpaaGreatDoorU6
import Derived.Test.YtbkhlcbnnjgdpaaGreatDoorU7
import Derived.BigQuiet
import Derived.Deep.QuietTactic
import Derived.Deep.DeepCutAuto
import Derived.Deep.MidRow
import Derived.IntWalk
namespace Go.Proofs.YtbkhlcbnnjgdpaaGreatDoor
open Go.RowKit
set_option linter.unusedVariables false
set_option linter.unusedSimpArgs false
set_option maxRecDepth 100000 in
set_option maxHeartbeats 8000000 in
theorem fl64 (w0 w : World) {n cx : Nat} {Ax : Option Addr} {xs : List (Int × List Int)} (HL : Hid (∀ x ∈ xs, FlD x)) (hn4 : n ≤ 4) (RF : Hid (Rds w Ax n 9 FlC xs)) (HB : Hid (Below w0.heap.size w0 w))
    (t : Array Value) (ht : t.size = 648) (h6 : t[6]! = .slice Ax n cx)
    (Kk : Act → World → Prop) (hK : ∀ a w, (rs (cd 33 flCode)).wp Tryz.prog (bodyPost Tryz.prog Tryz.f3 fun e w' => e = .returned (.bool true) ∧ Below w0.heap.size w0 w') a w → Kk a w) :
    (hd (cd 33 flCode)).wp Tryz.prog (Exit.then Kk (bodyPost Tryz.prog Tryz.f3 fun e w' => e = .returned (.bool true) ∧ Below w0.heap.size w0 w')) ⟨t, []⟩ w := by
  rw [(slots648 t ht).choose_spec.1] at h6
  obtain ⟨z, hz⟩ : ∃ z, (slots648 t ht).choose = z := ⟨_, rfl⟩
  have e := (slots648 t ht).choose_spec.2
  rw [hz] at h6 e
  rw [e, h6]
  clear e hz h6 ht t
  conv => arg 2; whnf
  conv at hK => enter [a, w, 1, 2]; whnf
  have HXL := Lib.hid RF.out.1
  have hF : Hid (FlOk xs) := Lib.hid (fld_wf HL.out)
  have g1 := gf_ok HL.out (by rw [HXL.out]; omega)
  have g2 := gf_is HL.out (by rw [HXL.out]; omega)
  obtain ⟨g3, g4⟩ := gh_is HL.out (by rw [HXL.out]; omega)
  rw [HXL.out] at g4
  have g5 : (xs.map fun x => cntL [3, 6] x.1).length = n := by rw [List.length_map]; exact HXL.out
  have HGI : Hid (∀ wx B d, Rds wx Ax n 9 FlC xs → Rds wx B 2 1 (fun x : Int => [.int .i64 x]) [3, 6] → Calls Tryz.prog 28 #[.slice Ax n cx, .slice B 2 d] wx (RetOwnT 2 1 n (nums .i64 (xs.map fun x => cntL [3, 6] x.1)) [.int .i64 0] wx)) := Lib.hid (fun wx B d r1 r2 => by have h := iGradesOf Ax n cx xs B 2 d [3, 6] wx r1 hF r2; rw [g1, g2, g5] at h; exact h)
  have HGS : Hid (∀ wx B d, Rds wx Ax n 9 FlC xs → Rds wx B 2 1 (fun x : Int => [.int .i64 x]) [3, 6] → Calls Tryz.prog 29 #[.slice Ax n cx, .slice B 2 d] wx (RetOwnT 2 1 n (nums .i64 (xs.map fun x => cntL [3, 6] x.1)) [.int .i64 0] wx)) := Lib.hid (fun wx B d r1 r2 => by have h := sGradesOf Ax n cx xs B 2 d [3, 6] wx r1 hF r2; rw [g1, g2, g5] at h; exact h)
  have HHI : Hid (∀ wx B d, Rds wx Ax n 9 FlC xs → Rds wx B 2 1 (fun x : Int => [.int .i64 x]) [3, 6] → Calls Tryz.prog 30 #[.slice Ax n cx, .slice B 2 d] wx (RetOwnT 25 8 3 ((ghL xs [3, 6] n 3).flatMap HE) [.int .i64 0] wx)) := Lib.hid (fun wx B d r1 r2 => by have h := iGradeHeaps Ax n cx xs B 2 d [3, 6] wx r1 hF r2; rw [g3, g4, ghL_len] at h; exact h)
  have HHS : Hid (∀ wx B d, Rds wx Ax n 9 FlC xs → Rds wx B 2 1 (fun x : Int => [.int .i64 x]) [3, 6] → Calls Tryz.prog 31 #[.slice Ax n cx, .slice B 2 d] wx (RetOwnT 25 8 3 ((ghL xs [3, 6] n 3).flatMap HE) [.int .i64 0] wx)) := Lib.hid (fun wx B d r1 r2 => by have h := sGradeHeaps Ax n cx xs B 2 d [3, 6] wx r1 hF r2; rw [g3, g4, ghL_len] at h; exact h)
  clear g1 g2 g3 g4 g5 HXL
  go_upto_region 65 with fail
  have hb := below_alloc1 w (.cells #[.int .i64 3, .int .i64 6] 2)
  have X60 := Row.alloc w [.int .i64 3, .int .i64 6] 2
  have RB : Hid (Rds (World.alloc w (.cells #[.int .i64 3, .int .i64 6] 2)) (some ⟨w.heap.size, 0, none⟩) 2 1 (fun x : Int => [.int .i64 x]) [3, 6]) := Lib.hid (own_rds1 (X60.own (sz := 1) (n := 2) (base := 0) (Nat.zero_le _) (by simp [maxLen]) rfl) (by omega))
  replace HB := Lib.hid (below_then HB.out HB.out.size hb)
  replace RF := Lib.hid (RF.out.below hb)
  clear hb
  clear X60
  obtain ⟨wz, hwz⟩ : ∃ x, x = World.alloc w (.cells #[.int .i64 3, .int .i64 6] 2) := ⟨_, rfl⟩
  obtain ⟨b60, hb60⟩ : ∃ x, x = w.heap.size := ⟨_, rfl⟩
  rw [← hwz] at HB RF RB ⊢
  rw [← hb60] at RB ⊢
  clear hwz hb60 w
  go_wp2_with fail
  refine (HGI.out _ _ _ RF.out RB.out).mono ?_
  rintro e w1 ⟨A61, c61, rfl, O, hb⟩
  replace HB := Lib.hid (below_then HB.out HB.out.size hb)
  replace RF := Lib.hid (RF.out.below hb)
  replace RB := Lib.hid (RB.out.below hb)
  clear hb
  have R61 := Lib.hid (own_rds1 O (by omega))
  clear O HGI
  go_wp2_with fail
  refine (HGS.out _ _ _ RF.out RB.out).mono ?_
  rintro e w2 ⟨A63, c63, rfl, O, hb⟩
  replace HB := Lib.hid (below_then HB.out HB.out.size hb)
  replace RF := Lib.hid (RF.out.below hb)
  replace RB := Lib.hid (RB.out.below hb)
  replace R61 := Lib.hid (R61.out.below hb)
  clear hb
  have R63 := Lib.hid (own_rds1 O (by omega))
  clear O HGS
  go_wp2_with fail
  refine (HHI.out _ _ _ RF.out RB.out).mono ?_
  rintro e w3 ⟨A65, c65, rfl, O, hb⟩
  replace HB := Lib.hid (below_then HB.out HB.out.size hb)
  replace RF := Lib.hid (RF.out.below hb)
  replace RB := Lib.hid (RB.out.below hb)
  replace R61 := Lib.hid (R61.out.below hb)
  replace R63 := Lib.hid (R63.out.below hb)
  clear hb
  have R65 := Lib.hid (own_rdsH O (by omega))
  have hA65 : 3 = 0 ∨ ∃ g, A65 = some ⟨g, 0, none⟩ := by
    by_cases hz : 3 = 0
    · exact .inl hz
    · obtain ⟨g, L, h, -⟩ := own_row O (by omega) (by omega)
      exact .inr ⟨g, h⟩
  clear O
  clear HHI
  go_wp2_with fail
  refine (HHS.out _ _ _ RF.out RB.out).mono ?_
  rintro e w4 ⟨A67, c67, rfl, O, hb⟩
  replace HB := Lib.hid (below_then HB.out HB.out.size hb)
  replace RF := Lib.hid (RF.out.below hb)
  replace R61 := Lib.hid (R61.out.below hb)
  replace R63 := Lib.hid (R63.out.below hb)
  replace R65 := Lib.hid (R65.out.below hb)
  clear hb
  have R67 := Lib.hid (own_rdsH O (by omega))
  have hA67 : 3 = 0 ∨ ∃ g, A67 = some ⟨g, 0, none⟩ := by
    by_cases hz : 3 = 0
    · exact .inl hz
    · obtain ⟨g, L, h, -⟩ := own_row O (by omega) (by omega)
      exact .inr ⟨g, h⟩
  clear O
  clear HHS RB
  go_wp2_with fail
  refine (sameNumbersT A61 A63 n c61 c63 _ _ R61.out R63.out).mono ?_
  rintro e w5 ⟨rfl, hb⟩
  replace HB := Lib.hid (below_then HB.out HB.out.size hb)
  replace RF := Lib.hid (RF.out.below hb)
  replace R63 := Lib.hid (R63.out.below hb)
  replace R65 := Lib.hid (R65.out.below hb)
  replace R67 := Lib.hid (R67.out.below hb)
  clear hb
  clear R61
  go_wp2_with fail
  refine (sameHeaps_true A65 A67 3 c65 c67 _ _ R65.out R67.out hA65 hA67).mono ?_
  rintro e w6 ⟨rfl, hb⟩
  replace HB := Lib.hid (below_then HB.out HB.out.size hb)
  replace RF := Lib.hid (RF.out.below hb)
  replace R63 := Lib.hid (R63.out.below hb)
  replace R67 := Lib.hid (R67.out.below hb)
  clear hb
  clear R65 hA65 hA67
  go_upto_region 71 with fail
  exact fl71 w0 _ HL hn4 RF R63 R67 HB _ rfl rfl rfl rfl _ (by assumption) _ (by assumption)
end Go.Proofs.YtbkhlcbnnjgdpaaGreatDoor
