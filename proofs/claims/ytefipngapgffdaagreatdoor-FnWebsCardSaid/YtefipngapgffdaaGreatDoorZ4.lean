/- The walk of FnWebs, its end: how uneven a web is. -/
import Derived.Test.YtefipngapgffdaaGreatDoorZ3
import Derived.Test.YtefipngapgffdaaGreatDoorE2
import Derived.Test.YtefipngapgffdaaGreatDoorV3
import Derived.BigQuiet
import Derived.Deep.QuietTactic
import Derived.IntWalk
namespace Go.Proofs.YtefipngapgffdaaGreatDoor
open Go.RowKit
set_option linter.unusedVariables false
set_option linter.unusedSimpArgs false
set_option maxRecDepth 100000 in
set_option maxHeartbeats 4000000 in
theorem web45 (w0 w : World) (A : Option Addr) (n c : Nat) (xs : List Int) (R : Hid (Rds w A n 1 (fun x : Int => [.int .i64 x]) xs)) (HB : Hid (Below w0.heap.size w0 w)) (T P uN uD uC : Int)
    (hN : unN xs = uN) (hD : unD xs = uD) (hC : unC xs = uC) (hun : (T = 0 ∧ uC = 6) ∨ (0 < T ∧ uC = 0 ∧ 0 ≤ uN ∧ (uN = 0 ↔ P = 0) ∧ 1 ≤ uD))
    (t : Array Value) (ht : t.size = 548) (h5 : t[5]! = .slice A n c) (h10 : t[10]! = .int .i64 T) (h31 : t[31]! = .int .i64 P)
    (K : Act → World → Prop) (hK : ∀ a w, (rs (cd 32 webCode)).wp Tryz.prog (bodyPost Tryz.prog Tryz.f3 fun e w' => e = .returned (.bool true) ∧ Below w0.heap.size w0 w') a w → K a w) :
    (hd (cd 32 webCode)).wp Tryz.prog (Exit.then K (bodyPost Tryz.prog Tryz.f3 fun e w' => e = .returned (.bool true) ∧ Below w0.heap.size w0 w')) ⟨t, []⟩ w := by
  rw [(slots548 t ht).choose_spec.1] at h5 h10 h31
  obtain ⟨s, hs⟩ : ∃ s, (slots548 t ht).choose = s := ⟨_, rfl⟩
  have e := (slots548 t ht).choose_spec.2
  rw [hs] at h5 h10 h31 e
  rw [e, h5, h10, h31]
  clear e hs h5 h10 h31 ht t
  conv => arg 2; whnf
  conv at hK => enter [a, w, 1, 2]; whnf
  have HI : Hid (∀ wx, Rds wx A n 1 (fun x : Int => [.int .i64 x]) xs → Calls Tryz.prog 27 #[.slice A n c] wx fun e w' => e = .returned (.tuple #[Fr uN uD, .int .i64 uC]) ∧ Below wx.heap.size wx w') := Lib.hid (fun wx Rx => by have h := iUnevenness A n c xs wx Rx; rw [hN, hD, hC] at h; exact h)
  have HS : Hid (∀ wx, Rds wx A n 1 (fun x : Int => [.int .i64 x]) xs → Calls Tryz.prog 28 #[.slice A n c] wx fun e w' => e = .returned (.tuple #[Fr uN uD, .int .i64 uC]) ∧ Below wx.heap.size wx w') := Lib.hid (fun wx Rx => by have h := sUnevenness A n c xs wx Rx; rw [hN, hD, hC] at h; exact h)
  clear hN hD hC
  have hun2 : ((uC == 0) = decide (0 < T)) ∧ (uC = 0 ∨ uC = 6) ∧ (uC = 0 → 0 ≤ uN ∧ ((uN == 0) = (P == 0)) ∧ 1 ≤ uD) := by
    rcases hun with ⟨rfl, rfl⟩ | ⟨hT, rfl, hn0, hiff, hd1⟩
    · exact ⟨rfl, .inr rfl, fun e => by cases e⟩
    · refine ⟨by simp [hT], .inl rfl, fun _ => ⟨hn0, ?_, hd1⟩⟩
      by_cases h : uN = 0
      · rw [h, hiff.1 h]
      · have h2 : ¬ P = 0 := fun e => h (hiff.2 e)
        rw [beq_eq_false_iff_ne.2 h, beq_eq_false_iff_ne.2 h2]
  obtain ⟨hz, hc, hpos⟩ := hun2
  clear hun
  go_wp2_with fail
  refine (HI.out _ R.out).mono ?_
  rintro e w1 ⟨rfl, hb⟩
  replace HB := Lib.hid (below_then HB.out HB.out.size hb)
  replace R := Lib.hid (R.out.below hb)
  clear hb HI
  go_wp2_with fail
  replace HB := Lib.hid (HB.out.alloc HB.out.size (.cells #[.int .i64 uN, .int .i64 uD] 41))
  replace R := Lib.hid (R.out.below (below_alloc1 w1 (.cells #[.int .i64 uN, .int .i64 uD] 41)))
  have X0 := Row.alloc w1 [.int .i64 uN, .int .i64 uD] 41
  refine (HS.out _ R.out).mono ?_
  rintro e w2 ⟨rfl, hb⟩
  replace HB := Lib.hid (below_then HB.out HB.out.size hb)
  replace X0 := X0.below hb
  have hz2 := hb.size
  (try simp only [World.size_alloc] at hz2)
  have hl0 := X0.lt
  have e0 := X0.cells2
  clear hb HS R
  rcases hc with rfl | rfl
  · obtain ⟨hn0, hiff, hd1⟩ := hpos rfl
    clear hpos
    have hn1 : ¬ uN < 0 := by omega
    have hd2 : ¬ uD < 1 := by omega
    have hT : 0 < T := by simpa using hz
    clear hz
    go_wp2_with fail
    all_goals go_ret
    all_goals exact ⟨rfl, HB.out.alloc HB.out.size _⟩
  · have hT : ¬ 0 < T := by simpa using hz
    clear hpos hz
    go_wp2_with fail
    all_goals go_ret
    all_goals exact ⟨rfl, HB.out.alloc HB.out.size _⟩
end Go.Proofs.YtefipngapgffdaaGreatDoor
