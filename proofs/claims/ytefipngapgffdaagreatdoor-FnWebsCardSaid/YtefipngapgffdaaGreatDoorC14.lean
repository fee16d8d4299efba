/- Contracts: cardedAll: all passes of a text. -/
import Derived.Test.YtefipngapgffdaaGreatDoorC13
import Derived.Test.YtefipngapgffdaaGreatDoorC7
namespace Go.Proofs.YtefipngapgffdaaGreatDoor
open Go.RowKit
set_option linter.unusedVariables false
set_option linter.unusedSimpArgs false
def bq (s : ByteArray) (k : Nat) : Int := if h : k < s.size then ((s[k]'h).toNat : Int) else 0
def crL (xs : List Int) (s : ByteArray) (p : Int) : Nat → List Int
  | 0 => xs
  | k + 1 => cardL (crL xs s p k) (bq s k) p
def crF (xs : List Int) (s : ByteArray) (p : Int) : Nat → Int
  | 0 => 0
  | k + 1 => crF xs s p k + cardF (crL xs s p k) (bq s k) p
theorem crL_web {xs : List Int} {n : Nat} (h : Web xs n) (s : ByteArray) {p : Int} (hp : 0 ≤ p ∧ p ≤ 100) : ∀ k, Web (crL xs s p k) n
  | 0 => h
  | k + 1 => (card_web (crL_web h s hp k) hp).1
theorem crF_rng {xs : List Int} {n : Nat} (h : Web xs n) (s : ByteArray) {p : Int} (hp : 0 ≤ p ∧ p ≤ 100) : ∀ k : Nat, 0 ≤ crF xs s p k ∧ crF xs s p k ≤ 120000 * k
  | 0 => by simp [crF]
  | k + 1 => by
    have ih := crF_rng h s hp k
    have h1 := (card_web (crL_web h s hp k) (c := bq s k) hp).2
    simp only [crF]
    omega
set_option maxHeartbeats 1000000 in
theorem cardedAll_any (A : Option Addr) (n c : Nat) (xs : List Int) (s : ByteArray) (p : Int) (w : World) (R : Rds w A n 1 (fun x : Int => [.int .i64 x]) xs) (W : Hid (Web xs n)) (hp : 0 ≤ p ∧ p ≤ 100) (hs : s.size ≤ 20) :
    Calls Tryz.prog 39 #[.slice A n c, .string s, .int .i64 p] w (RetOwnT 2 1 n (nums .i64 (crL xs s p s.size)) [.int .i64 (crF xs s p s.size)] w) := by
  obtain ⟨w1_, w2_, w3_, w4_, w5_⟩ := W.out
  clear w5_
  go_enter Tryz.func39, Tryz.ntmps39
  go_wp2_with fail
  refine (clone_i64 A n c xs _ R (by omega) (by omega)).mono ?_
  rintro e w1 ⟨A1, c1, rfl, O1, hb1⟩
  have HB1 := Lib.hid hb1; have HO1 := Lib.hid O1; clear hb1 O1
  go_wp2_with fail
  go_loopw [8, 9, 17] (fun o f v wr => ∃ (k : Nat) (A' : Option Addr) (c' : Nat), k ≤ s.size ∧ v = .int .i64 k ∧ o = .slice A' n c' ∧ f = .int .i64 (crF xs s p k) ∧ Hid (wr.ownsRow w.heap.size 2 1 (.slice A' n c') n (nums .i64 (crL xs s p k))) ∧ Hid (Below w.heap.size w wr)) (fun _ _ v _ => s.size - (intOf v).toNat)
  case atStart => exact ⟨0, _, _, by omega, rfl, rfl, rfl, HO1, HB1⟩
  case round =>
    obtain ⟨k, A', c', hk, rfl, rfl, rfl, O, HB⟩ := hrel
    clear HO1 HB1
    by_cases hlt : k < s.size
    · have HW := Lib.hid (crL_web W.out s hp k)
      have hF := crF_rng W.out s hp k
      have hF2 := (card_web HW.out (c := bq s k) hp).2
      have hq : bq s k = ((s[k]'hlt).toNat : Int) := by unfold bq; rw [dif_pos hlt]
      have HQ := Lib.hid hq; clear hq
      obtain ⟨T, hT⟩ : ∃ T, crF xs s p k = T := ⟨_, rfl⟩
      rw [hT] at hF ⊢
      have HT := Lib.hid hT; clear hT
      have hk1 : (k : Int) < (s.size : Int) := by omega
      go_wp2_with fail
      rw [← HQ.out]
      refine (carded_any A' n c' (crL xs s p k) (bq s k) p _ (own_rds1 O.out (by omega)) (own_cap O.out) HW hp).mono ?_
      rintro e w2 ⟨A2, c2, rfl, O2, hb2⟩
      have HB2 := Lib.hid (below_then HB.out HB.out.size hb2)
      have HO2 := Lib.hid (own_lower O2 HB.out.size)
      clear O2 hb2
      obtain ⟨U, hU⟩ : ∃ U, cardF (crL xs s p k) (bq s k) p = U := ⟨_, rfl⟩
      rw [hU] at hF2 ⊢
      have HU := Lib.hid hU; clear hU
      go_wp2_with fail
      go_roundw
      case rel => exact ⟨k + 1, A2, c2, by omega, by go_num, rfl, by simp only [crF]; rw [HT.out, HU.out], Lib.hid (by simp only [crL]; exact HO2.out), HB2⟩
      case measure => simp [intOf]; omega
    · obtain rfl : k = s.size := by omega
      go_wp2_with fail
      go_ret2
      exact ⟨A', c', rfl, O.out, HB.out⟩
end Go.Proofs.YtefipngapgffdaaGreatDoor
