/- Contracts: rolled, l02Roll, RollWeb. -/
import Derived.Test.YtefipngapgffdaaGreatDoorC9

import Derived.IntWalk
namespace Go.Proofs.YtefipngapgffdaaGreatDoor
open Go.RowKit
set_option linter.unusedVariables false
set_option linter.unusedSimpArgs false
def rollAt (n : Nat) (b : Int) : Nat := (((n : Int) - b % n) % n).toNat
def rollL (xs : List Int) (b : Int) : List Int := xs.drop (rollAt xs.length b) ++ xs.take (rollAt xs.length b)
theorem rollAt_lt {n : Nat} (hn : 0 < n) (b : Int) : rollAt n b < n := by
  unfold rollAt
  have h1 := Int.emod_nonneg ((n : Int) - b % n) (show (n : Int) ≠ 0 by omega)
  have h2 := Int.emod_lt_of_pos ((n : Int) - b % n) (show (0 : Int) < n by omega)
  omega
theorem rollL_len (xs : List Int) (b : Int) : (rollL xs b).length = xs.length := by
  rcases Nat.eq_zero_or_pos xs.length with h | h
  · have : xs = [] := List.length_eq_zero_iff.1 h
    subst this
    simp [rollL]
  · have := rollAt_lt h b
    unfold rollL
    rw [List.length_append, List.length_drop, List.length_take]
    omega
theorem tmod_fix {b n : Int} (hn : 0 < n) : -n < b.tmod n ∧ b.tmod n < n ∧ (b.tmod n + n).tmod n = b % n := by
  have h1 := Int.emod_nonneg b (show n ≠ 0 by omega)
  have h2 := Int.emod_lt_of_pos b hn
  have h3 : b.tmod n = b % n - ((if 0 ≤ b ∨ n ∣ b then 0 else n.natAbs : Nat) : Int) := Int.tmod_eq_emod
  have key : -n < b.tmod n ∧ b.tmod n < n ∧ (b.tmod n + n) % n = b % n := by
    rw [h3]
    split
    · refine ⟨by omega, by omega, ?_⟩
      rw [show (((0 : Nat)) : Int) = 0 from rfl, Int.sub_zero, Int.add_emod_right, Int.emod_emod_of_dvd _ (Int.dvd_refl n)]
    · have hna : (n.natAbs : Int) = n := Int.natAbs_of_nonneg (by omega)
      rw [hna]
      refine ⟨by omega, by omega, ?_⟩
      rw [Int.sub_add_cancel, Int.emod_emod_of_dvd _ (Int.dvd_refl n)]
  refine ⟨key.1, key.2.1, ?_⟩
  rw [Int.tmod_eq_emod_of_nonneg (by omega)]
  exact key.2.2
theorem rds_drop {w : World} {ad : Addr} {n k : Nat} {xs : List Int} (R : Rds w (some ad) n 1 (fun x : Int => [.int .i64 x]) xs) (hk : k ≤ n) : Rds w (some (ad.add k)) (n - k) 1 (fun x : Int => [.int .i64 x]) (xs.drop k) := by
  refine ⟨by rw [List.length_drop, R.1], by have := R.2.1; omega, fun hn => ?_⟩
  obtain ⟨ad', h1, h2⟩ := R.2.2 (by omega)
  cases h1
  refine ⟨_, rfl, fun i x hx j v hv => ?_⟩
  rw [List.getElem?_drop] at hx
  have := h2 (k + i) x hx j v hv
  rw [Addr.add_add, show k + (i * 1 + j) = (k + i) * 1 + j by omega]
  exact this
theorem rds_take {w : World} {ad : Addr} {n k : Nat} {xs : List Int} (R : Rds w (some ad) n 1 (fun x : Int => [.int .i64 x]) xs) (hk : k ≤ n) : Rds w (some ad) k 1 (fun x : Int => [.int .i64 x]) (xs.take k) := by
  refine ⟨by rw [List.length_take, R.1]; omega, by have := R.2.1; omega, fun hn => ?_⟩
  obtain ⟨ad', h1, h2⟩ := R.2.2 (by omega)
  cases h1
  refine ⟨_, rfl, fun i x hx j v hv => ?_⟩
  rw [List.getElem?_take] at hx
  split at hx
  · exact h2 i x hx j v hv
  · cases hx
theorem length64_any (A : Option Addr) (n c : Nat) (w : World) (hn : n ≤ 140737488351232) : Calls Tryz.prog 51 #[.slice A n c] w fun e w' => e = .returned (.int .i64 n) ∧ w = w' := by
  go_enter Tryz.func51, Tryz.ntmps51
  go_wp2
  go_ret
  exact ⟨rfl, rfl⟩
set_option maxHeartbeats 2000000 in
theorem rolled_any (A : Option Addr) (n c : Nat) (xs : List Int) (b : Int) (w : World) (R : Rds w A n 1 (fun x : Int => [.int .i64 x]) xs) (hb : -9223372036854775808 ≤ b ∧ b ≤ 9223372036854775807) (hn : 0 < n) (hn2 : n ≤ 12) (hc : n ≤ c) (hc2 : c ≤ 9223372036854775807) :
    Calls Tryz.prog 43 #[.slice A n c, .int .i64 b] w (RetOwn 2 1 n (nums .i64 (rollL xs b)) w) := by
  obtain ⟨ad, rfl, _⟩ := R.2.2 hn
  have hxl := R.1
  obtain ⟨t1, t2, t3⟩ := tmod_fix (b := b) (n := (n : Int)) (by omega)
  have m1 := Int.emod_nonneg b (show (n : Int) ≠ 0 by omega)
  have m2 := Int.emod_lt_of_pos b (show (0 : Int) < n by omega)
  have t4 : ((n : Int) - b % n).tmod n = ((n : Int) - b % n) % n := Int.tmod_eq_emod_of_nonneg (by omega)
  have hat : ((n : Int) - b % n) % n = (rollAt n b : Int) := by
    unfold rollAt
    have := Int.emod_nonneg ((n : Int) - b % n) (show (n : Int) ≠ 0 by omega)
    omega
  rw [hat] at t4
  have hlt := rollAt_lt hn b
  have hr : rollL xs b = xs.drop (rollAt n b) ++ xs.take (rollAt n b) := by unfold rollL; rw [hxl]
  rw [hr]
  obtain ⟨k, hk⟩ : ∃ k, rollAt n b = k := ⟨_, rfl⟩
  obtain ⟨q, hq⟩ : ∃ q, b.tmod n = q := ⟨_, rfl⟩
  obtain ⟨s, hs⟩ : ∃ s, b % (n : Int) = s := ⟨_, rfl⟩
  rw [hk] at t4 hlt ⊢
  rw [hq] at t1 t2 t3
  rw [hs] at t3 t4 m1 m2
  have v1 : IntKind.i64.wrap q = q := IntWalk.i64_in _ (by omega)
  have v2 : IntKind.i64.wrap (q + n) = q + n := IntWalk.i64_in _ (by omega)
  have v3 : IntKind.i64.wrap s = s := IntWalk.i64_in _ (by omega)
  have v4 : IntKind.i64.wrap ((n : Int) - s) = (n : Int) - s := IntWalk.i64_in _ (by omega)
  have v5 : IntKind.i64.wrap (k : Int) = (k : Int) := IntWalk.i64_in _ (by omega)
  have z1 : ((n : Int) == 0) = false := by simp; omega
  have z2 : ¬ (n : Int) = 0 := by omega
  have R1 := Lib.hid (rds_drop R (show k ≤ n by omega)); have R2 := Lib.hid (rds_take R (show k ≤ n by omega))
  have hkn : (k : Int) ≤ (n : Int) := by omega
  have hkc : (k : Int) ≤ (c : Int) := by omega
  have hnc : (n : Int) ≤ (c : Int) := by omega
  have hck : ¬ c = k := by omega
  clear hxl hat hr hk hs R
  go_enter Tryz.func43, Tryz.ntmps43
  go_wp2_with (go_at_call 51; (refine (length64_any _ _ _ _ (by omega)).mono ?_); rintro e w' ⟨rfl, rfl⟩)
  clear v1 v2 v3 v4 v5 t3 t4
  have v5 : IntKind.i64.wrap (k : Int) = (k : Int) := IntWalk.i64_in _ (by omega)
  go_region_held3 (fun w' => True)
    (trivial)
    ((go_at_call 76; refine (concat_any _ _ (n - k) _ k _ _ _ (xs.drop k) (xs.take k) _ (Lib.hid (Row.drew (Row.alloc w _ _))) (R1.out.below ((Below.refl _ _).alloc (Nat.le_refl _) _).drew) (R2.out.below ((Below.refl _ _).alloc (Nat.le_refl _) _).drew) (by omega) (by omega)).mono ?_; rintro e w2 ⟨A2, c2, rfl, O2, hb2⟩))
  clear v5
  go_wp2_with fail
  go_ret
  have hB := below_then (w := w) (B := w.heap.size) ((Below.refl _ _).alloc (Nat.le_refl _) _).drew (by simp) hb2
  refine ⟨A2, c2, ?_, ?_, hB⟩
  · rw [show n - k + k = n by omega]; rfl
  · have := own_lower (b' := w.heap.size) O2 (by simp)
    rw [show n - k + k = n by omega] at this
    exact this
end Go.Proofs.YtefipngapgffdaaGreatDoor
