/- Contracts: the grades of fleeces: their codes, their bounds, a grade. -/
import Derived.Test.YtppkcihdgedgoaaB4
import Derived.Test.YtppkcihdgedgoaaC3
import Derived.Test.YtppkcihdgedgoaaA0
namespace Go.Proofs.Ytppkcihdgedgoaa
open Go.RowKit
set_option linter.unusedVariables false
set_option linter.unusedSimpArgs false
/-- Number j of a list is out of its bounds, or no greater than the one before. -/
def badAt (xs : List Int) (j : Nat) : Bool := !inB (gd xs j) 1 9 || (decide (0 < j) && decide (gd xs j ≤ gd xs (j - 1)))
def risOk (xs : List Int) : Bool := (List.range xs.length).all fun j => !badAt xs j
theorem ris_no {xs : List Int} {j : Nat} (hj : j < xs.length) (h : badAt xs j = true) : risOk xs = false := by
  unfold risOk
  rw [List.all_eq_false]
  exact ⟨j, List.mem_range.2 hj, by simp [h]⟩
theorem ris_yes {xs : List Int} (h : ∀ j, j < xs.length → badAt xs j = false) : risOk xs = true := by
  unfold risOk
  rw [List.all_eq_true]
  intro j hj
  simp [h j (List.mem_range.1 hj)]
theorem bad_in {xs : List Int} {j : Nat} {x : Int} (hx : xs[j]? = some x) (h : inB x 1 9 = false) : badAt xs j = true := by
  unfold badAt
  rw [gd_of hx, h]
  rfl
theorem bad_first {xs : List Int} {x : Int} {j : Nat} (hj : j ≤ 0) (hx : xs[j]? = some x) (h : inB x 1 9 = true) : badAt xs j = false := by
  obtain rfl : j = 0 := by omega
  unfold badAt
  rw [gd_of hx, h]
  rfl
theorem bad_next {xs : List Int} {j q : Nat} {x y : Int} (hq : j = q + 1) (hx : xs[j]? = some x) (hy : xs[q]? = some y) (h : inB x 1 9 = true) : badAt xs j = decide (x ≤ y) := by
  subst hq
  unfold badAt
  rw [gd_of hx, h, show q + 1 - 1 = q from rfl, gd_of hy]
  simp
theorem upto_succ {P : Nat → Prop} {k : Nat} (h : ∀ j, j < k → P j) (hk : P k) : ∀ j, j < k + 1 → P j := by
  intro j hj
  by_cases h1 : j < k
  · exact h j h1
  · obtain rfl : j = k := by omega
    exact hk
set_option maxHeartbeats 1000000 in
theorem areIncreasing_any (A : Option Addr) (n c : Nat) (xs : List Int) (w : World) (R : Rds w A n 1 (fun x : Int => [.int .i64 x]) xs) :
    Calls Try.prog 70 #[.slice A n c, .int .i64 1, .int .i64 9] w fun e w' => e = .returned (.bool (risOk xs)) ∧ w = w' := by
  have hn := R.2.1
  have HXL := Lib.hid R.1
  go_enter Try.func70, Try.ntmps70
  go_wp2_with fail
  go_loop [11] (fun v => ∃ k : Nat, k ≤ n ∧ v = .int .i64 k ∧ Hid (∀ j, j < k → badAt xs j = false)) (fun v => n - (intOf v).toNat)
  case atStart => exact ⟨0, by omega, rfl, Lib.hid (fun j h => absurd h (Nat.not_lt_zero _))⟩
  case round =>
    obtain ⟨k, hk, rfl, H⟩ := hrel
    by_cases hlt : k < n
    · obtain ⟨ad, x, rfl, hx, e0⟩ := R.at1 hlt
      have HX := Lib.hid hx; clear hx
      cases hin : inB x 1 9
      · have e1 := Lib.hid (ris_no (xs := xs) (j := k) (by rw [HXL.out]; exact hlt) (bad_in HX.out hin))
        go_wp2_with (go_at_call 52; (refine (within_any _ _ _ _).mono ?_); rintro e w' ⟨rfl, rfl⟩; rw [hin])
        go_ret
        exact ⟨ret_bool e1.out.symm, rfl⟩
      · rcases Nat.lt_or_ge 0 k with hkp0 | hk0
        rotate_left
        · have e1 := Lib.hid (bad_first hk0 HX.out hin)
          have hk00 : ¬ (0 : Int) < (k : Int) := by omega
          go_wp2_with (go_at_call 52; (refine (within_any _ _ _ _).mono ?_); rintro e w' ⟨rfl, rfl⟩; rw [hin])
          go_round
          case rel => exact ⟨k + 1, by omega, by go_num, Lib.hid (upto_succ H.out e1.out)⟩
          case measure => simp [intOf]; omega
        · obtain ⟨q, hq⟩ : ∃ q, k = q + 1 := ⟨k - 1, by omega⟩
          obtain ⟨ad_, y, had, hy, d0⟩ := R.at1 (show q < n by omega)
          cases had
          have e1 := Lib.hid (bad_next hq HX.out hy hin)
          have hk1 : (k : Int) - 1 = (q : Int) := by omega
          have hkp : (0 : Int) < (k : Int) := by omega
          have HQ := Lib.hid hq
          clear hy hq
          by_cases hle : x ≤ y
          · have e2 := Lib.hid (ris_no (xs := xs) (j := k) (by rw [HXL.out]; exact hlt) (by rw [e1.out]; simpa using hle))
            go_wp2_with (go_at_call 52; (refine (within_any _ _ _ _).mono ?_); rintro e w' ⟨rfl, rfl⟩; rw [hin])
            go_ret
            exact ⟨ret_bool e2.out.symm, rfl⟩
          · have e2 : Hid (badAt xs k = false) := Lib.hid (by rw [e1.out]; simpa using hle)
            go_wp2_with (go_at_call 52; (refine (within_any _ _ _ _).mono ?_); rintro e w' ⟨rfl, rfl⟩; rw [hin])
            go_round
            case rel => exact ⟨k + 1, by omega, by go_num, Lib.hid (upto_succ H.out e2.out)⟩
            case measure => simp [intOf]; omega
    · obtain rfl : k = n := by omega
      go_wp2_with fail
      go_ret
      exact ⟨ret_bool (ris_yes (fun j hj => H.out j (by rw [← HXL.out]; exact hj))).symm, rfl⟩
set_option maxHeartbeats 1000000 in
theorem l01Bounds_any (A : Option Addr) (n c : Nat) (xs : List Int) (w : World) (R : Rds w A n 1 (fun x : Int => [.int .i64 x]) xs) :
    Calls Try.prog 32 #[.slice A n c] w fun e w' => e = .returned (.bool (risOk xs)) ∧ Below w.heap.size w w' := by
  have hn := R.2.1
  have HXL := Lib.hid R.1
  go_enter Try.func32, Try.ntmps32
  go_wp2_with fail
  go_loopw [3] (fun v wr => ∃ k : Nat, k ≤ n ∧ v = .int .i64 k ∧ Hid (∀ j, j < k → badAt xs j = false) ∧ Below w.heap.size w wr) (fun v _ => n - (intOf v).toNat)
  case atStart => exact ⟨0, by omega, rfl, Lib.hid (fun j h => absurd h (Nat.not_lt_zero _)), Below.refl _ _⟩
  case round =>
    obtain ⟨k, hk, rfl, H, hB⟩ := hrel
    by_cases hlt : k < n
    · obtain ⟨ad, x, rfl, hx, e0⟩ := (R.below hB).at1 hlt
      have HX := Lib.hid hx; clear hx
      cases hin : inB x 1 9
      · have e1 := Lib.hid (ris_no (xs := xs) (j := k) (by rw [HXL.out]; exact hlt) (bad_in HX.out hin))
        go_wp2_with fail
        go_quiet ((go_at_call 61; exact Calls.quiet_of_same ((l00In_any _ _ _ _).mono fun e w2 ⟨h1, h2⟩ => ⟨by rw [h1, hin], h2.symm⟩)))
        go_wp2_with fail
        go_ret
        exact ⟨ret_bool e1.out.symm, hB.trans (Joins.below_draws _ _ _)⟩
      · rcases Nat.lt_or_ge 0 k with hkp0 | hk0
        rotate_left
        · have e1 := Lib.hid (bad_first hk0 HX.out hin)
          have hk00 : ¬ (0 : Int) < (k : Int) := by omega
          go_wp2_with fail
          have hk01 : ¬ 0 < k := by omega
          go_quiet ((go_at_call 61; exact Calls.quiet_of_same ((l00In_any _ _ _ _).mono fun e w2 ⟨h1, h2⟩ => ⟨by rw [h1, hin], h2.symm⟩)))
          go_wp2_with fail
          go_roundw
          case rel => exact ⟨k + 1, by omega, by go_num, Lib.hid (upto_succ H.out e1.out), hB.trans (Joins.below_draws _ _ _)⟩
          case measure => simp [intOf]; omega
        · obtain ⟨q, hq⟩ : ∃ q, k = q + 1 := ⟨k - 1, by omega⟩
          obtain ⟨ad_, y, had, hy, d0⟩ := (R.below hB).at1 (show q < n by omega)
          cases had
          have e1 := Lib.hid (bad_next hq HX.out hy hin)
          have hk1 : (k : Int) - 1 = (q : Int) := by omega
          have hkp : (0 : Int) < (k : Int) := by omega
          have HQ := Lib.hid hq
          clear hy hq
          by_cases hle : x ≤ y
          · have e2 := Lib.hid (ris_no (xs := xs) (j := k) (by rw [HXL.out]; exact hlt) (by rw [e1.out]; simpa using hle))
            go_wp2_with fail
            go_quiet ((go_at_call 61; exact Calls.quiet_of_same ((l00In_any _ _ _ _).mono fun e w2 ⟨h1, h2⟩ => ⟨by rw [h1, hin], h2.symm⟩)))
            go_wp2_with fail
            go_ret
            exact ⟨ret_bool e2.out.symm, hB.trans (Joins.below_draws _ _ _)⟩
          · have e2 : Hid (badAt xs k = false) := Lib.hid (by rw [e1.out]; simpa using hle)
            go_wp2_with fail
            go_quiet ((go_at_call 61; exact Calls.quiet_of_same ((l00In_any _ _ _ _).mono fun e w2 ⟨h1, h2⟩ => ⟨by rw [h1, hin], h2.symm⟩)))
            go_wp2_with fail
            go_roundw
            case rel => exact ⟨k + 1, by omega, by go_num, Lib.hid (upto_succ H.out e2.out), hB.trans (Joins.below_draws _ _ _)⟩
            case measure => simp [intOf]; omega
    · obtain rfl : k = n := by omega
      go_wp2_with fail
      go_ret
      exact ⟨ret_bool (ris_yes (fun j hj => H.out j (by rw [← HXL.out]; exact hj))).symm, hB⟩
/-- How many numbers are at most f. -/
def cntTo (xs : List Int) (f : Int) : Nat → Int
  | 0 => 0
  | k + 1 => cntTo xs f k + if gd xs k ≤ f then 1 else 0
def cntL (xs : List Int) (f : Int) : Int := cntTo xs f xs.length
theorem cntTo_bd (xs : List Int) (f : Int) : ∀ k, 0 ≤ cntTo xs f k ∧ cntTo xs f k ≤ k
  | 0 => ⟨Int.le_refl _, Int.le_refl _⟩
  | k + 1 => by
    have := cntTo_bd xs f k
    unfold cntTo
    split <;> omega
theorem cnt_yes {xs : List Int} {f x : Int} {k : Nat} (hx : xs[k]? = some x) (h : x ≤ f) : cntTo xs f (k + 1) = cntTo xs f k + 1 := by
  rw [cntTo, gd_of hx, if_pos h]
theorem cnt_no {xs : List Int} {f x : Int} {k : Nat} (hx : xs[k]? = some x) (h : ¬ x ≤ f) : cntTo xs f (k + 1) = cntTo xs f k := by
  rw [cntTo, gd_of hx, if_neg h, Int.add_zero]
theorem l01Grade_any (A : Option Addr) (n c : Nat) (xs : List Int) (f : Int) (w : World) (R : Rds w A n 1 (fun x : Int => [.int .i64 x]) xs) :
    Calls Try.prog 33 #[.int .i64 f, .slice A n c] w fun e w' => e = .returned (.int .i64 (cntL xs f)) ∧ w = w' := by
  have hn := R.2.1
  have HXL := Lib.hid R.1
  go_enter Try.func33, Try.ntmps33
  go_wp2_with fail
  go_loop [5, 6] (fun s v => ∃ k : Nat, k ≤ n ∧ v = .int .i64 k ∧ s = .int .i64 (cntTo xs f k)) (fun _ v => n - (intOf v).toNat)
  case atStart => exact ⟨0, by omega, rfl, rfl⟩
  case round =>
    obtain ⟨k, hk, rfl, rfl⟩ := hrel
    have hb := cntTo_bd xs f k
    by_cases hlt : k < n
    · obtain ⟨ad, x, rfl, hx, e0⟩ := R.at1 hlt
      have HX := Lib.hid hx; clear hx
      by_cases hle : x ≤ f
      · have e1 := Lib.hid (cnt_yes HX.out hle)
        go_wp2_with fail
        go_round
        case rel => exact ⟨k + 1, by omega, by go_num, by rw [e1.out]⟩
        case measure => simp [intOf]; omega
      · have e1 := Lib.hid (cnt_no HX.out hle)
        go_wp2_with fail
        go_round
        case rel => exact ⟨k + 1, by omega, by go_num, by rw [e1.out]⟩
        case measure => simp [intOf]; omega
    · obtain rfl : k = n := by omega
      go_wp2_with fail
      go_ret
      exact ⟨by unfold cntL; rw [HXL.out]; rfl, rfl⟩
theorem grade_any (A : Option Addr) (n c : Nat) (xs : List Int) (f a0 a1 a2 a3 a4 a5 a6 a7 : Int) (w : World) (R : Rds w A n 1 (fun x : Int => [.int .i64 x]) xs) (hf : -128 ≤ f ∧ f ≤ 127) :
    Calls Try.prog 36 #[.agg #[.int .i8 f, .int .i32 a0, .int .i32 a1, .int .i32 a2, .int .i32 a3, .int .i32 a4, .int .i32 a5, .int .i32 a6, .int .i32 a7], .slice A n c] w fun e w' => e = .returned (.int .i64 (cntL xs f)) ∧ Below w.heap.size w w' := by
  have hn := R.2.1
  have HXL := Lib.hid R.1
  obtain ⟨W1, hW1⟩ : ∃ x, x = w.alloc (.cells #[.int .i8 f, .int .i32 a0, .int .i32 a1, .int .i32 a2, .int .i32 a3, .int .i32 a4, .int .i32 a5, .int .i32 a6, .int .i32 a7] 59) := ⟨_, rfl⟩
  have X0 : Row W1 w.heap.size 59 [.int .i8 f, .int .i32 a0, .int .i32 a1, .int .i32 a2, .int .i32 a3, .int .i32 a4, .int .i32 a5, .int .i32 a6, .int .i32 a7] := by rw [hW1]; exact Row.alloc w [.int .i8 f, .int .i32 a0, .int .i32 a1, .int .i32 a2, .int .i32 a3, .int .i32 a4, .int .i32 a5, .int .i32 a6, .int .i32 a7] 59
  have hb1 : Below w.heap.size w W1 := by rw [hW1]; exact below_alloc1 w _
  have R1 := R.below hb1
  have cf : W1.cell? ⟨w.heap.size, 0, none⟩ = some (.int .i8 f) := X0.cell 0
  clear X0 R
  go_enter Try.func36, Try.ntmps36
  go_wp2_with fail
  rw [← hW1]
  clear hW1
  go_loop [5, 10] (fun s v => ∃ k : Nat, k ≤ n ∧ v = .int .i64 k ∧ s = .int .i64 (cntTo xs f k)) (fun _ v => n - (intOf v).toNat)
  case atStart => exact ⟨0, by omega, rfl, rfl⟩
  case round =>
    obtain ⟨k, hk, rfl, rfl⟩ := hrel
    have hb := cntTo_bd xs f k
    by_cases hlt : k < n
    · obtain ⟨ad, x, rfl, hx, e0⟩ := R1.at1 hlt
      have HX := Lib.hid hx; clear hx
      by_cases hle : x ≤ f
      · have e1 := Lib.hid (cnt_yes HX.out hle)
        go_wp2_with fail
        go_round
        case rel => exact ⟨k + 1, by omega, by go_num, by rw [e1.out]⟩
        case measure => simp [intOf]; omega
      · have e1 := Lib.hid (cnt_no HX.out hle)
        go_wp2_with fail
        go_round
        case rel => exact ⟨k + 1, by omega, by go_num, by rw [e1.out]⟩
        case measure => simp [intOf]; omega
    · obtain rfl : k = n := by omega
      go_wp2_with fail
      go_ret
      exact ⟨by unfold cntL; rw [HXL.out]; rfl, hb1⟩
end Go.Proofs.Ytppkcihdgedgoaa
