/- Contracts: Unevenness, on both sides. -/
import Derived.Test.YtefipngapgffdaaGreatDoorD2
import Derived.Test.YtefipngapgffdaaGreatDoorE1
namespace Go.Proofs.YtefipngapgffdaaGreatDoor
open Go.RowKit
set_option linter.unusedVariables false
set_option linter.unusedSimpArgs false
def offAt (xs : List Int) (k : Nat) : Int := ((xs.length : Int) * gd xs k - xs.sum).natAbs
def offTo (xs : List Int) : Nat → Int
  | 0 => 0
  | k + 1 => offTo xs k + offAt xs k
def offL (xs : List Int) : Int := offTo xs xs.length
def unN (xs : List Int) : Int := if webOk xs then (if xs.sum = 0 then 0 else frN (offL xs) ((xs.length : Int) * xs.sum)) else 0
def unD (xs : List Int) : Int := if webOk xs then (if xs.sum = 0 then 0 else frD (offL xs) ((xs.length : Int) * xs.sum)) else 0
def unC (xs : List Int) : Int := if webOk xs then (if xs.sum = 0 then 6 else 0) else 1
theorem offTo_succ (xs : List Int) (k : Nat) : offTo xs (k + 1) = offTo xs k + offAt xs k := rfl
theorem offTo_bd {xs : List Int} (hS : Small xs) (hn : xs.length ≤ 1000) (k : Nat) (hk : k ≤ xs.length) : 0 ≤ offTo xs k ∧ offTo xs k ≤ k * 40000000 := by
  have hs := sum_bd hS xs.length rfl hn
  induction k with
  | zero => simp [offTo]
  | succ k ih =>
    have h1 := gd_small hS k
    have h2 := mul_bd (a := (xs.length : Int)) (A := 1000) (by omega) (by omega) h1.1 h1.2
    have := ih (by omega)
    simp only [offTo, offAt]
    have h3 : ((k + 1 : Nat) : Int) * 40000000 = (k : Int) * 40000000 + 40000000 := by omega
    omega
theorem iUnevenness (A : Option Addr) (n c : Nat) (xs : List Int) (w : World) (R : Rds w A n 1 (fun x : Int => [.int .i64 x]) xs) :
    Calls Tryz.prog 27 #[.slice A n c] w fun e w' => e = .returned (.tuple #[Fr (unN xs) (unD xs), .int .i64 (unC xs)]) ∧ Below w.heap.size w w' := by
  have HXL := Lib.hid R.1
  have R1 := R.below (below_alloc1 w (.cells #[.int .i64 0, .int .i64 0] 41))
  clear R
  cases h : webOk xs
  · go_enter Tryz.func27, Tryz.ntmps27
    go_wp2_with fail
    refine (validWeb_any A n c xs _ R1).mono ?_
    rintro e w1 ⟨rfl, hb⟩
    have r1 : Row w1 w.heap.size 41 [.int .i64 0, .int .i64 0] := (Row.alloc w [.int .i64 0, .int .i64 0] 41).below hb
    have c1 := r1.cell 0
    have c2 := r1.cell 1
    have f1 := r1.frozen 0
    have f2 := r1.frozen 1
    have s0 := fun v => (r1.set 0 v).cell 0
    have s1 := fun v u => ((r1.set 0 v).set 1 u).cell 1
    simp at c1 c2 s0 s1
    have hB := below_then (B := w.heap.size) (below_alloc1 w _) (by go_size) hb
    clear R1 r1
    go_wp2_with fail
    refine bodyPost_ret (v := .tuple #[Fr 0 0, .int .i64 1]) (by simp [results, Tryz.results27, go_sem, s0, s1]) rfl ⟨by simp [unN, unD, unC, h], by go_grown⟩
  · have hbd := webOk_bd h
    rw [HXL.out] at hbd
    obtain ⟨hb1, hb2, _, _⟩ := hbd
    have hS := webOk_small h
    have HSB : Hid (SumB xs n) := webOk_sum HXL.out h
    have hsb := sum_bd hS n HXL.out (by omega)
    by_cases hz : xs.sum = 0
    · have hz0 : (xs.sum == 0) = true := by simp [hz]
      have HZ := Lib.hid hz; clear hz
      go_enter Tryz.func27, Tryz.ntmps27
      go_wp2_with fail
      refine (validWeb_any A n c xs _ R1).mono ?_
      rintro e w1 ⟨rfl, hb⟩
      have r1 : Row w1 w.heap.size 41 [.int .i64 0, .int .i64 0] := (Row.alloc w [.int .i64 0, .int .i64 0] 41).below hb
      have c1 := r1.cell 0
      have c2 := r1.cell 1
      have f1 := r1.frozen 0
      have f2 := r1.frozen 1
      have s0 := fun v => (r1.set 0 v).cell 0
      have s1 := fun v u => ((r1.set 0 v).set 1 u).cell 1
      simp at c1 c2 s0 s1
      have hB := below_then (B := w.heap.size) (below_alloc1 w _) (by go_size) hb
      have R2 := (R1.below hb)
      clear R1 r1
      go_wp2_with (go_at_call 35; (refine (sumAll_any A n c xs _ R2 HSB.out).mono ?_); rintro e w' ⟨rfl, rfl⟩)
      refine bodyPost_ret (v := .tuple #[Fr 0 0, .int .i64 6]) (by simp [results, Tryz.results27, go_sem, s0, s1]) rfl ⟨by simp [unN, unD, unC, h, HZ.out], by go_grown⟩
    · have hz0 : (xs.sum == 0) = false := by simp [hz]
      have hz1 : 1 ≤ xs.sum := by omega
      have hT := mul_bd (a := (n : Int)) (A := 12) (by omega) (by omega) hsb.1 hsb.2
      have hT2 : 0 < (n : Int) * xs.sum := Int.mul_pos (by omega) (by omega)
      have hO := offTo_bd hS (by rw [HXL.out]; omega) n (by rw [HXL.out]; exact Nat.le_refl _)
      have HU : Hid (unN xs = frN (offTo xs n) ((n : Int) * xs.sum) ∧ unD xs = frD (offTo xs n) ((n : Int) * xs.sum) ∧ unC xs = 0) := by
        refine ⟨?_, ?_, ?_⟩ <;> simp [unN, unD, unC, h, hz, offL, HXL.out]
      have HZ := Lib.hid hz; clear hz
      go_enter Tryz.func27, Tryz.ntmps27
      go_wp2_with fail
      refine (validWeb_any A n c xs _ R1).mono ?_
      rintro e w1 ⟨rfl, hb⟩
      have r0 : Row w1 w.heap.size 41 [.int .i64 0, .int .i64 0] := (Row.alloc w [.int .i64 0, .int .i64 0] 41).below hb
      have hB := below_then (B := w.heap.size) (below_alloc1 w _) (by go_size) hb
      have R2 := (R1.below hb)
      clear R1
      have HO := Lib.hid hO; clear hO
      go_wp2_with (go_at_call 35; (refine (sumAll_any A n c xs _ R2 HSB.out).mono ?_); rintro e w' ⟨rfl, rfl⟩)
      go_loop [5, 22] (fun s v => ∃ k : Nat, k ≤ n ∧ v = .int .i64 k ∧ s = .int .i64 (offTo xs k)) (fun _ v => n - (intOf v).toNat)
      case atStart => exact ⟨0, by omega, rfl, rfl⟩
      case round =>
        obtain ⟨j, hj, rfl, rfl⟩ := hrel
        have hoj := offTo_bd hS (by rw [HXL.out]; omega) j (by rw [HXL.out]; omega)
        by_cases hlt : j < n
        · obtain ⟨ad, x, rfl, hx, hc⟩ := R2.at1 hlt
          have hx0 := hS.at hx
          have hp2 := mul_bd (a := (n : Int)) (A := 12) (by omega) (by omega) hx0.1 hx0.2
          have hst : offTo xs (j + 1) = offTo xs j + (((n : Int) * x - xs.sum).natAbs : Int) := by rw [offTo_succ, offAt, gd_of hx, HXL.out]
          have HST := Lib.hid hst
          clear hx hst
          have hM : Mid ((n : Int) * x - xs.sum) := by unfold Mid; omega
          have hA : (((n : Int) * x - xs.sum).natAbs : Int) ≤ 40000000 := by omega
          go_wp2_with (first
          | (go_at_call 59; (refine (size_any _ _ hM).mono ?_); rintro e w' ⟨rfl, rfl⟩)
          | (go_at_call 51; (refine (length_any _ _ _ _ (by omega)).mono ?_); rintro e w' ⟨rfl, rfl⟩))
          go_round
          case rel => exact ⟨j + 1, by omega, by go_num, by rw [HST.out]⟩
          case measure => simp [intOf]; omega
        · obtain rfl : j = n := by omega
          have hMn : Mid (offTo xs j) := by unfold Mid; omega
          have hMd : Mid ((j : Int) * xs.sum) := by unfold Mid; omega
          go_wp2_with (first
            | (go_at_call 60; (refine (fraction_any _ _ _ hMn hMd (by omega)).mono ?_); rintro e w2 ⟨rfl, hb2⟩
               have r1 : Row w2 w.heap.size 41 [.int .i64 0, .int .i64 0] := r0.below hb2
               have c1 := r1.cell 0
               have c2 := r1.cell 1
               have f1 := r1.frozen 0
               have f2 := r1.frozen 1
               have s0 := fun v => (r1.set 0 v).cell 0
               have s1 := fun v u => ((r1.set 0 v).set 1 u).cell 1
               simp at c1 c2 s0 s1
               have hB2 := below_then hB hB.size hb2)
            | (go_at_call 51; (refine (length_any _ _ _ _ (by omega)).mono ?_); rintro e w' ⟨rfl, rfl⟩))
          refine bodyPost_ret (v := .tuple #[Fr (frN (offTo xs j) ((j : Int) * xs.sum)) (frD (offTo xs j) ((j : Int) * xs.sum)), .int .i64 0]) (by simp [results, Tryz.results27, go_sem, s0, s1]) rfl ⟨by rw [HU.out.1, HU.out.2.1, HU.out.2.2], by go_grown⟩
theorem sUnevenness (A : Option Addr) (n c : Nat) (xs : List Int) (w : World) (R : Rds w A n 1 (fun x : Int => [.int .i64 x]) xs) :
    Calls Tryz.prog 28 #[.slice A n c] w fun e w' => e = .returned (.tuple #[Fr (unN xs) (unD xs), .int .i64 (unC xs)]) ∧ Below w.heap.size w w' := by
  have HXL := Lib.hid R.1
  have R1 := R.below (below_alloc1 w (.cells #[.int .i64 0, .int .i64 0] 41))
  clear R
  cases h : webOk xs
  · go_enter Tryz.func28, Tryz.ntmps28
    go_wp2_with fail
    refine (l02Ok_any A n c xs _ R1).mono ?_
    rintro e w1 ⟨rfl, rfl⟩
    have r1 : Row (w.alloc (.cells #[.int .i64 0, .int .i64 0] 41)) w.heap.size 41 [.int .i64 0, .int .i64 0] := Row.alloc w [.int .i64 0, .int .i64 0] 41
    have c1 := r1.cell 0
    have c2 := r1.cell 1
    have f1 := r1.frozen 0
    have f2 := r1.frozen 1
    have s0 := fun v => (r1.set 0 v).cell 0
    have s1 := fun v u => ((r1.set 0 v).set 1 u).cell 1
    simp at c1 c2 s0 s1
    have hB := below_alloc1 w (.cells #[.int .i64 0, .int .i64 0] 41)
    clear R1 r1
    go_wp2_with fail
    refine bodyPost_ret (v := .tuple #[Fr 0 0, .int .i64 1]) (by simp [results, Tryz.results28, go_sem, s0, s1]) rfl ⟨by simp [unN, unD, unC, h], by go_grown⟩
  · have hbd := webOk_bd h
    rw [HXL.out] at hbd
    obtain ⟨hb1, hb2, _, _⟩ := hbd
    have hS := webOk_small h
    have HSB : Hid (SumB xs n) := webOk_sum HXL.out h
    have hsb := sum_bd hS n HXL.out (by omega)
    by_cases hz : xs.sum = 0
    · have hz0 : (xs.sum == 0) = true := by simp [hz]
      have HZ := Lib.hid hz; clear hz
      go_enter Tryz.func28, Tryz.ntmps28
      go_wp2_with fail
      refine (l02Ok_any A n c xs _ R1).mono ?_
      rintro e w1 ⟨rfl, rfl⟩
      have r1 : Row (w.alloc (.cells #[.int .i64 0, .int .i64 0] 41)) w.heap.size 41 [.int .i64 0, .int .i64 0] := Row.alloc w [.int .i64 0, .int .i64 0] 41
      have c1 := r1.cell 0
      have c2 := r1.cell 1
      have f1 := r1.frozen 0
      have f2 := r1.frozen 1
      have s0 := fun v => (r1.set 0 v).cell 0
      have s1 := fun v u => ((r1.set 0 v).set 1 u).cell 1
      simp at c1 c2 s0 s1
      have hB := below_alloc1 w (.cells #[.int .i64 0, .int .i64 0] 41)
      have R2 := R1
      clear R1 r1
      go_wp2_with (go_at_call 61; (refine (l02Total_any A n c xs _ R2 HSB.out).mono ?_); rintro e w' ⟨rfl, rfl⟩)
      refine bodyPost_ret (v := .tuple #[Fr 0 0, .int .i64 6]) (by simp [results, Tryz.results28, go_sem, s0, s1]) rfl ⟨by simp [unN, unD, unC, h, HZ.out], by go_grown⟩
    · have hz0 : (xs.sum == 0) = false := by simp [hz]
      have hz1 : 1 ≤ xs.sum := by omega
      have hT := mul_bd (a := (n : Int)) (A := 12) (by omega) (by omega) hsb.1 hsb.2
      have hT2 : 0 < (n : Int) * xs.sum := Int.mul_pos (by omega) (by omega)
      have hO := offTo_bd hS (by rw [HXL.out]; omega) n (by rw [HXL.out]; exact Nat.le_refl _)
      have HU : Hid (unN xs = frN (offTo xs n) ((n : Int) * xs.sum) ∧ unD xs = frD (offTo xs n) ((n : Int) * xs.sum) ∧ unC xs = 0) := by
        refine ⟨?_, ?_, ?_⟩ <;> simp [unN, unD, unC, h, hz, offL, HXL.out]
      have HZ := Lib.hid hz; clear hz
      go_enter Tryz.func28, Tryz.ntmps28
      go_wp2_with fail
      refine (l02Ok_any A n c xs _ R1).mono ?_
      rintro e w1 ⟨rfl, rfl⟩
      have r0 : Row (w.alloc (.cells #[.int .i64 0, .int .i64 0] 41)) w.heap.size 41 [.int .i64 0, .int .i64 0] := Row.alloc w [.int .i64 0, .int .i64 0] 41
      have hB := below_alloc1 w (.cells #[.int .i64 0, .int .i64 0] 41)
      have R2 := R1
      clear R1
      have HO := Lib.hid hO; clear hO
      go_wp2_with (go_at_call 61; (refine (l02Total_any A n c xs _ R2 HSB.out).mono ?_); rintro e w' ⟨rfl, rfl⟩)
      go_loop [6, 7] (fun s v => ∃ k : Nat, k ≤ n ∧ v = .int .i64 k ∧ s = .int .i64 (offTo xs k)) (fun _ v => n - (intOf v).toNat)
      case atStart => exact ⟨0, by omega, rfl, rfl⟩
      case round =>
        obtain ⟨j, hj, rfl, rfl⟩ := hrel
        have hoj := offTo_bd hS (by rw [HXL.out]; omega) j (by rw [HXL.out]; omega)
        by_cases hlt : j < n
        · obtain ⟨ad, x, rfl, hx, hc⟩ := R2.at1 hlt
          have hx0 := hS.at hx
          have hp2 := mul_bd (a := (n : Int)) (A := 12) (by omega) (by omega) hx0.1 hx0.2
          have hst : offTo xs (j + 1) = offTo xs j + (((n : Int) * x - xs.sum).natAbs : Int) := by rw [offTo_succ, offAt, gd_of hx, HXL.out]
          have HST := Lib.hid hst
          clear hx hst
          have hM : Mid ((n : Int) * x - xs.sum) := by unfold Mid; omega
          have hM2 : Mid (x * (n : Int) - xs.sum) := by rw [Int.mul_comm]; exact hM
          have hcm2 : 0 ≤ x * (n : Int) ∧ x * (n : Int) ≤ 12 * 20000 := by rw [Int.mul_comm]; exact hp2
          have hA : (((n : Int) * x - xs.sum).natAbs : Int) ≤ 40000000 := by omega
          have hA2 : ((x * (n : Int) - xs.sum).natAbs : Int) ≤ 40000000 := by rw [Int.mul_comm]; exact hA
          go_wp2_with (first
          | (go_at_call 62; (refine (l01Size_any _ _ hM2).mono ?_); rintro e w' ⟨rfl, rfl⟩))
          go_round
          case rel => exact ⟨j + 1, by omega, by go_num, by rw [HST.out]; rw [Int.mul_comm (n : Int) x]⟩
          case measure => simp [intOf]; omega
        · obtain rfl : j = n := by omega
          have hMn : Mid (offTo xs j) := by unfold Mid; omega
          have hMd : Mid ((j : Int) * xs.sum) := by unfold Mid; omega
          go_wp2_with (first
            | (go_at_call 63; (refine (l01Make_any _ _ _ hMn hMd (by omega)).mono ?_); rintro e w2 ⟨rfl, hb2⟩
               have r1 : Row w2 w.heap.size 41 [.int .i64 0, .int .i64 0] := r0.below hb2
               have c1 := r1.cell 0
               have c2 := r1.cell 1
               have f1 := r1.frozen 0
               have f2 := r1.frozen 1
               have s0 := fun v => (r1.set 0 v).cell 0
               have s1 := fun v u => ((r1.set 0 v).set 1 u).cell 1
               simp at c1 c2 s0 s1
               have hB2 := below_then hB hB.size hb2))
          refine bodyPost_ret (v := .tuple #[Fr (frN (offTo xs j) ((j : Int) * xs.sum)) (frD (offTo xs j) ((j : Int) * xs.sum)), .int .i64 0]) (by simp [results, Tryz.results28, go_sem, s0, s1]) rfl ⟨by rw [HU.out.1, HU.out.2.1, HU.out.2.2], by go_grown⟩
end Go.Proofs.YtefipngapgffdaaGreatDoor
