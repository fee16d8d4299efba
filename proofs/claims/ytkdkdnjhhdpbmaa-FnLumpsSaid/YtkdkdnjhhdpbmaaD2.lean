/- Contracts: lumps, on both sides. -/
import Derived.Test.YtkdkdnjhhdpbmaaC3
namespace Go.Proofs.Ytkdkdnjhhdpbmaa
open Go.RowKit
set_option linter.unusedVariables false
set_option linter.unusedSimpArgs false
def lumpAt (xs : List Int) (t : Int) (k : Nat) : Bool := decide (t * xs.sum < gd xs k * (xs.length : Int))
def lumpsTo (xs : List Int) (t : Int) : Nat → List Int
  | 0 => []
  | k + 1 => lumpsTo xs t k ++ (if lumpAt xs t k then [(k : Int)] else [])
def lumpsL (xs : List Int) (t : Int) : List Int := lumpsTo xs t xs.length
theorem lumpsTo_yes {xs : List Int} {t : Int} {k : Nat} (h : lumpAt xs t k = true) : lumpsTo xs t (k + 1) = lumpsTo xs t k ++ [(k : Int)] := by simp [lumpsTo, h]
theorem lumpsTo_no {xs : List Int} {t : Int} {k : Nat} (h : lumpAt xs t k = false) : lumpsTo xs t (k + 1) = lumpsTo xs t k := by simp [lumpsTo, h]
theorem lumpsTo_len (xs : List Int) (t : Int) (k : Nat) : (lumpsTo xs t k).length ≤ k := by
  induction k with
  | zero => simp [lumpsTo]
  | succ k ih => simp only [lumpsTo, List.length_append]; split <;> simp <;> omega
def lumpC (xs : List Int) (t : Int) : Int := if webOk xs then (if inB t 1 12 then 0 else 2) else 1
def lumpR (xs : List Int) (t : Int) : List Int := if webOk xs then (if inB t 1 12 then lumpsL xs t else []) else []
theorem lumpR_len (xs : List Int) (t : Int) : (lumpR xs t).length ≤ 1048576 := by
  unfold lumpR
  split
  · have := (webOk_bd ‹_›).2.1
    have h2 := lumpsTo_len xs t xs.length
    split
    · unfold lumpsL; omega
    · simp
  · simp
theorem mul_bd {a b A B : Int} (h1 : 0 ≤ a) (h2 : a ≤ A) (h3 : 0 ≤ b) (h4 : b ≤ B) : 0 ≤ a * b ∧ a * b ≤ A * B :=
  ⟨Int.mul_nonneg h1 h3, Int.mul_le_mul h2 h4 h3 (by omega)⟩
theorem sum_bd {xs : List Int} (hS : Small xs) (n : Nat) (hl : xs.length = n) (hn : n ≤ 1000) : 0 ≤ xs.sum ∧ xs.sum ≤ 20000000 := by
  obtain ⟨h1, h2⟩ := sumTo_bound (M := 20000) (by omega) hS n
  rw [← hl, sumTo_all] at h1 h2
  omega
theorem lumps_any (A : Option Addr) (n c : Nat) (xs : List Int) (t : Int) (w : World) (R : Rds w A n 1 (fun x : Int => [.int .i64 x]) xs) (hS : Small xs) (hn : n ≤ 1000) (ht : 0 ≤ t ∧ t ≤ 1000) :
    Calls Try.prog 20 #[.slice A n c, .int .i64 t] w (RetOwn 2 1 (lumpsL xs t).length (nums .i64 (lumpsL xs t)) w) := by
  have HXL := Lib.hid R.1
  have hsb := sum_bd hS n R.1 hn
  have hp := mul_bd ht.1 ht.2 hsb.1 hsb.2
  have HSB : Hid (SumB xs n) := SumB.of R.1 (by omega) (by omega) (by omega) hS
  go_enter Try.func20, Try.ntmps20
  go_wp2_with fail
  go_loopw [5, 10] (fun s v wr => ∃ (k m : Nat) (A' : Option Addr) (c' : Nat), k ≤ n ∧ m ≤ k ∧ v = .int .i64 k ∧ s = .slice A' m c' ∧ wr.ownsRow w.heap.size 2 1 (.slice A' m c') m (nums .i64 (lumpsTo xs t k)) ∧ Below w.heap.size w wr) (fun _ v _ => n - (intOf v).toNat)
  case atStart => exact ⟨0, 0, none, 0, by omega, by omega, rfl, rfl, by simpa [lumpsTo, nums] using own_nil w w.heap.size 2 1, Below.refl _ _⟩
  case round =>
    obtain ⟨j, m, A', c', hj, hm, rfl, rfl, O, hB⟩ := hrel
    by_cases hlt : j < n
    · obtain ⟨ad, x, rfl, hx, hc⟩ := (R.below hB).at1 hlt
      have hx0 := hS.at hx
      have hp2 := mul_bd (b := (n : Int)) (B := 1000) hx0.1 hx0.2 (by omega) (by omega)
      have HG := Lib.hid (gd_of hx)
      clear hx
      by_cases hq : t * xs.sum < x * (n : Int)
      · have hv := lumpsTo_yes (xs := xs) (t := t) (k := j) (by unfold lumpAt; rw [HG.out, HXL.out]; simpa using hq)
        have HV := Lib.hid hv; clear hv
        go_wp2_with (first
          | (go_at_call 25; (refine (length_any _ _ _ _ (by omega)).mono ?_); rintro e w' ⟨rfl, rfl⟩)
          | (go_at_call 31; (refine (sumAll_any _ n c xs _ (R.below hB) HSB.out).mono ?_); rintro e w' ⟨rfl, rfl⟩)
          | (at_builtin; refine app_any (w0 := w) w.heap.size (by rfl) _ _ 24 2 (.int .i64 0) 1 8 (by rfl) Try.underlying24 info_i64 rfl (by omega) (by omega) _ (by rfl) 1 1 [.int .i64 (j : Int)] (by rfl) (by rfl) (by simp [Value.oneCell']) O hB hB.size (by omega) ?_; intro A2 c2 w2 O2 HBn hg2))
        rw [← nums_snoc, ← HV.out] at O2
        go_roundw
        case rel => exact ⟨j + 1, m + 1, A2, c2, by omega, by omega, by go_num, rfl, O2, HBn⟩
        case measure => simp [intOf]; omega
      · have hv := lumpsTo_no (xs := xs) (t := t) (k := j) (by unfold lumpAt; rw [HG.out, HXL.out]; simpa using hq)
        have HV := Lib.hid hv; clear hv
        go_wp2_with (first
          | (go_at_call 25; (refine (length_any _ _ _ _ (by omega)).mono ?_); rintro e w' ⟨rfl, rfl⟩)
          | (go_at_call 31; (refine (sumAll_any _ n c xs _ (R.below hB) HSB.out).mono ?_); rintro e w' ⟨rfl, rfl⟩))
        rw [← HV.out] at O
        go_roundw
        case rel => exact ⟨j + 1, m, A', c', by omega, by omega, by go_num, rfl, O, hB⟩
        case measure => simp [intOf]; omega
    · go_wp2_with fail
      go_ret
      obtain rfl : j = n := by omega
      have hm2 : m = (lumpsL xs t).length := by have := O.1; rw [nums_length] at this; rw [lumpsL, HXL.out]; omega
      subst hm2
      rw [lumpsL, HXL.out] at *
      exact ⟨A', c', rfl, O, hB⟩
theorem l02Lumps_any (A : Option Addr) (n c : Nat) (xs : List Int) (t : Int) (w : World) (R : Rds w A n 1 (fun x : Int => [.int .i64 x]) xs) (hS : Small xs) (hn : n ≤ 1000) (ht : 0 ≤ t ∧ t ≤ 1000) :
    Calls Try.prog 23 #[.slice A n c, .int .i64 t] w (RetOwn 2 1 (lumpsL xs t).length (nums .i64 (lumpsL xs t)) w) := by
  have HXL := Lib.hid R.1
  have hsb := sum_bd hS n R.1 hn
  have hp := mul_bd ht.1 ht.2 hsb.1 hsb.2
  have HSB : Hid (SumB xs n) := SumB.of R.1 (by omega) (by omega) (by omega) hS
  go_enter Try.func23, Try.ntmps23
  go_wp2_with (go_at_call 39; (refine (l02Total_any A n c xs _ (R.below (below_alloc1 w _)) HSB.out).mono ?_); rintro e w' ⟨rfl, rfl⟩)
  go_loopw [5, 7] (fun s v wr => ∃ (k m : Nat) (A' : Option Addr) (c' : Nat), k ≤ n ∧ m ≤ k ∧ v = .int .i64 k ∧ s = .slice A' m c' ∧ wr.ownsRow w.heap.size 2 1 (.slice A' m c') m (nums .i64 (lumpsTo xs t k)) ∧ Below w.heap.size w wr) (fun _ v _ => n - (intOf v).toNat)
  case atStart => exact ⟨0, 0, _, _, by omega, by omega, rfl, rfl, by simpa [lumpsTo, nums] using own_empty w 2 1, by go_grown⟩
  case round =>
    obtain ⟨j, m, A', c', hj, hm, rfl, rfl, O, hB⟩ := hrel
    by_cases hlt : j < n
    · obtain ⟨ad, x, rfl, hx, hc⟩ := (R.below hB).at1 hlt
      have hx0 := hS.at hx
      have hp2 := mul_bd (b := (n : Int)) (B := 1000) hx0.1 hx0.2 (by omega) (by omega)
      have HG := Lib.hid (gd_of hx)
      clear hx
      by_cases hq : t * xs.sum < x * (n : Int)
      · have hv := lumpsTo_yes (xs := xs) (t := t) (k := j) (by unfold lumpAt; rw [HG.out, HXL.out]; simpa using hq)
        have HV := Lib.hid hv; clear hv
        go_wp2_with (at_builtin; refine app_any (w0 := w) w.heap.size (by rfl) _ _ 24 2 (.int .i64 0) 1 8 (by rfl) Try.underlying24 info_i64 rfl (by omega) (by omega) _ (by rfl) 1 1 [.int .i64 (j : Int)] (by rfl) (by rfl) (by simp [Value.oneCell']) O hB hB.size (by omega) ?_; intro A2 c2 w2 O2 HBn hg2)
        rw [← nums_snoc, ← HV.out] at O2
        go_roundw
        case rel => exact ⟨j + 1, m + 1, A2, c2, by omega, by omega, by go_num, rfl, O2, HBn⟩
        case measure => simp [intOf]; omega
      · have hv := lumpsTo_no (xs := xs) (t := t) (k := j) (by unfold lumpAt; rw [HG.out, HXL.out]; simpa using hq)
        have HV := Lib.hid hv; clear hv
        go_wp2_with fail
        rw [← HV.out] at O
        go_roundw
        case rel => exact ⟨j + 1, m, A', c', by omega, by omega, by go_num, rfl, O, hB⟩
        case measure => simp [intOf]; omega
    · go_wp2_with fail
      go_ret
      obtain rfl : j = n := by omega
      have hm2 : m = (lumpsL xs t).length := by have := O.1; rw [nums_length] at this; rw [lumpsL, HXL.out]; omega
      subst hm2
      rw [lumpsL, HXL.out] at *
      exact ⟨A', c', rfl, O, hB⟩
theorem iTimes (t : Int) (w : World) : Calls Try.prog 19 #[.int .i64 t] w fun e w' => e = .returned (.bool (inB t 1 12)) ∧ w = w' := by
  go_enter Try.func19, Try.ntmps19
  go_wp2_with (go_at_call 24; go_call within_any as e w' ⟨rfl, rfl⟩)
  go_ret
  exact ⟨rfl, rfl⟩
theorem iLumpsIn (A : Option Addr) (n c : Nat) (xs : List Int) (t : Int) (w : World) (R : Rds w A n 1 (fun x : Int => [.int .i64 x]) xs) :
    Calls Try.prog 7 #[.slice A n c, .int .i64 t] w (RetOwnT 2 1 (lumpR xs t).length (nums .i64 (lumpR xs t)) [.int .i64 (lumpC xs t)] w) := by
  have HXL := Lib.hid R.1
  cases h : webOk xs
  · have e1 : lumpR xs t = [] := by simp [lumpR, h]
    rw [e1]
    clear e1
    go_enter Try.func7, Try.ntmps7
    go_wp2_with (go_at_call 18; (refine (validWeb_any A n c xs _ R).mono ?_); rintro e w1 ⟨rfl, hb⟩)
    go_ret2
    exact ⟨none, 0, by simp [lumpC, h], own_nil _ _ _ _, hb⟩
  · have hbd := webOk_bd h
    rw [HXL.out] at hbd
    obtain ⟨_, hb2, _, _⟩ := hbd
    cases h2 : inB t 1 12
    · have e1 : lumpR xs t = [] := by simp [lumpR, h, h2]
      rw [e1]
      clear e1
      go_enter Try.func7, Try.ntmps7
      go_wp2_with (first
        | (go_at_call 18; (refine (validWeb_any A n c xs _ R).mono ?_); rintro e w1 ⟨rfl, hb⟩)
        | (go_at_call 19; (refine (iTimes t _).mono ?_); rintro e w2 ⟨rfl, rfl⟩))
      go_ret2
      exact ⟨none, 0, by simp [lumpC, h, h2], own_nil _ _ _ _, hb⟩
    · have e1 : lumpR xs t = lumpsL xs t := by simp [lumpR, h, h2]
      have h3 := inB_iff.1 h2
      rw [e1]
      clear e1
      go_enter Try.func7, Try.ntmps7
      go_wp2_with (first
        | (go_at_call 18; (refine (validWeb_any A n c xs _ R).mono ?_); rintro e w1 ⟨rfl, hb⟩)
        | (go_at_call 19; (refine (iTimes t _).mono ?_); rintro e w2 ⟨rfl, rfl⟩)
        | (go_at_call 20; (refine (lumps_any A n c xs t _ (R.below (by assumption)) (webOk_small h) (by omega) (by omega)).mono ?_); rintro e w2 ⟨A2, c2, rfl, O2, hb2⟩))
      go_ret2
      exact ⟨A2, c2, by simp [lumpC, h, h2], own_lower O2 hb.size, below_then hb hb.size hb2⟩
theorem sTimes (t : Int) (w : World) : Calls Try.prog 22 #[.int .i64 t] w fun e w' => e = .returned (.bool (inB t 1 12)) ∧ w = w' := by
  go_enter Try.func22, Try.ntmps22
  go_wp2_with (go_at_call 27; go_call l00In_any as e w' ⟨rfl, rfl⟩)
  go_ret
  exact ⟨rfl, rfl⟩
theorem sLumpsIn (A : Option Addr) (n c : Nat) (xs : List Int) (t : Int) (w : World) (R : Rds w A n 1 (fun x : Int => [.int .i64 x]) xs) :
    Calls Try.prog 8 #[.slice A n c, .int .i64 t] w (RetOwnT 2 1 (lumpR xs t).length (nums .i64 (lumpR xs t)) [.int .i64 (lumpC xs t)] w) := by
  have HXL := Lib.hid R.1
  cases h : webOk xs
  · have e1 : lumpR xs t = [] := by simp [lumpR, h]
    rw [e1]
    clear e1
    go_enter Try.func8, Try.ntmps8
    go_wp2_with (go_at_call 21; (refine (l02Ok_any A n c xs _ R).mono ?_); rintro e w1 ⟨rfl, rfl⟩)
    go_ret2
    exact ⟨some ⟨w.heap.size, 0, none⟩, 0, by simp [lumpC, h], own_empty _ _ _, by go_grown⟩
  · have hbd := webOk_bd h
    rw [HXL.out] at hbd
    obtain ⟨_, hb2, _, _⟩ := hbd
    cases h2 : inB t 1 12
    · have e1 : lumpR xs t = [] := by simp [lumpR, h, h2]
      rw [e1]
      clear e1
      go_enter Try.func8, Try.ntmps8
      go_wp2_with (first
        | (go_at_call 21; (refine (l02Ok_any A n c xs _ R).mono ?_); rintro e w1 ⟨rfl, rfl⟩)
        | (go_at_call 22; (refine (sTimes t _).mono ?_); rintro e w2 ⟨rfl, rfl⟩))
      go_ret2
      exact ⟨some ⟨w.heap.size, 0, none⟩, 0, by simp [lumpC, h, h2], own_empty _ _ _, by go_grown⟩
    · have e1 : lumpR xs t = lumpsL xs t := by simp [lumpR, h, h2]
      have h3 := inB_iff.1 h2
      rw [e1]
      clear e1
      go_enter Try.func8, Try.ntmps8
      go_wp2_with (first
        | (go_at_call 21; (refine (l02Ok_any A n c xs _ R).mono ?_); rintro e w1 ⟨rfl, rfl⟩)
        | (go_at_call 22; (refine (sTimes t _).mono ?_); rintro e w2 ⟨rfl, rfl⟩)
        | (go_at_call 23; (refine (l02Lumps_any A n c xs t _ R (webOk_small h) (by omega) (by omega)).mono ?_); rintro e w2 ⟨A2, c2, rfl, O2, hb2⟩))
      go_ret2
      exact ⟨A2, c2, by simp [lumpC, h, h2], O2, hb2⟩
end Go.Proofs.Ytkdkdnjhhdpbmaa
