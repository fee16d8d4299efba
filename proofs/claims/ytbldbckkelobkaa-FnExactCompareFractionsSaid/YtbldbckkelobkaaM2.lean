/- Contracts: CompareFractions. -/
import Derived.Test.YtbldbckkelobkaaM1
import Derived.Deep.RegionHeld3
import Derived.Deep.QuietTactic
import Derived.BigQuiet
namespace Go.Proofs.Ytbldbckkelobkaa
open Go.RowKit
set_option linter.unusedVariables false
set_option linter.unusedSimpArgs false
def frOk (a b : Int) : Bool := bil a && (inB b 1 1000000000 && decide (gI a b = 1))
def cmpI (x y : Int) : Int := if x < y then -1 else if y < x then 1 else 0
def cfC (a b c d : Int) : Int := if frOk a b && frOk c d then 0 else 1
def cfV (a b c d : Int) : Int := if frOk a b && frOk c d then cmpI (a * d) (c * b) else 0
theorem fr_one {a b : Int} (h : gI a b = 1) (hb : 0 < b) : frN a b = a ∧ frD a b = b := by
  simp [frN, frD, dI, h, show ¬ b < 0 from by omega]
theorem fr_not {a b : Int} (h : gI a b ≠ 1) (hb : 0 < b) : frD a b ≠ b := by
  have hp := gI_pos (a := a) (b := b) (by omega)
  have : frD a b = b / gI a b := by
    simp only [frD, dI, show ¬ b < 0 from by omega, if_false]
    exact Int.tdiv_eq_ediv_of_nonneg (by omega)
  rw [this]
  have : b / gI a b < b := Int.ediv_lt_self_of_pos_of_ne_one hb (by omega)
  omega
theorem isNaN_any (x : Int) (w : World) : Calls Try.prog 46 #[.int .i64 x] w fun e w' => e = .returned (.bool false) ∧ w = w' := by
  go_enter Try.func46, Try.ntmps46
  go_wp2
  go_ret
  exact ⟨by simp, rfl⟩
theorem compare_any (x y : Int) (w : World) : Calls Try.prog 40 #[.int .i64 x, .int .i64 y] w fun e w' => e = .returned (.int .i64 (cmpI x y)) ∧ w = w' := by
  by_cases h1 : x < y <;> by_cases h2 : y < x
  all_goals
    go_enter Try.func40, Try.ntmps40
    go_wp2_with (go_at_call 46; (refine (isNaN_any _ _).mono ?_); rintro e w' ⟨rfl, rfl⟩)
    go_ret
    exact ⟨ret_int (by unfold cmpI; split <;> (try split) <;> omega), rfl⟩
theorem isFraction_any (a b : Int) (w : World) (wa : -9223372036854775808 ≤ a ∧ a ≤ 9223372036854775807) (wb : -9223372036854775808 ≤ b ∧ b ≤ 9223372036854775807) : Calls Try.prog 39 #[Fr a b] w fun e w' => e = .returned (.bool (frOk a b)) ∧ Below w.heap.size w w' := by
  have X0 := Row.alloc w [.int .i64 a, .int .i64 b] 29
  cases ha : bil a
  · go_enter Try.func39, Try.ntmps39
    go_wp2_with (go_at_call 31; (refine (isNumber_any _ _).mono ?_); rintro e w' ⟨rfl, rfl⟩; rw [ha])
    go_ret
    exact ⟨by simp [frOk, ha], by go_grown⟩
  cases hb : inB b 1 1000000000
  · go_enter Try.func39, Try.ntmps39
    go_wp2_with (first
      | (go_at_call 31; (refine (isNumber_any _ _).mono ?_); rintro e w' ⟨rfl, rfl⟩; rw [ha])
      | (go_at_call 37; (refine (within_any _ _ _ _).mono ?_); rintro e w' ⟨rfl, rfl⟩; rw [hb]))
    go_ret
    exact ⟨by simp [frOk, ha, hb], by go_grown⟩
  obtain ⟨ma, xa⟩ := bil_mid ha
  have xb : 1 ≤ b ∧ b ≤ 1000000000 := by simpa [inB] using hb
  have mb : Mid b := by unfold Mid; omega
  by_cases hg : gI a b = 1
  all_goals
    go_enter Try.func39, Try.ntmps39
    go_wp2_with (first
      | (go_at_call 31; (refine (isNumber_any _ _).mono ?_); rintro e w' ⟨rfl, rfl⟩; rw [ha])
      | (go_at_call 37; (refine (within_any _ _ _ _).mono ?_); rintro e w' ⟨rfl, rfl⟩; rw [hb])
      | (go_at_call 45; (refine (divisor_any _ _ _ ma mb).mono ?_); rintro e w1 ⟨rfl, hb1⟩))
    go_ret
    exact ⟨by simp [frOk, ha, hb, hg], below_then (below_alloc1 w _) (below_alloc1 w _).size hb1⟩
theorem iCompareFractions (a b c d : Int) (w : World) (wa : -9223372036854775808 ≤ a ∧ a ≤ 9223372036854775807) (wb : -9223372036854775808 ≤ b ∧ b ≤ 9223372036854775807) (wc : -9223372036854775808 ≤ c ∧ c ≤ 9223372036854775807) (wd : -9223372036854775808 ≤ d ∧ d ≤ 9223372036854775807) :
    Calls Try.prog 24 #[Fr a b, Fr c d] w fun e w' => e = .returned (.tuple #[.int .i64 (cfV a b c d), .int .i64 (cfC a b c d)]) ∧ Below w.heap.size w w' := by
  have X0 := (Row.alloc w [.int .i64 a, .int .i64 b] 29).below (below_alloc1 _ (.cells #[.int .i64 c, .int .i64 d] 29))
  have X1 := Row.alloc (w.alloc (.cells #[.int .i64 a, .int .i64 b] 29)) [.int .i64 c, .int .i64 d] 29
  have HB := ((Below.refl w.heap.size w).alloc (Nat.le_refl _) (.cells #[.int .i64 a, .int .i64 b] 29)).alloc (by simp) (.cells #[.int .i64 c, .int .i64 d] 29)
  cases h1 : frOk a b
  · go_enter Try.func24, Try.ntmps24
    go_wp2_with fail
    refine (isFraction_any a b _ wa wb).mono ?_
    rintro e w1 ⟨rfl, hb1⟩
    rw [h1]
    go_wp2_with fail
    go_ret2
    exact ⟨by simp [cfV, cfC, h1], below_then HB HB.size hb1⟩
  cases h2 : frOk c d
  · go_enter Try.func24, Try.ntmps24
    go_wp2_with fail
    refine (isFraction_any a b _ wa wb).mono ?_
    rintro e w1 ⟨rfl, hb1⟩
    rw [h1]
    have hz := hb1.size
    simp only [World.size_alloc] at hz
    replace X1 := X1.below hb1
    have e0 := X1.cell 0
    have e1 := X1.cell 1
    simp only [List.getElem?_cons_zero, List.getElem?_cons_succ, World.size_alloc] at e0 e1
    replace HB := below_then HB HB.size hb1
    clear hb1
    go_wp2_with fail
    refine (isFraction_any c d _ wc wd).mono ?_
    rintro e w2 ⟨rfl, hb1⟩
    rw [h2]
    go_wp2_with fail
    go_ret2
    exact ⟨by simp [cfV, cfC, h1, h2], below_then HB HB.size hb1⟩
  have k1 : (-1000000000 ≤ a ∧ a ≤ 1000000000) ∧ (1 ≤ b ∧ b ≤ 1000000000) := by
    simp only [frOk, bil, inB, Bool.and_eq_true, decide_eq_true_eq] at h1
    exact ⟨h1.1, h1.2.1⟩
  have k2 : (-1000000000 ≤ c ∧ c ≤ 1000000000) ∧ (1 ≤ d ∧ d ≤ 1000000000) := by
    simp only [frOk, bil, inB, Bool.and_eq_true, decide_eq_true_eq] at h2
    exact ⟨h2.1, h2.2.1⟩
  have p1 : -1000000000000000000 ≤ a * d ∧ a * d ≤ 1000000000000000000 := by
    constructor
    · have := Int.mul_le_mul_of_nonneg_right k1.1.1 (show 0 ≤ d by omega)
      omega
    · have := Int.mul_le_mul_of_nonneg_right k1.1.2 (show 0 ≤ d by omega)
      omega
  have p2 : -1000000000000000000 ≤ c * b ∧ c * b ≤ 1000000000000000000 := by
    constructor
    · have := Int.mul_le_mul_of_nonneg_right k2.1.1 (show 0 ≤ b by omega)
      omega
    · have := Int.mul_le_mul_of_nonneg_right k2.1.2 (show 0 ≤ b by omega)
      omega
  have v1 : IntKind.i64.wrap (a * d) = a * d := IntWalk.i64_in _ (by omega)
  have v2 : IntKind.i64.wrap (c * b) = c * b := IntWalk.i64_in _ (by omega)
  go_enter Try.func24, Try.ntmps24
  go_wp2_with fail
  refine (isFraction_any a b _ wa wb).mono ?_
  rintro e w1 ⟨rfl, hb1⟩
  rw [h1]
  have hz := hb1.size
  simp only [World.size_alloc] at hz
  replace X0 := X0.below hb1
  replace X1 := X1.below hb1
  have e0 := X1.cell 0
  have e1 := X1.cell 1
  simp only [List.getElem?_cons_zero, List.getElem?_cons_succ, World.size_alloc] at e0 e1
  replace HB := below_then HB HB.size hb1
  clear hb1
  go_wp2_with fail
  refine (isFraction_any c d _ wc wd).mono ?_
  rintro e w2 ⟨rfl, hb1⟩
  rw [h2]
  clear e0 e1
  have hz2 := hb1.size
  replace X0 := X0.below hb1
  replace X1 := X1.below hb1
  have e0 := X1.cell 0
  have e1 := X1.cell 1
  have d0 := X0.cell 0
  have d1 := X0.cell 1
  simp only [List.getElem?_cons_zero, List.getElem?_cons_succ, World.size_alloc] at e0 e1 d0 d1
  replace HB := below_then HB HB.size hb1
  clear hb1
  go_wp2_with fail
  refine (compare_any _ _ _).mono ?_
  rintro e w3 ⟨rfl, rfl⟩
  go_wp2_with fail
  go_ret2
  exact ⟨by simp [cfV, cfC, h1, h2], HB⟩
theorem keep2 (w : World) (g : Nat) (v0 v1 : Value) {wc w1 : World} (hb : Below wc.heap.size wc w1) (h0 : wc.cell? ⟨g, 0, none⟩ = some v0) (h1 : wc.cell? ⟨g, 1, none⟩ = some v1) (h2 : Below w.heap.size w wc) (h3 : g < wc.heap.size) :
    w1.cell? ⟨g, 0, none⟩ = some v0 ∧ w1.cell? ⟨g, 1, none⟩ = some v1 ∧ Below w.heap.size w w1 ∧ g < w1.heap.size :=
  ⟨(hb.cell (p := ⟨g, 0, none⟩) h3).trans h0, (hb.cell (p := ⟨g, 1, none⟩) h3).trans h1, below_then h2 h2.size hb, Nat.lt_of_lt_of_le h3 hb.size⟩
theorem l01Billion_is {n : Int} {b : Bool} (h : bil n = b) (w : World) : Calls Try.prog 29 #[.int .i64 n] w fun e w' => e = .returned (.bool b) ∧ w = w' := by
  rw [← h]; exact l01Billion_any n w
set_option maxHeartbeats 2000000 in
theorem l01Told_any (a b : Int) (w : World) (wa : -9223372036854775808 ≤ a ∧ a ≤ 9223372036854775807) (wb : -9223372036854775808 ≤ b ∧ b ≤ 9223372036854775807) : Calls Try.prog 38 #[Fr a b] w fun e w' => e = .returned (.bool (frOk a b)) ∧ Below w.heap.size w w' := by
  have X0 := Row.alloc w [.int .i64 a, .int .i64 b] 29
  have c0 := X0.cell 0
  have c1 := X0.cell 1
  simp only [List.getElem?_cons_zero, List.getElem?_cons_succ] at c0 c1
  have hB0 := below_alloc1 w (.cells #[.int .i64 a, .int .i64 b] 29)
  have hs0 := X0.lt
  clear X0
  cases ha : bil a
  · go_enter Try.func38, Try.ntmps38
    go_wp2_with fail
    go_quiet ((go_at_call 29; exact Calls.quiet_of_same ((l01Billion_is ha _).mono fun e w2 h => ⟨h.1, h.2.symm⟩)))
    all_goals go_wp2_with fail
    all_goals go_ret
    all_goals exact ⟨by simp [frOk, ha], by first | assumption | exact hB0.trans (Joins.below_draws _ _ _)⟩
  cases hb : bil b
  · have hin : inB b 1 1000000000 = false := by
      simp only [bil, inB, decide_eq_false_iff_not] at hb ⊢
      omega
    go_enter Try.func38, Try.ntmps38
    go_wp2_with fail
    go_quiet ((go_at_call 29; exact Calls.quiet_of_same ((l01Billion_is (by first | exact ha | exact hb) _).mono fun e w2 h => ⟨h.1, h.2.symm⟩)))
    all_goals go_wp2_with fail
    all_goals go_ret
    all_goals exact ⟨by simp [frOk, ha, hin], by first | assumption | exact hB0.trans (Joins.below_draws _ _ _)⟩
  obtain ⟨ma, xa⟩ := bil_mid ha
  obtain ⟨mb, xb⟩ := bil_mid hb
  by_cases hp : 0 < b
  rotate_left
  · have hin : inB b 1 1000000000 = false := by
      simp only [inB, decide_eq_false_iff_not]
      omega
    have hd : decide (0 < b) = false := by simpa using hp
    go_enter Try.func38, Try.ntmps38
    go_wp2_with fail
    go_quiet ((go_at_call 29; exact Calls.quiet_of_same ((l01Billion_is (by first | exact ha | exact hb) _).mono fun e w2 h => ⟨h.1, h.2.symm⟩)))
    all_goals go_wp2_with fail
    all_goals go_ret
    all_goals exact ⟨by simp [frOk, ha, hin], by first | assumption | exact hB0.trans (Joins.below_draws _ _ _)⟩
  have hin : inB b 1 1000000000 = true := by
    simp only [inB, decide_eq_true_eq]
    omega
  have hd : decide (0 < b) = true := by simpa using hp
  by_cases hg : gI a b = 1
  · obtain ⟨e1, e2⟩ := fr_one hg hp
    have E1 := Lib.hid e1; have E2 := Lib.hid e2; have HG := Lib.hid hg; clear e1 e2 hg
    go_enter Try.func38, Try.ntmps38
    go_wp2_with fail
    go_region_held3 (fun w' => w'.cell? ⟨w.heap.size, 0, none⟩ = some (.int .i64 a) ∧ w'.cell? ⟨w.heap.size, 1, none⟩ = some (.int .i64 b) ∧ Below w.heap.size w w' ∧ w.heap.size < w'.heap.size)
      (first | exact ⟨k0, k1, k2, k3⟩ | (refine ⟨?_, ?_, ?_, ?_⟩ <;> first | assumption | go_keep | exact Below.drew (by assumption)))
      ((first | (go_at_call 29; (refine (l01Billion_is (by first | exact ha | exact hb) _).mono ?_); rintro e w' ⟨rfl, rfl⟩) | (go_at_call 30; (refine (l01Make_any _ _ _ ma mb hp).mono ?_); rintro e w1 ⟨rfl, hb1⟩; obtain ⟨k0, k1, k2, k3⟩ := keep2 w w.heap.size (.int .i64 a) (.int .i64 b) hb1 (by assumption) (by assumption) (by first | assumption | exact Below.drew (by assumption)) (by assumption); rw [E1.out, E2.out])))
    all_goals go_wp2_with fail
    all_goals go_ret
    all_goals exact ⟨by simp [frOk, ha, hin, HG.out], by first | assumption | exact hB0.trans (Joins.below_draws _ _ _)⟩
  · have q2 := fr_not hg hp
    have HG := Lib.hid hg; clear hg
    go_enter Try.func38, Try.ntmps38
    go_wp2_with fail
    go_region_held3 (fun w' => w'.cell? ⟨w.heap.size, 0, none⟩ = some (.int .i64 a) ∧ w'.cell? ⟨w.heap.size, 1, none⟩ = some (.int .i64 b) ∧ Below w.heap.size w w' ∧ w.heap.size < w'.heap.size)
      (first | exact ⟨k0, k1, k2, k3⟩ | (refine ⟨?_, ?_, ?_, ?_⟩ <;> first | assumption | go_keep | exact Below.drew (by assumption)))
      ((first | (go_at_call 29; (refine (l01Billion_is (by first | exact ha | exact hb) _).mono ?_); rintro e w' ⟨rfl, rfl⟩) | (go_at_call 30; (refine (l01Make_any _ _ _ ma mb hp).mono ?_); rintro e w1 ⟨rfl, hb1⟩; obtain ⟨k0, k1, k2, k3⟩ := keep2 w w.heap.size (.int .i64 a) (.int .i64 b) hb1 (by assumption) (by assumption) (by first | assumption | exact Below.drew (by assumption)) (by assumption))))
    all_goals go_wp2_with fail
    all_goals go_ret
    all_goals exact ⟨by simp [frOk, ha, hin, HG.out, q2], by first | assumption | exact hB0.trans (Joins.below_draws _ _ _)⟩
theorem sCompareFractions (a b c d : Int) (w : World) (wa : -9223372036854775808 ≤ a ∧ a ≤ 9223372036854775807) (wb : -9223372036854775808 ≤ b ∧ b ≤ 9223372036854775807) (wc : -9223372036854775808 ≤ c ∧ c ≤ 9223372036854775807) (wd : -9223372036854775808 ≤ d ∧ d ≤ 9223372036854775807) :
    Calls Try.prog 22 #[Fr a b, Fr c d] w fun e w' => e = .returned (.tuple #[.int .i64 (cfV a b c d), .int .i64 (cfC a b c d)]) ∧ Below w.heap.size w w' := by
  have X0 := (Row.alloc w [.int .i64 a, .int .i64 b] 29).below (below_alloc1 _ (.cells #[.int .i64 c, .int .i64 d] 29))
  have X1 := Row.alloc (w.alloc (.cells #[.int .i64 a, .int .i64 b] 29)) [.int .i64 c, .int .i64 d] 29
  have HB := ((Below.refl w.heap.size w).alloc (Nat.le_refl _) (.cells #[.int .i64 a, .int .i64 b] 29)).alloc (by simp) (.cells #[.int .i64 c, .int .i64 d] 29)
  cases h1 : frOk a b
  · go_enter Try.func22, Try.ntmps22
    go_wp2_with fail
    refine (l01Told_any a b _ wa wb).mono ?_
    rintro e w1 ⟨rfl, hb1⟩
    rw [h1]
    go_wp2_with fail
    go_ret2
    exact ⟨by simp [cfV, cfC, h1], below_then HB HB.size hb1⟩
  cases h2 : frOk c d
  · go_enter Try.func22, Try.ntmps22
    go_wp2_with fail
    refine (l01Told_any a b _ wa wb).mono ?_
    rintro e w1 ⟨rfl, hb1⟩
    rw [h1]
    have hz := hb1.size
    simp only [World.size_alloc] at hz
    replace X1 := X1.below hb1
    have e0 := X1.cell 0
    have e1 := X1.cell 1
    simp only [List.getElem?_cons_zero, List.getElem?_cons_succ, World.size_alloc] at e0 e1
    replace HB := below_then HB HB.size hb1
    clear hb1
    go_wp2_with fail
    refine (l01Told_any c d _ wc wd).mono ?_
    rintro e w2 ⟨rfl, hb1⟩
    rw [h2]
    go_wp2_with fail
    go_ret2
    exact ⟨by simp [cfV, cfC, h1, h2], below_then HB HB.size hb1⟩
  have k1 : (-1000000000 ≤ a ∧ a ≤ 1000000000) ∧ (1 ≤ b ∧ b ≤ 1000000000) := by
    simp only [frOk, bil, inB, Bool.and_eq_true, decide_eq_true_eq] at h1
    exact ⟨h1.1, h1.2.1⟩
  have k2 : (-1000000000 ≤ c ∧ c ≤ 1000000000) ∧ (1 ≤ d ∧ d ≤ 1000000000) := by
    simp only [frOk, bil, inB, Bool.and_eq_true, decide_eq_true_eq] at h2
    exact ⟨h2.1, h2.2.1⟩
  have p1 : -1000000000000000000 ≤ a * d ∧ a * d ≤ 1000000000000000000 := by
    constructor
    · have := Int.mul_le_mul_of_nonneg_right k1.1.1 (show 0 ≤ d by omega)
      omega
    · have := Int.mul_le_mul_of_nonneg_right k1.1.2 (show 0 ≤ d by omega)
      omega
  have p2 : -1000000000000000000 ≤ c * b ∧ c * b ≤ 1000000000000000000 := by
    constructor
    · have := Int.mul_le_mul_of_nonneg_right k2.1.1 (show 0 ≤ b by omega)
      omega
    · have := Int.mul_le_mul_of_nonneg_right k2.1.2 (show 0 ≤ b by omega)
      omega
  have v1 : IntKind.i64.wrap (a * d) = a * d := IntWalk.i64_in _ (by omega)
  have v2 : IntKind.i64.wrap (c * b) = c * b := IntWalk.i64_in _ (by omega)
  rcases Int.lt_trichotomy (a * d) (c * b) with hlt | heq | hgt
  · have n1 : ¬ (c * b < a * d) := by omega
    have e : cmpI (a * d) (c * b) = -1 := by unfold cmpI; rw [if_pos hlt]
    have E := Lib.hid e; clear e
    go_enter Try.func22, Try.ntmps22
    go_wp2_with fail
    refine (l01Told_any a b _ wa wb).mono ?_
    rintro e w1 ⟨rfl, hb1⟩
    rw [h1]
    have hz := hb1.size
    simp only [World.size_alloc] at hz
    replace X0 := X0.below hb1
    replace X1 := X1.below hb1
    have e0 := X1.cell 0
    have e1 := X1.cell 1
    simp only [List.getElem?_cons_zero, List.getElem?_cons_succ, World.size_alloc] at e0 e1
    replace HB := below_then HB HB.size hb1
    clear hb1
    go_wp2_with fail
    refine (l01Told_any c d _ wc wd).mono ?_
    rintro e w2 ⟨rfl, hb1⟩
    rw [h2]
    clear e0 e1
    have hz2 := hb1.size
    replace X0 := X0.below hb1
    replace X1 := X1.below hb1
    have e0 := X1.cell 0
    have e1 := X1.cell 1
    have d0 := X0.cell 0
    have d1 := X0.cell 1
    simp only [List.getElem?_cons_zero, List.getElem?_cons_succ, World.size_alloc] at e0 e1 d0 d1
    replace HB := below_then HB HB.size hb1
    clear hb1
    go_wp2_with fail
    go_ret2
    exact ⟨by simp [cfV, cfC, h1, h2, E.out], HB⟩
  · have n1 : ¬ (c * b < a * d) := by omega
    have n2 : ¬ (a * d < c * b) := by omega
    have e : cmpI (a * d) (c * b) = 0 := by unfold cmpI; rw [if_neg n2, if_neg n1]
    have E := Lib.hid e; clear e heq
    go_enter Try.func22, Try.ntmps22
    go_wp2_with fail
    refine (l01Told_any a b _ wa wb).mono ?_
    rintro e w1 ⟨rfl, hb1⟩
    rw [h1]
    have hz := hb1.size
    simp only [World.size_alloc] at hz
    replace X0 := X0.below hb1
    replace X1 := X1.below hb1
    have e0 := X1.cell 0
    have e1 := X1.cell 1
    simp only [List.getElem?_cons_zero, List.getElem?_cons_succ, World.size_alloc] at e0 e1
    replace HB := below_then HB HB.size hb1
    clear hb1
    go_wp2_with fail
    refine (l01Told_any c d _ wc wd).mono ?_
    rintro e w2 ⟨rfl, hb1⟩
    rw [h2]
    clear e0 e1
    have hz2 := hb1.size
    replace X0 := X0.below hb1
    replace X1 := X1.below hb1
    have e0 := X1.cell 0
    have e1 := X1.cell 1
    have d0 := X0.cell 0
    have d1 := X0.cell 1
    simp only [List.getElem?_cons_zero, List.getElem?_cons_succ, World.size_alloc] at e0 e1 d0 d1
    replace HB := below_then HB HB.size hb1
    clear hb1
    go_wp2_with fail
    go_ret2
    exact ⟨by simp [cfV, cfC, h1, h2, E.out], HB⟩
  · have n2 : ¬ (a * d < c * b) := by omega
    have e : cmpI (a * d) (c * b) = 1 := by unfold cmpI; rw [if_neg n2, if_pos hgt]
    have E := Lib.hid e; clear e
    go_enter Try.func22, Try.ntmps22
    go_wp2_with fail
    refine (l01Told_any a b _ wa wb).mono ?_
    rintro e w1 ⟨rfl, hb1⟩
    rw [h1]
    have hz := hb1.size
    simp only [World.size_alloc] at hz
    replace X0 := X0.below hb1
    replace X1 := X1.below hb1
    have e0 := X1.cell 0
    have e1 := X1.cell 1
    simp only [List.getElem?_cons_zero, List.getElem?_cons_succ, World.size_alloc] at e0 e1
    replace HB := below_then HB HB.size hb1
    clear hb1
    go_wp2_with fail
    refine (l01Told_any c d _ wc wd).mono ?_
    rintro e w2 ⟨rfl, hb1⟩
    rw [h2]
    clear e0 e1
    have hz2 := hb1.size
    replace X0 := X0.below hb1
    replace X1 := X1.below hb1
    have e0 := X1.cell 0
    have e1 := X1.cell 1
    have d0 := X0.cell 0
    have d1 := X0.cell 1
    simp only [List.getElem?_cons_zero, List.getElem?_cons_succ, World.size_alloc] at e0 e1 d0 d1
    replace HB := below_then HB HB.size hb1
    clear hb1
    go_wp2_with fail
    go_ret2
    exact ⟨by simp [cfV, cfC, h1, h2, E.out], HB⟩
theorem toFraction (a b : Int) (w : World) : Calls Try.prog 23 #[Fr a b] w fun e w' => e = .returned (Fr a b) ∧ Below w.heap.size w w' := by
  go_enter Try.func23, Try.ntmps23
  go_wp2
  go_returns
  exact ⟨rfl, by go_grown⟩
end Go.Proofs.Ytbldbckkelobkaa
