/- Contracts: MakeFraction. -/
import Derived.Test.YtbldbckkelobkaaE1
namespace Go.Proofs.Ytbldbckkelobkaa
open Go.RowKit
set_option linter.unusedVariables false
set_option linter.unusedSimpArgs false
def bil (n : Int) : Bool := inB n (-1000000000) 1000000000
def mfC (a b : Int) : Int := if bil a = false ∨ bil b = false then 2 else if b = 0 then 4 else 0
def mfN (a b : Int) : Int := if mfC a b = 0 then frN a b else 0
def mfD (a b : Int) : Int := if mfC a b = 0 then frD a b else 0
theorem bil_mid {a : Int} (h : bil a = true) : Mid a ∧ -1000000000 ≤ a ∧ a ≤ 1000000000 := by
  have : -1000000000 ≤ a ∧ a ≤ 1000000000 := by simpa [bil, inB] using h
  exact ⟨by unfold Mid; omega, this⟩
theorem gI_neg (a b : Int) : gI (-a) (-b) = gI a b := by simp [gI]
theorem frN_neg {a b : Int} (h : b < 0) : frN (-a) (-b) = frN a b := by
  simp only [frN, dI, h, if_true, gI_neg, show ¬ -b < 0 from by omega, if_false, Int.tdiv_neg, Int.neg_tdiv]
theorem frD_neg {a b : Int} (h : b < 0) : frD (-a) (-b) = frD a b := by
  simp only [frD, dI, h, if_true, gI_neg, show ¬ -b < 0 from by omega, if_false, Int.tdiv_neg, Int.neg_tdiv]
theorem l01Billion_any (n : Int) (w : World) : Calls Try.prog 29 #[.int .i64 n] w fun e w' => e = .returned (.bool (bil n)) ∧ w = w' := by
  go_enter Try.func29, Try.ntmps29
  go_wp2_with (go_at_call 35; (refine (l00In_any _ _ _ _).mono ?_); rintro e w' ⟨rfl, rfl⟩)
  go_ret
  exact ⟨rfl, rfl⟩
theorem isNumber_any (n : Int) (w : World) : Calls Try.prog 31 #[.int .i64 n] w fun e w' => e = .returned (.bool (bil n)) ∧ w = w' := by
  go_enter Try.func31, Try.ntmps31
  go_wp2_with (go_at_call 37; (refine (within_any _ _ _ _).mono ?_); rintro e w' ⟨rfl, rfl⟩)
  go_ret
  exact ⟨rfl, rfl⟩
theorem iMakeFraction (a b : Int) (w : World) (wa : -9223372036854775808 ≤ a ∧ a ≤ 9223372036854775807) (wb : -9223372036854775808 ≤ b ∧ b ≤ 9223372036854775807) :
    Calls Try.prog 13 #[.int .i64 a, .int .i64 b] w fun e w' => e = .returned (.tuple #[Fr (mfN a b) (mfD a b), .int .i64 (mfC a b)]) ∧ Below w.heap.size w w' := by
  cases ha : bil a
  · go_enter Try.func13, Try.ntmps13
    go_wp2_with (go_at_call 31; (refine (isNumber_any _ _).mono ?_); rintro e w' ⟨rfl, rfl⟩; try rw [ha])
    go_returns
    exact ⟨by simp [mfN, mfD, mfC, ha], by go_grown⟩
  cases hb : bil b
  · go_enter Try.func13, Try.ntmps13
    go_wp2_with (go_at_call 31; (refine (isNumber_any _ _).mono ?_); rintro e w' ⟨rfl, rfl⟩; first | rw [ha] | rw [hb])
    go_returns
    exact ⟨by simp [mfN, mfD, mfC, ha, hb], by go_grown⟩
  obtain ⟨ma, xa⟩ := bil_mid ha
  obtain ⟨mb, xb⟩ := bil_mid hb
  by_cases h0 : b = 0
  · subst h0
    go_enter Try.func13, Try.ntmps13
    go_wp2_with (go_at_call 31; (refine (isNumber_any _ _).mono ?_); rintro e w' ⟨rfl, rfl⟩; first | rw [ha] | rw [hb])
    go_returns
    exact ⟨by simp [mfN, mfD, mfC, ha, hb], by go_grown⟩
  · have q1 : (b == 0) = false := by simpa using h0
    go_enter Try.func13, Try.ntmps13
    go_wp2_with (go_at_call 31; (refine (isNumber_any _ _).mono ?_); rintro e w' ⟨rfl, rfl⟩; first | rw [ha] | rw [hb])
    refine (fraction_any _ _ _ ma mb h0).mono ?_
    rintro e w1 ⟨rfl, hb1⟩
    have r1 : Row w1 w.heap.size 29 [.int .i64 0, .int .i64 0] := (Row.alloc w [.int .i64 0, .int .i64 0] 29).below hb1
    have c1 := r1.cell 0
    have c2 := r1.cell 1
    have f1 := r1.frozen 0
    have f2 := r1.frozen 1
    have s0 := fun v => (r1.set 0 v).cell 0
    have s1 := fun v u => ((r1.set 0 v).set 1 u).cell 1
    simp at c1 c2 s0 s1
    have hB := below_then (B := w.heap.size) (below_alloc1 w _) (by go_size) hb1
    clear hb1 r1
    go_wp2_with fail
    refine bodyPost_ret (v := .tuple #[Fr (mfN a b) (mfD a b), .int .i64 (mfC a b)]) (by simp [results, Try.results13, go_sem, s0, s1, mfN, mfD, mfC, ha, hb, h0]) rfl ⟨rfl, by go_grown⟩
theorem sMakeFraction (a b : Int) (w : World) (wa : -9223372036854775808 ≤ a ∧ a ≤ 9223372036854775807) (wb : -9223372036854775808 ≤ b ∧ b ≤ 9223372036854775807) :
    Calls Try.prog 12 #[.int .i64 a, .int .i64 b] w fun e w' => e = .returned (.tuple #[Fr (mfN a b) (mfD a b), .int .i64 (mfC a b)]) ∧ Below w.heap.size w w' := by
  cases ha : bil a
  · go_enter Try.func12, Try.ntmps12
    go_wp2_with (go_at_call 29; (refine (l01Billion_any _ _).mono ?_); rintro e w' ⟨rfl, rfl⟩; try rw [ha])
    go_returns
    exact ⟨by simp [mfN, mfD, mfC, ha], by go_grown⟩
  cases hb : bil b
  · go_enter Try.func12, Try.ntmps12
    go_wp2_with (go_at_call 29; (refine (l01Billion_any _ _).mono ?_); rintro e w' ⟨rfl, rfl⟩; first | rw [ha] | rw [hb])
    go_returns
    exact ⟨by simp [mfN, mfD, mfC, ha, hb], by go_grown⟩
  obtain ⟨ma, xa⟩ := bil_mid ha
  obtain ⟨mb, xb⟩ := bil_mid hb
  by_cases h0 : b = 0
  · subst h0
    go_enter Try.func12, Try.ntmps12
    go_wp2_with (go_at_call 29; (refine (l01Billion_any _ _).mono ?_); rintro e w' ⟨rfl, rfl⟩; first | rw [ha] | rw [hb])
    go_returns
    exact ⟨by simp [mfN, mfD, mfC, ha, hb], by go_grown⟩
  have q1 : (b == 0) = false := by simpa using h0
  have ma' : Mid (-a) := by unfold Mid at *; omega
  have mb' : Mid (-b) := by unfold Mid at *; omega
  by_cases hneg : b < 0
  · have e1 := frN_neg (a := a) hneg
    have e2 := frD_neg (a := a) hneg
    have E1 := Lib.hid e1; have E2 := Lib.hid e2; clear e1 e2
    go_enter Try.func12, Try.ntmps12
    go_wp2_with (go_at_call 29; (refine (l01Billion_any _ _).mono ?_); rintro e w' ⟨rfl, rfl⟩; first | rw [ha] | rw [hb])
    refine (l01Make_any _ _ _ ma' mb' (by omega)).mono ?_
    rintro e w1 ⟨rfl, hb1⟩
    have r1 : Row w1 w.heap.size 29 [.int .i64 0, .int .i64 0] := (Row.alloc w [.int .i64 0, .int .i64 0] 29).below hb1
    have c1 := r1.cell 0
    have c2 := r1.cell 1
    have f1 := r1.frozen 0
    have f2 := r1.frozen 1
    have s0 := fun v => (r1.set 0 v).cell 0
    have s1 := fun v u => ((r1.set 0 v).set 1 u).cell 1
    simp at c1 c2 s0 s1
    have hB := below_then (B := w.heap.size) (below_alloc1 w _) (by go_size) hb1
    clear hb1 r1
    go_wp2_with fail
    refine bodyPost_ret (v := .tuple #[Fr (mfN a b) (mfD a b), .int .i64 (mfC a b)]) (by simp [results, Try.results12, go_sem, s0, s1, mfN, mfD, mfC, ha, hb, h0, E1.out, E2.out]) rfl ⟨rfl, by go_grown⟩
  · go_enter Try.func12, Try.ntmps12
    go_wp2_with (go_at_call 29; (refine (l01Billion_any _ _).mono ?_); rintro e w' ⟨rfl, rfl⟩; first | rw [ha] | rw [hb])
    refine (l01Make_any _ _ _ ma mb (by omega)).mono ?_
    rintro e w1 ⟨rfl, hb1⟩
    have r1 : Row w1 w.heap.size 29 [.int .i64 0, .int .i64 0] := (Row.alloc w [.int .i64 0, .int .i64 0] 29).below hb1
    have c1 := r1.cell 0
    have c2 := r1.cell 1
    have f1 := r1.frozen 0
    have f2 := r1.frozen 1
    have s0 := fun v => (r1.set 0 v).cell 0
    have s1 := fun v u => ((r1.set 0 v).set 1 u).cell 1
    simp at c1 c2 s0 s1
    have hB := below_then (B := w.heap.size) (below_alloc1 w _) (by go_size) hb1
    clear hb1 r1
    go_wp2_with fail
    refine bodyPost_ret (v := .tuple #[Fr (mfN a b) (mfD a b), .int .i64 (mfC a b)]) (by simp [results, Try.results12, go_sem, s0, s1, mfN, mfD, mfC, ha, hb, h0]) rfl ⟨rfl, by go_grown⟩
end Go.Proofs.Ytbldbckkelobkaa
