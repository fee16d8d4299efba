/- Contracts: makeYarn, l03Make, floor, l03Down. -/
import Derived.Test.YthllecfbpipagaaY1
import Derived.IntWalk
namespace Go.Proofs.Ythllecfbpipagaa
open Go.RowKit
set_option linter.unusedVariables false
set_option linter.unusedSimpArgs false
theorem mul_rng {a b A B : Int} (ha : 0 ≤ a ∧ a ≤ A) (hb : -B ≤ b ∧ b ≤ B) : -(A * B) ≤ a * b ∧ a * b ≤ A * B := by
  have h1 := Int.mul_le_mul_of_nonneg_left hb.2 ha.1
  have h2 := Int.mul_le_mul_of_nonneg_left hb.1 ha.1
  have h3 := Int.mul_le_mul_of_nonneg_right ha.2 (show 0 ≤ B by omega)
  rw [Int.mul_neg] at h2
  omega
theorem fl1 {a b : Int} (hb : 0 < b) (h : a.tmod b < 0) : a.tdiv b - 1 = a / b := by
  rw [Int.tmod_eq_emod] at h
  rw [Int.tdiv_eq_ediv]
  split at h
  · have := Int.emod_nonneg a (show b ≠ 0 by omega); omega
  · rename_i hh; rw [if_neg hh]; rw [Int.sign_eq_one_of_pos hb]; omega
theorem fl2 {a b : Int} (hb : 0 < b) (h : ¬ a.tmod b < 0) : a.tdiv b = a / b := by
  rw [Int.tmod_eq_emod] at h
  rw [Int.tdiv_eq_ediv]
  split at h
  · rename_i hh; rw [if_pos hh]; omega
  · have := Int.emod_lt_of_pos a hb; omega
theorem tdiv_rng {a b A : Int} (ha : -A ≤ a ∧ a ≤ A) : -A ≤ a.tdiv b ∧ a.tdiv b ≤ A := by
  have := tdiv_le a b
  omega
theorem tmod_rng {a b A : Int} (ha : -A ≤ a ∧ a ≤ A) : -A ≤ a.tmod b ∧ a.tmod b ≤ A := by
  have h : (a.tmod b).natAbs ≤ a.natAbs := by rw [Int.natAbs_tmod]; exact Nat.mod_le _ _
  omega
theorem makeYarn_t (l t g : Int) (w : World) (h : yarnOk l t g = true) : Calls Try.prog 39 #[.int .i64 l, .int .i64 t, .int .i64 g] w fun e w' => e = .returned (.tuple #[.agg #[.int .i16 l, .int .i16 t, .int .i16 g], .bool true]) ∧ Below w.heap.size w w' := by
  have XR : Hid (Row (w.alloc (.cells #[.int .i16 0, .int .i16 0, .int .i16 0] 35)) (w.heap.size) 35 [.int .i16 0, .int .i16 0, .int .i16 0]) := Lib.hid (by have := (Row.alloc w [.int .i16 0, .int .i16 0, .int .i16 0] 35); (try simp only [World.size_alloc] at this); exact this)
  have HB : Hid (Below w.heap.size w (w.alloc (.cells #[.int .i16 0, .int .i16 0, .int .i16 0] 35))) := Lib.hid (by go_grown)
  have hb := yarnOk_bounds h
  have h1 : inB l 1 5000 = true := by simp [inB]; omega
  have h2 : inB t (-2000) 2000 = true := by simp [inB]; omega
  have h3 : inB g 1 2000 = true := by simp [inB]; omega
  obtain ⟨⟨a1, a2⟩, ⟨b1, b2⟩, c1, c2⟩ := hb
  go_enter Try.func39, Try.ntmps39
  have hB := HB.out
  obtain ⟨cXR_0, cXR_1, cXR_2⟩ := XR.out.cells3
  obtain ⟨fXR_0, fXR_1, fXR_2⟩ := XR.out.frozens3
  have SXR := (((XR.out.set 0 (.int .i16 l)).set 1 (.int .i16 t)).set 2 (.int .i16 g))
  simp only [List.set_cons_zero, List.set_cons_succ] at SXR
  obtain ⟨sXR_0, sXR_1, sXR_2⟩ := SXR.cells3
  clear SXR
  go_wp2_with (go_at_call 37; (refine (within_any _ _ _ _).mono ?_); rintro e w' ⟨rfl, rfl⟩; first | rw [h1] | rw [h2] | rw [h3])
  refine bodyPost_ret (v := .tuple #[.agg #[.int .i16 l, .int .i16 t, .int .i16 g], .bool true]) (by simp [results, Try.results39, go_sem, sXR_0, sXR_1, sXR_2]) rfl ⟨rfl, by go_grown⟩
theorem makeYarn_f (l t g : Int) (w : World) (h : yarnOk l t g = false) : Calls Try.prog 39 #[.int .i64 l, .int .i64 t, .int .i64 g] w fun e w' => e = .returned (.tuple #[.agg #[.int .i16 0, .int .i16 0, .int .i16 0], .bool false]) ∧ Below w.heap.size w w' := by
  have XR : Hid (Row (w.alloc (.cells #[.int .i16 0, .int .i16 0, .int .i16 0] 35)) (w.heap.size) 35 [.int .i16 0, .int .i16 0, .int .i16 0]) := Lib.hid (by have := (Row.alloc w [.int .i16 0, .int .i16 0, .int .i16 0] 35); (try simp only [World.size_alloc] at this); exact this)
  have HB : Hid (Below w.heap.size w (w.alloc (.cells #[.int .i16 0, .int .i16 0, .int .i16 0] 35))) := Lib.hid (by go_grown)
  cases h1 : inB l 1 5000
  · go_enter Try.func39, Try.ntmps39
    have hB := HB.out
    obtain ⟨cXR_0, cXR_1, cXR_2⟩ := XR.out.cells3
    obtain ⟨fXR_0, fXR_1, fXR_2⟩ := XR.out.frozens3
    have SXR := (((XR.out.set 0 (.int .i16 0)).set 1 (.int .i16 0)).set 2 (.int .i16 0))
    simp only [List.set_cons_zero, List.set_cons_succ] at SXR
    obtain ⟨sXR_0, sXR_1, sXR_2⟩ := SXR.cells3
    clear SXR
    go_wp2_with (go_at_call 37; (refine (within_any _ _ _ _).mono ?_); rintro e w' ⟨rfl, rfl⟩; first | rw [h1])
    refine bodyPost_ret (v := .tuple #[.agg #[.int .i16 0, .int .i16 0, .int .i16 0], .bool false]) (by simp [results, Try.results39, go_sem, sXR_0, sXR_1, sXR_2]) rfl ⟨rfl, by go_grown⟩
  cases h2 : inB t (-2000) 2000
  · go_enter Try.func39, Try.ntmps39
    have hB := HB.out
    obtain ⟨cXR_0, cXR_1, cXR_2⟩ := XR.out.cells3
    obtain ⟨fXR_0, fXR_1, fXR_2⟩ := XR.out.frozens3
    have SXR := (((XR.out.set 0 (.int .i16 0)).set 1 (.int .i16 0)).set 2 (.int .i16 0))
    simp only [List.set_cons_zero, List.set_cons_succ] at SXR
    obtain ⟨sXR_0, sXR_1, sXR_2⟩ := SXR.cells3
    clear SXR
    go_wp2_with (go_at_call 37; (refine (within_any _ _ _ _).mono ?_); rintro e w' ⟨rfl, rfl⟩; first | rw [h1] | rw [h2])
    refine bodyPost_ret (v := .tuple #[.agg #[.int .i16 0, .int .i16 0, .int .i16 0], .bool false]) (by simp [results, Try.results39, go_sem, sXR_0, sXR_1, sXR_2]) rfl ⟨rfl, by go_grown⟩
  have h3 : inB g 1 2000 = false := by simpa [yarnOk, h1, h2] using h
  go_enter Try.func39, Try.ntmps39
  have hB := HB.out
  obtain ⟨cXR_0, cXR_1, cXR_2⟩ := XR.out.cells3
  obtain ⟨fXR_0, fXR_1, fXR_2⟩ := XR.out.frozens3
  have SXR := (((XR.out.set 0 (.int .i16 0)).set 1 (.int .i16 0)).set 2 (.int .i16 0))
  simp only [List.set_cons_zero, List.set_cons_succ] at SXR
  obtain ⟨sXR_0, sXR_1, sXR_2⟩ := SXR.cells3
  clear SXR
  go_wp2_with (go_at_call 37; (refine (within_any _ _ _ _).mono ?_); rintro e w' ⟨rfl, rfl⟩; first | rw [h1] | rw [h2] | rw [h3])
  refine bodyPost_ret (v := .tuple #[.agg #[.int .i16 0, .int .i16 0, .int .i16 0], .bool false]) (by simp [results, Try.results39, go_sem, sXR_0, sXR_1, sXR_2]) rfl ⟨rfl, by go_grown⟩
theorem l03Make_t (l t g : Int) (w : World) (h : yarnOk l t g = true) : Calls Try.prog 36 #[.int .i64 l, .int .i64 t, .int .i64 g] w fun e w' => e = .returned (.tuple #[.agg #[.int .i16 l, .int .i16 t, .int .i16 g], .bool true]) ∧ Below w.heap.size w w' := by
  have XR : Hid (Row (w.alloc (.cells #[.int .i16 0, .int .i16 0, .int .i16 0] 35)) (w.heap.size) 35 [.int .i16 0, .int .i16 0, .int .i16 0]) := Lib.hid (by have := (Row.alloc w [.int .i16 0, .int .i16 0, .int .i16 0] 35); (try simp only [World.size_alloc] at this); exact this)
  have HB : Hid (Below w.heap.size w (w.alloc (.cells #[.int .i16 0, .int .i16 0, .int .i16 0] 35))) := Lib.hid (by go_grown)
  have hb := yarnOk_bounds h
  have h1 : inB l 1 5000 = true := by simp [inB]; omega
  have h2 : inB t (-2000) 2000 = true := by simp [inB]; omega
  have h3 : inB g 1 2000 = true := by simp [inB]; omega
  obtain ⟨⟨a1, a2⟩, ⟨b1, b2⟩, c1, c2⟩ := hb
  go_enter Try.func36, Try.ntmps36
  have hB := HB.out
  obtain ⟨cXR_0, cXR_1, cXR_2⟩ := XR.out.cells3
  obtain ⟨fXR_0, fXR_1, fXR_2⟩ := XR.out.frozens3
  have SXR := (((XR.out.set 0 (.int .i16 l)).set 1 (.int .i16 t)).set 2 (.int .i16 g))
  simp only [List.set_cons_zero, List.set_cons_succ] at SXR
  obtain ⟨sXR_0, sXR_1, sXR_2⟩ := SXR.cells3
  clear SXR
  go_wp2_with (go_at_call 34; (refine (l00In_any _ _ _ _).mono ?_); rintro e w' ⟨rfl, rfl⟩; first | rw [h1] | rw [h2] | rw [h3])
  refine bodyPost_ret (v := .tuple #[.agg #[.int .i16 l, .int .i16 t, .int .i16 g], .bool true]) (by simp [results, Try.results36, go_sem, sXR_0, sXR_1, sXR_2]) rfl ⟨rfl, by go_grown⟩
theorem l03Make_f (l t g : Int) (w : World) (h : yarnOk l t g = false) : Calls Try.prog 36 #[.int .i64 l, .int .i64 t, .int .i64 g] w fun e w' => e = .returned (.tuple #[.agg #[.int .i16 0, .int .i16 0, .int .i16 0], .bool false]) ∧ Below w.heap.size w w' := by
  have XR : Hid (Row (w.alloc (.cells #[.int .i16 0, .int .i16 0, .int .i16 0] 35)) (w.heap.size) 35 [.int .i16 0, .int .i16 0, .int .i16 0]) := Lib.hid (by have := (Row.alloc w [.int .i16 0, .int .i16 0, .int .i16 0] 35); (try simp only [World.size_alloc] at this); exact this)
  have HB : Hid (Below w.heap.size w (w.alloc (.cells #[.int .i16 0, .int .i16 0, .int .i16 0] 35))) := Lib.hid (by go_grown)
  cases h1 : inB l 1 5000
  · go_enter Try.func36, Try.ntmps36
    have hB := HB.out
    obtain ⟨cXR_0, cXR_1, cXR_2⟩ := XR.out.cells3
    obtain ⟨fXR_0, fXR_1, fXR_2⟩ := XR.out.frozens3
    have SXR := (((XR.out.set 0 (.int .i16 0)).set 1 (.int .i16 0)).set 2 (.int .i16 0))
    simp only [List.set_cons_zero, List.set_cons_succ] at SXR
    obtain ⟨sXR_0, sXR_1, sXR_2⟩ := SXR.cells3
    clear SXR
    go_wp2_with (go_at_call 34; (refine (l00In_any _ _ _ _).mono ?_); rintro e w' ⟨rfl, rfl⟩; first | rw [h1])
    refine bodyPost_ret (v := .tuple #[.agg #[.int .i16 0, .int .i16 0, .int .i16 0], .bool false]) (by simp [results, Try.results36, go_sem, sXR_0, sXR_1, sXR_2]) rfl ⟨rfl, by go_grown⟩
  cases h2 : inB t (-2000) 2000
  · go_enter Try.func36, Try.ntmps36
    have hB := HB.out
    obtain ⟨cXR_0, cXR_1, cXR_2⟩ := XR.out.cells3
    obtain ⟨fXR_0, fXR_1, fXR_2⟩ := XR.out.frozens3
    have SXR := (((XR.out.set 0 (.int .i16 0)).set 1 (.int .i16 0)).set 2 (.int .i16 0))
    simp only [List.set_cons_zero, List.set_cons_succ] at SXR
    obtain ⟨sXR_0, sXR_1, sXR_2⟩ := SXR.cells3
    clear SXR
    go_wp2_with (go_at_call 34; (refine (l00In_any _ _ _ _).mono ?_); rintro e w' ⟨rfl, rfl⟩; first | rw [h1] | rw [h2])
    refine bodyPost_ret (v := .tuple #[.agg #[.int .i16 0, .int .i16 0, .int .i16 0], .bool false]) (by simp [results, Try.results36, go_sem, sXR_0, sXR_1, sXR_2]) rfl ⟨rfl, by go_grown⟩
  have h3 : inB g 1 2000 = false := by simpa [yarnOk, h1, h2] using h
  go_enter Try.func36, Try.ntmps36
  have hB := HB.out
  obtain ⟨cXR_0, cXR_1, cXR_2⟩ := XR.out.cells3
  obtain ⟨fXR_0, fXR_1, fXR_2⟩ := XR.out.frozens3
  have SXR := (((XR.out.set 0 (.int .i16 0)).set 1 (.int .i16 0)).set 2 (.int .i16 0))
  simp only [List.set_cons_zero, List.set_cons_succ] at SXR
  obtain ⟨sXR_0, sXR_1, sXR_2⟩ := SXR.cells3
  clear SXR
  go_wp2_with (go_at_call 34; (refine (l00In_any _ _ _ _).mono ?_); rintro e w' ⟨rfl, rfl⟩; first | rw [h1] | rw [h2] | rw [h3])
  refine bodyPost_ret (v := .tuple #[.agg #[.int .i16 0, .int .i16 0, .int .i16 0], .bool false]) (by simp [results, Try.results36, go_sem, sXR_0, sXR_1, sXR_2]) rfl ⟨rfl, by go_grown⟩
theorem floor_any (x y : Int) (w : World) (hx : -1000000000 ≤ x ∧ x ≤ 1000000000) (hy : 0 < y) (hy2 : y ≤ 5000) : Calls Try.prog 38 #[.int .i64 x, .int .i64 y] w fun e w' => e = .returned (.int .i64 (x / y)) ∧ w = w' := by
  have r1 := tmod_rng (b := y) hx
  have r2 := tdiv_rng (b := y) hx
  have v1 : IntKind.i64.wrap (x.tmod y) = x.tmod y := IntWalk.i64_in _ (by omega)
  have v2 : IntKind.i64.wrap (x.tdiv y) = x.tdiv y := IntWalk.i64_in _ (by omega)
  have v3 : IntKind.i64.wrap (x.tdiv y - 1) = x.tdiv y - 1 := IntWalk.i64_in _ (by omega)
  have q1 : (y == 0) = false := by simp; omega
  have q2 : ¬ y = 0 := by omega
  by_cases h : x.tmod y < 0
  · have e := Lib.hid (fl1 hy h)
    go_enter Try.func38, Try.ntmps38
    go_wp2
    go_ret
    exact ⟨ret_int e.out, rfl⟩
  · have e := Lib.hid (fl2 hy h)
    go_enter Try.func38, Try.ntmps38
    go_wp2
    go_ret
    exact ⟨ret_int e.out, rfl⟩
theorem l03Down_any (x y : Int) (w : World) (hx : -1000000000 ≤ x ∧ x ≤ 1000000000) (hy : 0 < y) (hy2 : y ≤ 5000) : Calls Try.prog 35 #[.int .i64 x, .int .i64 y] w fun e w' => e = .returned (.int .i64 (x / y)) ∧ w = w' := by
  have r1 := tmod_rng (b := y) hx
  have r2 := tdiv_rng (b := y) hx
  have v1 : IntKind.i64.wrap (x.tmod y) = x.tmod y := IntWalk.i64_in _ (by omega)
  have v2 : IntKind.i64.wrap (x.tdiv y) = x.tdiv y := IntWalk.i64_in _ (by omega)
  have v3 : IntKind.i64.wrap (x.tdiv y - 1) = x.tdiv y - 1 := IntWalk.i64_in _ (by omega)
  have q1 : (y == 0) = false := by simp; omega
  have q2 : ¬ y = 0 := by omega
  by_cases h : x.tmod y < 0
  · have e := Lib.hid (fl1 hy h)
    go_enter Try.func35, Try.ntmps35
    go_wp2
    go_ret
    exact ⟨ret_int e.out, rfl⟩
  · have e := Lib.hid (fl2 hy h)
    go_enter Try.func35, Try.ntmps35
    go_wp2
    go_ret
    exact ⟨ret_int e.out, rfl⟩
end Go.Proofs.Ythllecfbpipagaa
