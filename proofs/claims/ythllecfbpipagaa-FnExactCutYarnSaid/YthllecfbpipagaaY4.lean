/- Contracts: CutYarn. -/
import Derived.Test.YthllecfbpipagaaY2
import Derived.Deep.QuietTactic
import Derived.BigQuiet
import Derived.RegionTactic
import Derived.BigRegion
namespace Go.Proofs.Ythllecfbpipagaa
open Go.RowKit
set_option linter.unusedVariables false
set_option linter.unusedSimpArgs false
def ctC (a b c l : Int) : Int := if yarnOk a b c = false then 1 else if inB l 1 (a - 1) = false then 2 else if (yarnOk l (b * l / a) (c * l / a) && yarnOk (a - l) (b - (b * l / a)) (c - (c * l / a))) = false then 4 else 0
set_option maxHeartbeats 2000000 in
theorem iCutYarn (a b c l : Int) (w : World) (wa : -32768 ≤ a ∧ a ≤ 32767) (wb : -32768 ≤ b ∧ b ≤ 32767) (wc : -32768 ≤ c ∧ c ≤ 32767) (wl : -9223372036854775808 ≤ l ∧ l ≤ 9223372036854775807) :
    Calls Try.prog 21 #[.agg #[.int .i16 a, .int .i16 b, .int .i16 c], .int .i64 l] w fun e w' => e = .returned (.tuple #[.agg #[.int .i16 (jn (ctC a b c l) l), .int .i16 (jn (ctC a b c l) (b * l / a)), .int .i16 (jn (ctC a b c l) (c * l / a))], .agg #[.int .i16 (jn (ctC a b c l) (a - l)), .int .i16 (jn (ctC a b c l) (b - (b * l / a))), .int .i16 (jn (ctC a b c l) (c - (c * l / a)))], .int .i64 (ctC a b c l)]) ∧ Below w.heap.size w w' := by
  have X0 : Hid (Row (((w.alloc (.cells #[.int .i16 a, .int .i16 b, .int .i16 c] 35)).alloc (.cells #[.int .i16 0, .int .i16 0, .int .i16 0] 35)).alloc (.cells #[.int .i16 0, .int .i16 0, .int .i16 0] 35)) (w.heap.size) 35 [.int .i16 a, .int .i16 b, .int .i16 c]) := Lib.hid (by have := (((Row.alloc w [.int .i16 a, .int .i16 b, .int .i16 c] 35).below (below_alloc1 _ (.cells #[.int .i16 0, .int .i16 0, .int .i16 0] 35))).below (below_alloc1 _ (.cells #[.int .i16 0, .int .i16 0, .int .i16 0] 35))); (try simp only [World.size_alloc] at this); exact this)
  have R1 : Hid (Row (((w.alloc (.cells #[.int .i16 a, .int .i16 b, .int .i16 c] 35)).alloc (.cells #[.int .i16 0, .int .i16 0, .int .i16 0] 35)).alloc (.cells #[.int .i16 0, .int .i16 0, .int .i16 0] 35)) (w.heap.size + 1) 35 [.int .i16 0, .int .i16 0, .int .i16 0]) := Lib.hid (by have := ((Row.alloc (w.alloc (.cells #[.int .i16 a, .int .i16 b, .int .i16 c] 35)) [.int .i16 0, .int .i16 0, .int .i16 0] 35).below (below_alloc1 _ (.cells #[.int .i16 0, .int .i16 0, .int .i16 0] 35))); (try simp only [World.size_alloc] at this); exact this)
  have R2 : Hid (Row (((w.alloc (.cells #[.int .i16 a, .int .i16 b, .int .i16 c] 35)).alloc (.cells #[.int .i16 0, .int .i16 0, .int .i16 0] 35)).alloc (.cells #[.int .i16 0, .int .i16 0, .int .i16 0] 35)) (w.heap.size + 2) 35 [.int .i16 0, .int .i16 0, .int .i16 0]) := Lib.hid (by have := (Row.alloc ((w.alloc (.cells #[.int .i16 a, .int .i16 b, .int .i16 c] 35)).alloc (.cells #[.int .i16 0, .int .i16 0, .int .i16 0] 35)) [.int .i16 0, .int .i16 0, .int .i16 0] 35); (try simp only [World.size_alloc] at this); exact this)
  have HB : Hid (Below w.heap.size w (((w.alloc (.cells #[.int .i16 a, .int .i16 b, .int .i16 c] 35)).alloc (.cells #[.int .i16 0, .int .i16 0, .int .i16 0] 35)).alloc (.cells #[.int .i16 0, .int .i16 0, .int .i16 0] 35))) := Lib.hid (by go_grown)
  cases h1 : yarnOk a b c
  · have hc : ctC a b c l = 1 := by simp [ctC, h1]
    have HC := Lib.hid hc; clear hc
    have H1 := Lib.hid h1; clear h1
    go_enter Try.func21, Try.ntmps21
    obtain ⟨cX0_0, cX0_1, cX0_2⟩ := X0.out.cells3
    go_wp2_with fail
    go_quiet (fail)
    replace X0 := Lib.hid (X0.out.below (Joins.below_draws _ _ nq))
    replace R1 := Lib.hid (R1.out.below (Joins.below_draws _ _ nq))
    replace R2 := Lib.hid (R2.out.below (Joins.below_draws _ _ nq))
    have hz0 := (Joins.below_draws w.heap.size (((w.alloc (.cells #[.int .i16 a, .int .i16 b, .int .i16 c] 35)).alloc (.cells #[.int .i16 0, .int .i16 0, .int .i16 0] 35)).alloc (.cells #[.int .i16 0, .int .i16 0, .int .i16 0] 35)) nq).size
    (try simp only [World.size_alloc] at hz0)
    replace HB := Lib.hid (HB.out.trans (Joins.below_draws _ _ nq))
    clear cX0_0 cX0_1 cX0_2
    obtain ⟨cX0_0, cX0_1, cX0_2⟩ := X0.out.cells3
    go_wp2_with fail
    refine (iValidYarn a b c wa wb wc _).mono ?_
    rintro e w1 ⟨rfl, hb⟩
    rw [H1.out]
    clear cX0_0 cX0_1 cX0_2
    replace HB := Lib.hid (below_then HB.out HB.out.size hb)
    replace X0 := Lib.hid (X0.out.below hb)
    replace R1 := Lib.hid (R1.out.below hb)
    replace R2 := Lib.hid (R2.out.below hb)
    have hz1 := hb.size
    (try simp only [World.size_alloc] at hz1)
    clear hb
    have hB := HB.out
    obtain ⟨cR1_0, cR1_1, cR1_2⟩ := R1.out.cells3
    obtain ⟨fR1_0, fR1_1, fR1_2⟩ := R1.out.frozens3
    obtain ⟨cR2_0, cR2_1, cR2_2⟩ := R2.out.cells3
    obtain ⟨fR2_0, fR2_1, fR2_2⟩ := R2.out.frozens3
    have SR1 := ((((((R1.out.set 0 (.int .i16 0)).set 1 (.int .i16 0)).set 2 (.int .i16 0)).apart (C := w.heap.size + 2) (by omega) 0 (.int .i16 0)).apart (C := w.heap.size + 2) (by omega) 1 (.int .i16 0)).apart (C := w.heap.size + 2) (by omega) 2 (.int .i16 0))
    simp only [List.set_cons_zero, List.set_cons_succ] at SR1
    obtain ⟨sR1_0, sR1_1, sR1_2⟩ := SR1.cells3
    clear SR1
    have SR2 := ((((((R2.out.apart (C := w.heap.size + 1) (by omega) 0 (.int .i16 0)).apart (C := w.heap.size + 1) (by omega) 1 (.int .i16 0)).apart (C := w.heap.size + 1) (by omega) 2 (.int .i16 0)).set 0 (.int .i16 0)).set 1 (.int .i16 0)).set 2 (.int .i16 0))
    simp only [List.set_cons_zero, List.set_cons_succ] at SR2
    obtain ⟨sR2_0, sR2_1, sR2_2⟩ := SR2.cells3
    clear SR2
    go_wp2_with fail
    refine bodyPost_ret (v := .tuple #[.agg #[.int .i16 0, .int .i16 0, .int .i16 0], .agg #[.int .i16 0, .int .i16 0, .int .i16 0], .int .i64 1]) (by simp [results, Try.results21, go_sem, sR1_0, sR1_1, sR1_2, sR2_0, sR2_1, sR2_2]) rfl ⟨by rw [HC.out]; simp [jn], by go_grown⟩
  obtain ⟨⟨a1, a2⟩, ⟨b1, b2⟩, c1, c2⟩ := yarnOk_bounds h1
  cases h2 : inB l 1 (a - 1)
  · have hc : ctC a b c l = 2 := by simp [ctC, h1, h2]
    have HC := Lib.hid hc; clear hc
    have H1 := Lib.hid h1; clear h1
    have H2 := Lib.hid h2; clear h2
    go_enter Try.func21, Try.ntmps21
    obtain ⟨cX0_0, cX0_1, cX0_2⟩ := X0.out.cells3
    go_wp2_with fail
    go_quiet (fail)
    replace X0 := Lib.hid (X0.out.below (Joins.below_draws _ _ nq))
    replace R1 := Lib.hid (R1.out.below (Joins.below_draws _ _ nq))
    replace R2 := Lib.hid (R2.out.below (Joins.below_draws _ _ nq))
    have hz0 := (Joins.below_draws w.heap.size (((w.alloc (.cells #[.int .i16 a, .int .i16 b, .int .i16 c] 35)).alloc (.cells #[.int .i16 0, .int .i16 0, .int .i16 0] 35)).alloc (.cells #[.int .i16 0, .int .i16 0, .int .i16 0] 35)) nq).size
    (try simp only [World.size_alloc] at hz0)
    replace HB := Lib.hid (HB.out.trans (Joins.below_draws _ _ nq))
    clear cX0_0 cX0_1 cX0_2
    obtain ⟨cX0_0, cX0_1, cX0_2⟩ := X0.out.cells3
    go_wp2_with fail
    refine (iValidYarn a b c wa wb wc _).mono ?_
    rintro e w1 ⟨rfl, hb⟩
    rw [H1.out]
    clear cX0_0 cX0_1 cX0_2
    replace HB := Lib.hid (below_then HB.out HB.out.size hb)
    replace X0 := Lib.hid (X0.out.below hb)
    replace R1 := Lib.hid (R1.out.below hb)
    replace R2 := Lib.hid (R2.out.below hb)
    have hz1 := hb.size
    (try simp only [World.size_alloc] at hz1)
    clear hb
    obtain ⟨cX0_0, cX0_1, cX0_2⟩ := X0.out.cells3
    go_wp2_with fail
    refine (within_any _ _ _ _).mono ?_
    rintro e w_ ⟨rfl, rfl⟩
    rw [H2.out]
    clear cX0_0 cX0_1 cX0_2
    have hB := HB.out
    obtain ⟨cR1_0, cR1_1, cR1_2⟩ := R1.out.cells3
    obtain ⟨fR1_0, fR1_1, fR1_2⟩ := R1.out.frozens3
    obtain ⟨cR2_0, cR2_1, cR2_2⟩ := R2.out.cells3
    obtain ⟨fR2_0, fR2_1, fR2_2⟩ := R2.out.frozens3
    have SR1 := ((((((R1.out.set 0 (.int .i16 0)).set 1 (.int .i16 0)).set 2 (.int .i16 0)).apart (C := w.heap.size + 2) (by omega) 0 (.int .i16 0)).apart (C := w.heap.size + 2) (by omega) 1 (.int .i16 0)).apart (C := w.heap.size + 2) (by omega) 2 (.int .i16 0))
    simp only [List.set_cons_zero, List.set_cons_succ] at SR1
    obtain ⟨sR1_0, sR1_1, sR1_2⟩ := SR1.cells3
    clear SR1
    have SR2 := ((((((R2.out.apart (C := w.heap.size + 1) (by omega) 0 (.int .i16 0)).apart (C := w.heap.size + 1) (by omega) 1 (.int .i16 0)).apart (C := w.heap.size + 1) (by omega) 2 (.int .i16 0)).set 0 (.int .i16 0)).set 1 (.int .i16 0)).set 2 (.int .i16 0))
    simp only [List.set_cons_zero, List.set_cons_succ] at SR2
    obtain ⟨sR2_0, sR2_1, sR2_2⟩ := SR2.cells3
    clear SR2
    go_wp2_with fail
    refine bodyPost_ret (v := .tuple #[.agg #[.int .i16 0, .int .i16 0, .int .i16 0], .agg #[.int .i16 0, .int .i16 0, .int .i16 0], .int .i64 2]) (by simp [results, Try.results21, go_sem, sR1_0, sR1_1, sR1_2, sR2_0, sR2_1, sR2_2]) rfl ⟨by rw [HC.out]; simp [jn], by go_grown⟩
  have hl : 1 ≤ l ∧ l ≤ a - 1 := by simpa [inB] using h2
  obtain ⟨l1, l2⟩ := hl
  have p1 := mul_rng (a := l) (A := 5000) (b := b) (B := 2000) (by omega) (by omega)
  have p2 : 0 ≤ c * l ∧ c * l ≤ 10000000 := ⟨Int.mul_nonneg (by omega) (by omega), by have := mul_rng (a := l) (A := 5000) (b := c) (B := 2000) (by omega) (by omega); rw [Int.mul_comm l c] at this; omega⟩
  rw [Int.mul_comm l b] at p1
  have d1 : -10000000 ≤ b * l / a ∧ b * l / a ≤ 10000000 := by
    have e1 := Int.mul_ediv_add_emod (b * l) a
    have e2 := Int.emod_nonneg (b * l) (show a ≠ 0 by omega)
    have e3 := Int.emod_lt_of_pos (b * l) (show 0 < a by omega)
    constructor
    · apply Int.le_ediv_of_mul_le (by omega)
      have : -10000000 * a ≤ -10000000 * 1 := by omega
      omega
    · have : b * l / a < 10000001 := Int.ediv_lt_of_lt_mul (by omega) (by omega)
      omega
  have d2 : 0 ≤ c * l / a ∧ c * l / a ≤ 10000000 := by
    constructor
    · exact Int.ediv_nonneg p2.1 (by omega)
    · have : c * l / a < 10000001 := Int.ediv_lt_of_lt_mul (by omega) (by omega)
      omega
  obtain ⟨t, ht⟩ : ∃ t, b * l / a = t := ⟨_, rfl⟩
  obtain ⟨g, hg⟩ : ∃ g, c * l / a = g := ⟨_, rfl⟩
  rw [ht] at d1
  rw [hg] at d2
  cases h3 : yarnOk l t g
  · cases h4 : yarnOk (a - l) (b - t) (c - g)
    · have hc : ctC a b c l = 4 := by simp [ctC, h1, h2, ht, hg, h3, h4]
      have HC := Lib.hid hc; have HT := Lib.hid ht; have HG := Lib.hid hg; have H1 := Lib.hid h1; have H2 := Lib.hid h2; have H3 := Lib.hid h3; have H4 := Lib.hid h4; clear hc ht hg h1 h2 h3 h4
      go_enter Try.func21, Try.ntmps21
      obtain ⟨cX0_0, cX0_1, cX0_2⟩ := X0.out.cells3
      go_wp2_with fail
      go_quiet (fail)
      replace X0 := Lib.hid (X0.out.below (Joins.below_draws _ _ nq))
      replace R1 := Lib.hid (R1.out.below (Joins.below_draws _ _ nq))
      replace R2 := Lib.hid (R2.out.below (Joins.below_draws _ _ nq))
      have hz0 := (Joins.below_draws w.heap.size (((w.alloc (.cells #[.int .i16 a, .int .i16 b, .int .i16 c] 35)).alloc (.cells #[.int .i16 0, .int .i16 0, .int .i16 0] 35)).alloc (.cells #[.int .i16 0, .int .i16 0, .int .i16 0] 35)) nq).size
      (try simp only [World.size_alloc] at hz0)
      replace HB := Lib.hid (HB.out.trans (Joins.below_draws _ _ nq))
      clear cX0_0 cX0_1 cX0_2
      obtain ⟨cX0_0, cX0_1, cX0_2⟩ := X0.out.cells3
      go_wp2_with fail
      refine (iValidYarn a b c wa wb wc _).mono ?_
      rintro e w1 ⟨rfl, hb⟩
      rw [H1.out]
      clear cX0_0 cX0_1 cX0_2
      replace HB := Lib.hid (below_then HB.out HB.out.size hb)
      replace X0 := Lib.hid (X0.out.below hb)
      replace R1 := Lib.hid (R1.out.below hb)
      replace R2 := Lib.hid (R2.out.below hb)
      have hz1 := hb.size
      (try simp only [World.size_alloc] at hz1)
      clear hb
      obtain ⟨cX0_0, cX0_1, cX0_2⟩ := X0.out.cells3
      go_wp2_with fail
      refine (within_any _ _ _ _).mono ?_
      rintro e w_ ⟨rfl, rfl⟩
      rw [H2.out]
      go_wp2_with fail
      refine (floor_any _ _ _ (by omega) (by omega) (by omega)).mono ?_
      rintro e w_ ⟨rfl, rfl⟩
      rw [HT.out]
      go_wp2_with fail
      refine (floor_any _ _ _ (by omega) (by omega) (by omega)).mono ?_
      rintro e w_ ⟨rfl, rfl⟩
      rw [HG.out]
      go_wp2_with fail
      refine (makeYarn_f _ _ _ _ H3.out).mono ?_
      rintro e w2 ⟨rfl, hb⟩
      clear cX0_0 cX0_1 cX0_2
      replace HB := Lib.hid (below_then HB.out HB.out.size hb)
      replace X0 := Lib.hid (X0.out.below hb)
      replace R1 := Lib.hid (R1.out.below hb)
      replace R2 := Lib.hid (R2.out.below hb)
      have hz2 := hb.size
      (try simp only [World.size_alloc] at hz2)
      clear hb
      have Y1 : Hid (Row (w2.alloc (.cells #[.int .i16 0, .int .i16 0, .int .i16 0] 35)) w2.heap.size 35 [.int .i16 0, .int .i16 0, .int .i16 0]) := Lib.hid (Row.alloc w2 [.int .i16 0, .int .i16 0, .int .i16 0] 35)
      replace HB := Lib.hid (HB.out.alloc HB.out.size (.cells #[.int .i16 0, .int .i16 0, .int .i16 0] 35))
      replace X0 := Lib.hid (X0.out.below (below_alloc1 _ (.cells #[.int .i16 0, .int .i16 0, .int .i16 0] 35)))
      replace R1 := Lib.hid (R1.out.below (below_alloc1 _ (.cells #[.int .i16 0, .int .i16 0, .int .i16 0] 35)))
      replace R2 := Lib.hid (R2.out.below (below_alloc1 _ (.cells #[.int .i16 0, .int .i16 0, .int .i16 0] 35)))
      go_wp2_with fail
      refine (makeYarn_f _ _ _ _ H4.out).mono ?_
      rintro e w3 ⟨rfl, hb⟩
      replace HB := Lib.hid (below_then HB.out HB.out.size hb)
      replace Y1 := Lib.hid (Y1.out.below hb)
      replace R1 := Lib.hid (R1.out.below hb)
      replace R2 := Lib.hid (R2.out.below hb)
      have hz3 := hb.size
      (try simp only [World.size_alloc] at hz3)
      clear hb
      have Y2 : Hid (Row (w3.alloc (.cells #[.int .i16 0, .int .i16 0, .int .i16 0] 35)) w3.heap.size 35 [.int .i16 0, .int .i16 0, .int .i16 0]) := Lib.hid (Row.alloc w3 [.int .i16 0, .int .i16 0, .int .i16 0] 35)
      replace HB := Lib.hid (HB.out.alloc HB.out.size (.cells #[.int .i16 0, .int .i16 0, .int .i16 0] 35))
      replace Y1 := Lib.hid (Y1.out.below (below_alloc1 _ (.cells #[.int .i16 0, .int .i16 0, .int .i16 0] 35)))
      replace R1 := Lib.hid (R1.out.below (below_alloc1 _ (.cells #[.int .i16 0, .int .i16 0, .int .i16 0] 35)))
      replace R2 := Lib.hid (R2.out.below (below_alloc1 _ (.cells #[.int .i16 0, .int .i16 0, .int .i16 0] 35)))
      have hB := HB.out
      obtain ⟨cR1_0, cR1_1, cR1_2⟩ := R1.out.cells3
      obtain ⟨fR1_0, fR1_1, fR1_2⟩ := R1.out.frozens3
      obtain ⟨cR2_0, cR2_1, cR2_2⟩ := R2.out.cells3
      obtain ⟨fR2_0, fR2_1, fR2_2⟩ := R2.out.frozens3
      have SR1 := ((((((R1.out.set 0 (.int .i16 0)).set 1 (.int .i16 0)).set 2 (.int .i16 0)).apart (C := w.heap.size + 2) (by omega) 0 (.int .i16 0)).apart (C := w.heap.size + 2) (by omega) 1 (.int .i16 0)).apart (C := w.heap.size + 2) (by omega) 2 (.int .i16 0))
      simp only [List.set_cons_zero, List.set_cons_succ] at SR1
      obtain ⟨sR1_0, sR1_1, sR1_2⟩ := SR1.cells3
      clear SR1
      have SR2 := ((((((R2.out.apart (C := w.heap.size + 1) (by omega) 0 (.int .i16 0)).apart (C := w.heap.size + 1) (by omega) 1 (.int .i16 0)).apart (C := w.heap.size + 1) (by omega) 2 (.int .i16 0)).set 0 (.int .i16 0)).set 1 (.int .i16 0)).set 2 (.int .i16 0))
      simp only [List.set_cons_zero, List.set_cons_succ] at SR2
      obtain ⟨sR2_0, sR2_1, sR2_2⟩ := SR2.cells3
      clear SR2
      go_wp2_with fail
      refine bodyPost_ret (v := .tuple #[.agg #[.int .i16 0, .int .i16 0, .int .i16 0], .agg #[.int .i16 0, .int .i16 0, .int .i16 0], .int .i64 4]) (by simp [results, Try.results21, go_sem, sR1_0, sR1_1, sR1_2, sR2_0, sR2_1, sR2_2]) rfl ⟨by rw [HC.out]; simp [jn, HT.out, HG.out], by go_grown⟩
    · have hc : ctC a b c l = 4 := by simp [ctC, h1, h2, ht, hg, h3, h4]
      have HC := Lib.hid hc; have HT := Lib.hid ht; have HG := Lib.hid hg; have H1 := Lib.hid h1; have H2 := Lib.hid h2; have H3 := Lib.hid h3; have H4 := Lib.hid h4; clear hc ht hg h1 h2 h3 h4
      go_enter Try.func21, Try.ntmps21
      obtain ⟨cX0_0, cX0_1, cX0_2⟩ := X0.out.cells3
      go_wp2_with fail
      go_quiet (fail)
      replace X0 := Lib.hid (X0.out.below (Joins.below_draws _ _ nq))
      replace R1 := Lib.hid (R1.out.below (Joins.below_draws _ _ nq))
      replace R2 := Lib.hid (R2.out.below (Joins.below_draws _ _ nq))
      have hz0 := (Joins.below_draws w.heap.size (((w.alloc (.cells #[.int .i16 a, .int .i16 b, .int .i16 c] 35)).alloc (.cells #[.int .i16 0, .int .i16 0, .int .i16 0] 35)).alloc (.cells #[.int .i16 0, .int .i16 0, .int .i16 0] 35)) nq).size
      (try simp only [World.size_alloc] at hz0)
      replace HB := Lib.hid (HB.out.trans (Joins.below_draws _ _ nq))
      clear cX0_0 cX0_1 cX0_2
      obtain ⟨cX0_0, cX0_1, cX0_2⟩ := X0.out.cells3
      go_wp2_with fail
      refine (iValidYarn a b c wa wb wc _).mono ?_
      rintro e w1 ⟨rfl, hb⟩
      rw [H1.out]
      clear cX0_0 cX0_1 cX0_2
      replace HB := Lib.hid (below_then HB.out HB.out.size hb)
      replace X0 := Lib.hid (X0.out.below hb)
      replace R1 := Lib.hid (R1.out.below hb)
      replace R2 := Lib.hid (R2.out.below hb)
      have hz1 := hb.size
      (try simp only [World.size_alloc] at hz1)
      clear hb
      obtain ⟨cX0_0, cX0_1, cX0_2⟩ := X0.out.cells3
      go_wp2_with fail
      refine (within_any _ _ _ _).mono ?_
      rintro e w_ ⟨rfl, rfl⟩
      rw [H2.out]
      go_wp2_with fail
      refine (floor_any _ _ _ (by omega) (by omega) (by omega)).mono ?_
      rintro e w_ ⟨rfl, rfl⟩
      rw [HT.out]
      go_wp2_with fail
      refine (floor_any _ _ _ (by omega) (by omega) (by omega)).mono ?_
      rintro e w_ ⟨rfl, rfl⟩
      rw [HG.out]
      go_wp2_with fail
      refine (makeYarn_f _ _ _ _ H3.out).mono ?_
      rintro e w2 ⟨rfl, hb⟩
      clear cX0_0 cX0_1 cX0_2
      replace HB := Lib.hid (below_then HB.out HB.out.size hb)
      replace X0 := Lib.hid (X0.out.below hb)
      replace R1 := Lib.hid (R1.out.below hb)
      replace R2 := Lib.hid (R2.out.below hb)
      have hz2 := hb.size
      (try simp only [World.size_alloc] at hz2)
      clear hb
      have Y1 : Hid (Row (w2.alloc (.cells #[.int .i16 0, .int .i16 0, .int .i16 0] 35)) w2.heap.size 35 [.int .i16 0, .int .i16 0, .int .i16 0]) := Lib.hid (Row.alloc w2 [.int .i16 0, .int .i16 0, .int .i16 0] 35)
      replace HB := Lib.hid (HB.out.alloc HB.out.size (.cells #[.int .i16 0, .int .i16 0, .int .i16 0] 35))
      replace X0 := Lib.hid (X0.out.below (below_alloc1 _ (.cells #[.int .i16 0, .int .i16 0, .int .i16 0] 35)))
      replace R1 := Lib.hid (R1.out.below (below_alloc1 _ (.cells #[.int .i16 0, .int .i16 0, .int .i16 0] 35)))
      replace R2 := Lib.hid (R2.out.below (below_alloc1 _ (.cells #[.int .i16 0, .int .i16 0, .int .i16 0] 35)))
      go_wp2_with fail
      refine (makeYarn_t _ _ _ _ H4.out).mono ?_
      rintro e w3 ⟨rfl, hb⟩
      replace HB := Lib.hid (below_then HB.out HB.out.size hb)
      replace Y1 := Lib.hid (Y1.out.below hb)
      replace R1 := Lib.hid (R1.out.below hb)
      replace R2 := Lib.hid (R2.out.below hb)
      have hz3 := hb.size
      (try simp only [World.size_alloc] at hz3)
      clear hb
      have Y2 : Hid (Row (w3.alloc (.cells #[.int .i16 (a - l), .int .i16 (b - t), .int .i16 (c - g)] 35)) w3.heap.size 35 [.int .i16 (a - l), .int .i16 (b - t), .int .i16 (c - g)]) := Lib.hid (Row.alloc w3 [.int .i16 (a - l), .int .i16 (b - t), .int .i16 (c - g)] 35)
      replace HB := Lib.hid (HB.out.alloc HB.out.size (.cells #[.int .i16 (a - l), .int .i16 (b - t), .int .i16 (c - g)] 35))
      replace Y1 := Lib.hid (Y1.out.below (below_alloc1 _ (.cells #[.int .i16 (a - l), .int .i16 (b - t), .int .i16 (c - g)] 35)))
      replace R1 := Lib.hid (R1.out.below (below_alloc1 _ (.cells #[.int .i16 (a - l), .int .i16 (b - t), .int .i16 (c - g)] 35)))
      replace R2 := Lib.hid (R2.out.below (below_alloc1 _ (.cells #[.int .i16 (a - l), .int .i16 (b - t), .int .i16 (c - g)] 35)))
      have hB := HB.out
      obtain ⟨cR1_0, cR1_1, cR1_2⟩ := R1.out.cells3
      obtain ⟨fR1_0, fR1_1, fR1_2⟩ := R1.out.frozens3
      obtain ⟨cR2_0, cR2_1, cR2_2⟩ := R2.out.cells3
      obtain ⟨fR2_0, fR2_1, fR2_2⟩ := R2.out.frozens3
      have SR1 := ((((((R1.out.set 0 (.int .i16 0)).set 1 (.int .i16 0)).set 2 (.int .i16 0)).apart (C := w.heap.size + 2) (by omega) 0 (.int .i16 0)).apart (C := w.heap.size + 2) (by omega) 1 (.int .i16 0)).apart (C := w.heap.size + 2) (by omega) 2 (.int .i16 0))
      simp only [List.set_cons_zero, List.set_cons_succ] at SR1
      obtain ⟨sR1_0, sR1_1, sR1_2⟩ := SR1.cells3
      clear SR1
      have SR2 := ((((((R2.out.apart (C := w.heap.size + 1) (by omega) 0 (.int .i16 0)).apart (C := w.heap.size + 1) (by omega) 1 (.int .i16 0)).apart (C := w.heap.size + 1) (by omega) 2 (.int .i16 0)).set 0 (.int .i16 0)).set 1 (.int .i16 0)).set 2 (.int .i16 0))
      simp only [List.set_cons_zero, List.set_cons_succ] at SR2
      obtain ⟨sR2_0, sR2_1, sR2_2⟩ := SR2.cells3
      clear SR2
      go_wp2_with fail
      refine bodyPost_ret (v := .tuple #[.agg #[.int .i16 0, .int .i16 0, .int .i16 0], .agg #[.int .i16 0, .int .i16 0, .int .i16 0], .int .i64 4]) (by simp [results, Try.results21, go_sem, sR1_0, sR1_1, sR1_2, sR2_0, sR2_1, sR2_2]) rfl ⟨by rw [HC.out]; simp [jn, HT.out, HG.out], by go_grown⟩
  · cases h4 : yarnOk (a - l) (b - t) (c - g)
    · have hc : ctC a b c l = 4 := by simp [ctC, h1, h2, ht, hg, h3, h4]
      have HC := Lib.hid hc; have HT := Lib.hid ht; have HG := Lib.hid hg; have H1 := Lib.hid h1; have H2 := Lib.hid h2; have H3 := Lib.hid h3; have H4 := Lib.hid h4; clear hc ht hg h1 h2 h3 h4
      go_enter Try.func21, Try.ntmps21
      obtain ⟨cX0_0, cX0_1, cX0_2⟩ := X0.out.cells3
      go_wp2_with fail
      go_quiet (fail)
      replace X0 := Lib.hid (X0.out.below (Joins.below_draws _ _ nq))
      replace R1 := Lib.hid (R1.out.below (Joins.below_draws _ _ nq))
      replace R2 := Lib.hid (R2.out.below (Joins.below_draws _ _ nq))
      have hz0 := (Joins.below_draws w.heap.size (((w.alloc (.cells #[.int .i16 a, .int .i16 b, .int .i16 c] 35)).alloc (.cells #[.int .i16 0, .int .i16 0, .int .i16 0] 35)).alloc (.cells #[.int .i16 0, .int .i16 0, .int .i16 0] 35)) nq).size
      (try simp only [World.size_alloc] at hz0)
      replace HB := Lib.hid (HB.out.trans (Joins.below_draws _ _ nq))
      clear cX0_0 cX0_1 cX0_2
      obtain ⟨cX0_0, cX0_1, cX0_2⟩ := X0.out.cells3
      go_wp2_with fail
      refine (iValidYarn a b c wa wb wc _).mono ?_
      rintro e w1 ⟨rfl, hb⟩
      rw [H1.out]
      clear cX0_0 cX0_1 cX0_2
      replace HB := Lib.hid (below_then HB.out HB.out.size hb)
      replace X0 := Lib.hid (X0.out.below hb)
      replace R1 := Lib.hid (R1.out.below hb)
      replace R2 := Lib.hid (R2.out.below hb)
      have hz1 := hb.size
      (try simp only [World.size_alloc] at hz1)
      clear hb
      obtain ⟨cX0_0, cX0_1, cX0_2⟩ := X0.out.cells3
      go_wp2_with fail
      refine (within_any _ _ _ _).mono ?_
      rintro e w_ ⟨rfl, rfl⟩
      rw [H2.out]
      go_wp2_with fail
      refine (floor_any _ _ _ (by omega) (by omega) (by omega)).mono ?_
      rintro e w_ ⟨rfl, rfl⟩
      rw [HT.out]
      go_wp2_with fail
      refine (floor_any _ _ _ (by omega) (by omega) (by omega)).mono ?_
      rintro e w_ ⟨rfl, rfl⟩
      rw [HG.out]
      go_wp2_with fail
      refine (makeYarn_t _ _ _ _ H3.out).mono ?_
      rintro e w2 ⟨rfl, hb⟩
      clear cX0_0 cX0_1 cX0_2
      replace HB := Lib.hid (below_then HB.out HB.out.size hb)
      replace X0 := Lib.hid (X0.out.below hb)
      replace R1 := Lib.hid (R1.out.below hb)
      replace R2 := Lib.hid (R2.out.below hb)
      have hz2 := hb.size
      (try simp only [World.size_alloc] at hz2)
      clear hb
      have Y1 : Hid (Row (w2.alloc (.cells #[.int .i16 l, .int .i16 t, .int .i16 g] 35)) w2.heap.size 35 [.int .i16 l, .int .i16 t, .int .i16 g]) := Lib.hid (Row.alloc w2 [.int .i16 l, .int .i16 t, .int .i16 g] 35)
      replace HB := Lib.hid (HB.out.alloc HB.out.size (.cells #[.int .i16 l, .int .i16 t, .int .i16 g] 35))
      replace X0 := Lib.hid (X0.out.below (below_alloc1 _ (.cells #[.int .i16 l, .int .i16 t, .int .i16 g] 35)))
      replace R1 := Lib.hid (R1.out.below (below_alloc1 _ (.cells #[.int .i16 l, .int .i16 t, .int .i16 g] 35)))
      replace R2 := Lib.hid (R2.out.below (below_alloc1 _ (.cells #[.int .i16 l, .int .i16 t, .int .i16 g] 35)))
      go_wp2_with fail
      refine (makeYarn_f _ _ _ _ H4.out).mono ?_
      rintro e w3 ⟨rfl, hb⟩
      replace HB := Lib.hid (below_then HB.out HB.out.size hb)
      replace Y1 := Lib.hid (Y1.out.below hb)
      replace R1 := Lib.hid (R1.out.below hb)
      replace R2 := Lib.hid (R2.out.below hb)
      have hz3 := hb.size
      (try simp only [World.size_alloc] at hz3)
      clear hb
      have Y2 : Hid (Row (w3.alloc (.cells #[.int .i16 0, .int .i16 0, .int .i16 0] 35)) w3.heap.size 35 [.int .i16 0, .int .i16 0, .int .i16 0]) := Lib.hid (Row.alloc w3 [.int .i16 0, .int .i16 0, .int .i16 0] 35)
      replace HB := Lib.hid (HB.out.alloc HB.out.size (.cells #[.int .i16 0, .int .i16 0, .int .i16 0] 35))
      replace Y1 := Lib.hid (Y1.out.below (below_alloc1 _ (.cells #[.int .i16 0, .int .i16 0, .int .i16 0] 35)))
      replace R1 := Lib.hid (R1.out.below (below_alloc1 _ (.cells #[.int .i16 0, .int .i16 0, .int .i16 0] 35)))
      replace R2 := Lib.hid (R2.out.below (below_alloc1 _ (.cells #[.int .i16 0, .int .i16 0, .int .i16 0] 35)))
      have hB := HB.out
      obtain ⟨cR1_0, cR1_1, cR1_2⟩ := R1.out.cells3
      obtain ⟨fR1_0, fR1_1, fR1_2⟩ := R1.out.frozens3
      obtain ⟨cR2_0, cR2_1, cR2_2⟩ := R2.out.cells3
      obtain ⟨fR2_0, fR2_1, fR2_2⟩ := R2.out.frozens3
      have SR1 := ((((((R1.out.set 0 (.int .i16 0)).set 1 (.int .i16 0)).set 2 (.int .i16 0)).apart (C := w.heap.size + 2) (by omega) 0 (.int .i16 0)).apart (C := w.heap.size + 2) (by omega) 1 (.int .i16 0)).apart (C := w.heap.size + 2) (by omega) 2 (.int .i16 0))
      simp only [List.set_cons_zero, List.set_cons_succ] at SR1
      obtain ⟨sR1_0, sR1_1, sR1_2⟩ := SR1.cells3
      clear SR1
      have SR2 := ((((((R2.out.apart (C := w.heap.size + 1) (by omega) 0 (.int .i16 0)).apart (C := w.heap.size + 1) (by omega) 1 (.int .i16 0)).apart (C := w.heap.size + 1) (by omega) 2 (.int .i16 0)).set 0 (.int .i16 0)).set 1 (.int .i16 0)).set 2 (.int .i16 0))
      simp only [List.set_cons_zero, List.set_cons_succ] at SR2
      obtain ⟨sR2_0, sR2_1, sR2_2⟩ := SR2.cells3
      clear SR2
      go_wp2_with fail
      refine bodyPost_ret (v := .tuple #[.agg #[.int .i16 0, .int .i16 0, .int .i16 0], .agg #[.int .i16 0, .int .i16 0, .int .i16 0], .int .i64 4]) (by simp [results, Try.results21, go_sem, sR1_0, sR1_1, sR1_2, sR2_0, sR2_1, sR2_2]) rfl ⟨by rw [HC.out]; simp [jn, HT.out, HG.out], by go_grown⟩
    · have hc : ctC a b c l = 0 := by simp [ctC, h1, h2, ht, hg, h3, h4]
      have HC := Lib.hid hc; have HT := Lib.hid ht; have HG := Lib.hid hg; have H1 := Lib.hid h1; have H2 := Lib.hid h2; have H3 := Lib.hid h3; have H4 := Lib.hid h4; clear hc ht hg h1 h2 h3 h4
      go_enter Try.func21, Try.ntmps21
      obtain ⟨cX0_0, cX0_1, cX0_2⟩ := X0.out.cells3
      go_wp2_with fail
      go_quiet (fail)
      replace X0 := Lib.hid (X0.out.below (Joins.below_draws _ _ nq))
      replace R1 := Lib.hid (R1.out.below (Joins.below_draws _ _ nq))
      replace R2 := Lib.hid (R2.out.below (Joins.below_draws _ _ nq))
      have hz0 := (Joins.below_draws w.heap.size (((w.alloc (.cells #[.int .i16 a, .int .i16 b, .int .i16 c] 35)).alloc (.cells #[.int .i16 0, .int .i16 0, .int .i16 0] 35)).alloc (.cells #[.int .i16 0, .int .i16 0, .int .i16 0] 35)) nq).size
      (try simp only [World.size_alloc] at hz0)
      replace HB := Lib.hid (HB.out.trans (Joins.below_draws _ _ nq))
      clear cX0_0 cX0_1 cX0_2
      obtain ⟨cX0_0, cX0_1, cX0_2⟩ := X0.out.cells3
      go_wp2_with fail
      refine (iValidYarn a b c wa wb wc _).mono ?_
      rintro e w1 ⟨rfl, hb⟩
      rw [H1.out]
      clear cX0_0 cX0_1 cX0_2
      replace HB := Lib.hid (below_then HB.out HB.out.size hb)
      replace X0 := Lib.hid (X0.out.below hb)
      replace R1 := Lib.hid (R1.out.below hb)
      replace R2 := Lib.hid (R2.out.below hb)
      have hz1 := hb.size
      (try simp only [World.size_alloc] at hz1)
      clear hb
      obtain ⟨cX0_0, cX0_1, cX0_2⟩ := X0.out.cells3
      go_wp2_with fail
      refine (within_any _ _ _ _).mono ?_
      rintro e w_ ⟨rfl, rfl⟩
      rw [H2.out]
      go_wp2_with fail
      refine (floor_any _ _ _ (by omega) (by omega) (by omega)).mono ?_
      rintro e w_ ⟨rfl, rfl⟩
      rw [HT.out]
      go_wp2_with fail
      refine (floor_any _ _ _ (by omega) (by omega) (by omega)).mono ?_
      rintro e w_ ⟨rfl, rfl⟩
      rw [HG.out]
      go_wp2_with fail
      refine (makeYarn_t _ _ _ _ H3.out).mono ?_
      rintro e w2 ⟨rfl, hb⟩
      clear cX0_0 cX0_1 cX0_2
      replace HB := Lib.hid (below_then HB.out HB.out.size hb)
      replace X0 := Lib.hid (X0.out.below hb)
      replace R1 := Lib.hid (R1.out.below hb)
      replace R2 := Lib.hid (R2.out.below hb)
      have hz2 := hb.size
      (try simp only [World.size_alloc] at hz2)
      clear hb
      have Y1 : Hid (Row (w2.alloc (.cells #[.int .i16 l, .int .i16 t, .int .i16 g] 35)) w2.heap.size 35 [.int .i16 l, .int .i16 t, .int .i16 g]) := Lib.hid (Row.alloc w2 [.int .i16 l, .int .i16 t, .int .i16 g] 35)
      replace HB := Lib.hid (HB.out.alloc HB.out.size (.cells #[.int .i16 l, .int .i16 t, .int .i16 g] 35))
      replace X0 := Lib.hid (X0.out.below (below_alloc1 _ (.cells #[.int .i16 l, .int .i16 t, .int .i16 g] 35)))
      replace R1 := Lib.hid (R1.out.below (below_alloc1 _ (.cells #[.int .i16 l, .int .i16 t, .int .i16 g] 35)))
      replace R2 := Lib.hid (R2.out.below (below_alloc1 _ (.cells #[.int .i16 l, .int .i16 t, .int .i16 g] 35)))
      go_wp2_with fail
      refine (makeYarn_t _ _ _ _ H4.out).mono ?_
      rintro e w3 ⟨rfl, hb⟩
      replace HB := Lib.hid (below_then HB.out HB.out.size hb)
      replace Y1 := Lib.hid (Y1.out.below hb)
      replace R1 := Lib.hid (R1.out.below hb)
      replace R2 := Lib.hid (R2.out.below hb)
      have hz3 := hb.size
      (try simp only [World.size_alloc] at hz3)
      clear hb
      have Y2 : Hid (Row (w3.alloc (.cells #[.int .i16 (a - l), .int .i16 (b - t), .int .i16 (c - g)] 35)) w3.heap.size 35 [.int .i16 (a - l), .int .i16 (b - t), .int .i16 (c - g)]) := Lib.hid (Row.alloc w3 [.int .i16 (a - l), .int .i16 (b - t), .int .i16 (c - g)] 35)
      replace HB := Lib.hid (HB.out.alloc HB.out.size (.cells #[.int .i16 (a - l), .int .i16 (b - t), .int .i16 (c - g)] 35))
      replace Y1 := Lib.hid (Y1.out.below (below_alloc1 _ (.cells #[.int .i16 (a - l), .int .i16 (b - t), .int .i16 (c - g)] 35)))
      replace R1 := Lib.hid (R1.out.below (below_alloc1 _ (.cells #[.int .i16 (a - l), .int .i16 (b - t), .int .i16 (c - g)] 35)))
      replace R2 := Lib.hid (R2.out.below (below_alloc1 _ (.cells #[.int .i16 (a - l), .int .i16 (b - t), .int .i16 (c - g)] 35)))
      obtain ⟨cY1_0, cY1_1, cY1_2⟩ := Y1.out.cells3
      obtain ⟨cY2_0, cY2_1, cY2_2⟩ := Y2.out.cells3
      have hB := HB.out
      obtain ⟨cR1_0, cR1_1, cR1_2⟩ := R1.out.cells3
      obtain ⟨fR1_0, fR1_1, fR1_2⟩ := R1.out.frozens3
      obtain ⟨cR2_0, cR2_1, cR2_2⟩ := R2.out.cells3
      obtain ⟨fR2_0, fR2_1, fR2_2⟩ := R2.out.frozens3
      have SR1 := ((((((R1.out.set 0 (.int .i16 l)).set 1 (.int .i16 t)).set 2 (.int .i16 g)).apart (C := w.heap.size + 2) (by omega) 0 (.int .i16 (a - l))).apart (C := w.heap.size + 2) (by omega) 1 (.int .i16 (b - t))).apart (C := w.heap.size + 2) (by omega) 2 (.int .i16 (c - g)))
      simp only [List.set_cons_zero, List.set_cons_succ] at SR1
      obtain ⟨sR1_0, sR1_1, sR1_2⟩ := SR1.cells3
      clear SR1
      have SR2 := ((((((R2.out.apart (C := w.heap.size + 1) (by omega) 0 (.int .i16 l)).apart (C := w.heap.size + 1) (by omega) 1 (.int .i16 t)).apart (C := w.heap.size + 1) (by omega) 2 (.int .i16 g)).set 0 (.int .i16 (a - l))).set 1 (.int .i16 (b - t))).set 2 (.int .i16 (c - g)))
      simp only [List.set_cons_zero, List.set_cons_succ] at SR2
      obtain ⟨sR2_0, sR2_1, sR2_2⟩ := SR2.cells3
      clear SR2
      have SR2 := ((((((R2.out.set 0 (.int .i16 (a - l))).set 1 (.int .i16 (b - t))).set 2 (.int .i16 (c - g))).apart (C := w.heap.size + 1) (by omega) 0 (.int .i16 l)).apart (C := w.heap.size + 1) (by omega) 1 (.int .i16 t)).apart (C := w.heap.size + 1) (by omega) 2 (.int .i16 g))
      simp only [List.set_cons_zero, List.set_cons_succ] at SR2
      obtain ⟨sbR2_0, sbR2_1, sbR2_2⟩ := SR2.cells3
      clear SR2
      have SR1 := ((((((R1.out.apart (C := w.heap.size + 2) (by omega) 0 (.int .i16 (a - l))).apart (C := w.heap.size + 2) (by omega) 1 (.int .i16 (b - t))).apart (C := w.heap.size + 2) (by omega) 2 (.int .i16 (c - g))).set 0 (.int .i16 l)).set 1 (.int .i16 t)).set 2 (.int .i16 g))
      simp only [List.set_cons_zero, List.set_cons_succ] at SR1
      obtain ⟨sbR1_0, sbR1_1, sbR1_2⟩ := SR1.cells3
      clear SR1
      go_wp2_with fail
      go_region
      all_goals go_wp2_with fail
      all_goals refine bodyPost_ret (v := .tuple #[.agg #[.int .i16 l, .int .i16 t, .int .i16 g], .agg #[.int .i16 (a - l), .int .i16 (b - t), .int .i16 (c - g)], .int .i64 0]) (by simp [results, Try.results21, go_sem, sR1_0, sR1_1, sR1_2, sR2_0, sR2_1, sR2_2, sbR2_0, sbR2_1, sbR2_2, sbR1_0, sbR1_1, sbR1_2]) rfl ⟨by rw [HC.out]; simp [jn, HT.out, HG.out], by go_grown⟩
set_option maxHeartbeats 2000000 in
theorem sCutYarn (a b c l : Int) (w : World) (wa : -32768 ≤ a ∧ a ≤ 32767) (wb : -32768 ≤ b ∧ b ≤ 32767) (wc : -32768 ≤ c ∧ c ≤ 32767) (wl : -9223372036854775808 ≤ l ∧ l ≤ 9223372036854775807) :
    Calls Try.prog 20 #[.agg #[.int .i16 a, .int .i16 b, .int .i16 c], .int .i64 l] w fun e w' => e = .returned (.tuple #[.agg #[.int .i16 (jn (ctC a b c l) l), .int .i16 (jn (ctC a b c l) (b * l / a)), .int .i16 (jn (ctC a b c l) (c * l / a))], .agg #[.int .i16 (jn (ctC a b c l) (a - l)), .int .i16 (jn (ctC a b c l) (b - (b * l / a))), .int .i16 (jn (ctC a b c l) (c - (c * l / a)))], .int .i64 (ctC a b c l)]) ∧ Below w.heap.size w w' := by
  have X0 : Hid (Row (((w.alloc (.cells #[.int .i16 a, .int .i16 b, .int .i16 c] 35)).alloc (.cells #[.int .i16 0, .int .i16 0, .int .i16 0] 35)).alloc (.cells #[.int .i16 0, .int .i16 0, .int .i16 0] 35)) (w.heap.size) 35 [.int .i16 a, .int .i16 b, .int .i16 c]) := Lib.hid (by have := (((Row.alloc w [.int .i16 a, .int .i16 b, .int .i16 c] 35).below (below_alloc1 _ (.cells #[.int .i16 0, .int .i16 0, .int .i16 0] 35))).below (below_alloc1 _ (.cells #[.int .i16 0, .int .i16 0, .int .i16 0] 35))); (try simp only [World.size_alloc] at this); exact this)
  have R1 : Hid (Row (((w.alloc (.cells #[.int .i16 a, .int .i16 b, .int .i16 c] 35)).alloc (.cells #[.int .i16 0, .int .i16 0, .int .i16 0] 35)).alloc (.cells #[.int .i16 0, .int .i16 0, .int .i16 0] 35)) (w.heap.size + 1) 35 [.int .i16 0, .int .i16 0, .int .i16 0]) := Lib.hid (by have := ((Row.alloc (w.alloc (.cells #[.int .i16 a, .int .i16 b, .int .i16 c] 35)) [.int .i16 0, .int .i16 0, .int .i16 0] 35).below (below_alloc1 _ (.cells #[.int .i16 0, .int .i16 0, .int .i16 0] 35))); (try simp only [World.size_alloc] at this); exact this)
  have R2 : Hid (Row (((w.alloc (.cells #[.int .i16 a, .int .i16 b, .int .i16 c] 35)).alloc (.cells #[.int .i16 0, .int .i16 0, .int .i16 0] 35)).alloc (.cells #[.int .i16 0, .int .i16 0, .int .i16 0] 35)) (w.heap.size + 2) 35 [.int .i16 0, .int .i16 0, .int .i16 0]) := Lib.hid (by have := (Row.alloc ((w.alloc (.cells #[.int .i16 a, .int .i16 b, .int .i16 c] 35)).alloc (.cells #[.int .i16 0, .int .i16 0, .int .i16 0] 35)) [.int .i16 0, .int .i16 0, .int .i16 0] 35); (try simp only [World.size_alloc] at this); exact this)
  have HB : Hid (Below w.heap.size w (((w.alloc (.cells #[.int .i16 a, .int .i16 b, .int .i16 c] 35)).alloc (.cells #[.int .i16 0, .int .i16 0, .int .i16 0] 35)).alloc (.cells #[.int .i16 0, .int .i16 0, .int .i16 0] 35))) := Lib.hid (by go_grown)
  cases h1 : yarnOk a b c
  · have hc : ctC a b c l = 1 := by simp [ctC, h1]
    have HC := Lib.hid hc; clear hc
    have H1 := Lib.hid h1; clear h1
    go_enter Try.func20, Try.ntmps20
    obtain ⟨cX0_0, cX0_1, cX0_2⟩ := X0.out.cells3
    go_wp2_with fail
    refine (sl03Yarn a b c wa wb wc _).mono ?_
    rintro e w1 ⟨rfl, hb⟩
    rw [H1.out]
    clear cX0_0 cX0_1 cX0_2
    replace HB := Lib.hid (below_then HB.out HB.out.size hb)
    replace X0 := Lib.hid (X0.out.below hb)
    replace R1 := Lib.hid (R1.out.below hb)
    replace R2 := Lib.hid (R2.out.below hb)
    have hz1 := hb.size
    (try simp only [World.size_alloc] at hz1)
    clear hb
    have hB := HB.out
    obtain ⟨cR1_0, cR1_1, cR1_2⟩ := R1.out.cells3
    obtain ⟨fR1_0, fR1_1, fR1_2⟩ := R1.out.frozens3
    obtain ⟨cR2_0, cR2_1, cR2_2⟩ := R2.out.cells3
    obtain ⟨fR2_0, fR2_1, fR2_2⟩ := R2.out.frozens3
    have SR1 := ((((((R1.out.set 0 (.int .i16 0)).set 1 (.int .i16 0)).set 2 (.int .i16 0)).apart (C := w.heap.size + 2) (by omega) 0 (.int .i16 0)).apart (C := w.heap.size + 2) (by omega) 1 (.int .i16 0)).apart (C := w.heap.size + 2) (by omega) 2 (.int .i16 0))
    simp only [List.set_cons_zero, List.set_cons_succ] at SR1
    obtain ⟨sR1_0, sR1_1, sR1_2⟩ := SR1.cells3
    clear SR1
    have SR2 := ((((((R2.out.apart (C := w.heap.size + 1) (by omega) 0 (.int .i16 0)).apart (C := w.heap.size + 1) (by omega) 1 (.int .i16 0)).apart (C := w.heap.size + 1) (by omega) 2 (.int .i16 0)).set 0 (.int .i16 0)).set 1 (.int .i16 0)).set 2 (.int .i16 0))
    simp only [List.set_cons_zero, List.set_cons_succ] at SR2
    obtain ⟨sR2_0, sR2_1, sR2_2⟩ := SR2.cells3
    clear SR2
    go_wp2_with fail
    refine bodyPost_ret (v := .tuple #[.agg #[.int .i16 0, .int .i16 0, .int .i16 0], .agg #[.int .i16 0, .int .i16 0, .int .i16 0], .int .i64 1]) (by simp [results, Try.results20, go_sem, sR1_0, sR1_1, sR1_2, sR2_0, sR2_1, sR2_2]) rfl ⟨by rw [HC.out]; simp [jn], by go_grown⟩
  obtain ⟨⟨a1, a2⟩, ⟨b1, b2⟩, c1, c2⟩ := yarnOk_bounds h1
  cases h2 : inB l 1 (a - 1)
  · have hc : ctC a b c l = 2 := by simp [ctC, h1, h2]
    have HC := Lib.hid hc; clear hc
    have H1 := Lib.hid h1; clear h1
    have H2 := Lib.hid h2; clear h2
    go_enter Try.func20, Try.ntmps20
    obtain ⟨cX0_0, cX0_1, cX0_2⟩ := X0.out.cells3
    go_wp2_with fail
    refine (sl03Yarn a b c wa wb wc _).mono ?_
    rintro e w1 ⟨rfl, hb⟩
    rw [H1.out]
    clear cX0_0 cX0_1 cX0_2
    replace HB := Lib.hid (below_then HB.out HB.out.size hb)
    replace X0 := Lib.hid (X0.out.below hb)
    replace R1 := Lib.hid (R1.out.below hb)
    replace R2 := Lib.hid (R2.out.below hb)
    have hz1 := hb.size
    (try simp only [World.size_alloc] at hz1)
    clear hb
    obtain ⟨cX0_0, cX0_1, cX0_2⟩ := X0.out.cells3
    go_wp2_with fail
    refine (l00In_any _ _ _ _).mono ?_
    rintro e w_ ⟨rfl, rfl⟩
    rw [H2.out]
    clear cX0_0 cX0_1 cX0_2
    have hB := HB.out
    obtain ⟨cR1_0, cR1_1, cR1_2⟩ := R1.out.cells3
    obtain ⟨fR1_0, fR1_1, fR1_2⟩ := R1.out.frozens3
    obtain ⟨cR2_0, cR2_1, cR2_2⟩ := R2.out.cells3
    obtain ⟨fR2_0, fR2_1, fR2_2⟩ := R2.out.frozens3
    have SR1 := ((((((R1.out.set 0 (.int .i16 0)).set 1 (.int .i16 0)).set 2 (.int .i16 0)).apart (C := w.heap.size + 2) (by omega) 0 (.int .i16 0)).apart (C := w.heap.size + 2) (by omega) 1 (.int .i16 0)).apart (C := w.heap.size + 2) (by omega) 2 (.int .i16 0))
    simp only [List.set_cons_zero, List.set_cons_succ] at SR1
    obtain ⟨sR1_0, sR1_1, sR1_2⟩ := SR1.cells3
    clear SR1
    have SR2 := ((((((R2.out.apart (C := w.heap.size + 1) (by omega) 0 (.int .i16 0)).apart (C := w.heap.size + 1) (by omega) 1 (.int .i16 0)).apart (C := w.heap.size + 1) (by omega) 2 (.int .i16 0)).set 0 (.int .i16 0)).set 1 (.int .i16 0)).set 2 (.int .i16 0))
    simp only [List.set_cons_zero, List.set_cons_succ] at SR2
    obtain ⟨sR2_0, sR2_1, sR2_2⟩ := SR2.cells3
    clear SR2
    go_wp2_with fail
    refine bodyPost_ret (v := .tuple #[.agg #[.int .i16 0, .int .i16 0, .int .i16 0], .agg #[.int .i16 0, .int .i16 0, .int .i16 0], .int .i64 2]) (by simp [results, Try.results20, go_sem, sR1_0, sR1_1, sR1_2, sR2_0, sR2_1, sR2_2]) rfl ⟨by rw [HC.out]; simp [jn], by go_grown⟩
  have hl : 1 ≤ l ∧ l ≤ a - 1 := by simpa [inB] using h2
  obtain ⟨l1, l2⟩ := hl
  have p1 := mul_rng (a := l) (A := 5000) (b := b) (B := 2000) (by omega) (by omega)
  have p2 : 0 ≤ c * l ∧ c * l ≤ 10000000 := ⟨Int.mul_nonneg (by omega) (by omega), by have := mul_rng (a := l) (A := 5000) (b := c) (B := 2000) (by omega) (by omega); rw [Int.mul_comm l c] at this; omega⟩
  rw [Int.mul_comm l b] at p1
  have d1 : -10000000 ≤ b * l / a ∧ b * l / a ≤ 10000000 := by
    have e1 := Int.mul_ediv_add_emod (b * l) a
    have e2 := Int.emod_nonneg (b * l) (show a ≠ 0 by omega)
    have e3 := Int.emod_lt_of_pos (b * l) (show 0 < a by omega)
    constructor
    · apply Int.le_ediv_of_mul_le (by omega)
      have : -10000000 * a ≤ -10000000 * 1 := by omega
      omega
    · have : b * l / a < 10000001 := Int.ediv_lt_of_lt_mul (by omega) (by omega)
      omega
  have d2 : 0 ≤ c * l / a ∧ c * l / a ≤ 10000000 := by
    constructor
    · exact Int.ediv_nonneg p2.1 (by omega)
    · have : c * l / a < 10000001 := Int.ediv_lt_of_lt_mul (by omega) (by omega)
      omega
  obtain ⟨t, ht⟩ : ∃ t, b * l / a = t := ⟨_, rfl⟩
  obtain ⟨g, hg⟩ : ∃ g, c * l / a = g := ⟨_, rfl⟩
  have e2 : (c * l).tdiv a = g := by rw [Int.tdiv_eq_ediv_of_nonneg p2.1]; exact hg
  have q1 : (a == 0) = false := by simp; omega
  have q2 : ¬ a = 0 := by omega
  rw [ht] at d1
  rw [hg] at d2
  cases h3 : yarnOk l t g
  · cases h4 : yarnOk (a - l) (b - t) (c - g)
    · have hc : ctC a b c l = 4 := by simp [ctC, h1, h2, ht, hg, h3, h4]
      have HC := Lib.hid hc; have HT := Lib.hid ht; have HG := Lib.hid hg; have H1 := Lib.hid h1; have H2 := Lib.hid h2; have H3 := Lib.hid h3; have H4 := Lib.hid h4; clear hc ht hg h1 h2 h3 h4
      go_enter Try.func20, Try.ntmps20
      obtain ⟨cX0_0, cX0_1, cX0_2⟩ := X0.out.cells3
      go_wp2_with fail
      refine (sl03Yarn a b c wa wb wc _).mono ?_
      rintro e w1 ⟨rfl, hb⟩
      rw [H1.out]
      clear cX0_0 cX0_1 cX0_2
      replace HB := Lib.hid (below_then HB.out HB.out.size hb)
      replace X0 := Lib.hid (X0.out.below hb)
      replace R1 := Lib.hid (R1.out.below hb)
      replace R2 := Lib.hid (R2.out.below hb)
      have hz1 := hb.size
      (try simp only [World.size_alloc] at hz1)
      clear hb
      obtain ⟨cX0_0, cX0_1, cX0_2⟩ := X0.out.cells3
      go_wp2_with fail
      refine (l00In_any _ _ _ _).mono ?_
      rintro e w_ ⟨rfl, rfl⟩
      rw [H2.out]
      go_wp2_with fail
      refine (l03Down_any _ _ _ (by omega) (by omega) (by omega)).mono ?_
      rintro e w_ ⟨rfl, rfl⟩
      rw [HT.out]
      go_wp2_with fail
      refine (l03Make_f _ _ _ _ H3.out).mono ?_
      rintro e w2 ⟨rfl, hb⟩
      clear cX0_0 cX0_1 cX0_2
      replace HB := Lib.hid (below_then HB.out HB.out.size hb)
      replace X0 := Lib.hid (X0.out.below hb)
      replace R1 := Lib.hid (R1.out.below hb)
      replace R2 := Lib.hid (R2.out.below hb)
      have hz2 := hb.size
      (try simp only [World.size_alloc] at hz2)
      clear hb
      have Y1 : Hid (Row (w2.alloc (.cells #[.int .i16 0, .int .i16 0, .int .i16 0] 35)) w2.heap.size 35 [.int .i16 0, .int .i16 0, .int .i16 0]) := Lib.hid (Row.alloc w2 [.int .i16 0, .int .i16 0, .int .i16 0] 35)
      replace HB := Lib.hid (HB.out.alloc HB.out.size (.cells #[.int .i16 0, .int .i16 0, .int .i16 0] 35))
      replace X0 := Lib.hid (X0.out.below (below_alloc1 _ (.cells #[.int .i16 0, .int .i16 0, .int .i16 0] 35)))
      replace R1 := Lib.hid (R1.out.below (below_alloc1 _ (.cells #[.int .i16 0, .int .i16 0, .int .i16 0] 35)))
      replace R2 := Lib.hid (R2.out.below (below_alloc1 _ (.cells #[.int .i16 0, .int .i16 0, .int .i16 0] 35)))
      obtain ⟨cX0_0, cX0_1, cX0_2⟩ := X0.out.cells3
      go_wp2_with fail
      refine (l03Make_f _ _ _ _ H4.out).mono ?_
      rintro e w3 ⟨rfl, hb⟩
      clear cX0_0 cX0_1 cX0_2
      replace HB := Lib.hid (below_then HB.out HB.out.size hb)
      replace Y1 := Lib.hid (Y1.out.below hb)
      replace R1 := Lib.hid (R1.out.below hb)
      replace R2 := Lib.hid (R2.out.below hb)
      have hz3 := hb.size
      (try simp only [World.size_alloc] at hz3)
      clear hb
      have Y2 : Hid (Row (w3.alloc (.cells #[.int .i16 0, .int .i16 0, .int .i16 0] 35)) w3.heap.size 35 [.int .i16 0, .int .i16 0, .int .i16 0]) := Lib.hid (Row.alloc w3 [.int .i16 0, .int .i16 0, .int .i16 0] 35)
      replace HB := Lib.hid (HB.out.alloc HB.out.size (.cells #[.int .i16 0, .int .i16 0, .int .i16 0] 35))
      replace Y1 := Lib.hid (Y1.out.below (below_alloc1 _ (.cells #[.int .i16 0, .int .i16 0, .int .i16 0] 35)))
      replace R1 := Lib.hid (R1.out.below (below_alloc1 _ (.cells #[.int .i16 0, .int .i16 0, .int .i16 0] 35)))
      replace R2 := Lib.hid (R2.out.below (below_alloc1 _ (.cells #[.int .i16 0, .int .i16 0, .int .i16 0] 35)))
      have hB := HB.out
      obtain ⟨cR1_0, cR1_1, cR1_2⟩ := R1.out.cells3
      obtain ⟨fR1_0, fR1_1, fR1_2⟩ := R1.out.frozens3
      obtain ⟨cR2_0, cR2_1, cR2_2⟩ := R2.out.cells3
      obtain ⟨fR2_0, fR2_1, fR2_2⟩ := R2.out.frozens3
      have SR1 := ((((((R1.out.set 0 (.int .i16 0)).set 1 (.int .i16 0)).set 2 (.int .i16 0)).apart (C := w.heap.size + 2) (by omega) 0 (.int .i16 0)).apart (C := w.heap.size + 2) (by omega) 1 (.int .i16 0)).apart (C := w.heap.size + 2) (by omega) 2 (.int .i16 0))
      simp only [List.set_cons_zero, List.set_cons_succ] at SR1
      obtain ⟨sR1_0, sR1_1, sR1_2⟩ := SR1.cells3
      clear SR1
      have SR2 := ((((((R2.out.apart (C := w.heap.size + 1) (by omega) 0 (.int .i16 0)).apart (C := w.heap.size + 1) (by omega) 1 (.int .i16 0)).apart (C := w.heap.size + 1) (by omega) 2 (.int .i16 0)).set 0 (.int .i16 0)).set 1 (.int .i16 0)).set 2 (.int .i16 0))
      simp only [List.set_cons_zero, List.set_cons_succ] at SR2
      obtain ⟨sR2_0, sR2_1, sR2_2⟩ := SR2.cells3
      clear SR2
      go_wp2_with fail
      refine bodyPost_ret (v := .tuple #[.agg #[.int .i16 0, .int .i16 0, .int .i16 0], .agg #[.int .i16 0, .int .i16 0, .int .i16 0], .int .i64 4]) (by simp [results, Try.results20, go_sem, sR1_0, sR1_1, sR1_2, sR2_0, sR2_1, sR2_2]) rfl ⟨by rw [HC.out]; simp [jn, HT.out, HG.out], by go_grown⟩
    · have hc : ctC a b c l = 4 := by simp [ctC, h1, h2, ht, hg, h3, h4]
      have HC := Lib.hid hc; have HT := Lib.hid ht; have HG := Lib.hid hg; have H1 := Lib.hid h1; have H2 := Lib.hid h2; have H3 := Lib.hid h3; have H4 := Lib.hid h4; clear hc ht hg h1 h2 h3 h4
      go_enter Try.func20, Try.ntmps20
      obtain ⟨cX0_0, cX0_1, cX0_2⟩ := X0.out.cells3
      go_wp2_with fail
      refine (sl03Yarn a b c wa wb wc _).mono ?_
      rintro e w1 ⟨rfl, hb⟩
      rw [H1.out]
      clear cX0_0 cX0_1 cX0_2
      replace HB := Lib.hid (below_then HB.out HB.out.size hb)
      replace X0 := Lib.hid (X0.out.below hb)
      replace R1 := Lib.hid (R1.out.below hb)
      replace R2 := Lib.hid (R2.out.below hb)
      have hz1 := hb.size
      (try simp only [World.size_alloc] at hz1)
      clear hb
      obtain ⟨cX0_0, cX0_1, cX0_2⟩ := X0.out.cells3
      go_wp2_with fail
      refine (l00In_any _ _ _ _).mono ?_
      rintro e w_ ⟨rfl, rfl⟩
      rw [H2.out]
      go_wp2_with fail
      refine (l03Down_any _ _ _ (by omega) (by omega) (by omega)).mono ?_
      rintro e w_ ⟨rfl, rfl⟩
      rw [HT.out]
      go_wp2_with fail
      refine (l03Make_f _ _ _ _ H3.out).mono ?_
      rintro e w2 ⟨rfl, hb⟩
      clear cX0_0 cX0_1 cX0_2
      replace HB := Lib.hid (below_then HB.out HB.out.size hb)
      replace X0 := Lib.hid (X0.out.below hb)
      replace R1 := Lib.hid (R1.out.below hb)
      replace R2 := Lib.hid (R2.out.below hb)
      have hz2 := hb.size
      (try simp only [World.size_alloc] at hz2)
      clear hb
      have Y1 : Hid (Row (w2.alloc (.cells #[.int .i16 0, .int .i16 0, .int .i16 0] 35)) w2.heap.size 35 [.int .i16 0, .int .i16 0, .int .i16 0]) := Lib.hid (Row.alloc w2 [.int .i16 0, .int .i16 0, .int .i16 0] 35)
      replace HB := Lib.hid (HB.out.alloc HB.out.size (.cells #[.int .i16 0, .int .i16 0, .int .i16 0] 35))
      replace X0 := Lib.hid (X0.out.below (below_alloc1 _ (.cells #[.int .i16 0, .int .i16 0, .int .i16 0] 35)))
      replace R1 := Lib.hid (R1.out.below (below_alloc1 _ (.cells #[.int .i16 0, .int .i16 0, .int .i16 0] 35)))
      replace R2 := Lib.hid (R2.out.below (below_alloc1 _ (.cells #[.int .i16 0, .int .i16 0, .int .i16 0] 35)))
      obtain ⟨cX0_0, cX0_1, cX0_2⟩ := X0.out.cells3
      go_wp2_with fail
      refine (l03Make_t _ _ _ _ H4.out).mono ?_
      rintro e w3 ⟨rfl, hb⟩
      clear cX0_0 cX0_1 cX0_2
      replace HB := Lib.hid (below_then HB.out HB.out.size hb)
      replace Y1 := Lib.hid (Y1.out.below hb)
      replace R1 := Lib.hid (R1.out.below hb)
      replace R2 := Lib.hid (R2.out.below hb)
      have hz3 := hb.size
      (try simp only [World.size_alloc] at hz3)
      clear hb
      have Y2 : Hid (Row (w3.alloc (.cells #[.int .i16 (a - l), .int .i16 (b - t), .int .i16 (c - g)] 35)) w3.heap.size 35 [.int .i16 (a - l), .int .i16 (b - t), .int .i16 (c - g)]) := Lib.hid (Row.alloc w3 [.int .i16 (a - l), .int .i16 (b - t), .int .i16 (c - g)] 35)
      replace HB := Lib.hid (HB.out.alloc HB.out.size (.cells #[.int .i16 (a - l), .int .i16 (b - t), .int .i16 (c - g)] 35))
      replace Y1 := Lib.hid (Y1.out.below (below_alloc1 _ (.cells #[.int .i16 (a - l), .int .i16 (b - t), .int .i16 (c - g)] 35)))
      replace R1 := Lib.hid (R1.out.below (below_alloc1 _ (.cells #[.int .i16 (a - l), .int .i16 (b - t), .int .i16 (c - g)] 35)))
      replace R2 := Lib.hid (R2.out.below (below_alloc1 _ (.cells #[.int .i16 (a - l), .int .i16 (b - t), .int .i16 (c - g)] 35)))
      have hB := HB.out
      obtain ⟨cR1_0, cR1_1, cR1_2⟩ := R1.out.cells3
      obtain ⟨fR1_0, fR1_1, fR1_2⟩ := R1.out.frozens3
      obtain ⟨cR2_0, cR2_1, cR2_2⟩ := R2.out.cells3
      obtain ⟨fR2_0, fR2_1, fR2_2⟩ := R2.out.frozens3
      have SR1 := ((((((R1.out.set 0 (.int .i16 0)).set 1 (.int .i16 0)).set 2 (.int .i16 0)).apart (C := w.heap.size + 2) (by omega) 0 (.int .i16 0)).apart (C := w.heap.size + 2) (by omega) 1 (.int .i16 0)).apart (C := w.heap.size + 2) (by omega) 2 (.int .i16 0))
      simp only [List.set_cons_zero, List.set_cons_succ] at SR1
      obtain ⟨sR1_0, sR1_1, sR1_2⟩ := SR1.cells3
      clear SR1
      have SR2 := ((((((R2.out.apart (C := w.heap.size + 1) (by omega) 0 (.int .i16 0)).apart (C := w.heap.size + 1) (by omega) 1 (.int .i16 0)).apart (C := w.heap.size + 1) (by omega) 2 (.int .i16 0)).set 0 (.int .i16 0)).set 1 (.int .i16 0)).set 2 (.int .i16 0))
      simp only [List.set_cons_zero, List.set_cons_succ] at SR2
      obtain ⟨sR2_0, sR2_1, sR2_2⟩ := SR2.cells3
      clear SR2
      go_wp2_with fail
      refine bodyPost_ret (v := .tuple #[.agg #[.int .i16 0, .int .i16 0, .int .i16 0], .agg #[.int .i16 0, .int .i16 0, .int .i16 0], .int .i64 4]) (by simp [results, Try.results20, go_sem, sR1_0, sR1_1, sR1_2, sR2_0, sR2_1, sR2_2]) rfl ⟨by rw [HC.out]; simp [jn, HT.out, HG.out], by go_grown⟩
  · cases h4 : yarnOk (a - l) (b - t) (c - g)
    · have hc : ctC a b c l = 4 := by simp [ctC, h1, h2, ht, hg, h3, h4]
      have HC := Lib.hid hc; have HT := Lib.hid ht; have HG := Lib.hid hg; have H1 := Lib.hid h1; have H2 := Lib.hid h2; have H3 := Lib.hid h3; have H4 := Lib.hid h4; clear hc ht hg h1 h2 h3 h4
      go_enter Try.func20, Try.ntmps20
      obtain ⟨cX0_0, cX0_1, cX0_2⟩ := X0.out.cells3
      go_wp2_with fail
      refine (sl03Yarn a b c wa wb wc _).mono ?_
      rintro e w1 ⟨rfl, hb⟩
      rw [H1.out]
      clear cX0_0 cX0_1 cX0_2
      replace HB := Lib.hid (below_then HB.out HB.out.size hb)
      replace X0 := Lib.hid (X0.out.below hb)
      replace R1 := Lib.hid (R1.out.below hb)
      replace R2 := Lib.hid (R2.out.below hb)
      have hz1 := hb.size
      (try simp only [World.size_alloc] at hz1)
      clear hb
      obtain ⟨cX0_0, cX0_1, cX0_2⟩ := X0.out.cells3
      go_wp2_with fail
      refine (l00In_any _ _ _ _).mono ?_
      rintro e w_ ⟨rfl, rfl⟩
      rw [H2.out]
      go_wp2_with fail
      refine (l03Down_any _ _ _ (by omega) (by omega) (by omega)).mono ?_
      rintro e w_ ⟨rfl, rfl⟩
      rw [HT.out]
      go_wp2_with fail
      refine (l03Make_t _ _ _ _ H3.out).mono ?_
      rintro e w2 ⟨rfl, hb⟩
      clear cX0_0 cX0_1 cX0_2
      replace HB := Lib.hid (below_then HB.out HB.out.size hb)
      replace X0 := Lib.hid (X0.out.below hb)
      replace R1 := Lib.hid (R1.out.below hb)
      replace R2 := Lib.hid (R2.out.below hb)
      have hz2 := hb.size
      (try simp only [World.size_alloc] at hz2)
      clear hb
      have Y1 : Hid (Row (w2.alloc (.cells #[.int .i16 l, .int .i16 t, .int .i16 g] 35)) w2.heap.size 35 [.int .i16 l, .int .i16 t, .int .i16 g]) := Lib.hid (Row.alloc w2 [.int .i16 l, .int .i16 t, .int .i16 g] 35)
      replace HB := Lib.hid (HB.out.alloc HB.out.size (.cells #[.int .i16 l, .int .i16 t, .int .i16 g] 35))
      replace X0 := Lib.hid (X0.out.below (below_alloc1 _ (.cells #[.int .i16 l, .int .i16 t, .int .i16 g] 35)))
      replace R1 := Lib.hid (R1.out.below (below_alloc1 _ (.cells #[.int .i16 l, .int .i16 t, .int .i16 g] 35)))
      replace R2 := Lib.hid (R2.out.below (below_alloc1 _ (.cells #[.int .i16 l, .int .i16 t, .int .i16 g] 35)))
      obtain ⟨cX0_0, cX0_1, cX0_2⟩ := X0.out.cells3
      go_wp2_with fail
      refine (l03Make_f _ _ _ _ H4.out).mono ?_
      rintro e w3 ⟨rfl, hb⟩
      clear cX0_0 cX0_1 cX0_2
      replace HB := Lib.hid (below_then HB.out HB.out.size hb)
      replace Y1 := Lib.hid (Y1.out.below hb)
      replace R1 := Lib.hid (R1.out.below hb)
      replace R2 := Lib.hid (R2.out.below hb)
      have hz3 := hb.size
      (try simp only [World.size_alloc] at hz3)
      clear hb
      have Y2 : Hid (Row (w3.alloc (.cells #[.int .i16 0, .int .i16 0, .int .i16 0] 35)) w3.heap.size 35 [.int .i16 0, .int .i16 0, .int .i16 0]) := Lib.hid (Row.alloc w3 [.int .i16 0, .int .i16 0, .int .i16 0] 35)
      replace HB := Lib.hid (HB.out.alloc HB.out.size (.cells #[.int .i16 0, .int .i16 0, .int .i16 0] 35))
      replace Y1 := Lib.hid (Y1.out.below (below_alloc1 _ (.cells #[.int .i16 0, .int .i16 0, .int .i16 0] 35)))
      replace R1 := Lib.hid (R1.out.below (below_alloc1 _ (.cells #[.int .i16 0, .int .i16 0, .int .i16 0] 35)))
      replace R2 := Lib.hid (R2.out.below (below_alloc1 _ (.cells #[.int .i16 0, .int .i16 0, .int .i16 0] 35)))
      have hB := HB.out
      obtain ⟨cR1_0, cR1_1, cR1_2⟩ := R1.out.cells3
      obtain ⟨fR1_0, fR1_1, fR1_2⟩ := R1.out.frozens3
      obtain ⟨cR2_0, cR2_1, cR2_2⟩ := R2.out.cells3
      obtain ⟨fR2_0, fR2_1, fR2_2⟩ := R2.out.frozens3
      have SR1 := ((((((R1.out.set 0 (.int .i16 0)).set 1 (.int .i16 0)).set 2 (.int .i16 0)).apart (C := w.heap.size + 2) (by omega) 0 (.int .i16 0)).apart (C := w.heap.size + 2) (by omega) 1 (.int .i16 0)).apart (C := w.heap.size + 2) (by omega) 2 (.int .i16 0))
      simp only [List.set_cons_zero, List.set_cons_succ] at SR1
      obtain ⟨sR1_0, sR1_1, sR1_2⟩ := SR1.cells3
      clear SR1
      have SR2 := ((((((R2.out.apart (C := w.heap.size + 1) (by omega) 0 (.int .i16 0)).apart (C := w.heap.size + 1) (by omega) 1 (.int .i16 0)).apart (C := w.heap.size + 1) (by omega) 2 (.int .i16 0)).set 0 (.int .i16 0)).set 1 (.int .i16 0)).set 2 (.int .i16 0))
      simp only [List.set_cons_zero, List.set_cons_succ] at SR2
      obtain ⟨sR2_0, sR2_1, sR2_2⟩ := SR2.cells3
      clear SR2
      go_wp2_with fail
      refine bodyPost_ret (v := .tuple #[.agg #[.int .i16 0, .int .i16 0, .int .i16 0], .agg #[.int .i16 0, .int .i16 0, .int .i16 0], .int .i64 4]) (by simp [results, Try.results20, go_sem, sR1_0, sR1_1, sR1_2, sR2_0, sR2_1, sR2_2]) rfl ⟨by rw [HC.out]; simp [jn, HT.out, HG.out], by go_grown⟩
    · have hc : ctC a b c l = 0 := by simp [ctC, h1, h2, ht, hg, h3, h4]
      have HC := Lib.hid hc; have HT := Lib.hid ht; have HG := Lib.hid hg; have H1 := Lib.hid h1; have H2 := Lib.hid h2; have H3 := Lib.hid h3; have H4 := Lib.hid h4; clear hc ht hg h1 h2 h3 h4
      go_enter Try.func20, Try.ntmps20
      obtain ⟨cX0_0, cX0_1, cX0_2⟩ := X0.out.cells3
      go_wp2_with fail
      refine (sl03Yarn a b c wa wb wc _).mono ?_
      rintro e w1 ⟨rfl, hb⟩
      rw [H1.out]
      clear cX0_0 cX0_1 cX0_2
      replace HB := Lib.hid (below_then HB.out HB.out.size hb)
      replace X0 := Lib.hid (X0.out.below hb)
      replace R1 := Lib.hid (R1.out.below hb)
      replace R2 := Lib.hid (R2.out.below hb)
      have hz1 := hb.size
      (try simp only [World.size_alloc] at hz1)
      clear hb
      obtain ⟨cX0_0, cX0_1, cX0_2⟩ := X0.out.cells3
      go_wp2_with fail
      refine (l00In_any _ _ _ _).mono ?_
      rintro e w_ ⟨rfl, rfl⟩
      rw [H2.out]
      go_wp2_with fail
      refine (l03Down_any _ _ _ (by omega) (by omega) (by omega)).mono ?_
      rintro e w_ ⟨rfl, rfl⟩
      rw [HT.out]
      go_wp2_with fail
      refine (l03Make_t _ _ _ _ H3.out).mono ?_
      rintro e w2 ⟨rfl, hb⟩
      clear cX0_0 cX0_1 cX0_2
      replace HB := Lib.hid (below_then HB.out HB.out.size hb)
      replace X0 := Lib.hid (X0.out.below hb)
      replace R1 := Lib.hid (R1.out.below hb)
      replace R2 := Lib.hid (R2.out.below hb)
      have hz2 := hb.size
      (try simp only [World.size_alloc] at hz2)
      clear hb
      have Y1 : Hid (Row (w2.alloc (.cells #[.int .i16 l, .int .i16 t, .int .i16 g] 35)) w2.heap.size 35 [.int .i16 l, .int .i16 t, .int .i16 g]) := Lib.hid (Row.alloc w2 [.int .i16 l, .int .i16 t, .int .i16 g] 35)
      replace HB := Lib.hid (HB.out.alloc HB.out.size (.cells #[.int .i16 l, .int .i16 t, .int .i16 g] 35))
      replace X0 := Lib.hid (X0.out.below (below_alloc1 _ (.cells #[.int .i16 l, .int .i16 t, .int .i16 g] 35)))
      replace R1 := Lib.hid (R1.out.below (below_alloc1 _ (.cells #[.int .i16 l, .int .i16 t, .int .i16 g] 35)))
      replace R2 := Lib.hid (R2.out.below (below_alloc1 _ (.cells #[.int .i16 l, .int .i16 t, .int .i16 g] 35)))
      obtain ⟨cX0_0, cX0_1, cX0_2⟩ := X0.out.cells3
      go_wp2_with fail
      refine (l03Make_t _ _ _ _ H4.out).mono ?_
      rintro e w3 ⟨rfl, hb⟩
      clear cX0_0 cX0_1 cX0_2
      replace HB := Lib.hid (below_then HB.out HB.out.size hb)
      replace Y1 := Lib.hid (Y1.out.below hb)
      replace R1 := Lib.hid (R1.out.below hb)
      replace R2 := Lib.hid (R2.out.below hb)
      have hz3 := hb.size
      (try simp only [World.size_alloc] at hz3)
      clear hb
      have Y2 : Hid (Row (w3.alloc (.cells #[.int .i16 (a - l), .int .i16 (b - t), .int .i16 (c - g)] 35)) w3.heap.size 35 [.int .i16 (a - l), .int .i16 (b - t), .int .i16 (c - g)]) := Lib.hid (Row.alloc w3 [.int .i16 (a - l), .int .i16 (b - t), .int .i16 (c - g)] 35)
      replace HB := Lib.hid (HB.out.alloc HB.out.size (.cells #[.int .i16 (a - l), .int .i16 (b - t), .int .i16 (c - g)] 35))
      replace Y1 := Lib.hid (Y1.out.below (below_alloc1 _ (.cells #[.int .i16 (a - l), .int .i16 (b - t), .int .i16 (c - g)] 35)))
      replace R1 := Lib.hid (R1.out.below (below_alloc1 _ (.cells #[.int .i16 (a - l), .int .i16 (b - t), .int .i16 (c - g)] 35)))
      replace R2 := Lib.hid (R2.out.below (below_alloc1 _ (.cells #[.int .i16 (a - l), .int .i16 (b - t), .int .i16 (c - g)] 35)))
      obtain ⟨cY1_0, cY1_1, cY1_2⟩ := Y1.out.cells3
      obtain ⟨cY2_0, cY2_1, cY2_2⟩ := Y2.out.cells3
      have hB := HB.out
      obtain ⟨cR1_0, cR1_1, cR1_2⟩ := R1.out.cells3
      obtain ⟨fR1_0, fR1_1, fR1_2⟩ := R1.out.frozens3
      obtain ⟨cR2_0, cR2_1, cR2_2⟩ := R2.out.cells3
      obtain ⟨fR2_0, fR2_1, fR2_2⟩ := R2.out.frozens3
      have SR1 := ((((((R1.out.set 0 (.int .i16 l)).set 1 (.int .i16 t)).set 2 (.int .i16 g)).apart (C := w.heap.size + 2) (by omega) 0 (.int .i16 (a - l))).apart (C := w.heap.size + 2) (by omega) 1 (.int .i16 (b - t))).apart (C := w.heap.size + 2) (by omega) 2 (.int .i16 (c - g)))
      simp only [List.set_cons_zero, List.set_cons_succ] at SR1
      obtain ⟨sR1_0, sR1_1, sR1_2⟩ := SR1.cells3
      clear SR1
      have SR2 := ((((((R2.out.apart (C := w.heap.size + 1) (by omega) 0 (.int .i16 l)).apart (C := w.heap.size + 1) (by omega) 1 (.int .i16 t)).apart (C := w.heap.size + 1) (by omega) 2 (.int .i16 g)).set 0 (.int .i16 (a - l))).set 1 (.int .i16 (b - t))).set 2 (.int .i16 (c - g)))
      simp only [List.set_cons_zero, List.set_cons_succ] at SR2
      obtain ⟨sR2_0, sR2_1, sR2_2⟩ := SR2.cells3
      clear SR2
      have SR2 := ((((((R2.out.set 0 (.int .i16 (a - l))).set 1 (.int .i16 (b - t))).set 2 (.int .i16 (c - g))).apart (C := w.heap.size + 1) (by omega) 0 (.int .i16 l)).apart (C := w.heap.size + 1) (by omega) 1 (.int .i16 t)).apart (C := w.heap.size + 1) (by omega) 2 (.int .i16 g))
      simp only [List.set_cons_zero, List.set_cons_succ] at SR2
      obtain ⟨sbR2_0, sbR2_1, sbR2_2⟩ := SR2.cells3
      clear SR2
      have SR1 := ((((((R1.out.apart (C := w.heap.size + 2) (by omega) 0 (.int .i16 (a - l))).apart (C := w.heap.size + 2) (by omega) 1 (.int .i16 (b - t))).apart (C := w.heap.size + 2) (by omega) 2 (.int .i16 (c - g))).set 0 (.int .i16 l)).set 1 (.int .i16 t)).set 2 (.int .i16 g))
      simp only [List.set_cons_zero, List.set_cons_succ] at SR1
      obtain ⟨sbR1_0, sbR1_1, sbR1_2⟩ := SR1.cells3
      clear SR1
      go_wp2_with fail
      go_region
      all_goals go_wp2_with fail
      all_goals refine bodyPost_ret (v := .tuple #[.agg #[.int .i16 l, .int .i16 t, .int .i16 g], .agg #[.int .i16 (a - l), .int .i16 (b - t), .int .i16 (c - g)], .int .i64 0]) (by simp [results, Try.results20, go_sem, sR1_0, sR1_1, sR1_2, sR2_0, sR2_1, sR2_2, sbR2_0, sbR2_1, sbR2_2, sbR1_0, sbR1_1, sbR1_2]) rfl ⟨by rw [HC.out]; simp [jn, HT.out, HG.out], by go_grown⟩
end Go.Proofs.Ythllecfbpipagaa
