/- Contracts: CountOf, TwistRate; equal yarns. -/
import Derived.Test.YthllecfbpipagaaA1
import Derived.Test.YthllecfbpipagaaE1
namespace Go.Proofs.Ythllecfbpipagaa
open Go.RowKit
set_option linter.unusedVariables false
set_option linter.unusedSimpArgs false
def yaC (a b c : Int) : Int := if yarnOk a b c then 0 else 1
theorem yarnOk_bounds {a b c : Int} (h : yarnOk a b c = true) : (1 ≤ a ∧ a ≤ 5000) ∧ (-2000 ≤ b ∧ b ≤ 2000) ∧ (1 ≤ c ∧ c ≤ 2000) := by
  simpa [yarnOk, inB] using h
theorem l03Ratio_any (a b : Int) (w : World) (ha : Mid a) (hb : Mid b) (h0 : 0 < b) : Calls Try.prog 30 #[.int .i64 a, .int .i64 b] w fun e w' => e = .returned (Fr (frN a b) (frD a b)) ∧ Below w.heap.size w w' := by
  have XR : Hid (Row (w.alloc (.cells #[.int .i64 0, .int .i64 0] 32)) (w.heap.size) 32 [.int .i64 0, .int .i64 0]) := Lib.hid (by have := (Row.alloc w [.int .i64 0, .int .i64 0] 32); (try simp only [World.size_alloc] at this); exact this)
  have HB : Hid (Below w.heap.size w (w.alloc (.cells #[.int .i64 0, .int .i64 0] 32))) := Lib.hid (by go_grown)
  go_enter Try.func30, Try.ntmps30
  go_wp2_with fail
  refine (l01Make_any _ _ _ ha hb h0).mono ?_
  rintro e w1 ⟨rfl, hb⟩
  replace HB := Lib.hid (below_then HB.out HB.out.size hb)
  replace XR := Lib.hid (XR.out.below hb)
  have hz1 := hb.size
  (try simp only [World.size_alloc] at hz1)
  clear hb
  have hB := HB.out
  obtain ⟨cXR_0, cXR_1⟩ := XR.out.cells2
  obtain ⟨fXR_0, fXR_1⟩ := XR.out.frozens2
  have SXR := ((XR.out.set 0 (.int .i64 (frN a b))).set 1 (.int .i64 (frD a b)))
  simp only [List.set_cons_zero, List.set_cons_succ] at SXR
  obtain ⟨sXR_0, sXR_1⟩ := SXR.cells2
  clear SXR
  go_wp2_with fail
  refine bodyPost_ret (v := .agg #[.int .i64 (frN a b), .int .i64 (frD a b)]) (by simp [results, Try.results30, go_sem, sXR_0, sXR_1]) rfl ⟨rfl, by go_grown⟩
theorem count_any (a b c : Int) (w : World) (h : yarnOk a b c = true) : Calls Try.prog 33 #[.agg #[.int .i16 a, .int .i16 b, .int .i16 c]] w fun e w' => e = .returned (Fr (frN a c) (frD a c)) ∧ Below w.heap.size w w' := by
  obtain ⟨⟨a1, a2⟩, ⟨b1, b2⟩, c1, c2⟩ := yarnOk_bounds h
  have ma : Mid a := by unfold Mid; omega
  have mc : Mid c := by unfold Mid; omega
  have X0 : Hid (Row ((w.alloc (.cells #[.int .i16 a, .int .i16 b, .int .i16 c] 35)).alloc (.cells #[.int .i64 0, .int .i64 0] 32)) (w.heap.size) 35 [.int .i16 a, .int .i16 b, .int .i16 c]) := Lib.hid (by have := ((Row.alloc w [.int .i16 a, .int .i16 b, .int .i16 c] 35).below (below_alloc1 _ (.cells #[.int .i64 0, .int .i64 0] 32))); (try simp only [World.size_alloc] at this); exact this)
  have XR : Hid (Row ((w.alloc (.cells #[.int .i16 a, .int .i16 b, .int .i16 c] 35)).alloc (.cells #[.int .i64 0, .int .i64 0] 32)) (w.heap.size + 1) 32 [.int .i64 0, .int .i64 0]) := Lib.hid (by have := (Row.alloc (w.alloc (.cells #[.int .i16 a, .int .i16 b, .int .i16 c] 35)) [.int .i64 0, .int .i64 0] 32); (try simp only [World.size_alloc] at this); exact this)
  have HB : Hid (Below w.heap.size w ((w.alloc (.cells #[.int .i16 a, .int .i16 b, .int .i16 c] 35)).alloc (.cells #[.int .i64 0, .int .i64 0] 32))) := Lib.hid (by go_grown)
  go_enter Try.func33, Try.ntmps33
  go_wp2_with fail
  refine (fraction_any _ _ _ ma mc (by omega)).mono ?_
  rintro e w1 ⟨rfl, hb⟩
  replace HB := Lib.hid (below_then HB.out HB.out.size hb)
  replace X0 := Lib.hid (X0.out.below hb)
  replace XR := Lib.hid (XR.out.below hb)
  have hz1 := hb.size
  (try simp only [World.size_alloc] at hz1)
  clear hb
  have hB := HB.out
  obtain ⟨cXR_0, cXR_1⟩ := XR.out.cells2
  obtain ⟨fXR_0, fXR_1⟩ := XR.out.frozens2
  have SXR := ((XR.out.set 0 (.int .i64 (frN a c))).set 1 (.int .i64 (frD a c)))
  simp only [List.set_cons_zero, List.set_cons_succ] at SXR
  obtain ⟨sXR_0, sXR_1⟩ := SXR.cells2
  clear SXR
  go_wp2_with fail
  refine bodyPost_ret (v := .agg #[.int .i64 (frN a c), .int .i64 (frD a c)]) (by simp [results, Try.results33, go_sem, sXR_0, sXR_1]) rfl ⟨rfl, by go_grown⟩
theorem iCountOf (a b c : Int) (w : World) (wa : -32768 ≤ a ∧ a ≤ 32767) (wb : -32768 ≤ b ∧ b ≤ 32767) (wc : -32768 ≤ c ∧ c ≤ 32767) : Calls Try.prog 19 #[.agg #[.int .i16 a, .int .i16 b, .int .i16 c]] w fun e w' => e = .returned (.tuple #[Fr (jn (yaC a b c) (frN a c)) (jn (yaC a b c) (frD a c)), .int .i64 (yaC a b c)]) ∧ Below w.heap.size w w' := by
  have X0 : Hid (Row ((w.alloc (.cells #[.int .i16 a, .int .i16 b, .int .i16 c] 35)).alloc (.cells #[.int .i64 0, .int .i64 0] 32)) (w.heap.size) 35 [.int .i16 a, .int .i16 b, .int .i16 c]) := Lib.hid (by have := ((Row.alloc w [.int .i16 a, .int .i16 b, .int .i16 c] 35).below (below_alloc1 _ (.cells #[.int .i64 0, .int .i64 0] 32))); (try simp only [World.size_alloc] at this); exact this)
  have XR : Hid (Row ((w.alloc (.cells #[.int .i16 a, .int .i16 b, .int .i16 c] 35)).alloc (.cells #[.int .i64 0, .int .i64 0] 32)) (w.heap.size + 1) 32 [.int .i64 0, .int .i64 0]) := Lib.hid (by have := (Row.alloc (w.alloc (.cells #[.int .i16 a, .int .i16 b, .int .i16 c] 35)) [.int .i64 0, .int .i64 0] 32); (try simp only [World.size_alloc] at this); exact this)
  have HB : Hid (Below w.heap.size w ((w.alloc (.cells #[.int .i16 a, .int .i16 b, .int .i16 c] 35)).alloc (.cells #[.int .i64 0, .int .i64 0] 32))) := Lib.hid (by go_grown)
  cases h : yarnOk a b c
  · have hc : yaC a b c = 1 := by simp [yaC, h]
    have HC := Lib.hid hc; clear hc
    have H := Lib.hid h; clear h
    go_enter Try.func19, Try.ntmps19
    obtain ⟨cX0_0, cX0_1, cX0_2⟩ := X0.out.cells3
    go_wp2_with fail
    refine (iValidYarn a b c wa wb wc _).mono ?_
    rintro e w1 ⟨rfl, hb⟩
    rw [H.out]
    clear cX0_0 cX0_1 cX0_2
    replace HB := Lib.hid (below_then HB.out HB.out.size hb)
    replace X0 := Lib.hid (X0.out.below hb)
    replace XR := Lib.hid (XR.out.below hb)
    have hz1 := hb.size
    (try simp only [World.size_alloc] at hz1)
    clear hb
    have hB := HB.out
    obtain ⟨cXR_0, cXR_1⟩ := XR.out.cells2
    obtain ⟨fXR_0, fXR_1⟩ := XR.out.frozens2
    have SXR := ((XR.out.set 0 (.int .i64 0)).set 1 (.int .i64 0))
    simp only [List.set_cons_zero, List.set_cons_succ] at SXR
    obtain ⟨sXR_0, sXR_1⟩ := SXR.cells2
    clear SXR
    go_wp2_with fail
    refine bodyPost_ret (v := .tuple #[.agg #[.int .i64 0, .int .i64 0], .int .i64 1]) (by simp [results, Try.results19, go_sem, sXR_0, sXR_1]) rfl ⟨by rw [HC.out]; simp [jn], by go_grown⟩
  · obtain ⟨⟨a1, a2⟩, ⟨b1, b2⟩, c1, c2⟩ := yarnOk_bounds h
    have ma : Mid a := by unfold Mid; omega
    have mb : Mid b := by unfold Mid; omega
    have mc : Mid c := by unfold Mid; omega
    have hc : yaC a b c = 0 := by simp [yaC, h]
    have HC := Lib.hid hc; clear hc
    have H := Lib.hid h; clear h
    go_enter Try.func19, Try.ntmps19
    obtain ⟨cX0_0, cX0_1, cX0_2⟩ := X0.out.cells3
    go_wp2_with fail
    refine (iValidYarn a b c wa wb wc _).mono ?_
    rintro e w1 ⟨rfl, hb⟩
    rw [H.out]
    clear cX0_0 cX0_1 cX0_2
    replace HB := Lib.hid (below_then HB.out HB.out.size hb)
    replace X0 := Lib.hid (X0.out.below hb)
    replace XR := Lib.hid (XR.out.below hb)
    have hz1 := hb.size
    (try simp only [World.size_alloc] at hz1)
    clear hb
    obtain ⟨cX0_0, cX0_1, cX0_2⟩ := X0.out.cells3
    go_wp2_with fail
    refine (count_any a b c _ H.out).mono ?_
    rintro e w2 ⟨rfl, hb⟩
    clear cX0_0 cX0_1 cX0_2
    replace HB := Lib.hid (below_then HB.out HB.out.size hb)
    replace X0 := Lib.hid (X0.out.below hb)
    replace XR := Lib.hid (XR.out.below hb)
    have hz2 := hb.size
    (try simp only [World.size_alloc] at hz2)
    clear hb
    have hB := HB.out
    obtain ⟨cXR_0, cXR_1⟩ := XR.out.cells2
    obtain ⟨fXR_0, fXR_1⟩ := XR.out.frozens2
    have SXR := ((XR.out.set 0 (.int .i64 (frN a c))).set 1 (.int .i64 (frD a c)))
    simp only [List.set_cons_zero, List.set_cons_succ] at SXR
    obtain ⟨sXR_0, sXR_1⟩ := SXR.cells2
    clear SXR
    go_wp2_with fail
    refine bodyPost_ret (v := .tuple #[.agg #[.int .i64 (frN a c), .int .i64 (frD a c)], .int .i64 0]) (by simp [results, Try.results19, go_sem, sXR_0, sXR_1]) rfl ⟨by rw [HC.out]; simp [jn], by go_grown⟩
theorem sCountOf (a b c : Int) (w : World) (wa : -32768 ≤ a ∧ a ≤ 32767) (wb : -32768 ≤ b ∧ b ≤ 32767) (wc : -32768 ≤ c ∧ c ≤ 32767) : Calls Try.prog 18 #[.agg #[.int .i16 a, .int .i16 b, .int .i16 c]] w fun e w' => e = .returned (.tuple #[Fr (jn (yaC a b c) (frN a c)) (jn (yaC a b c) (frD a c)), .int .i64 (yaC a b c)]) ∧ Below w.heap.size w w' := by
  have X0 : Hid (Row ((w.alloc (.cells #[.int .i16 a, .int .i16 b, .int .i16 c] 35)).alloc (.cells #[.int .i64 0, .int .i64 0] 32)) (w.heap.size) 35 [.int .i16 a, .int .i16 b, .int .i16 c]) := Lib.hid (by have := ((Row.alloc w [.int .i16 a, .int .i16 b, .int .i16 c] 35).below (below_alloc1 _ (.cells #[.int .i64 0, .int .i64 0] 32))); (try simp only [World.size_alloc] at this); exact this)
  have XR : Hid (Row ((w.alloc (.cells #[.int .i16 a, .int .i16 b, .int .i16 c] 35)).alloc (.cells #[.int .i64 0, .int .i64 0] 32)) (w.heap.size + 1) 32 [.int .i64 0, .int .i64 0]) := Lib.hid (by have := (Row.alloc (w.alloc (.cells #[.int .i16 a, .int .i16 b, .int .i16 c] 35)) [.int .i64 0, .int .i64 0] 32); (try simp only [World.size_alloc] at this); exact this)
  have HB : Hid (Below w.heap.size w ((w.alloc (.cells #[.int .i16 a, .int .i16 b, .int .i16 c] 35)).alloc (.cells #[.int .i64 0, .int .i64 0] 32))) := Lib.hid (by go_grown)
  cases h : yarnOk a b c
  · have hc : yaC a b c = 1 := by simp [yaC, h]
    have HC := Lib.hid hc; clear hc
    have H := Lib.hid h; clear h
    go_enter Try.func18, Try.ntmps18
    obtain ⟨cX0_0, cX0_1, cX0_2⟩ := X0.out.cells3
    go_wp2_with fail
    refine (sl03Yarn a b c wa wb wc _).mono ?_
    rintro e w1 ⟨rfl, hb⟩
    rw [H.out]
    clear cX0_0 cX0_1 cX0_2
    replace HB := Lib.hid (below_then HB.out HB.out.size hb)
    replace X0 := Lib.hid (X0.out.below hb)
    replace XR := Lib.hid (XR.out.below hb)
    have hz1 := hb.size
    (try simp only [World.size_alloc] at hz1)
    clear hb
    have hB := HB.out
    obtain ⟨cXR_0, cXR_1⟩ := XR.out.cells2
    obtain ⟨fXR_0, fXR_1⟩ := XR.out.frozens2
    have SXR := ((XR.out.set 0 (.int .i64 0)).set 1 (.int .i64 0))
    simp only [List.set_cons_zero, List.set_cons_succ] at SXR
    obtain ⟨sXR_0, sXR_1⟩ := SXR.cells2
    clear SXR
    go_wp2_with fail
    refine bodyPost_ret (v := .tuple #[.agg #[.int .i64 0, .int .i64 0], .int .i64 1]) (by simp [results, Try.results18, go_sem, sXR_0, sXR_1]) rfl ⟨by rw [HC.out]; simp [jn], by go_grown⟩
  · obtain ⟨⟨a1, a2⟩, ⟨b1, b2⟩, c1, c2⟩ := yarnOk_bounds h
    have ma : Mid a := by unfold Mid; omega
    have mb : Mid b := by unfold Mid; omega
    have mc : Mid c := by unfold Mid; omega
    have hc : yaC a b c = 0 := by simp [yaC, h]
    have HC := Lib.hid hc; clear hc
    have H := Lib.hid h; clear h
    go_enter Try.func18, Try.ntmps18
    obtain ⟨cX0_0, cX0_1, cX0_2⟩ := X0.out.cells3
    go_wp2_with fail
    refine (sl03Yarn a b c wa wb wc _).mono ?_
    rintro e w1 ⟨rfl, hb⟩
    rw [H.out]
    clear cX0_0 cX0_1 cX0_2
    replace HB := Lib.hid (below_then HB.out HB.out.size hb)
    replace X0 := Lib.hid (X0.out.below hb)
    replace XR := Lib.hid (XR.out.below hb)
    have hz1 := hb.size
    (try simp only [World.size_alloc] at hz1)
    clear hb
    obtain ⟨cX0_0, cX0_1, cX0_2⟩ := X0.out.cells3
    go_wp2_with fail
    refine (l03Ratio_any _ _ _ ma mc (by omega)).mono ?_
    rintro e w2 ⟨rfl, hb⟩
    clear cX0_0 cX0_1 cX0_2
    replace HB := Lib.hid (below_then HB.out HB.out.size hb)
    replace X0 := Lib.hid (X0.out.below hb)
    replace XR := Lib.hid (XR.out.below hb)
    have hz2 := hb.size
    (try simp only [World.size_alloc] at hz2)
    clear hb
    have hB := HB.out
    obtain ⟨cXR_0, cXR_1⟩ := XR.out.cells2
    obtain ⟨fXR_0, fXR_1⟩ := XR.out.frozens2
    have SXR := ((XR.out.set 0 (.int .i64 (frN a c))).set 1 (.int .i64 (frD a c)))
    simp only [List.set_cons_zero, List.set_cons_succ] at SXR
    obtain ⟨sXR_0, sXR_1⟩ := SXR.cells2
    clear SXR
    go_wp2_with fail
    refine bodyPost_ret (v := .tuple #[.agg #[.int .i64 (frN a c), .int .i64 (frD a c)], .int .i64 0]) (by simp [results, Try.results18, go_sem, sXR_0, sXR_1]) rfl ⟨by rw [HC.out]; simp [jn], by go_grown⟩
theorem iTwistRate (a b c : Int) (w : World) (wa : -32768 ≤ a ∧ a ≤ 32767) (wb : -32768 ≤ b ∧ b ≤ 32767) (wc : -32768 ≤ c ∧ c ≤ 32767) : Calls Try.prog 16 #[.agg #[.int .i16 a, .int .i16 b, .int .i16 c]] w fun e w' => e = .returned (.tuple #[Fr (jn (yaC a b c) (frN b a)) (jn (yaC a b c) (frD b a)), .int .i64 (yaC a b c)]) ∧ Below w.heap.size w w' := by
  have X0 : Hid (Row ((w.alloc (.cells #[.int .i16 a, .int .i16 b, .int .i16 c] 35)).alloc (.cells #[.int .i64 0, .int .i64 0] 32)) (w.heap.size) 35 [.int .i16 a, .int .i16 b, .int .i16 c]) := Lib.hid (by have := ((Row.alloc w [.int .i16 a, .int .i16 b, .int .i16 c] 35).below (below_alloc1 _ (.cells #[.int .i64 0, .int .i64 0] 32))); (try simp only [World.size_alloc] at this); exact this)
  have XR : Hid (Row ((w.alloc (.cells #[.int .i16 a, .int .i16 b, .int .i16 c] 35)).alloc (.cells #[.int .i64 0, .int .i64 0] 32)) (w.heap.size + 1) 32 [.int .i64 0, .int .i64 0]) := Lib.hid (by have := (Row.alloc (w.alloc (.cells #[.int .i16 a, .int .i16 b, .int .i16 c] 35)) [.int .i64 0, .int .i64 0] 32); (try simp only [World.size_alloc] at this); exact this)
  have HB : Hid (Below w.heap.size w ((w.alloc (.cells #[.int .i16 a, .int .i16 b, .int .i16 c] 35)).alloc (.cells #[.int .i64 0, .int .i64 0] 32))) := Lib.hid (by go_grown)
  cases h : yarnOk a b c
  · have hc : yaC a b c = 1 := by simp [yaC, h]
    have HC := Lib.hid hc; clear hc
    have H := Lib.hid h; clear h
    go_enter Try.func16, Try.ntmps16
    obtain ⟨cX0_0, cX0_1, cX0_2⟩ := X0.out.cells3
    go_wp2_with fail
    refine (iValidYarn a b c wa wb wc _).mono ?_
    rintro e w1 ⟨rfl, hb⟩
    rw [H.out]
    clear cX0_0 cX0_1 cX0_2
    replace HB := Lib.hid (below_then HB.out HB.out.size hb)
    replace X0 := Lib.hid (X0.out.below hb)
    replace XR := Lib.hid (XR.out.below hb)
    have hz1 := hb.size
    (try simp only [World.size_alloc] at hz1)
    clear hb
    have hB := HB.out
    obtain ⟨cXR_0, cXR_1⟩ := XR.out.cells2
    obtain ⟨fXR_0, fXR_1⟩ := XR.out.frozens2
    have SXR := ((XR.out.set 0 (.int .i64 0)).set 1 (.int .i64 0))
    simp only [List.set_cons_zero, List.set_cons_succ] at SXR
    obtain ⟨sXR_0, sXR_1⟩ := SXR.cells2
    clear SXR
    go_wp2_with fail
    refine bodyPost_ret (v := .tuple #[.agg #[.int .i64 0, .int .i64 0], .int .i64 1]) (by simp [results, Try.results16, go_sem, sXR_0, sXR_1]) rfl ⟨by rw [HC.out]; simp [jn], by go_grown⟩
  · obtain ⟨⟨a1, a2⟩, ⟨b1, b2⟩, c1, c2⟩ := yarnOk_bounds h
    have ma : Mid a := by unfold Mid; omega
    have mb : Mid b := by unfold Mid; omega
    have mc : Mid c := by unfold Mid; omega
    have hc : yaC a b c = 0 := by simp [yaC, h]
    have HC := Lib.hid hc; clear hc
    have H := Lib.hid h; clear h
    go_enter Try.func16, Try.ntmps16
    obtain ⟨cX0_0, cX0_1, cX0_2⟩ := X0.out.cells3
    go_wp2_with fail
    refine (iValidYarn a b c wa wb wc _).mono ?_
    rintro e w1 ⟨rfl, hb⟩
    rw [H.out]
    clear cX0_0 cX0_1 cX0_2
    replace HB := Lib.hid (below_then HB.out HB.out.size hb)
    replace X0 := Lib.hid (X0.out.below hb)
    replace XR := Lib.hid (XR.out.below hb)
    have hz1 := hb.size
    (try simp only [World.size_alloc] at hz1)
    clear hb
    obtain ⟨cX0_0, cX0_1, cX0_2⟩ := X0.out.cells3
    go_wp2_with fail
    refine (fraction_any _ _ _ mb ma (by omega)).mono ?_
    rintro e w2 ⟨rfl, hb⟩
    clear cX0_0 cX0_1 cX0_2
    replace HB := Lib.hid (below_then HB.out HB.out.size hb)
    replace X0 := Lib.hid (X0.out.below hb)
    replace XR := Lib.hid (XR.out.below hb)
    have hz2 := hb.size
    (try simp only [World.size_alloc] at hz2)
    clear hb
    have hB := HB.out
    obtain ⟨cXR_0, cXR_1⟩ := XR.out.cells2
    obtain ⟨fXR_0, fXR_1⟩ := XR.out.frozens2
    have SXR := ((XR.out.set 0 (.int .i64 (frN b a))).set 1 (.int .i64 (frD b a)))
    simp only [List.set_cons_zero, List.set_cons_succ] at SXR
    obtain ⟨sXR_0, sXR_1⟩ := SXR.cells2
    clear SXR
    go_wp2_with fail
    refine bodyPost_ret (v := .tuple #[.agg #[.int .i64 (frN b a), .int .i64 (frD b a)], .int .i64 0]) (by simp [results, Try.results16, go_sem, sXR_0, sXR_1]) rfl ⟨by rw [HC.out]; simp [jn], by go_grown⟩
theorem sTwistRate (a b c : Int) (w : World) (wa : -32768 ≤ a ∧ a ≤ 32767) (wb : -32768 ≤ b ∧ b ≤ 32767) (wc : -32768 ≤ c ∧ c ≤ 32767) : Calls Try.prog 14 #[.agg #[.int .i16 a, .int .i16 b, .int .i16 c]] w fun e w' => e = .returned (.tuple #[Fr (jn (yaC a b c) (frN b a)) (jn (yaC a b c) (frD b a)), .int .i64 (yaC a b c)]) ∧ Below w.heap.size w w' := by
  have X0 : Hid (Row ((w.alloc (.cells #[.int .i16 a, .int .i16 b, .int .i16 c] 35)).alloc (.cells #[.int .i64 0, .int .i64 0] 32)) (w.heap.size) 35 [.int .i16 a, .int .i16 b, .int .i16 c]) := Lib.hid (by have := ((Row.alloc w [.int .i16 a, .int .i16 b, .int .i16 c] 35).below (below_alloc1 _ (.cells #[.int .i64 0, .int .i64 0] 32))); (try simp only [World.size_alloc] at this); exact this)
  have XR : Hid (Row ((w.alloc (.cells #[.int .i16 a, .int .i16 b, .int .i16 c] 35)).alloc (.cells #[.int .i64 0, .int .i64 0] 32)) (w.heap.size + 1) 32 [.int .i64 0, .int .i64 0]) := Lib.hid (by have := (Row.alloc (w.alloc (.cells #[.int .i16 a, .int .i16 b, .int .i16 c] 35)) [.int .i64 0, .int .i64 0] 32); (try simp only [World.size_alloc] at this); exact this)
  have HB : Hid (Below w.heap.size w ((w.alloc (.cells #[.int .i16 a, .int .i16 b, .int .i16 c] 35)).alloc (.cells #[.int .i64 0, .int .i64 0] 32))) := Lib.hid (by go_grown)
  cases h : yarnOk a b c
  · have hc : yaC a b c = 1 := by simp [yaC, h]
    have HC := Lib.hid hc; clear hc
    have H := Lib.hid h; clear h
    go_enter Try.func14, Try.ntmps14
    obtain ⟨cX0_0, cX0_1, cX0_2⟩ := X0.out.cells3
    go_wp2_with fail
    refine (sl03Yarn a b c wa wb wc _).mono ?_
    rintro e w1 ⟨rfl, hb⟩
    rw [H.out]
    clear cX0_0 cX0_1 cX0_2
    replace HB := Lib.hid (below_then HB.out HB.out.size hb)
    replace X0 := Lib.hid (X0.out.below hb)
    replace XR := Lib.hid (XR.out.below hb)
    have hz1 := hb.size
    (try simp only [World.size_alloc] at hz1)
    clear hb
    have hB := HB.out
    obtain ⟨cXR_0, cXR_1⟩ := XR.out.cells2
    obtain ⟨fXR_0, fXR_1⟩ := XR.out.frozens2
    have SXR := ((XR.out.set 0 (.int .i64 0)).set 1 (.int .i64 0))
    simp only [List.set_cons_zero, List.set_cons_succ] at SXR
    obtain ⟨sXR_0, sXR_1⟩ := SXR.cells2
    clear SXR
    go_wp2_with fail
    refine bodyPost_ret (v := .tuple #[.agg #[.int .i64 0, .int .i64 0], .int .i64 1]) (by simp [results, Try.results14, go_sem, sXR_0, sXR_1]) rfl ⟨by rw [HC.out]; simp [jn], by go_grown⟩
  · obtain ⟨⟨a1, a2⟩, ⟨b1, b2⟩, c1, c2⟩ := yarnOk_bounds h
    have ma : Mid a := by unfold Mid; omega
    have mb : Mid b := by unfold Mid; omega
    have mc : Mid c := by unfold Mid; omega
    have hc : yaC a b c = 0 := by simp [yaC, h]
    have HC := Lib.hid hc; clear hc
    have H := Lib.hid h; clear h
    go_enter Try.func14, Try.ntmps14
    obtain ⟨cX0_0, cX0_1, cX0_2⟩ := X0.out.cells3
    go_wp2_with fail
    refine (sl03Yarn a b c wa wb wc _).mono ?_
    rintro e w1 ⟨rfl, hb⟩
    rw [H.out]
    clear cX0_0 cX0_1 cX0_2
    replace HB := Lib.hid (below_then HB.out HB.out.size hb)
    replace X0 := Lib.hid (X0.out.below hb)
    replace XR := Lib.hid (XR.out.below hb)
    have hz1 := hb.size
    (try simp only [World.size_alloc] at hz1)
    clear hb
    obtain ⟨cX0_0, cX0_1, cX0_2⟩ := X0.out.cells3
    go_wp2_with fail
    refine (l03Ratio_any _ _ _ mb ma (by omega)).mono ?_
    rintro e w2 ⟨rfl, hb⟩
    clear cX0_0 cX0_1 cX0_2
    replace HB := Lib.hid (below_then HB.out HB.out.size hb)
    replace X0 := Lib.hid (X0.out.below hb)
    replace XR := Lib.hid (XR.out.below hb)
    have hz2 := hb.size
    (try simp only [World.size_alloc] at hz2)
    clear hb
    have hB := HB.out
    obtain ⟨cXR_0, cXR_1⟩ := XR.out.cells2
    obtain ⟨fXR_0, fXR_1⟩ := XR.out.frozens2
    have SXR := ((XR.out.set 0 (.int .i64 (frN b a))).set 1 (.int .i64 (frD b a)))
    simp only [List.set_cons_zero, List.set_cons_succ] at SXR
    obtain ⟨sXR_0, sXR_1⟩ := SXR.cells2
    clear SXR
    go_wp2_with fail
    refine bodyPost_ret (v := .tuple #[.agg #[.int .i64 (frN b a), .int .i64 (frD b a)], .int .i64 0]) (by simp [results, Try.results14, go_sem, sXR_0, sXR_1]) rfl ⟨by rw [HC.out]; simp [jn], by go_grown⟩
theorem eqYarn_true (a b c : Int) (w : World) : Calls Try.prog 22 #[.agg #[.int .i16 a, .int .i16 b, .int .i16 c], .agg #[.int .i16 a, .int .i16 b, .int .i16 c]] w fun e w' => e = .returned (.bool true) ∧ Below w.heap.size w w' := by
  go_enter Try.func22, Try.ntmps22
  go_wp2_with fail
  go_ret
  exact ⟨rfl, by go_grown⟩
end Go.Proofs.Ythllecfbpipagaa
