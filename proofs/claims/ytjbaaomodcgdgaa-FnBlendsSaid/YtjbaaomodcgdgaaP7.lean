/- Contracts: spec.NearestBlend. -/
import Derived.Test.YtjbaaomodcgdgaaP6
import Derived.Deep.RegionWith
import Derived.Deep.RegionHeld3
import Derived.Deep.DeepCutAuto
namespace Go.Proofs.Ytjbaaomodcgdgaa
open Go.RowKit
set_option linter.unusedVariables false
set_option linter.unusedSimpArgs false
set_option maxRecDepth 100000 in
set_option maxHeartbeats 4000000 in
theorem sNearestBlend (A : Option Addr) (n c : Nat) (xs : List (Int × List Int)) (a0 a1 a2 a3 a4 a5 a6 a7 P : Int) (w : World) (R : Rds w A n 9 FlC xs) (hF : Hid (FlOk xs)) (hn : n ≤ 1048576) (hw : Hid (∀ x ∈ [a0, a1, a2, a3, a4, a5, a6, a7], (Lit.int .i32 x).wf = true)) :
    Calls Try.prog 12 #[.slice A n c, .agg #[.int .i32 a0, .int .i32 a1, .int .i32 a2, .int .i32 a3, .int .i32 a4, .int .i32 a5, .int .i32 a6, .int .i32 a7], .int .i64 P] w (RetOwnT 2 1 (nbR xs [a0, a1, a2, a3, a4, a5, a6, a7] P).length (nums .i64 (nbR xs [a0, a1, a2, a3, a4, a5, a6, a7] P)) [.agg #[.int .i64 (nbN xs [a0, a1, a2, a3, a4, a5, a6, a7] P), .int .i64 (nbD xs [a0, a1, a2, a3, a4, a5, a6, a7] P)], .int .i64 (nbC xs [a0, a1, a2, a3, a4, a5, a6, a7] P)] w) := by
  have hnM := R.2.1
  have HXL := Lib.hid R.1
  have HX : Hid (Row ((w.alloc (.cells #[.int .i32 a0, .int .i32 a1, .int .i32 a2, .int .i32 a3, .int .i32 a4, .int .i32 a5, .int .i32 a6, .int .i32 a7] 27)).alloc (.cells #[.int .i64 0, .int .i64 0] 34)) w.heap.size 27 [.int .i32 a0, .int .i32 a1, .int .i32 a2, .int .i32 a3, .int .i32 a4, .int .i32 a5, .int .i32 a6, .int .i32 a7]) := Lib.hid ((Row.alloc w [.int .i32 a0, .int .i32 a1, .int .i32 a2, .int .i32 a3, .int .i32 a4, .int .i32 a5, .int .i32 a6, .int .i32 a7] 27).below (below_alloc1 _ _))
  have HR : Hid (Row ((w.alloc (.cells #[.int .i32 a0, .int .i32 a1, .int .i32 a2, .int .i32 a3, .int .i32 a4, .int .i32 a5, .int .i32 a6, .int .i32 a7] 27)).alloc (.cells #[.int .i64 0, .int .i64 0] 34)) (w.heap.size + 1) 34 [.int .i64 0, .int .i64 0]) := Lib.hid (by have := Row.alloc (w.alloc (.cells #[.int .i32 a0, .int .i32 a1, .int .i32 a2, .int .i32 a3, .int .i32 a4, .int .i32 a5, .int .i32 a6, .int .i32 a7] 27)) [.int .i64 0, .int .i64 0] 34; (try simp only [World.size_alloc] at this); exact this)
  have HB : Hid (Below w.heap.size w ((w.alloc (.cells #[.int .i32 a0, .int .i32 a1, .int .i32 a2, .int .i32 a3, .int .i32 a4, .int .i32 a5, .int .i32 a6, .int .i32 a7] 27)).alloc (.cells #[.int .i64 0, .int .i64 0] 34))) := Lib.hid (by go_grown)
  have R2 := Lib.hid (R.below HB.out)
  obtain ⟨W, hWe⟩ : ∃ W, [a0, a1, a2, a3, a4, a5, a6, a7] = W := ⟨_, rfl⟩
  have HWE := Lib.hid hWe
  have hHp := l01Heap_any w.heap.size 27 [a0, a1, a2, a3, a4, a5, a6, a7] ((w.alloc (.cells #[.int .i32 a0, .int .i32 a1, .int .i32 a2, .int .i32 a3, .int .i32 a4, .int .i32 a5, .int .i32 a6, .int .i32 a7] 27)).alloc (.cells #[.int .i64 0, .int .i64 0] 34)) HX.out rfl hw
  have hGr := l01Grams_at w.heap.size 0 a0 a1 a2 a3 a4 a5 a6 a7 ((w.alloc (.cells #[.int .i32 a0, .int .i32 a1, .int .i32 a2, .int .i32 a3, .int .i32 a4, .int .i32 a5, .int .i32 a6, .int .i32 a7] 27)).alloc (.cells #[.int .i64 0, .int .i64 0] 34)) (HX.out.cell 0) (HX.out.cell 1) (HX.out.cell 2) (HX.out.cell 3) (HX.out.cell 4) (HX.out.cell 5) (HX.out.cell 6) (HX.out.cell 7) hw
  rw [hWe] at hHp hGr ⊢
  have HHP := Lib.hid hHp; have HGR := Lib.hid hGr
  clear hHp hGr
  have HBL := Lib.hid (l01Blended_any A n c xs (inB P 1 8) _ R2.out hF)
  obtain ⟨K, hK⟩ : ∃ K, bdC xs (inB P 1 8) = K := ⟨_, rfl⟩
  have HK := Lib.hid hK
  obtain ⟨G, hG⟩ : ∃ G, hsL W = G := ⟨_, rfl⟩
  have HG := Lib.hid hG
  rw [hG] at HGR
  rw [hK] at HBL

  cases hok : heapOk W
  · have ec : nbC xs W P = 1 := by unfold nbC; rw [hok]; rfl
    have er : nbR xs W P = [] := by unfold nbR; rw [ec, if_neg (by omega)]
    have en : nbN xs W P = 0 := by unfold nbN; rw [ec, if_neg (by omega)]
    have ed : nbD xs W P = 0 := by unfold nbD; rw [ec, if_neg (by omega)]
    have EC := Lib.hid ec; have ER := Lib.hid er; have EN := Lib.hid en; have ED := Lib.hid ed
    clear ec er en ed
    rw [hok] at HHP
    go_enter Try.func12, Try.ntmps12
    go_wp2_with fail
    refine HHP.out.mono ?_
    rintro e w1 ⟨rfl, rfl⟩

    obtain ⟨cR0, cR1⟩ := HR.out.cells2
    obtain ⟨fR0, fR1⟩ := HR.out.frozens2
    go_wp2_with fail
    have hB := HB.out
    have OE := own_empty ((w.alloc (.cells #[.int .i32 a0, .int .i32 a1, .int .i32 a2, .int .i32 a3, .int .i32 a4, .int .i32 a5, .int .i32 a6, .int .i32 a7] 27)).alloc (.cells #[.int .i64 0, .int .i64 0] 34)) 2 1
    simp only [World.size_alloc] at OE
    replace OE := own_lower (b' := w.heap.size) OE (by omega)
    have S1 := ((HR.out.below (below_alloc1 _ (.cells #[] 2))).set 0 (.int .i64 0)).set 1 (.int .i64 0)
    simp only [List.set_cons_zero, List.set_cons_succ] at S1
    obtain ⟨s0, s1⟩ := S1.cells2
    refine bodyPost_ret (v := .tuple #[.slice (some ⟨w.heap.size + 1 + 1, 0, none⟩) 0 0, .agg #[.int .i64 0, .int .i64 0], .int .i64 1]) (by simp [results, Try.results12, go_sem, s0, s1]) rfl ?_
    rw [EC.out, ER.out, EN.out, ED.out]
    exact ⟨_, _, rfl, OE, by go_grown⟩
  rw [hok] at HHP
  have HOK := Lib.hid hok
  go_enter Try.func12, Try.ntmps12
  go_wp2_with fail
  refine HHP.out.mono ?_
  rintro e w1 ⟨rfl, rfl⟩
  go_wp2_with fail
  refine (l00In_any P 1 8 _).mono ?_
  rintro e w1 ⟨rfl, rfl⟩
  go_wp2_with fail
  refine HBL.out.mono ?_
  rintro e w2 ⟨rfl, rfl⟩
  go_wp2_with fail
  refine HGR.out.mono ?_
  rintro e w3 ⟨rfl, rfl⟩
  clear HHP HBL HGR
  have hnc : nbC xs W P = if nbC1 xs W P = 0 ∧ (n = 0 ∨ G = 0) then 6 else nbC1 xs W P := by
    unfold nbC; rw [hok, if_pos rfl, HXL.out, hG]
  have hn1 : nbC1 xs W P = if (K = 0 ∨ K = 6) ∧ 100 < G then 3 else K := by
    unfold nbC1; rw [hK, hG]
  clear hok hK hG
  by_cases hg : 100 < G
  · by_cases h0 : K = 0
    · subst h0
      have hn2 : nbC1 xs W P = 3 := by rw [hn1, if_pos ⟨.inl rfl, hg⟩]
      have ec : nbC xs W P = 3 := by rw [hnc, hn2, if_neg (by rintro ⟨h, _⟩; omega)]
      clear hn2
      have er : nbR xs W P = [] := by unfold nbR; rw [ec, if_neg (by omega)]
      have en : nbN xs W P = 0 := by unfold nbN; rw [ec, if_neg (by omega)]
      have ed : nbD xs W P = 0 := by unfold nbD; rw [ec, if_neg (by omega)]
      have EC := Lib.hid ec; have ER := Lib.hid er; have EN := Lib.hid en; have ED := Lib.hid ed
      clear ec er en ed
      clear hnc hn1
      obtain ⟨cR0, cR1⟩ := HR.out.cells2
      obtain ⟨fR0, fR1⟩ := HR.out.frozens2
      go_wp2_with fail
      have hB := HB.out
      have OE := own_empty ((w.alloc (.cells #[.int .i32 a0, .int .i32 a1, .int .i32 a2, .int .i32 a3, .int .i32 a4, .int .i32 a5, .int .i32 a6, .int .i32 a7] 27)).alloc (.cells #[.int .i64 0, .int .i64 0] 34)) 2 1
      simp only [World.size_alloc] at OE
      replace OE := own_lower (b' := w.heap.size) OE (by omega)
      have S1 := ((HR.out.below (below_alloc1 _ (.cells #[] 2))).set 0 (.int .i64 0)).set 1 (.int .i64 0)
      simp only [List.set_cons_zero, List.set_cons_succ] at S1
      obtain ⟨s0, s1⟩ := S1.cells2
      refine bodyPost_ret (v := .tuple #[.slice (some ⟨w.heap.size + 1 + 1, 0, none⟩) 0 0, .agg #[.int .i64 0, .int .i64 0], .int .i64 3]) (by simp [results, Try.results12, go_sem, s0, s1]) rfl ?_
      rw [EC.out, ER.out, EN.out, ED.out]
      exact ⟨_, _, rfl, OE, by go_grown⟩
    by_cases h6 : K = 6
    · subst h6
      have hn2 : nbC1 xs W P = 3 := by rw [hn1, if_pos ⟨.inr rfl, hg⟩]
      have ec : nbC xs W P = 3 := by rw [hnc, hn2, if_neg (by rintro ⟨h, _⟩; omega)]
      clear hn2
      have er : nbR xs W P = [] := by unfold nbR; rw [ec, if_neg (by omega)]
      have en : nbN xs W P = 0 := by unfold nbN; rw [ec, if_neg (by omega)]
      have ed : nbD xs W P = 0 := by unfold nbD; rw [ec, if_neg (by omega)]
      have EC := Lib.hid ec; have ER := Lib.hid er; have EN := Lib.hid en; have ED := Lib.hid ed
      clear ec er en ed
      clear hnc hn1
      obtain ⟨cR0, cR1⟩ := HR.out.cells2
      obtain ⟨fR0, fR1⟩ := HR.out.frozens2
      go_wp2_with fail
      have hB := HB.out
      have OE := own_empty ((w.alloc (.cells #[.int .i32 a0, .int .i32 a1, .int .i32 a2, .int .i32 a3, .int .i32 a4, .int .i32 a5, .int .i32 a6, .int .i32 a7] 27)).alloc (.cells #[.int .i64 0, .int .i64 0] 34)) 2 1
      simp only [World.size_alloc] at OE
      replace OE := own_lower (b' := w.heap.size) OE (by omega)
      have S1 := ((HR.out.below (below_alloc1 _ (.cells #[] 2))).set 0 (.int .i64 0)).set 1 (.int .i64 0)
      simp only [List.set_cons_zero, List.set_cons_succ] at S1
      obtain ⟨s0, s1⟩ := S1.cells2
      refine bodyPost_ret (v := .tuple #[.slice (some ⟨w.heap.size + 1 + 1, 0, none⟩) 0 0, .agg #[.int .i64 0, .int .i64 0], .int .i64 3]) (by simp [results, Try.results12, go_sem, s0, s1]) rfl ?_
      rw [EC.out, ER.out, EN.out, ED.out]
      exact ⟨_, _, rfl, OE, by go_grown⟩
    have hn2 : nbC1 xs W P = K := by rw [hn1, if_neg (by rintro ⟨h | h, _⟩; exact h0 h; exact h6 h)]
    have ec : nbC xs W P = K := by rw [hnc, hn2, if_neg (by rintro ⟨h, _⟩; exact h0 h)]
    clear hn2
    have k0 : (K == 0) = false := by simp [h0]
    have k6 : (K == 6) = false := by simp [h6]
    have er : nbR xs W P = [] := by unfold nbR; rw [ec, if_neg (by omega)]
    have en : nbN xs W P = 0 := by unfold nbN; rw [ec, if_neg (by omega)]
    have ed : nbD xs W P = 0 := by unfold nbD; rw [ec, if_neg (by omega)]
    have EC := Lib.hid ec; have ER := Lib.hid er; have EN := Lib.hid en; have ED := Lib.hid ed
    clear ec er en ed
    clear hnc hn1
    obtain ⟨cR0, cR1⟩ := HR.out.cells2
    obtain ⟨fR0, fR1⟩ := HR.out.frozens2
    go_wp2_with fail
    have hB := HB.out
    have OE := own_empty ((w.alloc (.cells #[.int .i32 a0, .int .i32 a1, .int .i32 a2, .int .i32 a3, .int .i32 a4, .int .i32 a5, .int .i32 a6, .int .i32 a7] 27)).alloc (.cells #[.int .i64 0, .int .i64 0] 34)) 2 1
    simp only [World.size_alloc] at OE
    replace OE := own_lower (b' := w.heap.size) OE (by omega)
    have S1 := ((HR.out.below (below_alloc1 _ (.cells #[] 2))).set 0 (.int .i64 0)).set 1 (.int .i64 0)
    simp only [List.set_cons_zero, List.set_cons_succ] at S1
    obtain ⟨s0, s1⟩ := S1.cells2
    refine bodyPost_ret (v := .tuple #[.slice (some ⟨w.heap.size + 1 + 1, 0, none⟩) 0 0, .agg #[.int .i64 0, .int .i64 0], .int .i64 K]) (by simp [results, Try.results12, go_sem, s0, s1]) rfl ?_
    rw [EC.out, ER.out, EN.out, ED.out]
    exact ⟨_, _, rfl, OE, by go_grown⟩
  have hn1' : nbC1 xs W P = K := by rw [hn1, if_neg (by rintro ⟨_, h⟩; exact hg h)]
  rw [hn1'] at hnc
  clear hn1 hn1'
  by_cases h0 : K = 0
  rotate_left
  · have ec : nbC xs W P = K := by rw [hnc, if_neg (by rintro ⟨h, _⟩; exact h0 h)]
    have k0 : (K == 0) = false := by simp [h0]
    have er : nbR xs W P = [] := by unfold nbR; rw [ec, if_neg (by omega)]
    have en : nbN xs W P = 0 := by unfold nbN; rw [ec, if_neg (by omega)]
    have ed : nbD xs W P = 0 := by unfold nbD; rw [ec, if_neg (by omega)]
    have EC := Lib.hid ec; have ER := Lib.hid er; have EN := Lib.hid en; have ED := Lib.hid ed
    clear ec er en ed
    clear hnc
    by_cases h6 : K = 6
    · subst h6
      obtain ⟨cR0, cR1⟩ := HR.out.cells2
      obtain ⟨fR0, fR1⟩ := HR.out.frozens2
      go_wp2_with fail
      have hB := HB.out
      have OE := own_empty ((w.alloc (.cells #[.int .i32 a0, .int .i32 a1, .int .i32 a2, .int .i32 a3, .int .i32 a4, .int .i32 a5, .int .i32 a6, .int .i32 a7] 27)).alloc (.cells #[.int .i64 0, .int .i64 0] 34)) 2 1
      simp only [World.size_alloc] at OE
      replace OE := own_lower (b' := w.heap.size) OE (by omega)
      have S1 := ((HR.out.below (below_alloc1 _ (.cells #[] 2))).set 0 (.int .i64 0)).set 1 (.int .i64 0)
      simp only [List.set_cons_zero, List.set_cons_succ] at S1
      obtain ⟨s0, s1⟩ := S1.cells2
      refine bodyPost_ret (v := .tuple #[.slice (some ⟨w.heap.size + 1 + 1, 0, none⟩) 0 0, .agg #[.int .i64 0, .int .i64 0], .int .i64 6]) (by simp [results, Try.results12, go_sem, s0, s1]) rfl ?_
      rw [EC.out, ER.out, EN.out, ED.out]
      exact ⟨_, _, rfl, OE, by go_grown⟩
    have k6 : (K == 6) = false := by simp [h6]
    obtain ⟨cR0, cR1⟩ := HR.out.cells2
    obtain ⟨fR0, fR1⟩ := HR.out.frozens2
    go_wp2_with fail
    have hB := HB.out
    have OE := own_empty ((w.alloc (.cells #[.int .i32 a0, .int .i32 a1, .int .i32 a2, .int .i32 a3, .int .i32 a4, .int .i32 a5, .int .i32 a6, .int .i32 a7] 27)).alloc (.cells #[.int .i64 0, .int .i64 0] 34)) 2 1
    simp only [World.size_alloc] at OE
    replace OE := own_lower (b' := w.heap.size) OE (by omega)
    have S1 := ((HR.out.below (below_alloc1 _ (.cells #[] 2))).set 0 (.int .i64 0)).set 1 (.int .i64 0)
    simp only [List.set_cons_zero, List.set_cons_succ] at S1
    obtain ⟨s0, s1⟩ := S1.cells2
    refine bodyPost_ret (v := .tuple #[.slice (some ⟨w.heap.size + 1 + 1, 0, none⟩) 0 0, .agg #[.int .i64 0, .int .i64 0], .int .i64 K]) (by simp [results, Try.results12, go_sem, s0, s1]) rfl ?_
    rw [EC.out, ER.out, EN.out, ED.out]
    exact ⟨_, _, rfl, OE, by go_grown⟩
  subst h0
  by_cases hn0 : n = 0
  · subst hn0
    have ec : nbC xs W P = 6 := by rw [hnc, if_pos ⟨rfl, .inl rfl⟩]
    have er : nbR xs W P = [] := by unfold nbR; rw [ec, if_neg (by omega)]
    have en : nbN xs W P = 0 := by unfold nbN; rw [ec, if_neg (by omega)]
    have ed : nbD xs W P = 0 := by unfold nbD; rw [ec, if_neg (by omega)]
    have EC := Lib.hid ec; have ER := Lib.hid er; have EN := Lib.hid en; have ED := Lib.hid ed
    clear ec er en ed
    clear hnc
    obtain ⟨cR0, cR1⟩ := HR.out.cells2
    obtain ⟨fR0, fR1⟩ := HR.out.frozens2
    go_wp2_with fail
    have hB := HB.out
    have OE := own_empty ((w.alloc (.cells #[.int .i32 a0, .int .i32 a1, .int .i32 a2, .int .i32 a3, .int .i32 a4, .int .i32 a5, .int .i32 a6, .int .i32 a7] 27)).alloc (.cells #[.int .i64 0, .int .i64 0] 34)) 2 1
    simp only [World.size_alloc] at OE
    replace OE := own_lower (b' := w.heap.size) OE (by omega)
    have S1 := ((HR.out.below (below_alloc1 _ (.cells #[] 2))).set 0 (.int .i64 0)).set 1 (.int .i64 0)
    simp only [List.set_cons_zero, List.set_cons_succ] at S1
    obtain ⟨s0, s1⟩ := S1.cells2
    refine bodyPost_ret (v := .tuple #[.slice (some ⟨w.heap.size + 1 + 1, 0, none⟩) 0 0, .agg #[.int .i64 0, .int .i64 0], .int .i64 6]) (by simp [results, Try.results12, go_sem, s0, s1]) rfl ?_
    rw [EC.out, ER.out, EN.out, ED.out]
    exact ⟨_, _, rfl, OE, by go_grown⟩
  by_cases hg0 : G = 0
  · subst hg0
    have ec : nbC xs W P = 6 := by rw [hnc, if_pos ⟨rfl, .inr rfl⟩]
    have k0 : ((n : Int) == 0) = false := by simp; omega
    have er : nbR xs W P = [] := by unfold nbR; rw [ec, if_neg (by omega)]
    have en : nbN xs W P = 0 := by unfold nbN; rw [ec, if_neg (by omega)]
    have ed : nbD xs W P = 0 := by unfold nbD; rw [ec, if_neg (by omega)]
    have EC := Lib.hid ec; have ER := Lib.hid er; have EN := Lib.hid en; have ED := Lib.hid ed
    clear ec er en ed
    clear hnc
    obtain ⟨cR0, cR1⟩ := HR.out.cells2
    obtain ⟨fR0, fR1⟩ := HR.out.frozens2
    go_wp2_with fail
    have hB := HB.out
    have OE := own_empty ((w.alloc (.cells #[.int .i32 a0, .int .i32 a1, .int .i32 a2, .int .i32 a3, .int .i32 a4, .int .i32 a5, .int .i32 a6, .int .i32 a7] 27)).alloc (.cells #[.int .i64 0, .int .i64 0] 34)) 2 1
    simp only [World.size_alloc] at OE
    replace OE := own_lower (b' := w.heap.size) OE (by omega)
    have S1 := ((HR.out.below (below_alloc1 _ (.cells #[] 2))).set 0 (.int .i64 0)).set 1 (.int .i64 0)
    simp only [List.set_cons_zero, List.set_cons_succ] at S1
    obtain ⟨s0, s1⟩ := S1.cells2
    refine bodyPost_ret (v := .tuple #[.slice (some ⟨w.heap.size + 1 + 1, 0, none⟩) 0 0, .agg #[.int .i64 0, .int .i64 0], .int .i64 6]) (by simp [results, Try.results12, go_sem, s0, s1]) rfl ?_
    rw [EC.out, ER.out, EN.out, ED.out]
    exact ⟨_, _, rfl, OE, by go_grown⟩
  have ec : nbC xs W P = 0 := by rw [hnc, if_neg (by rintro ⟨_, h | h⟩; exact hn0 h; exact hg0 h)]
  have hWl : W.length = 8 := by rw [← hWe]; rfl
  obtain ⟨ho, p1, p2, g1, m1⟩ := nb_ok hF.out hWl ec
  obtain ⟨ps, l, hst, hpl, l1, l2⟩ := nb_found hF.out hWl ec
  rw [HXL.out] at hpl
  obtain ⟨M, hM⟩ : ∃ M, mulTo xs n = M := ⟨_, rfl⟩
  rw [HXL.out, hM] at ho m1
  rw [HG.out] at ho g1
  have er : nbR xs W P = ps := by unfold nbR; rw [ec, if_pos rfl, hst]
  have en : nbN xs W P = frN l (P * M * G) := by unfold nbN nbL; rw [ec, if_pos rfl, hst, HXL.out, hM, HG.out]
  have ed : nbD xs W P = frD l (P * M * G) := by unfold nbD nbL; rw [ec, if_pos rfl, hst, HXL.out, hM, HG.out]
  have hst' : nbF (fun ps => offT xs ps M G P W 8) (n - 1) [] P.toNat none = some (ps, l) := by rw [← hst]; unfold nbSt; rw [HXL.out, hM, HG.out]
  have HST := Lib.hid hst'
  have q1 := mul_bd2 (show 0 ≤ P by omega) p2 ho.hM.1 ho.hM.2
  have q2 := mul_bd2 q1.1 q1.2 ho.hG.1 ho.hG.2
  have q3 : 0 < P * M * G := Int.mul_pos (Int.mul_pos (by omega) (by omega)) (by omega)
  have v1 : IntKind.i64.wrap (P * M) = P * M := IntWalk.i64_in _ (by omega)
  have v2 : IntKind.i64.wrap (P * M * G) = P * M * G := IntWalk.i64_in _ (by omega)
  have HO := Lib.hid ho; have HPL := Lib.hid hpl
  have hml : ∀ w', Below w.heap.size w w' → Calls Try.prog 48 #[.slice A n c] w' fun e w2 => e = .returned (.int .i64 M) ∧ Below w'.heap.size w' w2 := fun w' hb => by
    have := l01Multiple_any A n c xs w' (R.below hb) hF (Lib.hid HO.out.hv) (Lib.hid HO.out.nz) (by rw [← HXL.out]; exact HO.out.h6)
    rw [hM] at this
    exact this
  have HML := Lib.hid hml
  have EC := Lib.hid ec; have ER := Lib.hid er; have EN := Lib.hid en; have ED := Lib.hid ed
  have Q := Lib.hid (show 0 ≤ l ∧ l ≤ 80000000000000000 ∧ 0 ≤ P * M * G ∧ P * M * G ≤ 800000000000000 ∧ 0 < P * M * G from ⟨l1, l2, q2.1, q2.2, q3⟩)
  clear hml ec er en ed hnc hWe hst hst' q1 q2 q3 ho hpl hM hWl
  have p3 : (P.toNat : Int) = P := by omega
  have hn1 : 1 ≤ n := by omega
  have z0 : ((n : Int) == 0) = false := by simp; omega
  have z1 : (G == 0) = false := by simp; omega
  obtain ⟨c0, c1, c2, c3, c4, c5, c6, c7⟩ := HX.out.cells8
  go_wp2_with fail
  go_cut [11] (fun s11 wx => ∃ g : Nat, s11 = .pointer (some ⟨g, 0, none⟩) ∧ w.heap.size + 1 < g ∧ Hid (Row wx g 79 (srC A n c W P M (.slice none 0 0) 0 false)) ∧ Hid (Row wx (w.heap.size + 1) 34 [.int .i64 0, .int .i64 0]) ∧ Hid (Below w.heap.size w wx))
  case first =>
    go_region_with (go_at_call 48; refine (HML.out _ (by first | exact HB.out | exact HB.out.drew)).mono ?_; rintro e w5 ⟨rfl, hb5⟩; have k0 := (hb5.cell (World.block_lt_of_cell? _ _ c0)).trans c0; have k1 := (hb5.cell (World.block_lt_of_cell? _ _ c1)).trans c1; have k2 := (hb5.cell (World.block_lt_of_cell? _ _ c2)).trans c2; have k3 := (hb5.cell (World.block_lt_of_cell? _ _ c3)).trans c3; have k4 := (hb5.cell (World.block_lt_of_cell? _ _ c4)).trans c4; have k5 := (hb5.cell (World.block_lt_of_cell? _ _ c5)).trans c5; have k6 := (hb5.cell (World.block_lt_of_cell? _ _ c6)).trans c6; have k7 := (hb5.cell (World.block_lt_of_cell? _ _ c7)).trans c7; have Bk := Lib.hid (show Below w.heap.size w w5 from by first | exact below_then HB.out HB.out.size hb5 | exact below_then HB.out.drew HB.out.drew.size hb5); have HRk := Lib.hid (show Row w5 (w.heap.size + 1) 34 [.int .i64 0, .int .i64 0] from by first | exact HR.out.below hb5 | exact HR.out.drew.below hb5); clear c0 c1 c2 c3 c4 c5 c6 c7)
    all_goals (
      clear k0 k1 k2 k3 k4 k5 k6 k7 z0 z1
      have SR : Row (w5.alloc (.cells #[.slice A n c, .int .i32 a0, .int .i32 a1, .int .i32 a2, .int .i32 a3, .int .i32 a4, .int .i32 a5, .int .i32 a6, .int .i32 a7, .int .i64 P, .int .i64 M, .slice none 0 0, .int .i64 0, .bool false] 79)) w5.heap.size 79 (srC A n c W P M (.slice none 0 0) 0 false) := by rw [← HWE.out]; exact Row.alloc w5 _ _
      have B6 := Bk.out.alloc Bk.out.size (.cells #[.slice A n c, .int .i32 a0, .int .i32 a1, .int .i32 a2, .int .i32 a3, .int .i32 a4, .int .i32 a5, .int .i32 a6, .int .i32 a7, .int .i64 P, .int .i64 M, .slice none 0 0, .int .i64 0, .bool false] 79)
      have R6 := HRk.out.below (below_alloc1 w5 (.cells #[.slice A n c, .int .i32 a0, .int .i32 a1, .int .i32 a2, .int .i32 a3, .int .i32 a4, .int .i32 a5, .int .i32 a6, .int .i32 a7, .int .i64 P, .int .i64 M, .slice none 0 0, .int .i64 0, .bool false] 79))
      have s6 := HRk.out.lt
      have SR' := Lib.hid SR; have B6' := Lib.hid B6; have R6' := Lib.hid R6
      clear SR B6 R6
      go_wp2_with fail
      go_meet
      exact ⟨_, rfl, s6, SR', R6', B6'⟩)
  case rest =>
    obtain ⟨g, rfl, hg1, SR, HRk, Bk⟩ := hcut
    clear HX HR HB R2 HML v1 v2 c0 c1 c2 c3 c4 c5 c6 c7 z0 z1
    have v1 : IntKind.i64.wrap (P * M) = P * M := IntWalk.i64_in _ (by have := mul_bd2 HO.out.hP.1 HO.out.hP.2 HO.out.hM.1 HO.out.hM.2; omega)
    have v2 : IntKind.i64.wrap (P * M * G) = P * M * G := IntWalk.i64_in _ (by have := Q.out; omega)
    have s5 := Bk.out.size
    have hgl := SR.out.lt
    have hS0 : Hid (Srch A n c W P M w g (g + 1) none (wc.alloc (.cells #[] 2))) := Lib.hid ⟨Bk.out.alloc Bk.out.size _, by simp only [World.size_alloc]; omega, SR.out.below (below_alloc1 _ _)⟩
    have HR6 := Lib.hid (HRk.out.below (below_alloc1 _ (.cells #[] 2)))
    go_wp2_with fail
    refine (from_any A n c xs W P M G w g (g + 1) R HO HG (by omega) (by omega) (n - 1) [] P.toNat P none _ _ 0 0 rfl (by omega) (by simp) (by omega) p3.symm (by simp; omega) ⟨rfl, Nat.zero_le _, fun h => absurd h (Nat.lt_irrefl 0)⟩ hS0.out).mono ?_
    rintro e w7 ⟨rfl, hS, hg⟩
    rw [HST.out] at hS
    obtain ⟨hb7, hbs7, Ab, cb, r7, O7⟩ := hS
    have R7 : Row w7 (w.heap.size + 1) 34 [.int .i64 0, .int .i64 0] := (hg.block _ HR6.out.lt (by simp; omega)).trans HR6.out
    have d10 : w7.cell? ⟨g, 10, none⟩ = some (.int .i64 M) := r7.cell 10
    have d11 : w7.cell? ⟨g, 11, none⟩ = some (.slice Ab ps.length cb) := r7.cell 11
    have d12 : w7.cell? ⟨g, 12, none⟩ = some (.int .i64 l) := r7.cell 12
    obtain ⟨x0, x1⟩ := R7.cells2
    have f0 := R7.frozen 0
    have f1 := R7.frozen 1
    have H7 := Lib.hid hb7; have RR7 := Lib.hid R7; have OO7 := Lib.hid O7
    have MK := Lib.hid (fun w' => l01Make_any l (P * M * G) w' (by unfold Mid; have := Q.out; omega) (by unfold Mid; have := Q.out; omega) Q.out.2.2.2.2)
    obtain ⟨fa, hfa⟩ : ∃ y, frN l (P * M * G) = y := ⟨_, rfl⟩
    obtain ⟨fb, hfb⟩ : ∃ y, frD l (P * M * G) = y := ⟨_, rfl⟩
    rw [hfa, hfb] at MK
    rw [hfa] at EN
    rw [hfb] at ED
    clear r7 R7 hS0 HR6 HRk Bk SR hfa hfb hb7 O7 hg HST
    go_wp2_with fail
    go_cut [6, 8] (fun s6 s8 wx => s6 = .slice Ab ps.length cb ∧ s8 = .int .i64 0 ∧ Hid (Row wx (w.heap.size + 1) 34 [.int .i64 fa, .int .i64 fb]) ∧ Hid (wx.ownsRow w.heap.size 2 1 (.slice Ab ps.length cb) ps.length (nums .i64 ps)) ∧ Hid (Below w.heap.size w wx))
    case first =>
      go_region_held3 (fun w' => w'.cell? ⟨g, 10, none⟩ = some (.int .i64 M) ∧ w'.cell? ⟨g, 11, none⟩ = some (.slice Ab ps.length cb) ∧ w'.cell? ⟨g, 12, none⟩ = some (.int .i64 l))
        (first | exact ⟨h0, h1, h2⟩ | exact ⟨d10, d11, d12⟩ | (refine ⟨?_, ?_, ?_⟩ <;> (rw [World.cell?_setCell_far _ _ _ _ (by simp only [ne_eq]; omega), World.cell?_setCell_far _ _ _ _ (by simp only [ne_eq]; omega)]; assumption)) | go_keep)
        ((go_at_call 31; refine (MK.out _).mono ?_; rintro e w8 ⟨rfl, hb8⟩; have h0 := (hb8.cell (World.block_lt_of_cell? _ _ d10)).trans d10; have h1 := (hb8.cell (World.block_lt_of_cell? _ _ d11)).trans d11; have h2 := (hb8.cell (World.block_lt_of_cell? _ _ d12)).trans d12; have y0 := (hb8.cell (World.block_lt_of_cell? _ _ x0)).trans x0; have y1 := (hb8.cell (World.block_lt_of_cell? _ _ x1)).trans x1; have g0 := (hb8.frozen (p := ⟨w.heap.size + 1, 0, none⟩) (World.block_lt_of_cell? _ _ x0)).trans f0; have g1_ := (hb8.frozen (p := ⟨w.heap.size + 1, 1, none⟩) (World.block_lt_of_cell? _ _ x1)).trans f1; have B8 := Lib.hid (show Below w.heap.size w w8 from by first | exact below_then H7.out H7.out.size hb8 | exact below_then H7.out.drew H7.out.drew.size hb8); have R8 := Lib.hid (show Row w8 (w.heap.size + 1) 34 [.int .i64 0, .int .i64 0] from by first | exact RR7.out.below hb8 | exact RR7.out.drew.below hb8); have O8 := Lib.hid (show w8.ownsRow (g + 1) 2 1 (.slice Ab ps.length cb) ps.length (nums .i64 ps) from by first | exact own_below OO7.out hb8 | exact own_below OO7.out.drew hb8)))
      all_goals (
        have S8 := Lib.hid ((R8.out.set 0 (.int .i64 fa)).set 1 (.int .i64 fb))
        have K8 : Keeps (fun k => k = w.heap.size + 1) w8 ((w8.setCell ⟨w.heap.size + 1, 0, none⟩ (.int .i64 fa)).setCell ⟨w.heap.size + 1, 1, none⟩ (.int .i64 fb)) := ((Keeps.refl (fun k => k = w.heap.size + 1) w8).set (w.heap.size + 1) 0 (.int .i64 fa) rfl).set (w.heap.size + 1) 1 (.int .i64 fb) rfl
        have OX := Lib.hid (own_lower (b' := w.heap.size) (K8.own O8.out (fun k h1 h2 => by omega)) (by omega))
        have BX := Lib.hid ((B8.out.setCell (p := ⟨w.heap.size + 1, 0, none⟩) (by show w.heap.size ≤ w.heap.size + 1; omega) (.int .i64 fa)).setCell (p := ⟨w.heap.size + 1, 1, none⟩) (by show w.heap.size ≤ w.heap.size + 1; omega) (.int .i64 fb))
        clear K8
        go_wp2_with fail
        go_meet
        exact ⟨rfl, rfl, (by first | exact S8 | exact Lib.hid S8.out.drew), (by first | exact OX | exact Lib.hid OX.out.drew), (by first | exact BX | exact Lib.hid BX.out.drew)⟩)
    case rest =>
      obtain ⟨rfl, rfl, RX, OX, BX⟩ := hcut
      obtain ⟨s0, s1⟩ := RX.out.cells2
      go_wp2_with fail
      refine bodyPost_ret (v := .tuple #[.slice Ab ps.length cb, .agg #[.int .i64 fa, .int .i64 fb], .int .i64 0]) (by simp [results, Try.results12, go_sem, s0, s1]) rfl ?_
      rw [EC.out, ER.out, EN.out, ED.out]
      exact ⟨Ab, cb, rfl, OX.out, BX.out⟩

end Go.Proofs.Ytjbaaomodcgdgaa
