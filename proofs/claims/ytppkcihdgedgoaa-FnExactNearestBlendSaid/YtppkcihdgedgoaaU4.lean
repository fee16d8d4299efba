/- Contracts: GradesOf, on both sides. -/
import Derived.Test.YtppkcihdgedgoaaU3
import Derived.Deep.AppendLies
namespace Go.Proofs.Ytppkcihdgedgoaa
open Go.RowKit
set_option linter.unusedVariables false
set_option linter.unusedSimpArgs false
def gfC (xs : List (Int × List Int)) (bs : List Int) : Int := flC xs (risOk bs)
def gfTo (xs : List (Int × List Int)) (bs : List Int) (k : Nat) : List Int := (xs.take k).map fun x => cntL bs x.1
def gfR (xs : List (Int × List Int)) (bs : List Int) : List Int := if gfC xs bs = 0 then gfTo xs bs xs.length else []
theorem gfTo_succ {xs : List (Int × List Int)} {bs : List Int} {k : Nat} {x : Int × List Int} (h : xs[k]? = some x) : gfTo xs bs (k + 1) = gfTo xs bs k ++ [cntL bs x.1] := by
  unfold gfTo
  rw [List.take_add_one, h]
  simp
theorem gfTo_len {xs : List (Int × List Int)} {bs : List Int} {k : Nat} (h : k ≤ xs.length) : (gfTo xs bs k).length = k := by
  unfold gfTo
  rw [List.length_map, List.length_take]
  omega
theorem flC_0 {xs : List (Int × List Int)} {b : Bool} (h : flC xs b = 0) : flB xs = true ∧ b = true ∧ xs.length ≤ 6 := by
  unfold flC at h
  cases h1 : flB xs
  · simp [h1] at h
  · cases b
    · simp [h1] at h
    · by_cases h6 : xs.length ≤ 6
      · exact ⟨rfl, rfl, h6⟩
      · simp [h1, h6] at h
theorem gfR_len (xs : List (Int × List Int)) (bs : List Int) : (gfR xs bs).length ≤ 6 := by
  unfold gfR
  split
  · rename_i h
    rw [gfTo_len (Nat.le_refl _)]
    exact (flC_0 h).2.2
  · simp
set_option maxHeartbeats 1000000 in
theorem sGradesOf (A : Option Addr) (n c : Nat) (xs : List (Int × List Int)) (B : Option Addr) (m d : Nat) (bs : List Int) (w : World) (R : Rds w A n 9 FlC xs) (hF : Hid (FlOk xs)) (R2 : Rds w B m 1 (fun x : Int => [.int .i64 x]) bs) :
    Calls Try.prog 8 #[.slice A n c, .slice B m d] w (RetOwnT 2 1 (gfR xs bs).length (nums .i64 (gfR xs bs)) [.int .i64 (gfC xs bs)] w) := by
  have hn := R.2.1
  have HXL := Lib.hid R.1
  have HB0 := below_alloc1 w (.cells #[] 2)
  have O0 := own_empty w 2 1
  have hbd := (l01Bounds_any B m d bs _ (R2.below HB0))
  obtain ⟨C, hC⟩ : ∃ C, gfC xs bs = C := ⟨_, rfl⟩
  have HC := Lib.hid hC
  have HBD := Lib.hid hbd
  clear hbd
  by_cases h0 : C = 0
  rotate_left
  · have hr : gfR xs bs = [] := by unfold gfR; rw [hC, if_neg h0]
    rw [hr, hC]
    have h0i : ¬ (C : Int) = 0 := h0
    clear hC hr
    go_enter Try.func8, Try.ntmps8
    go_wp2_with fail
    refine HBD.out.mono ?_
    rintro e w1 ⟨rfl, hb⟩
    replace O0 := own_below O0 hb
    have HB1 := below_then HB0 HB0.size hb
    go_wp2_with fail
    refine (l01Fleeces_any A n c xs _ _ (R.below HB1) hF).mono ?_
    rintro e w2 ⟨rfl, rfl⟩
    rw [show flC xs (risOk bs) = C from HC.out]
    go_wp2_with fail
    go_ret2
    exact ⟨_, _, rfl, O0, HB1⟩
  subst h0
  obtain ⟨hfl, hri, h6⟩ := flC_0 hC
  rw [HXL.out] at h6
  have e2 : gfR xs bs = gfTo xs bs n := by unfold gfR; rw [hC, if_pos rfl, HXL.out]
  rw [e2, gfTo_len (by rw [HXL.out]; exact Nat.le_refl _), hC]
  clear hC e2 hfl hri
  go_enter Try.func8, Try.ntmps8
  go_wp2_with fail
  refine HBD.out.mono ?_
  rintro e w1 ⟨rfl, hb⟩
  replace O0 := own_below O0 hb
  have HB1 := below_then HB0 HB0.size hb
  go_wp2_with fail
  refine (l01Fleeces_any A n c xs _ _ (R.below HB1) hF).mono ?_
  rintro e w2 ⟨rfl, rfl⟩
  rw [show flC xs (risOk bs) = 0 from HC.out]
  clear HB0 hb
  go_wp2_with fail
  have hbw := HB1.size
  go_loopw [6, 8] (fun s v wr => ∃ (k : Nat) (A' : Option Addr) (c' : Nat), k ≤ n ∧ v = .int .i64 k ∧ s = .slice A' k c' ∧ wr.ownsRow w.heap.size 2 1 (.slice A' k c') k (nums .i64 (gfTo xs bs k)) ∧ Below w.heap.size w wr) (fun _ v _ => n - (intOf v).toNat)
  case atStart => exact ⟨0, _, _, by omega, rfl, rfl, by simpa [gfTo, nums] using O0, HB1⟩
  case round =>
    obtain ⟨k, A', c', hk, rfl, rfl, O, hB⟩ := hrel
    clear O0 HB1 hbw
    by_cases hlt : k < n
    · obtain ⟨ad, f, a0, a1, a2, a3, a4, a5, a6, a7, rfl, hx, e0, _⟩ := (R.below hB).fleece hF.out.len hlt
      have HX := Lib.hid hx
      have hm := List.mem_of_getElem? hx
      have gf := i8_rng (hF.out _ hm).1
      clear hx hm
      have hB2 := hB.size
      go_wp2_with fail
      refine (l01Grade_any B m d bs f _ (R2.below hB)).mono ?_
      rintro e w3 ⟨rfl, rfl⟩
      go_wp2_with ((at_builtin; refine app_any (w0 := w) w.heap.size (by rfl) _ _ 23 2 (.int .i64 0) 1 8 (by rfl) Try.underlying23 info_i64 rfl (by omega) (by omega) _ (by rfl) 1 1 [.int .i64 (cntL bs f)] (by rfl) (by rfl) (by simp [Value.oneCell']) O hB hB2 (by omega) ?_; intro A2 c2 w4 O2 HBn hg2))
      rw [← nums_snoc, ← show gfTo xs bs (k + 1) = gfTo xs bs k ++ [cntL bs f] from gfTo_succ HX.out] at O2
      go_wp2_with fail
      go_roundw
      case rel => exact ⟨k + 1, A2, c2, by omega, by go_num, rfl, O2, HBn⟩
      case measure => simp [intOf]; omega
    · obtain rfl : k = n := by omega
      go_wp2_with fail
      go_ret2
      exact ⟨A', c', rfl, O, hB⟩
set_option maxHeartbeats 1000000 in
theorem iGradesOf (A : Option Addr) (n c : Nat) (xs : List (Int × List Int)) (B : Option Addr) (m d : Nat) (bs : List Int) (w : World) (R : Rds w A n 9 FlC xs) (hF : Hid (FlOk xs)) (R2 : Rds w B m 1 (fun x : Int => [.int .i64 x]) bs) :
    Calls Try.prog 11 #[.slice A n c, .slice B m d] w (RetOwnT 2 1 (gfR xs bs).length (nums .i64 (gfR xs bs)) [.int .i64 (gfC xs bs)] w) := by
  have hn := R.2.1
  have HXL := Lib.hid R.1
  obtain ⟨C, hC⟩ : ∃ C, gfC xs bs = C := ⟨_, rfl⟩
  have HC := Lib.hid hC
  by_cases h0 : C = 0
  rotate_left
  · have hr : gfR xs bs = [] := by unfold gfR; rw [hC, if_neg h0]
    rw [hr, hC]
    have h0i : ¬ (C : Int) = 0 := h0
    clear hC hr
    go_enter Try.func11, Try.ntmps11
    go_wp2_with fail
    refine (gradesCode_any A B n c m d xs bs _ R hF R2).mono ?_
    rintro e w1 ⟨rfl, hb⟩
    rw [show flC xs (risOk bs) = C from HC.out]
    go_wp2_with fail
    go_ret2
    exact ⟨none, 0, rfl, own_nil _ _ _ _, hb⟩
  subst h0
  obtain ⟨hfl, hri, h6⟩ := flC_0 hC
  rw [HXL.out] at h6
  have e2 : gfR xs bs = gfTo xs bs n := by unfold gfR; rw [hC, if_pos rfl, HXL.out]
  rw [e2, gfTo_len (by rw [HXL.out]; exact Nat.le_refl _), hC]
  clear hC e2 hfl hri
  go_enter Try.func11, Try.ntmps11
  go_wp2_with fail
  refine (gradesCode_any A B n c m d xs bs _ R hF R2).mono ?_
  rintro e w1 ⟨rfl, hb⟩
  rw [show flC xs (risOk bs) = 0 from HC.out]
  go_wp2_with fail
  go_loopw [7, 18] (fun s v wr => ∃ (k : Nat) (A' : Option Addr) (c' : Nat), k ≤ n ∧ v = .int .i64 k ∧ s = .slice A' k c' ∧ wr.ownsRow w.heap.size 2 1 (.slice A' k c') k (nums .i64 (gfTo xs bs k)) ∧ Below w.heap.size w wr) (fun _ v _ => n - (intOf v).toNat)
  case atStart => exact ⟨0, _, _, by omega, rfl, rfl, by simpa [gfTo, nums] using own_nil w1 w.heap.size 2 1, hb⟩
  case round =>
    obtain ⟨k, A', c', hk, rfl, rfl, O, hB⟩ := hrel
    clear hb
    by_cases hlt : k < n
    · obtain ⟨ad, f, a0, a1, a2, a3, a4, a5, a6, a7, rfl, hx, e0, e1, e2, e3, e4, e5, e6, e7, e8⟩ := (R.below hB).fleece hF.out.len hlt
      have HX := Lib.hid hx
      have hm := List.mem_of_getElem? hx
      have gf := i8_rng (hF.out _ hm).1
      clear hx hm
      have hB2 := hB.size
      have hB1 := below_alloc1 wr (.cells #[.int .i8 f, .int .i32 a0, .int .i32 a1, .int .i32 a2, .int .i32 a3, .int .i32 a4, .int .i32 a5, .int .i32 a6, .int .i32 a7] 59)
      go_wp2_with fail
      refine (grade_any B m d bs f a0 a1 a2 a3 a4 a5 a6 a7 _ ((R2.below hB).below hB1) gf).mono ?_
      rintro e w3 ⟨rfl, hb3⟩
      replace O := own_below (own_below O hB1) hb3
      have hB3 := below_then (below_then hB hB2 hB1) (Nat.le_trans hB2 hB1.size) hb3
      have hB4 := hB3.size
      clear hB1 hb3 e0 e1 e2 e3 e4 e5 e6 e7 e8
      go_wp2_with ((at_builtin; refine app_any (w0 := w) w.heap.size (by rfl) _ _ 23 2 (.int .i64 0) 1 8 (by rfl) Try.underlying23 info_i64 rfl (by omega) (by omega) _ (by rfl) 1 1 [.int .i64 (cntL bs f)] (by rfl) (by rfl) (by simp [Value.oneCell']) O hB3 hB4 (by omega) ?_; intro A2 c2 w4 O2 HBn hg2))
      rw [← nums_snoc, ← show gfTo xs bs (k + 1) = gfTo xs bs k ++ [cntL bs f] from gfTo_succ HX.out] at O2
      go_wp2_with fail
      go_roundw
      case rel => exact ⟨k + 1, A2, c2, by omega, by go_num, rfl, O2, HBn⟩
      case measure => simp [intOf]; omega
    · obtain rfl : k = n := by omega
      go_wp2_with fail
      go_ret2
      exact ⟨A', c', rfl, O, hB⟩
end Go.Proofs.Ytppkcihdgedgoaa
