/- Contracts: MedianLength. -/
import Derived.Test.YtbkhlcbnnjgdpaaGreatDoorR2
namespace Go.Proofs.YtbkhlcbnnjgdpaaGreatDoor
open Go.RowKit
set_option linter.unusedVariables false
set_option linter.unusedSimpArgs false
def psum (L : List Int) : Nat → Int
  | 0 => 0
  | k + 1 => psum L k + L.getD k 0
theorem psum_rng {L : List Int} (h : heapOk L = true) : ∀ k : Nat, k ≤ 8 → 0 ≤ psum L k ∧ psum L k ≤ 1000 * k
  | 0, _ => by simp [psum]
  | k + 1, hk => by
    have ih := psum_rng h k (by omega)
    have hb := heapOk_at2 h k
    simp only [psum]
    omega
theorem psum_mono {L : List Int} (h : heapOk L = true) (k : Nat) : ∀ d : Nat, psum L k ≤ psum L (k + d)
  | 0 => by simp
  | d + 1 => by
    have ih := psum_mono h k d
    have hb := heapOk_at2 h (k + d)
    rw [← Nat.add_assoc]
    simp only [psum]
    omega
theorem psum_all (L : List Int) : psum L 8 = hsL L := by
  simp [psum, hsL, hS]
def mdnTo (L : List Int) : Nat → Int
  | 0 => 0
  | k + 1 => if 2 * psum L k < hsL L then (k : Int) else mdnTo L k
def mdn (L : List Int) : Int := mdnTo L 8
theorem mdnTo_eq {L : List Int} {k : Nat} (h1 : ∀ j, j < k → 2 * psum L j < hsL L) (h2 : ∀ j, k ≤ j → ¬ 2 * psum L j < hsL L) (h0 : 0 < k) : ∀ n : Nat, k ≤ n → mdnTo L n = (k : Int) - 1
  | 0, h => absurd h (by omega)
  | n + 1, h => by
    simp only [mdnTo]
    by_cases hn : n < k
    · rw [if_pos (h1 n hn)]
      omega
    · rw [if_neg (h2 n (by omega))]
      exact mdnTo_eq h1 h2 h0 n (by omega)
set_option maxHeartbeats 1000000 in
theorem iMedianLength (a0 a1 a2 a3 a4 a5 a6 a7 : Int) (w : World) (ha : Hid (∀ x ∈ [a0, a1, a2, a3, a4, a5, a6, a7], (Lit.int .i32 x).wf = true)) :
    Calls Tryz.prog 26 #[.agg #[.int .i32 a0, .int .i32 a1, .int .i32 a2, .int .i32 a3, .int .i32 a4, .int .i32 a5, .int .i32 a6, .int .i32 a7]] w fun e w' => e = .returned (.tuple #[.int .i64 (jn (smC [a0, a1, a2, a3, a4, a5, a6, a7]) (mdn [a0, a1, a2, a3, a4, a5, a6, a7])), .int .i64 (smC [a0, a1, a2, a3, a4, a5, a6, a7])]) ∧ Below w.heap.size w w' := by
  have X0 : Hid (Row (w.alloc (.cells #[.int .i32 a0, .int .i32 a1, .int .i32 a2, .int .i32 a3, .int .i32 a4, .int .i32 a5, .int .i32 a6, .int .i32 a7] 25)) (w.heap.size) 25 [.int .i32 a0, .int .i32 a1, .int .i32 a2, .int .i32 a3, .int .i32 a4, .int .i32 a5, .int .i32 a6, .int .i32 a7]) := Lib.hid (by have := (Row.alloc w [.int .i32 a0, .int .i32 a1, .int .i32 a2, .int .i32 a3, .int .i32 a4, .int .i32 a5, .int .i32 a6, .int .i32 a7] 25); (try simp only [World.size_alloc] at this); exact this)
  have HB : Hid (Below w.heap.size w (w.alloc (.cells #[.int .i32 a0, .int .i32 a1, .int .i32 a2, .int .i32 a3, .int .i32 a4, .int .i32 a5, .int .i32 a6, .int .i32 a7] 25))) := Lib.hid (by go_grown)
  have hcs : smC [a0, a1, a2, a3, a4, a5, a6, a7] = 0 ∨ smC [a0, a1, a2, a3, a4, a5, a6, a7] = 1 ∨ smC [a0, a1, a2, a3, a4, a5, a6, a7] = 6 := by unfold smC; split <;> (try split) <;> simp
  rcases hcs with hc | hc | hc
  rotate_left
  · have HC_ := Lib.hid hc; clear hc
    go_enter Tryz.func26, Tryz.ntmps26
    obtain ⟨cX0_0, cX0_1, cX0_2, cX0_3, cX0_4, cX0_5, cX0_6, cX0_7⟩ := X0.out.cells8
    go_wp2_with fail
    have RS := Lib.hid (rds_one (Row.alloc (w.alloc (.cells #[.int .i32 a0, .int .i32 a1, .int .i32 a2, .int .i32 a3, .int .i32 a4, .int .i32 a5, .int .i32 a6, .int .i32 a7] 25)) [.int .i32 a0, .int .i32 a1, .int .i32 a2, .int .i32 a3, .int .i32 a4, .int .i32 a5, .int .i32 a6, .int .i32 a7] 25))
    (try simp only [World.size_alloc] at RS)
    replace HB := Lib.hid (HB.out.alloc HB.out.size (.cells #[.int .i32 a0, .int .i32 a1, .int .i32 a2, .int .i32 a3, .int .i32 a4, .int .i32 a5, .int .i32 a6, .int .i32 a7] 25))
    replace X0 := Lib.hid (X0.out.below (below_alloc1 _ (.cells #[.int .i32 a0, .int .i32 a1, .int .i32 a2, .int .i32 a3, .int .i32 a4, .int .i32 a5, .int .i32 a6, .int .i32 a7] 25)))
    refine (woolCode_any [[a0, a1, a2, a3, a4, a5, a6, a7]] hid8_one (hidw_one ha) _ 1 1 _ RS.out).mono ?_
    rintro e w1 ⟨rfl, hb⟩
    rw [woC_one, HC_.out]
    clear cX0_0 cX0_1 cX0_2 cX0_3 cX0_4 cX0_5 cX0_6 cX0_7
    replace HB := Lib.hid (below_then HB.out HB.out.size hb)
    replace X0 := Lib.hid (X0.out.below hb)
    have hz1 := hb.size
    (try simp only [World.size_alloc] at hz1)
    clear hb
    go_wp2_with fail
    have hB := HB.out
    go_ret2
    exact ⟨by rw [HC_.out]; simp [jn], by go_grown⟩
  · have HC_ := Lib.hid hc; clear hc
    go_enter Tryz.func26, Tryz.ntmps26
    obtain ⟨cX0_0, cX0_1, cX0_2, cX0_3, cX0_4, cX0_5, cX0_6, cX0_7⟩ := X0.out.cells8
    go_wp2_with fail
    have RS := Lib.hid (rds_one (Row.alloc (w.alloc (.cells #[.int .i32 a0, .int .i32 a1, .int .i32 a2, .int .i32 a3, .int .i32 a4, .int .i32 a5, .int .i32 a6, .int .i32 a7] 25)) [.int .i32 a0, .int .i32 a1, .int .i32 a2, .int .i32 a3, .int .i32 a4, .int .i32 a5, .int .i32 a6, .int .i32 a7] 25))
    (try simp only [World.size_alloc] at RS)
    replace HB := Lib.hid (HB.out.alloc HB.out.size (.cells #[.int .i32 a0, .int .i32 a1, .int .i32 a2, .int .i32 a3, .int .i32 a4, .int .i32 a5, .int .i32 a6, .int .i32 a7] 25))
    replace X0 := Lib.hid (X0.out.below (below_alloc1 _ (.cells #[.int .i32 a0, .int .i32 a1, .int .i32 a2, .int .i32 a3, .int .i32 a4, .int .i32 a5, .int .i32 a6, .int .i32 a7] 25)))
    refine (woolCode_any [[a0, a1, a2, a3, a4, a5, a6, a7]] hid8_one (hidw_one ha) _ 1 1 _ RS.out).mono ?_
    rintro e w1 ⟨rfl, hb⟩
    rw [woC_one, HC_.out]
    clear cX0_0 cX0_1 cX0_2 cX0_3 cX0_4 cX0_5 cX0_6 cX0_7
    replace HB := Lib.hid (below_then HB.out HB.out.size hb)
    replace X0 := Lib.hid (X0.out.below hb)
    have hz1 := hb.size
    (try simp only [World.size_alloc] at hz1)
    clear hb
    go_wp2_with fail
    have hB := HB.out
    go_ret2
    exact ⟨by rw [HC_.out]; simp [jn], by go_grown⟩
  · have hk : heapOk [a0, a1, a2, a3, a4, a5, a6, a7] = true := by
      cases h : heapOk [a0, a1, a2, a3, a4, a5, a6, a7]
      · simp [smC, h] at hc
      · rfl
    have hp : 0 < hsL [a0, a1, a2, a3, a4, a5, a6, a7] := by
      by_cases h : 0 < hsL [a0, a1, a2, a3, a4, a5, a6, a7]
      · exact h
      · simp [smC, hk, h] at hc
    have hsl : hsL [a0, a1, a2, a3, a4, a5, a6, a7] = hS a0 a1 a2 a3 a4 a5 a6 a7 := rfl
    have hr := hS_rng hk
    rw [← hsl] at hr
    have HP := Lib.hid (fun k hk8 => psum_rng hk k hk8)
    have HA := Lib.hid (fun k => heapOk_at2 hk k)
    have HM := Lib.hid (fun k d => psum_mono hk k d)
    have IX := Lib.hid (idxB a0 a1 a2 a3 a4 a5 a6 a7)
    obtain ⟨S, hS_⟩ : ∃ S, hsL [a0, a1, a2, a3, a4, a5, a6, a7] = S := ⟨_, rfl⟩
    rw [hS_] at hr hp
    have HS : Hid (hS a0 a1 a2 a3 a4 a5 a6 a7 = S) := Lib.hid (hsl.symm.trans hS_); clear hsl
    have HC_ := Lib.hid hc; clear hc
    clear hk
    go_enter Tryz.func26, Tryz.ntmps26
    obtain ⟨cX0_0, cX0_1, cX0_2, cX0_3, cX0_4, cX0_5, cX0_6, cX0_7⟩ := X0.out.cells8
    go_wp2_with fail
    have RS := Lib.hid (rds_one (Row.alloc (w.alloc (.cells #[.int .i32 a0, .int .i32 a1, .int .i32 a2, .int .i32 a3, .int .i32 a4, .int .i32 a5, .int .i32 a6, .int .i32 a7] 25)) [.int .i32 a0, .int .i32 a1, .int .i32 a2, .int .i32 a3, .int .i32 a4, .int .i32 a5, .int .i32 a6, .int .i32 a7] 25))
    (try simp only [World.size_alloc] at RS)
    replace HB := Lib.hid (HB.out.alloc HB.out.size (.cells #[.int .i32 a0, .int .i32 a1, .int .i32 a2, .int .i32 a3, .int .i32 a4, .int .i32 a5, .int .i32 a6, .int .i32 a7] 25))
    replace X0 := Lib.hid (X0.out.below (below_alloc1 _ (.cells #[.int .i32 a0, .int .i32 a1, .int .i32 a2, .int .i32 a3, .int .i32 a4, .int .i32 a5, .int .i32 a6, .int .i32 a7] 25)))
    refine (woolCode_any [[a0, a1, a2, a3, a4, a5, a6, a7]] hid8_one (hidw_one ha) _ 1 1 _ RS.out).mono ?_
    rintro e w1 ⟨rfl, hb⟩
    rw [woC_one, HC_.out]
    clear cX0_0 cX0_1 cX0_2 cX0_3 cX0_4 cX0_5 cX0_6 cX0_7
    replace HB := Lib.hid (below_then HB.out HB.out.size hb)
    replace X0 := Lib.hid (X0.out.below hb)
    have hz1 := hb.size
    (try simp only [World.size_alloc] at hz1)
    clear hb
    obtain ⟨cX0_0, cX0_1, cX0_2, cX0_3, cX0_4, cX0_5, cX0_6, cX0_7⟩ := X0.out.cells8
    go_wp2_with fail
    clear cX0_0 cX0_1 cX0_2 cX0_3 cX0_4 cX0_5 cX0_6 cX0_7
    obtain ⟨LA, hLA⟩ : ∃ L, L = [a0, a1, a2, a3, a4, a5, a6, a7] := ⟨_, rfl⟩
    have hb0 := HB.out
    have HSL : Hid (hsL LA = S) := Lib.hid (by rw [hLA]; exact hS_)
    have HS_ := Lib.hid hS_; clear hS_
    go_loopw [5, 6, 16] (fun s m v wr => ∃ k : Nat, k ≤ 8 ∧ v = .int .i64 k ∧ s = .int .i64 (psum LA k) ∧ m = .int .i64 (mdnTo LA k) ∧ Hid (Row wr w.heap.size 25 [.int .i32 a0, .int .i32 a1, .int .i32 a2, .int .i32 a3, .int .i32 a4, .int .i32 a5, .int .i32 a6, .int .i32 a7]) ∧ Below w.heap.size w wr) (fun _ _ v _ => 8 - (intOf v).toNat)
    case atStart => exact ⟨0, by omega, rfl, rfl, rfl, X0, hb0⟩
    case round =>
      obtain ⟨k, hk, rfl, rfl, rfl, Y0, hB⟩ := hrel
      clear X0 HB hb0
      have X0 := Y0; clear Y0
      have HB := Lib.hid hB; clear hB
      by_cases hlt : k < 8
      · have hb := HA.out k
        have hp1 := HP.out k hk
        have ix := IX.out k hlt
        rw [← hLA] at hb hp1 ix
        have HL := Lib.hid hLA; clear hLA
        obtain ⟨x, hx⟩ : ∃ x, LA.getD k 0 = x := ⟨_, rfl⟩
        rw [hx] at hb ix
        have HX := Lib.hid hx; clear hx
        obtain ⟨P, hP⟩ : ∃ P, psum LA k = P := ⟨_, rfl⟩
        rw [hP] at hp1 ⊢
        have HPk := Lib.hid hP; clear hP
        obtain ⟨cX0_0, cX0_1, cX0_2, cX0_3, cX0_4, cX0_5, cX0_6, cX0_7⟩ := X0.out.cells8
        by_cases hlt2 : 2 * P < S
        all_goals
          go_wp2_with fail
          refine (all_any a0 a1 a2 a3 a4 a5 a6 a7 _ ha).mono ?_
          rintro e w2 ⟨rfl, hb⟩
          rw [HS.out]
          clear cX0_0 cX0_1 cX0_2 cX0_3 cX0_4 cX0_5 cX0_6 cX0_7
          replace HB := Lib.hid (below_then HB.out HB.out.size hb)
          replace X0 := Lib.hid (X0.out.below hb)
          have hz2 := hb.size
          (try simp only [World.size_alloc] at hz2)
          clear hb
          have hB := HB.out
          have hst : mdnTo LA (k + 1) = if 2 * P < S then (k : Int) else mdnTo LA k := by simp only [mdnTo]; rw [HPk.out, HSL.out]
          first | rw [if_pos (by omega)] at hst | rw [if_neg (by omega)] at hst
          have HST := Lib.hid hst; clear hst
          go_wp2_with fail
          go_roundw
          case rel => exact ⟨k + 1, by omega, by go_num, by simp only [psum]; rw [HX.out, HPk.out], by rw [HST.out], X0, hB⟩
          case measure => simp [intOf]; omega
      · obtain rfl : k = 8 := by omega
        rw [hLA]
        clear hLA
        go_wp2_with fail
        have hB := HB.out
        go_ret2
        exact ⟨by rw [HC_.out]; rfl, by go_grown⟩
set_option maxHeartbeats 1000000 in
theorem sMedianLength (a0 a1 a2 a3 a4 a5 a6 a7 : Int) (w : World) (ha : Hid (∀ x ∈ [a0, a1, a2, a3, a4, a5, a6, a7], (Lit.int .i32 x).wf = true)) :
    Calls Tryz.prog 27 #[.agg #[.int .i32 a0, .int .i32 a1, .int .i32 a2, .int .i32 a3, .int .i32 a4, .int .i32 a5, .int .i32 a6, .int .i32 a7]] w fun e w' => e = .returned (.tuple #[.int .i64 (jn (smC [a0, a1, a2, a3, a4, a5, a6, a7]) (mdn [a0, a1, a2, a3, a4, a5, a6, a7])), .int .i64 (smC [a0, a1, a2, a3, a4, a5, a6, a7])]) ∧ Below w.heap.size w w' := by
  have X0 : Hid (Row (w.alloc (.cells #[.int .i32 a0, .int .i32 a1, .int .i32 a2, .int .i32 a3, .int .i32 a4, .int .i32 a5, .int .i32 a6, .int .i32 a7] 25)) (w.heap.size) 25 [.int .i32 a0, .int .i32 a1, .int .i32 a2, .int .i32 a3, .int .i32 a4, .int .i32 a5, .int .i32 a6, .int .i32 a7]) := Lib.hid (by have := (Row.alloc w [.int .i32 a0, .int .i32 a1, .int .i32 a2, .int .i32 a3, .int .i32 a4, .int .i32 a5, .int .i32 a6, .int .i32 a7] 25); (try simp only [World.size_alloc] at this); exact this)
  have HB : Hid (Below w.heap.size w (w.alloc (.cells #[.int .i32 a0, .int .i32 a1, .int .i32 a2, .int .i32 a3, .int .i32 a4, .int .i32 a5, .int .i32 a6, .int .i32 a7] 25))) := Lib.hid (by go_grown)
  have hcs : smC [a0, a1, a2, a3, a4, a5, a6, a7] = 0 ∨ smC [a0, a1, a2, a3, a4, a5, a6, a7] = 1 ∨ smC [a0, a1, a2, a3, a4, a5, a6, a7] = 6 := by unfold smC; split <;> (try split) <;> simp
  rcases hcs with hc | hc | hc
  rotate_left
  · have HC_ := Lib.hid hc; clear hc
    go_enter Tryz.func27, Tryz.ntmps27
    go_wp2_with fail
    refine (l01Some_any _ _ a0 a1 a2 a3 a4 a5 a6 a7 _ X0.out ha).mono ?_
    rintro e w_ ⟨rfl, rfl⟩
    rw [HC_.out]
    go_wp2_with fail
    have hB := HB.out
    go_ret2
    exact ⟨by rw [HC_.out]; simp [jn], by go_grown⟩
  · have HC_ := Lib.hid hc; clear hc
    go_enter Tryz.func27, Tryz.ntmps27
    go_wp2_with fail
    refine (l01Some_any _ _ a0 a1 a2 a3 a4 a5 a6 a7 _ X0.out ha).mono ?_
    rintro e w_ ⟨rfl, rfl⟩
    rw [HC_.out]
    go_wp2_with fail
    have hB := HB.out
    go_ret2
    exact ⟨by rw [HC_.out]; simp [jn], by go_grown⟩
  · have hk : heapOk [a0, a1, a2, a3, a4, a5, a6, a7] = true := by
      cases h : heapOk [a0, a1, a2, a3, a4, a5, a6, a7]
      · simp [smC, h] at hc
      · rfl
    have hp : 0 < hsL [a0, a1, a2, a3, a4, a5, a6, a7] := by
      by_cases h : 0 < hsL [a0, a1, a2, a3, a4, a5, a6, a7]
      · exact h
      · simp [smC, hk, h] at hc
    have hsl : hsL [a0, a1, a2, a3, a4, a5, a6, a7] = hS a0 a1 a2 a3 a4 a5 a6 a7 := rfl
    have hr := hS_rng hk
    rw [← hsl] at hr
    have HP := Lib.hid (fun k hk8 => psum_rng hk k hk8)
    have HA := Lib.hid (fun k => heapOk_at2 hk k)
    have HM := Lib.hid (fun k d => psum_mono hk k d)
    have IX := Lib.hid (idxB a0 a1 a2 a3 a4 a5 a6 a7)
    obtain ⟨S, hS_⟩ : ∃ S, hsL [a0, a1, a2, a3, a4, a5, a6, a7] = S := ⟨_, rfl⟩
    rw [hS_] at hr hp
    have HS : Hid (hS a0 a1 a2 a3 a4 a5 a6 a7 = S) := Lib.hid (hsl.symm.trans hS_); clear hsl
    have HC_ := Lib.hid hc; clear hc
    clear hk
    go_enter Tryz.func27, Tryz.ntmps27
    go_wp2_with fail
    refine (l01Some_any _ _ a0 a1 a2 a3 a4 a5 a6 a7 _ X0.out ha).mono ?_
    rintro e w_ ⟨rfl, rfl⟩
    rw [HC_.out]
    go_wp2_with fail
    refine (l01Grams_any _ _ a0 a1 a2 a3 a4 a5 a6 a7 _ X0.out ha).mono ?_
    rintro e w_ ⟨rfl, rfl⟩
    rw [HS.out]
    obtain ⟨cX0_0, cX0_1, cX0_2, cX0_3, cX0_4, cX0_5, cX0_6, cX0_7⟩ := X0.out.cells8
    go_wp2_with fail
    clear cX0_0 cX0_1 cX0_2 cX0_3 cX0_4 cX0_5 cX0_6 cX0_7
    obtain ⟨LA, hLA⟩ : ∃ L, L = [a0, a1, a2, a3, a4, a5, a6, a7] := ⟨_, rfl⟩
    have hb0 := HB.out
    have HSL : Hid (hsL LA = S) := Lib.hid (by rw [hLA]; exact hS_)
    have HS_ := Lib.hid hS_; clear hS_
    go_loopw [6, 7] (fun s v wr => ∃ k : Nat, k ≤ 8 ∧ v = .int .i64 k ∧ s = .int .i64 (psum LA k) ∧ Hid (∀ j, j < k → 2 * psum LA j < S) ∧ Hid (Row wr w.heap.size 25 [.int .i32 a0, .int .i32 a1, .int .i32 a2, .int .i32 a3, .int .i32 a4, .int .i32 a5, .int .i32 a6, .int .i32 a7]) ∧ Below w.heap.size w wr) (fun _ v _ => 8 - (intOf v).toNat)
    case atStart => exact ⟨0, by omega, rfl, rfl, Lib.hid (by intro j h; omega), X0, hb0⟩
    case round =>
      obtain ⟨k, hk, rfl, rfl, HJ, Y0, hB⟩ := hrel
      clear X0 HB hb0
      have X0 := Y0; clear Y0
      have hp1 := HP.out k hk
      rw [← hLA] at hp1
      obtain ⟨P, hP⟩ : ∃ P, psum LA k = P := ⟨_, rfl⟩
      rw [hP] at hp1 ⊢
      by_cases hlt2 : 2 * P < S
      · have hlt : k < 8 := by
          by_cases h : k < 8
          · exact h
          · obtain rfl : k = 8 := by omega
            rw [psum_all, HSL.out] at hP
            omega
        have hb := HA.out k
        have cx := X0.out.cell k
        rw [show ([.int .i32 a0, .int .i32 a1, .int .i32 a2, .int .i32 a3, .int .i32 a4, .int .i32 a5, .int .i32 a6, .int .i32 a7] : List Value) = nums .i32 LA from by rw [hLA]; rfl, list_at2 (by rw [hLA]; rfl) hlt] at cx
        rw [← hLA] at hb
        have HL := Lib.hid hLA; clear hLA
        obtain ⟨x, hx⟩ : ∃ x, LA.getD k 0 = x := ⟨_, rfl⟩
        rw [hx] at hb cx
        have HX := Lib.hid hx; clear hx
        have HPk := Lib.hid hP; clear hP
        go_wp2_with fail
        go_roundw
        case rel =>
          refine ⟨k + 1, by omega, by go_num, by simp only [psum]; rw [HX.out, HPk.out], Lib.hid ?_, X0, hB⟩
          intro j hj
          by_cases hjk : j = k
          · subst hjk; rw [HPk.out]; exact hlt2
          · exact HJ.out j (by omega)
        case measure => simp [intOf]; omega
      · have hk0 : 0 < k := by
          rcases Nat.eq_zero_or_pos k with rfl | h
          · simp only [psum] at hP; omega
          · exact h
        have hm : mdn LA = (k : Int) - 1 := by
          refine mdnTo_eq ?_ ?_ hk0 8 hk
          · intro j hj; rw [HSL.out]; exact HJ.out j hj
          · intro j hj
            have := HM.out k (j - k)
            rw [show k + (j - k) = j by omega, ← hLA, hP] at this
            rw [HSL.out]; omega
        rw [hLA] at hm
        have HMD := Lib.hid hm; clear hm hP hLA
        go_wp2_with fail
        go_ret2
        exact ⟨by rw [HC_.out, HMD.out]; rfl, by go_grown⟩
end Go.Proofs.YtbkhlcbnnjgdpaaGreatDoor
