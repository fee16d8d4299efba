/- Contracts: RestOf. -/
import Derived.Test.YthllecfbpipagaaB3
import Derived.Test.YthllecfbpipagaaY2
namespace Go.Proofs.Ythllecfbpipagaa
open Go.RowKit
set_option linter.unusedVariables false
set_option linter.unusedSimpArgs false
def yOk (y : Int × Int × Int) : Bool := yarnOk y.1 y.2.1 y.2.2
def yrC (xs : List (Int × Int × Int)) (f : Bool) : Int := if xs.all yOk = false then 1 else if f = false then 2 else if 10 < xs.length then 3 else 0
def plsC (xs : List (Int × Int × Int)) (t : Int) : Int := if yrC xs (inB t (-2000) 2000) = 0 then (if inB xs.length 2 6 then 0 else 4) else yrC xs (inB t (-2000) 2000)
def rsum (xs : List (Int × Int × Int)) (t : Int) : Nat → Int
  | 0 => 0
  | k + 1 => rsum xs t k + ((((xs.map fun y => y.2.1).getD k 0) + t).natAbs : Int)
def reV (xs : List (Int × Int × Int)) (t : Int) : Int := if plsC xs t = 0 then rsum xs t xs.length else 0
theorem tw_at {xs : List (Int × Int × Int)} {k : Nat} {x : Int × Int × Int} (h : xs[k]? = some x) : (xs.map fun y => y.2.1).getD k 0 = x.2.1 := by
  simp [List.getD, h]
theorem tw_rng {xs : List (Int × Int × Int)} (h : xs.all yOk = true) (k : Nat) : -2000 ≤ (xs.map fun y => y.2.1).getD k 0 ∧ (xs.map fun y => y.2.1).getD k 0 ≤ 2000 := by
  cases hx : xs[k]? with
  | none => simp [List.getD, hx]
  | some x =>
    rw [tw_at hx]
    have := (List.all_eq_true.1 h) x (List.mem_of_getElem? hx)
    exact (yarnOk_bounds this).2.1
theorem rsum_rng {xs : List (Int × Int × Int)} {t : Int} (h : xs.all yOk = true) (ht : -2000 ≤ t ∧ t ≤ 2000) : ∀ k : Nat, 0 ≤ rsum xs t k ∧ rsum xs t k ≤ 4000 * k
  | 0 => by simp [rsum]
  | k + 1 => by
    have ih := rsum_rng h ht k
    have hb := tw_rng h k
    simp only [rsum]
    omega
theorem plsC_0 {xs : List (Int × Int × Int)} {t : Int} (h : plsC xs t = 0) : xs.all yOk = true ∧ (-2000 ≤ t ∧ t ≤ 2000) ∧ xs.length ≤ 6 := by
  unfold plsC at h
  split at h
  · rename_i h1
    unfold yrC at h1
    cases h2 : xs.all yOk
    · simp [h2] at h1
    · cases h3 : inB t (-2000) 2000
      · simp [h2, h3] at h1
      · refine ⟨rfl, by simpa [inB] using h3, ?_⟩
        split at h
        · rename_i h4
          simp only [inB, decide_eq_true_eq] at h4
          omega
        · omega
  · rename_i h1
    exact absurd h h1
theorem yarnsCode_any (A : Option Addr) (n c : Nat) (xs : List (Int × Int × Int)) (f : Bool) (w : World) (R : Rds w A n 3 YC xs) (g : Hid (∀ x ∈ xs, ((Lit.int .i16 x.1).wf = true ∧ (Lit.int .i16 x.2.1).wf = true ∧ (Lit.int .i16 x.2.2).wf = true))) : Calls Try.prog 55 #[.slice A n c, .bool f] w fun e w' => e = .returned (.int .i64 (yrC xs f)) ∧ Below w.heap.size w w' := by
  have hn := R.2.1
  have hxl := R.1
  cases h1 : xs.all yOk
  · have HC := Lib.hid (show yrC xs f = 1 by simp [yrC, h1]); have H1 := Lib.hid h1; clear h1 hxl
    go_enter Try.func55, Try.ntmps55
    go_wp2_with fail
    refine (areAll_Y (p := yOk) (enters_of Try.func31 rfl (by decide)) (Lib.hid fun a b c w hx => iValidYarn a b c (bounds_i16 (g.out _ hx).1) (bounds_i16 (g.out _ hx).2.1) (bounds_i16 (g.out _ hx).2.2) w) _ n c _ R).mono ?_
    rintro e w1 ⟨rfl, hb⟩
    rw [H1.out]
    go_wp2_with fail
    go_ret
    exact ⟨by rw [HC.out]; rfl, hb⟩
  · have hcs : (f = false ∧ yrC xs f = 2) ∨ (f = true ∧ 10 < n ∧ yrC xs f = 3) ∨ (f = true ∧ ¬ 10 < n ∧ yrC xs f = 0) := by
      cases f
      · left; simp [yrC, h1]
      · right
        by_cases h2 : 10 < n
        · left; simp [yrC, h1, hxl, h2]
        · right; simp [yrC, h1, hxl, h2]
    rcases hcs with ⟨rfl, hc⟩ | ⟨rfl, h2, hc⟩ | ⟨rfl, h2, hc⟩
    all_goals
      have HC := Lib.hid hc; have H1 := Lib.hid h1; clear h1 hc hxl
      go_enter Try.func55, Try.ntmps55
      go_wp2_with fail
      refine (areAll_Y (p := yOk) (enters_of Try.func31 rfl (by decide)) (Lib.hid fun a b c w hx => iValidYarn a b c (bounds_i16 (g.out _ hx).1) (bounds_i16 (g.out _ hx).2.1) (bounds_i16 (g.out _ hx).2.2) w) _ n c _ R).mono ?_
      rintro e w1 ⟨rfl, hb⟩
      rw [H1.out]
      go_wp2_with fail
      go_ret
      exact ⟨by rw [HC.out]; rfl, hb⟩
theorem l03Asked_any (A : Option Addr) (n c : Nat) (xs : List (Int × Int × Int)) (f : Bool) (w : World) (R : Rds w A n 3 YC xs) (g : Hid (∀ x ∈ xs, ((Lit.int .i16 x.1).wf = true ∧ (Lit.int .i16 x.2.1).wf = true ∧ (Lit.int .i16 x.2.2).wf = true))) : Calls Try.prog 53 #[.slice A n c, .bool f] w fun e w' => e = .returned (.int .i64 (yrC xs f)) ∧ Below w.heap.size w w' := by
  have hn := R.2.1
  have hxl := R.1
  have HXL := Lib.hid hxl; clear hxl
  go_enter Try.func53, Try.ntmps53
  go_wp2_with fail
  go_loopw [5] (fun v wr => ∃ k : Nat, k ≤ n ∧ v = .int .i64 k ∧ Hid (∀ j x, j < k → xs[j]? = some x → yOk x = true) ∧ Below w.heap.size w wr) (fun v _ => n - (intOf v).toNat)
  case atStart => exact ⟨0, by omega, rfl, Lib.hid (by intro j x h; omega), Below.refl _ _⟩
  case round =>
    obtain ⟨j, hj, rfl, HJ, hB⟩ := hrel
    by_cases hlt : j < n
    · obtain ⟨ad, x, rfl, hx, e0, e1, e2⟩ := (R.below hB).yarn hlt
      have hg := g.out x (List.mem_of_getElem? hx)
      have b0 := bounds_i16 hg.1
      have b1 := bounds_i16 hg.2.1
      have b2 := bounds_i16 hg.2.2
      clear hg
      cases hy : yOk x
      · have hall : xs.all yOk = false := by
          rw [List.all_eq_false]
          exact ⟨x, List.mem_of_getElem? hx, by simp [hy]⟩
        have HC := Lib.hid (show yrC xs f = 1 by simp [yrC, hall])
        have HY := Lib.hid (show yarnOk x.1 x.2.1 x.2.2 = false from hy); clear hy hall hx
        go_wp2_with fail
        refine (sl03Yarn x.1 x.2.1 x.2.2 b0 b1 b2 _).mono ?_
        rintro e w1 ⟨rfl, hb⟩
        rw [HY.out]
        have hB1 := below_then hB hB.size hb
        clear hb
        go_wp2_with fail
        go_ret
        exact ⟨by rw [HC.out]; rfl, hB1⟩
      · have HX := Lib.hid hx; have HY := Lib.hid (show yarnOk x.1 x.2.1 x.2.2 = true from hy); have HY2 := Lib.hid hy; clear hy hx
        go_wp2_with fail
        refine (sl03Yarn x.1 x.2.1 x.2.2 b0 b1 b2 _).mono ?_
        rintro e w1 ⟨rfl, hb⟩
        rw [HY.out]
        have hB1 := below_then hB hB.size hb
        clear hb
        go_wp2_with fail
        go_roundw
        case rel =>
          refine ⟨j + 1, by omega, by go_num, Lib.hid ?_, hB1⟩
          intro i y hi hy
          by_cases hij : i = j
          · subst hij
            rw [HX.out] at hy
            cases hy
            exact HY2.out
          · exact HJ.out i y (by omega) hy
        case measure => simp [intOf]; omega
    · obtain rfl : j = n := by omega
      have hall : xs.all yOk = true := by
        rw [List.all_eq_true]
        intro x hx
        obtain ⟨i, hi, he⟩ := List.mem_iff_getElem.1 hx
        exact HJ.out i x (by have := HXL.out; omega) (by rw [List.getElem?_eq_getElem hi, he])
      have hcs : (f = false ∧ yrC xs f = 2) ∨ (f = true ∧ 10 < j ∧ yrC xs f = 3) ∨ (f = true ∧ ¬ 10 < j ∧ yrC xs f = 0) := by
        have hxl := HXL.out
        cases f
        · left; simp [yrC, hall]
        · right
          by_cases h2 : 10 < j
          · left; simp [yrC, hall, hxl, h2]
          · right; simp [yrC, hall, hxl, h2]
      clear hall
      rcases hcs with ⟨rfl, hc⟩ | ⟨rfl, h2, hc⟩ | ⟨rfl, h2, hc⟩
      all_goals
        have HC := Lib.hid hc; clear hc
        go_wp2_with fail
        go_ret
        exact ⟨by rw [HC.out]; rfl, hB⟩
theorem isTurns_any (t : Int) (w : World) : Calls Try.prog 56 #[.int .i64 t] w fun e w' => e = .returned (.bool (inB t (-2000) 2000)) ∧ w = w' := by
  go_enter Try.func56, Try.ntmps56
  go_wp2_with (go_at_call 37; (refine (within_any _ _ _ _).mono ?_); rintro e w' ⟨rfl, rfl⟩)
  go_ret
  exact ⟨rfl, rfl⟩
theorem lengthY_any (A : Option Addr) (n c : Nat) (w : World) (hn : n ≤ 140737488351232) : Calls Try.prog 57 #[.slice A n c] w fun e w' => e = .returned (.int .i64 n) ∧ w = w' := by
  go_enter Try.func57, Try.ntmps57
  go_wp2
  go_ret
  exact ⟨rfl, rfl⟩
theorem pliesCode_any (A : Option Addr) (n c : Nat) (xs : List (Int × Int × Int)) (t : Int) (w : World) (ht0 : -9223372036854775808 ≤ t ∧ t ≤ 9223372036854775807) (R : Rds w A n 3 YC xs) (g : Hid (∀ x ∈ xs, ((Lit.int .i16 x.1).wf = true ∧ (Lit.int .i16 x.2.1).wf = true ∧ (Lit.int .i16 x.2.2).wf = true))) : Calls Try.prog 46 #[.slice A n c, .int .i64 t] w fun e w' => e = .returned (.int .i64 (plsC xs t)) ∧ Below w.heap.size w w' := by
  have hn := R.2.1
  have hxl := R.1
  obtain ⟨q, hq⟩ : ∃ q, yrC xs (inB t (-2000) 2000) = q := ⟨_, rfl⟩
  by_cases h0 : q = 0
  · subst h0
    cases h2 : inB n 2 6
    all_goals
      have HC : Hid (plsC xs t = _) := Lib.hid (by unfold plsC; rw [hq, hxl, h2])
      simp only [if_true, Bool.false_eq_true, if_false] at HC
      have HQ := Lib.hid hq; have H2 := Lib.hid h2; clear h2 hxl
      go_enter Try.func46, Try.ntmps46
      go_wp2_with fail
      refine (isTurns_any _ _).mono ?_
      rintro e w_ ⟨rfl, rfl⟩
      go_wp2_with fail
      refine (yarnsCode_any A n c xs _ _ R g).mono ?_
      rintro e w1 ⟨rfl, hb⟩
      rw [HQ.out]
      go_wp2_with (first | (go_at_call 57; (refine (lengthY_any _ _ _ _ hn).mono ?_); rintro e w' ⟨rfl, rfl⟩) | (go_at_call 37; (refine (within_any _ _ _ _).mono ?_); rintro e w' ⟨rfl, rfl⟩; rw [H2.out]))
      go_ret
      exact ⟨by rw [HC.out]; rfl, hb⟩
  · have hne : (q == 0) = false := by simpa using h0
    have hne2 : (q != 0) = true := by simpa using h0
    have HC : Hid (plsC xs t = q) := Lib.hid (by unfold plsC; rw [hq, if_neg h0])
    have HQ := Lib.hid hq; clear hxl hq
    go_enter Try.func46, Try.ntmps46
    go_wp2_with fail
    refine (isTurns_any _ _).mono ?_
    rintro e w_ ⟨rfl, rfl⟩
    go_wp2_with fail
    refine (yarnsCode_any A n c xs _ _ R g).mono ?_
    rintro e w1 ⟨rfl, hb⟩
    rw [HQ.out]
    go_wp2_with fail
    go_ret
    exact ⟨by rw [HC.out]; rfl, hb⟩
theorem l03Plies_any (A : Option Addr) (n c : Nat) (xs : List (Int × Int × Int)) (t : Int) (w : World) (ht0 : -9223372036854775808 ≤ t ∧ t ≤ 9223372036854775807) (R : Rds w A n 3 YC xs) (g : Hid (∀ x ∈ xs, ((Lit.int .i16 x.1).wf = true ∧ (Lit.int .i16 x.2.1).wf = true ∧ (Lit.int .i16 x.2.2).wf = true))) : Calls Try.prog 44 #[.slice A n c, .int .i64 t] w fun e w' => e = .returned (.int .i64 (plsC xs t)) ∧ Below w.heap.size w w' := by
  have hn := R.2.1
  have hxl := R.1
  obtain ⟨q, hq⟩ : ∃ q, yrC xs (inB t (-2000) 2000) = q := ⟨_, rfl⟩
  by_cases h0 : q = 0
  · subst h0
    cases h2 : inB n 2 6
    all_goals
      have HC : Hid (plsC xs t = _) := Lib.hid (by unfold plsC; rw [hq, hxl, h2])
      simp only [if_true, Bool.false_eq_true, if_false] at HC
      have HQ := Lib.hid hq; have H2 := Lib.hid h2; clear h2 hxl
      go_enter Try.func44, Try.ntmps44
      go_wp2_with fail
      refine (l00In_any _ _ _ _).mono ?_
      rintro e w_ ⟨rfl, rfl⟩
      go_wp2_with fail
      refine (l03Asked_any A n c xs _ _ R g).mono ?_
      rintro e w1 ⟨rfl, hb⟩
      rw [HQ.out]
      go_wp2_with (go_at_call 34; (refine (l00In_any _ _ _ _).mono ?_); rintro e w' ⟨rfl, rfl⟩; rw [H2.out])
      go_ret
      exact ⟨by rw [HC.out]; rfl, hb⟩
  · have hne : (q == 0) = false := by simpa using h0
    have hne2 : (q != 0) = true := by simpa using h0
    have HC : Hid (plsC xs t = q) := Lib.hid (by unfold plsC; rw [hq, if_neg h0])
    have HQ := Lib.hid hq; clear hxl hq
    go_enter Try.func44, Try.ntmps44
    go_wp2_with fail
    refine (l00In_any _ _ _ _).mono ?_
    rintro e w_ ⟨rfl, rfl⟩
    go_wp2_with fail
    refine (l03Asked_any A n c xs _ _ R g).mono ?_
    rintro e w1 ⟨rfl, hb⟩
    rw [HQ.out]
    go_wp2_with fail
    go_ret
    exact ⟨by rw [HC.out]; rfl, hb⟩
theorem rest_any (A : Option Addr) (n c : Nat) (xs : List (Int × Int × Int)) (t : Int) (w : World) (R : Rds w A n 3 YC xs) (ha : xs.all yOk = true) (ht : -2000 ≤ t ∧ t ≤ 2000) (hn6 : n ≤ 6) : Calls Try.prog 47 #[.slice A n c, .int .i64 t] w fun e w' => e = .returned (.int .i64 (rsum xs t n)) ∧ Below w.heap.size w w' := by
  have hn := R.2.1
  have HA := Lib.hid (fun k => rsum_rng ha ht k)
  have HT := Lib.hid (fun k => tw_rng ha k)
  clear ha
  go_enter Try.func47, Try.ntmps47
  go_wp2_with fail
  go_loopw [5, 10] (fun s v wr => ∃ k : Nat, k ≤ n ∧ v = .int .i64 k ∧ s = .int .i64 (rsum xs t k) ∧ Below w.heap.size w wr) (fun _ v _ => n - (intOf v).toNat)
  case atStart => exact ⟨0, by omega, rfl, rfl, Below.refl _ _⟩
  case round =>
    obtain ⟨j, hj, rfl, rfl, hB⟩ := hrel
    by_cases hlt : j < n
    · obtain ⟨ad, x, rfl, hx, e0, e1, e2⟩ := (R.below hB).yarn hlt
      have hs := HA.out j
      have hb := HT.out j
      rw [tw_at hx] at hb
      have HX := Lib.hid (tw_at hx); clear hx
      have hm : Mid (x.2.1 + t) := by unfold Mid; omega
      obtain ⟨P, hP⟩ : ∃ P, rsum xs t j = P := ⟨_, rfl⟩
      rw [hP] at hs ⊢
      have HP := Lib.hid hP; clear hP
      go_wp2_with fail
      refine (size_any _ _ hm).mono ?_
      rintro e w_ ⟨rfl, rfl⟩
      go_wp2_with fail
      go_roundw
      case rel => exact ⟨j + 1, by omega, by go_num, by simp only [rsum]; rw [HP.out, HX.out], by first | exact hB | exact hB.alloc hB.size _⟩
      case measure => simp [intOf]; omega
    · obtain rfl : j = n := by omega
      go_wp2_with fail
      go_ret
      exact ⟨rfl, hB⟩
theorem l03Rest_any (A : Option Addr) (n c : Nat) (xs : List (Int × Int × Int)) (t : Int) (w : World) (R : Rds w A n 3 YC xs) (ha : xs.all yOk = true) (ht : -2000 ≤ t ∧ t ≤ 2000) (hn6 : n ≤ 6) : Calls Try.prog 45 #[.slice A n c, .int .i64 t] w fun e w' => e = .returned (.int .i64 (rsum xs t n)) ∧ Below w.heap.size w w' := by
  have hn := R.2.1
  have HA := Lib.hid (fun k => rsum_rng ha ht k)
  have HT := Lib.hid (fun k => tw_rng ha k)
  clear ha
  go_enter Try.func45, Try.ntmps45
  go_wp2_with fail
  go_loopw [5, 6] (fun s v wr => ∃ k : Nat, k ≤ n ∧ v = .int .i64 k ∧ s = .int .i64 (rsum xs t k) ∧ Below w.heap.size w wr) (fun _ v _ => n - (intOf v).toNat)
  case atStart => exact ⟨0, by omega, rfl, rfl, Below.refl _ _⟩
  case round =>
    obtain ⟨j, hj, rfl, rfl, hB⟩ := hrel
    by_cases hlt : j < n
    · obtain ⟨ad, x, rfl, hx, e0, e1, e2⟩ := (R.below hB).yarn hlt
      have hs := HA.out j
      have hb := HT.out j
      rw [tw_at hx] at hb
      have HX := Lib.hid (tw_at hx); clear hx
      have hm : Mid (x.2.1 + t) := by unfold Mid; omega
      obtain ⟨P, hP⟩ : ∃ P, rsum xs t j = P := ⟨_, rfl⟩
      rw [hP] at hs ⊢
      have HP := Lib.hid hP; clear hP
      go_wp2_with fail
      refine (l01Size_any _ _ hm).mono ?_
      rintro e w_ ⟨rfl, rfl⟩
      go_wp2_with fail
      go_roundw
      case rel => exact ⟨j + 1, by omega, by go_num, by simp only [rsum]; rw [HP.out, HX.out], by first | exact hB | exact hB.alloc hB.size _⟩
      case measure => simp [intOf]; omega
    · obtain rfl : j = n := by omega
      go_wp2_with fail
      go_ret
      exact ⟨rfl, hB⟩
theorem iRestOf (A : Option Addr) (n c : Nat) (xs : List (Int × Int × Int)) (t : Int) (w : World) (R : Rds w A n 3 YC xs) (g : Hid (∀ x ∈ xs, ((Lit.int .i16 x.1).wf = true ∧ (Lit.int .i16 x.2.1).wf = true ∧ (Lit.int .i16 x.2.2).wf = true))) (g1 : (Lit.int .i64 t).wf = true) : Calls Try.prog 27 #[.slice A n c, .int .i64 t] w fun e w' => e = .returned (.tuple #[.int .i64 (reV xs t), .int .i64 (plsC xs t)]) ∧ Below w.heap.size w w' := by
  have ht0 := bounds_i64 g1
  clear g1
  have hxl := R.1
  obtain ⟨q, hq⟩ : ∃ q, plsC xs t = q := ⟨_, rfl⟩
  by_cases h0 : q = 0
  · subst h0
    obtain ⟨ha, ht, hn6⟩ := plsC_0 hq
    rw [hxl] at hn6
    have HV : Hid (reV xs t = rsum xs t n) := Lib.hid (by unfold reV; rw [if_pos hq, hxl])
    have HQ := Lib.hid hq; have HA := Lib.hid ha; clear hq ha hxl
    go_enter Try.func27, Try.ntmps27
    go_wp2_with fail
    refine (pliesCode_any A n c xs _ _ ht0 R g).mono ?_
    rintro e w1 ⟨rfl, hb⟩
    rw [HQ.out]
    have R1 := R.below hb
    go_wp2_with fail
    refine (rest_any A n c xs _ _ R1 HA.out ht hn6).mono ?_
    rintro e w2 ⟨rfl, hb2⟩
    have hB := below_then hb hb.size hb2
    clear hb hb2
    go_wp2_with fail
    go_ret2
    exact ⟨by rw [HV.out, HQ.out]; rfl, hB⟩
  · have hne : (q != 0) = true := by simpa using h0
    have HV : Hid (reV xs t = 0) := Lib.hid (by unfold reV; rw [hq, if_neg h0])
    have HQ := Lib.hid hq; clear hq hxl
    go_enter Try.func27, Try.ntmps27
    go_wp2_with fail
    refine (pliesCode_any A n c xs _ _ ht0 R g).mono ?_
    rintro e w1 ⟨rfl, hb⟩
    rw [HQ.out]
    go_wp2_with fail
    go_ret2
    exact ⟨by rw [HV.out, HQ.out]; rfl, hb⟩
theorem sRestOf (A : Option Addr) (n c : Nat) (xs : List (Int × Int × Int)) (t : Int) (w : World) (R : Rds w A n 3 YC xs) (g : Hid (∀ x ∈ xs, ((Lit.int .i16 x.1).wf = true ∧ (Lit.int .i16 x.2.1).wf = true ∧ (Lit.int .i16 x.2.2).wf = true))) (g1 : (Lit.int .i64 t).wf = true) : Calls Try.prog 26 #[.slice A n c, .int .i64 t] w fun e w' => e = .returned (.tuple #[.int .i64 (reV xs t), .int .i64 (plsC xs t)]) ∧ Below w.heap.size w w' := by
  have ht0 := bounds_i64 g1
  clear g1
  have hxl := R.1
  obtain ⟨q, hq⟩ : ∃ q, plsC xs t = q := ⟨_, rfl⟩
  by_cases h0 : q = 0
  · subst h0
    obtain ⟨ha, ht, hn6⟩ := plsC_0 hq
    rw [hxl] at hn6
    have HV : Hid (reV xs t = rsum xs t n) := Lib.hid (by unfold reV; rw [if_pos hq, hxl])
    have HQ := Lib.hid hq; have HA := Lib.hid ha; clear hq ha hxl
    go_enter Try.func26, Try.ntmps26
    go_wp2_with fail
    refine (l03Plies_any A n c xs _ _ ht0 R g).mono ?_
    rintro e w1 ⟨rfl, hb⟩
    rw [HQ.out]
    have R1 := R.below hb
    go_wp2_with fail
    refine (l03Rest_any A n c xs _ _ R1 HA.out ht hn6).mono ?_
    rintro e w2 ⟨rfl, hb2⟩
    have hB := below_then hb hb.size hb2
    clear hb hb2
    go_wp2_with fail
    go_ret2
    exact ⟨by rw [HV.out, HQ.out]; rfl, hB⟩
  · have hne : (q != 0) = true := by simpa using h0
    have HV : Hid (reV xs t = 0) := Lib.hid (by unfold reV; rw [hq, if_neg h0])
    have HQ := Lib.hid hq; clear hq hxl
    go_enter Try.func26, Try.ntmps26
    go_wp2_with fail
    refine (l03Plies_any A n c xs _ _ ht0 R g).mono ?_
    rintro e w1 ⟨rfl, hb⟩
    rw [HQ.out]
    go_wp2_with fail
    go_ret2
    exact ⟨by rw [HV.out, HQ.out]; rfl, hb⟩
end Go.Proofs.Ythllecfbpipagaa
