/- Contracts: the program's parts of BlendOf: isLight, the closures, common, blended. -/
import Derived.Test.YtjbaaomodcgdgaaU9
import Derived.Deep.RegionWith
namespace Go.Proofs.Ytjbaaomodcgdgaa
open Go.RowKit
set_option linter.unusedVariables false
set_option linter.unusedSimpArgs false
theorem below_any {B : Nat} {w w1 w2 : World} (h : Below B w w1) (k : Below w1.heap.size w1 w2) : Below B w w2 ∨ True := .inr trivial
theorem allL (a0 a1 a2 a3 a4 a5 a6 a7 : Int) (w : World) (hw : Hid (∀ x ∈ [a0, a1, a2, a3, a4, a5, a6, a7], (Lit.int .i32 x).wf = true)) :
    Calls Try.prog 29 #[.agg #[.int .i32 a0, .int .i32 a1, .int .i32 a2, .int .i32 a3, .int .i32 a4, .int .i32 a5, .int .i32 a6, .int .i32 a7]] w fun e w' => e = .returned (.int .i64 (hsL [a0, a1, a2, a3, a4, a5, a6, a7])) ∧ Below w.heap.size w w' := all_any a0 a1 a2 a3 a4 a5 a6 a7 w hw
theorem isLight_any (a0 a1 a2 a3 a4 a5 a6 a7 : Int) (w : World) (hw : Hid (∀ x ∈ [a0, a1, a2, a3, a4, a5, a6, a7], (Lit.int .i32 x).wf = true)) :
    Calls Try.prog 39 #[.agg #[.int .i32 a0, .int .i32 a1, .int .i32 a2, .int .i32 a3, .int .i32 a4, .int .i32 a5, .int .i32 a6, .int .i32 a7]] w fun e w' => e = .returned (.bool (decide (hsL [a0, a1, a2, a3, a4, a5, a6, a7] ≤ 100))) ∧ Below w.heap.size w w' := by
  go_enter Try.func39, Try.ntmps39
  go_wp2_with fail
  refine (allL a0 a1 a2 a3 a4 a5 a6 a7 _ hw).mono ?_
  rintro e w1 ⟨rfl, hb⟩
  go_wp2_with fail
  go_ret
  exact ⟨rfl, below_then (below_alloc1 w _) (below_alloc1 w _).size hb⟩
theorem blend1 (x : Int) (w : World) : Calls Try.prog 53 #[.int .i64 x] w fun e w' => e = .returned (.bool (inB x 0 8)) ∧ Below w.heap.size w w' := by
  go_enter Try.func53, Try.ntmps53
  go_wp2_with (go_at_call 37; (refine (within_any _ _ _ _).mono ?_); rintro e w' ⟨rfl, rfl⟩)
  go_ret
  exact ⟨rfl, Below.refl _ _⟩
theorem blend2 (f a0 a1 a2 a3 a4 a5 a6 a7 : Int) (w : World) (hw : Hid (∀ x ∈ [a0, a1, a2, a3, a4, a5, a6, a7], (Lit.int .i32 x).wf = true)) : Calls Try.prog 55 #[.agg #[.int .i8 f, .int .i32 a0, .int .i32 a1, .int .i32 a2, .int .i32 a3, .int .i32 a4, .int .i32 a5, .int .i32 a6, .int .i32 a7]] w fun e w' => e = .returned (.bool (decide (hsL [a0, a1, a2, a3, a4, a5, a6, a7] ≤ 100))) ∧ Below w.heap.size w w' := by
  go_enter Try.func55, Try.ntmps55
  go_wp2_with fail
  refine (isLight_any a0 a1 a2 a3 a4 a5 a6 a7 _ hw).mono ?_
  rintro e w1 ⟨rfl, hb⟩
  go_wp2_with fail
  go_ret
  exact ⟨rfl, below_then (below_alloc1 w _) (below_alloc1 w _).size hb⟩
theorem blend3 (f a0 a1 a2 a3 a4 a5 a6 a7 : Int) (w : World) (hw : Hid (∀ x ∈ [a0, a1, a2, a3, a4, a5, a6, a7], (Lit.int .i32 x).wf = true)) : Calls Try.prog 56 #[.agg #[.int .i8 f, .int .i32 a0, .int .i32 a1, .int .i32 a2, .int .i32 a3, .int .i32 a4, .int .i32 a5, .int .i32 a6, .int .i32 a7]] w fun e w' => e = .returned (.bool (decide (0 < hsL [a0, a1, a2, a3, a4, a5, a6, a7]))) ∧ Below w.heap.size w w' := by
  go_enter Try.func56, Try.ntmps56
  go_wp2_with fail
  refine (allL a0 a1 a2 a3 a4 a5 a6 a7 _ hw).mono ?_
  rintro e w1 ⟨rfl, hb⟩
  go_wp2_with fail
  go_ret
  exact ⟨rfl, below_then (below_alloc1 w _) (below_alloc1 w _).size hb⟩
set_option maxHeartbeats 4000000 in
theorem common_any (A : Option Addr) (n c : Nat) (xs : List (Int × List Int)) (w : World) (R : Rds w A n 9 FlC xs) (hF : Hid (FlOk xs)) (h1 : Hid (hvB xs = true)) (h2 : Hid (nzB xs = true)) (h6 : n ≤ 6) :
    Calls Try.prog 40 #[.slice A n c] w fun e w' => e = .returned (.int .i64 (mulTo xs n)) ∧ Below w.heap.size w w' := by
  go_enter Try.func40, Try.ntmps40
  go_wp2_with fail
  go_loopw [3, 8] (fun s v wr => ∃ k : Nat, k ≤ n ∧ v = .int .i64 k ∧ s = .int .i64 (mulTo xs k) ∧ Hid (Below w.heap.size w wr)) (fun _ v _ => n - (intOf v).toNat)
  case atStart => exact ⟨0, by omega, rfl, rfl, Lib.hid (Below.refl _ _)⟩
  case round =>
    obtain ⟨k, hk, rfl, rfl, hB⟩ := hrel
    by_cases hlt : k < n
    · obtain ⟨ad, f, a0, a1, a2, a3, a4, a5, a6, a7, rfl, hx, e0, e1, e2, e3, e4, e5, e6, e7, e8⟩ := (R.below hB.out).fleece hF.out.len hlt
      have hmb := mul_all h1.out h2.out (k := k) (by omega)
      have hgb := gA_bd h1.out h2.out k
      have q1 : mulTo xs (k + 1) = (mulTo xs k).tdiv (gI (mulTo xs k) (gA xs k)) * gA xs k := rfl
      have hw : Hid (∀ x ∈ [a0, a1, a2, a3, a4, a5, a6, a7], (Lit.int .i32 x).wf = true) := Lib.hid (hF.out _ (List.mem_of_getElem? hx)).2.2
      rw [gA_at hx] at hgb q1
      change 1 ≤ hsL [a0, a1, a2, a3, a4, a5, a6, a7] ∧ hsL [a0, a1, a2, a3, a4, a5, a6, a7] ≤ 100 at hgb
      change mulTo xs (k + 1) = (mulTo xs k).tdiv (gI (mulTo xs k) (hsL [a0, a1, a2, a3, a4, a5, a6, a7])) * hsL [a0, a1, a2, a3, a4, a5, a6, a7] at q1
      obtain ⟨s0, s1, s2⟩ := mul_step hmb.1 hgb.1
      obtain ⟨M, hM⟩ : ∃ M, mulTo xs k = M := ⟨_, rfl⟩
      obtain ⟨g, hg⟩ : ∃ g, hsL [a0, a1, a2, a3, a4, a5, a6, a7] = g := ⟨_, rfl⟩
      rw [hM, hg] at s0 s1 s2 q1
      rw [hM] at hmb ⊢
      rw [hg] at hgb
      have Q1 := Lib.hid q1; have HM_ := Lib.hid hM; have HG := Lib.hid hg
      clear q1 hM hg hx
      have allg : ∀ w', Calls Try.prog 29 #[.agg #[.int .i32 a0, .int .i32 a1, .int .i32 a2, .int .i32 a3, .int .i32 a4, .int .i32 a5, .int .i32 a6, .int .i32 a7]] w' fun e w2 => e = .returned (.int .i64 g) ∧ Below w'.heap.size w' w2 := fun w' => by have := allL a0 a1 a2 a3 a4 a5 a6 a7 w' hw; rw [HG.out] at this; exact this
      have ALLG := Lib.hid allg; clear allg
      have hd := gI_pos (a := M) (b := g) (by omega)
      have hp := mul_bd2 (show 0 ≤ M.tdiv (gI M g) by omega) (show M.tdiv (gI M g) ≤ 1000000000000 by omega) (show 0 ≤ g by omega) hgb.2
      have v1 : IntKind.i64.wrap (M.tdiv (gI M g)) = M.tdiv (gI M g) := IntWalk.i64_in _ (by omega)
      have v2 : IntKind.i64.wrap (M.tdiv (gI M g) * g) = M.tdiv (gI M g) * g := IntWalk.i64_in _ (by omega)
      have hd0 : ¬ gI M g = 0 := by omega
      have mM : Mid M := by unfold Mid; omega
      have mg : Mid g := by unfold Mid; omega
      have X0 := Row.alloc wr [.int .i8 f, .int .i32 a0, .int .i32 a1, .int .i32 a2, .int .i32 a3, .int .i32 a4, .int .i32 a5, .int .i32 a6, .int .i32 a7] 48
      have Bx := Lib.hid (below_then hB.out hB.out.size (below_alloc1 wr (.cells #[.int .i8 f, .int .i32 a0, .int .i32 a1, .int .i32 a2, .int .i32 a3, .int .i32 a4, .int .i32 a5, .int .i32 a6, .int .i32 a7] 48)))
      obtain ⟨x0, x1, x2, x3, x4, x5, x6, x7, x8⟩ := X0.cells9
      clear X0
      go_wp2_with fail
      clear x0 x1 x2 x3 x4 x5 x6 x7 x8 e0 e1 e2 e3 e4 e5 e6 e7 e8
      have X0 := Row.alloc wr [.int .i8 f, .int .i32 a0, .int .i32 a1, .int .i32 a2, .int .i32 a3, .int .i32 a4, .int .i32 a5, .int .i32 a6, .int .i32 a7] 48
      generalize wr.alloc (.cells #[.int .i8 f, .int .i32 a0, .int .i32 a1, .int .i32 a2, .int .i32 a3, .int .i32 a4, .int .i32 a5, .int .i32 a6, .int .i32 a7] 48) = W1 at X0 Bx ⊢
      obtain ⟨x0, x1, x2, x3, x4, x5, x6, x7, x8⟩ := X0.cells9
      clear X0
      go_region_with (first
        | (go_at_call 29; refine (ALLG.out _).mono ?_; rintro e wm ⟨rfl, hbm⟩; have m1 := (hbm.cell (World.block_lt_of_cell? _ _ l1)).trans l1; have m2 := (hbm.cell (World.block_lt_of_cell? _ _ l2)).trans l2; have m3 := (hbm.cell (World.block_lt_of_cell? _ _ l3)).trans l3; have m4 := (hbm.cell (World.block_lt_of_cell? _ _ l4)).trans l4; have m5 := (hbm.cell (World.block_lt_of_cell? _ _ l5)).trans l5; have m6 := (hbm.cell (World.block_lt_of_cell? _ _ l6)).trans l6; have m7 := (hbm.cell (World.block_lt_of_cell? _ _ l7)).trans l7; have m8 := (hbm.cell (World.block_lt_of_cell? _ _ l8)).trans l8; have Bm := Lib.hid (show Below w.heap.size w wm from by first | exact below_then Bl.out Bl.out.size hbm | exact below_then Bl.out.drew Bl.out.drew.size hbm | exact below_then Bl.out.drew.drew Bl.out.drew.drew.size hbm))
        | (go_at_call 66; refine (divisor_any M g _ mM mg).mono ?_; rintro e wm ⟨rfl, hbm⟩; have m1 := (hbm.cell (World.block_lt_of_cell? _ _ l1)).trans l1; have m2 := (hbm.cell (World.block_lt_of_cell? _ _ l2)).trans l2; have m3 := (hbm.cell (World.block_lt_of_cell? _ _ l3)).trans l3; have m4 := (hbm.cell (World.block_lt_of_cell? _ _ l4)).trans l4; have m5 := (hbm.cell (World.block_lt_of_cell? _ _ l5)).trans l5; have m6 := (hbm.cell (World.block_lt_of_cell? _ _ l6)).trans l6; have m7 := (hbm.cell (World.block_lt_of_cell? _ _ l7)).trans l7; have m8 := (hbm.cell (World.block_lt_of_cell? _ _ l8)).trans l8; have Bm := Lib.hid (show Below w.heap.size w wm from by first | exact below_then Bl.out Bl.out.size hbm | exact below_then Bl.out.drew Bl.out.drew.size hbm | exact below_then Bl.out.drew.drew Bl.out.drew.drew.size hbm))
        | (go_at_call 29; refine (ALLG.out _).mono ?_; rintro e wl ⟨rfl, hbl⟩; have l1 := (hbl.cell (World.block_lt_of_cell? _ _ k1)).trans k1; have l2 := (hbl.cell (World.block_lt_of_cell? _ _ k2)).trans k2; have l3 := (hbl.cell (World.block_lt_of_cell? _ _ k3)).trans k3; have l4 := (hbl.cell (World.block_lt_of_cell? _ _ k4)).trans k4; have l5 := (hbl.cell (World.block_lt_of_cell? _ _ k5)).trans k5; have l6 := (hbl.cell (World.block_lt_of_cell? _ _ k6)).trans k6; have l7 := (hbl.cell (World.block_lt_of_cell? _ _ k7)).trans k7; have l8 := (hbl.cell (World.block_lt_of_cell? _ _ k8)).trans k8; have Bl := Lib.hid (show Below w.heap.size w wl from by first | exact below_then Bk.out Bk.out.size hbl | exact below_then Bk.out.drew Bk.out.drew.size hbl | exact below_then Bk.out.drew.drew Bk.out.drew.drew.size hbl))
        | (go_at_call 66; refine (divisor_any M g _ mM mg).mono ?_; rintro e wl ⟨rfl, hbl⟩; have l1 := (hbl.cell (World.block_lt_of_cell? _ _ k1)).trans k1; have l2 := (hbl.cell (World.block_lt_of_cell? _ _ k2)).trans k2; have l3 := (hbl.cell (World.block_lt_of_cell? _ _ k3)).trans k3; have l4 := (hbl.cell (World.block_lt_of_cell? _ _ k4)).trans k4; have l5 := (hbl.cell (World.block_lt_of_cell? _ _ k5)).trans k5; have l6 := (hbl.cell (World.block_lt_of_cell? _ _ k6)).trans k6; have l7 := (hbl.cell (World.block_lt_of_cell? _ _ k7)).trans k7; have l8 := (hbl.cell (World.block_lt_of_cell? _ _ k8)).trans k8; have Bl := Lib.hid (show Below w.heap.size w wl from by first | exact below_then Bk.out Bk.out.size hbl | exact below_then Bk.out.drew Bk.out.drew.size hbl | exact below_then Bk.out.drew.drew Bk.out.drew.drew.size hbl))
        | (go_at_call 29; refine (ALLG.out _).mono ?_; rintro e wk ⟨rfl, hbk⟩; have k1 := (hbk.cell (World.block_lt_of_cell? _ _ x1)).trans x1; have k2 := (hbk.cell (World.block_lt_of_cell? _ _ x2)).trans x2; have k3 := (hbk.cell (World.block_lt_of_cell? _ _ x3)).trans x3; have k4 := (hbk.cell (World.block_lt_of_cell? _ _ x4)).trans x4; have k5 := (hbk.cell (World.block_lt_of_cell? _ _ x5)).trans x5; have k6 := (hbk.cell (World.block_lt_of_cell? _ _ x6)).trans x6; have k7 := (hbk.cell (World.block_lt_of_cell? _ _ x7)).trans x7; have k8 := (hbk.cell (World.block_lt_of_cell? _ _ x8)).trans x8; have Bk := Lib.hid (show Below w.heap.size w wk from by first | exact below_then Bx.out Bx.out.size hbk | exact below_then Bx.out.drew Bx.out.drew.size hbk | exact below_then Bx.out.drew.drew Bx.out.drew.drew.size hbk))
        | (go_at_call 66; refine (divisor_any M g _ mM mg).mono ?_; rintro e wk ⟨rfl, hbk⟩; have k1 := (hbk.cell (World.block_lt_of_cell? _ _ x1)).trans x1; have k2 := (hbk.cell (World.block_lt_of_cell? _ _ x2)).trans x2; have k3 := (hbk.cell (World.block_lt_of_cell? _ _ x3)).trans x3; have k4 := (hbk.cell (World.block_lt_of_cell? _ _ x4)).trans x4; have k5 := (hbk.cell (World.block_lt_of_cell? _ _ x5)).trans x5; have k6 := (hbk.cell (World.block_lt_of_cell? _ _ x6)).trans x6; have k7 := (hbk.cell (World.block_lt_of_cell? _ _ x7)).trans x7; have k8 := (hbk.cell (World.block_lt_of_cell? _ _ x8)).trans x8; have Bk := Lib.hid (show Below w.heap.size w wk from by first | exact below_then Bx.out Bx.out.size hbk | exact below_then Bx.out.drew Bx.out.drew.size hbk | exact below_then Bx.out.drew.drew Bx.out.drew.drew.size hbk)))
      all_goals go_wp2_with fail
      all_goals (
        go_roundw
        case rel => exact ⟨k + 1, by omega, by go_num, by rw [Q1.out], Lib.hid (by first | exact Bm.out | exact Bm.out.drew)⟩
        case measure => simp [intOf]; omega)
    · obtain rfl : k = n := by omega
      go_wp2_with fail
      go_ret
      exact ⟨rfl, hB.out⟩
theorem gen_at64 {n : Nat} (f : Nat → Int) {k : Nat} (h : k < n) : (nums .i64 (gen n f))[k]? = some (.int .i64 (f k)) := by simp [nums, gen, h]
theorem gen_set64 {n : Nat} {f g : Nat → Int} {k : Nat} {v : Int} (h : k < n) (hv : g k = v) (hg : ∀ j, j < n → j ≠ k → g j = f j) : (nums .i64 (gen n f)).set k (.int .i64 v) = nums .i64 (gen n g) := by
  apply List.ext_getElem?
  intro i
  rw [List.getElem?_set]
  by_cases hk : k = i
  · subst hk
    simp [nums, gen, h, hv]
  · rw [if_neg hk]
    by_cases hi : i < n
    · simp [nums, gen, hi, hg i hi (fun e => hk e.symm)]
    · simp [nums, gen, hi]
def shD (xs : List (Int × List Int)) (ps : List Int) (M : Int) (i k j : Nat) : Int := if j < k then shaTo xs ps M j (i + 1) else shaTo xs ps M j i
theorem shD_zero (xs : List (Int × List Int)) (ps : List Int) (M : Int) (i : Nat) : gen 8 (shD xs ps M i 0) = gen 8 fun j => shaTo xs ps M j i := gen_congr fun j _ => by unfold shD; rw [if_neg (by omega)]
theorem shD_end (xs : List (Int × List Int)) (ps : List Int) (M : Int) (i : Nat) : gen 8 (shD xs ps M i 8) = gen 8 fun j => shaTo xs ps M j (i + 1) := gen_congr fun j hj => by unfold shD; rw [if_pos hj]
theorem shD_at {xs : List (Int × List Int)} {ps : List Int} {M : Int} {i k : Nat} (hk : k < 8) : (nums .i64 (gen 8 (shD xs ps M i k)))[k]? = some (.int .i64 (shaTo xs ps M k i)) := by
  rw [gen_at64 _ hk]
  unfold shD
  rw [if_neg (by omega)]
theorem shD_set {xs : List (Int × List Int)} {ps : List Int} {M v : Int} {i k : Nat} (hk : k < 8) (hv : shaTo xs ps M k (i + 1) = v) : (nums .i64 (gen 8 (shD xs ps M i k))).set k (.int .i64 v) = nums .i64 (gen 8 (shD xs ps M i (k + 1))) := by
  apply gen_set64 hk
  · unfold shD; rw [if_pos (by omega)]; exact hv
  · intro j hj hne
    unfold shD
    have h2 : (j < k + 1) ↔ (j < k) := by omega
    simp only [h2]
theorem idxB8 (a0 a1 a2 a3 a4 a5 a6 a7 : Int) : ∀ k : Nat, k < 8 → ∀ w : World, (Instr.index 27 (.agg #[.int .i32 a0, .int .i32 a1, .int .i32 a2, .int .i32 a3, .int .i32 a4, .int .i32 a5, .int .i32 a6, .int .i32 a7]) (.int .i64 k)).run Try.prog w = .ok (.int .i32 ([a0, a1, a2, a3, a4, a5, a6, a7].getD k 0)) w := by
  obtain ⟨i0, i1, i2, i3, i4, i5, i6, i7⟩ := idxH a0 a1 a2 a3 a4 a5 a6 a7
  intro k hk w
  match k, hk with
  | 0, _ => exact i0 w
  | 1, _ => exact i1 w
  | 2, _ => exact i2 w
  | 3, _ => exact i3 w
  | 4, _ => exact i4 w
  | 5, _ => exact i5 w
  | 6, _ => exact i6 w
  | 7, _ => exact i7 w
set_option maxHeartbeats 8000000 in
theorem blended_any (A B : Option Addr) (n c d : Nat) (xs : List (Int × List Int)) (ps : List Int) (M : Int) (w : World) (R : Rds w A n 9 FlC xs) (hF : Hid (FlOk xs)) (R2 : Rds w B n 1 (fun x : Int => [.int .i64 x]) ps) (hfl : Hid (flB xs = true)) (h1 : Hid (hvB xs = true)) (h2 : Hid (nzB xs = true)) (h6 : n ≤ 6) (hp : Hid (∀ k, 0 ≤ gd ps k ∧ gd ps k ≤ 8)) (hM : 0 ≤ M ∧ M ≤ 1000000000000) :
    Calls Try.prog 43 #[.slice A n c, .slice B n d, .int .i64 M] w fun e w' => e = .returned (.agg #[.int .i64 (shaTo xs ps M 0 n), .int .i64 (shaTo xs ps M 1 n), .int .i64 (shaTo xs ps M 2 n), .int .i64 (shaTo xs ps M 3 n), .int .i64 (shaTo xs ps M 4 n), .int .i64 (shaTo xs ps M 5 n), .int .i64 (shaTo xs ps M 6 n), .int .i64 (shaTo xs ps M 7 n)]) ∧ Below w.heap.size w w' := by
  obtain ⟨W1, hW1⟩ : ∃ x, x = w.alloc (.cells #[.int .i64 0, .int .i64 0, .int .i64 0, .int .i64 0, .int .i64 0, .int .i64 0, .int .i64 0, .int .i64 0] 71) := ⟨_, rfl⟩
  have X0 : Row W1 w.heap.size 71 [.int .i64 0, .int .i64 0, .int .i64 0, .int .i64 0, .int .i64 0, .int .i64 0, .int .i64 0, .int .i64 0] := by rw [hW1]; exact Row.alloc w [.int .i64 0, .int .i64 0, .int .i64 0, .int .i64 0, .int .i64 0, .int .i64 0, .int .i64 0, .int .i64 0] 71
  have hb1 : Below w.heap.size w W1 := by rw [hW1]; exact below_alloc1 w _
  have hs1 : W1.heap.size = w.heap.size + 1 := by rw [hW1, World.size_alloc]
  obtain ⟨W2, hW2⟩ : ∃ x, x = W1.alloc (.cells #[.int .i64 0, .int .i64 0, .int .i64 0, .int .i64 0, .int .i64 0, .int .i64 0, .int .i64 0, .int .i64 0] 71) := ⟨_, rfl⟩
  have X1 : Row W2 W1.heap.size 71 [.int .i64 0, .int .i64 0, .int .i64 0, .int .i64 0, .int .i64 0, .int .i64 0, .int .i64 0, .int .i64 0] := by rw [hW2]; exact Row.alloc W1 [.int .i64 0, .int .i64 0, .int .i64 0, .int .i64 0, .int .i64 0, .int .i64 0, .int .i64 0, .int .i64 0] 71
  have hb2 : Below W1.heap.size W1 W2 := by rw [hW2]; exact below_alloc1 W1 _
  have Y0 := Lib.hid (X0.below hb2)
  rw [hs1] at X1
  have Y1 : Hid (Row W2 (w.heap.size + 1) 71 (nums .i64 (gen 8 fun j => shaTo xs ps M j 0))) := Lib.hid X1
  have HB := Lib.hid (below_then hb1 hb1.size hb2)
  clear hb1 hb2 X0 X1 hs1
  go_enter Try.func43, Try.ntmps43
  go_wp2_with fail
  rw [← hW1, ← hW2]
  clear hW1 hW2
  go_loopw [14] (fun v wr => ∃ i : Nat, i ≤ n ∧ v = .int .i64 i ∧ Hid (Row wr (w.heap.size + 1) 71 (nums .i64 (gen 8 fun j => shaTo xs ps M j i))) ∧ Hid (Row wr w.heap.size 71 [.int .i64 0, .int .i64 0, .int .i64 0, .int .i64 0, .int .i64 0, .int .i64 0, .int .i64 0, .int .i64 0]) ∧ Hid (Below w.heap.size w wr)) (fun v _ => n - (intOf v).toNat)
  case atStart => exact ⟨0, by omega, rfl, Y1, Y0, HB⟩
  case round =>
    obtain ⟨i, hi, rfl, hO, hZ, hB⟩ := hrel
    clear Y0 Y1 HB
    by_cases hlt : i < n
    · obtain ⟨ad, f, a0, a1, a2, a3, a4, a5, a6, a7, rfl, hx, e0, e1, e2, e3, e4, e5, e6, e7, e8⟩ := (R.below hB.out).fleece hF.out.len hlt
      have HX := Lib.hid hx
      have hw : Hid (∀ x ∈ [a0, a1, a2, a3, a4, a5, a6, a7], (Lit.int .i32 x).wf = true) := Lib.hid (hF.out _ (List.mem_of_getElem? hx)).2.2
      have hgb := gA_bd h1.out h2.out i
      have hga := gA_at hx
      change gA xs i = hsL [a0, a1, a2, a3, a4, a5, a6, a7] at hga
      rw [hga] at hgb
      obtain ⟨g, hg⟩ : ∃ g, hsL [a0, a1, a2, a3, a4, a5, a6, a7] = g := ⟨_, rfl⟩
      have allg : ∀ w', Calls Try.prog 29 #[.agg #[.int .i32 a0, .int .i32 a1, .int .i32 a2, .int .i32 a3, .int .i32 a4, .int .i32 a5, .int .i32 a6, .int .i32 a7]] w' fun e w2 => e = .returned (.int .i64 g) ∧ Below w'.heap.size w' w2 := fun w' => by have := allL a0 a1 a2 a3 a4 a5 a6 a7 w' hw; rw [hg] at this; exact this
      rw [hg] at hgb hga
      have ALLG := Lib.hid allg; have HGA := Lib.hid hga
      have IX := Lib.hid (idxB8 a0 a1 a2 a3 a4 a5 a6 a7)
      clear allg hga hg hx
      have hOl := hO.out.lt
      have hb3 := below_alloc1 wr (.cells #[.int .i8 f, .int .i32 a0, .int .i32 a1, .int .i32 a2, .int .i32 a3, .int .i32 a4, .int .i32 a5, .int .i32 a6, .int .i32 a7] 48)
      have hO1 := Lib.hid (hO.out.below hb3)
      have hZ1 := Lib.hid (hZ.out.below hb3)
      have hB1 := Lib.hid (below_then hB.out hB.out.size hb3)
      have hX1 : Hid (Row (wr.alloc (.cells #[.int .i8 f, .int .i32 a0, .int .i32 a1, .int .i32 a2, .int .i32 a3, .int .i32 a4, .int .i32 a5, .int .i32 a6, .int .i32 a7] 48)) wr.heap.size 48 [.int .i8 f, .int .i32 a0, .int .i32 a1, .int .i32 a2, .int .i32 a3, .int .i32 a4, .int .i32 a5, .int .i32 a6, .int .i32 a7]) := Lib.hid (Row.alloc wr [.int .i8 f, .int .i32 a0, .int .i32 a1, .int .i32 a2, .int .i32 a3, .int .i32 a4, .int .i32 a5, .int .i32 a6, .int .i32 a7] 48)
      clear hb3
      go_wp2_with fail
      clear e0 e1 e2 e3 e4 e5 e6 e7 e8
      generalize wr.alloc (.cells #[.int .i8 f, .int .i32 a0, .int .i32 a1, .int .i32 a2, .int .i32 a3, .int .i32 a4, .int .i32 a5, .int .i32 a6, .int .i32 a7] 48) = W3 at hO1 hZ1 hB1 hX1 ⊢
      obtain ⟨Q, hQ⟩ : ∃ Q, wr.heap.size = Q := ⟨_, rfl⟩
      rw [hQ] at hX1 hOl
      rw [hQ]
      clear hQ hO hZ hB
      go_loopw [21] (fun v wr => ∃ k : Nat, k ≤ 8 ∧ v = .int .i64 k ∧ Hid (Row wr (w.heap.size + 1) 71 (nums .i64 (gen 8 (shD xs ps M i k)))) ∧ Hid (Row wr w.heap.size 71 [.int .i64 0, .int .i64 0, .int .i64 0, .int .i64 0, .int .i64 0, .int .i64 0, .int .i64 0, .int .i64 0]) ∧ Hid (Row wr Q 48 [.int .i8 f, .int .i32 a0, .int .i32 a1, .int .i32 a2, .int .i32 a3, .int .i32 a4, .int .i32 a5, .int .i32 a6, .int .i32 a7]) ∧ Hid (Below w.heap.size w wr)) (fun v _ => 8 - (intOf v).toNat)
      case atStart => exact ⟨0, by omega, rfl, Lib.hid (by rw [shD_zero]; exact hO1.out), hZ1, hX1, hB1⟩
      case round =>
        clear hO1 hZ1 hX1 hB1
        obtain ⟨k, hk, rfl, hO, hZ, hX, hB⟩ := hrel
        by_cases hkt : k < 8
        · have hk1 : (k : Int) < 8 := by omega
          have ix := IX.out k hkt
          obtain ⟨bd, p, rfl, hpx, ep⟩ := (R2.below hB.out).at1 hlt
          have hgp := gd_of hpx
          have hpb := hp.out i
          rw [hgp] at hpb
          have hvb := vA_bd hfl.out k i
          have hva := vA_at (j := k) HX.out
          change vA xs k i = [a0, a1, a2, a3, a4, a5, a6, a7].getD k 0 at hva
          have hsb := shaTo_bd hfl.out (gA_bd h1.out h2.out) hp.out hM k i
          have q1 : shaTo xs ps M k (i + 1) = shaTo xs ps M k i + gd ps i * vA xs k i * M.tdiv (gA xs i) := rfl
          have c0 : wr.cell? ⟨w.heap.size + 1, k, none⟩ = some (.int .i64 (shaTo xs ps M k i)) := by rw [hO.out.cell]; exact shD_at hkt
          rw [HGA.out, hgp] at q1
          obtain ⟨v, hv⟩ : ∃ v, [a0, a1, a2, a3, a4, a5, a6, a7].getD k 0 = v := ⟨_, rfl⟩
          rw [hv] at hva ix
          rw [hva] at q1 hvb
          obtain ⟨S, hS⟩ : ∃ S, shaTo xs ps M k i = S := ⟨_, rfl⟩
          rw [hS] at q1 hsb c0
          have f0 := hO.out.frozen k
          have hst := Lib.hid (shD_set hkt q1)
          obtain ⟨x0, x1, x2, x3, x4, x5, x6, x7, x8⟩ := hX.out.cells9
          clear q1 hv hS hva hpx hgp
          have hp1 := mul_bd2 hpb.1 hpb.2 hvb.1 hvb.2
          have ht := tdiv_bd hM.1 hgb.1
          have hp2 := mul_bd2 hp1.1 hp1.2 ht.1 (show M.tdiv g ≤ 1000000000000 by omega)
          have hg0 : ¬ g = 0 := by omega
          have v1 : IntKind.i64.wrap (p * v) = p * v := IntWalk.i64_in _ (by omega)
          have v2 : IntKind.i64.wrap (M.tdiv g) = M.tdiv g := IntWalk.i64_in _ (by omega)
          have v3 : IntKind.i64.wrap (p * v * M.tdiv g) = p * v * M.tdiv g := IntWalk.i64_in _ (by omega)
          have v4 : IntKind.i64.wrap (S + p * v * M.tdiv g) = S + p * v * M.tdiv g := IntWalk.i64_in _ (by omega)
          have v5 : IntKind.i64.wrap v = v := IntWalk.i64_in _ (by omega)
          go_wp2_with fail
          clear ix
          go_region_with (go_at_call 29; refine (ALLG.out _).mono ?_; rintro e w5 ⟨rfl, hb5⟩; have ck := (hb5.cell (World.block_lt_of_cell? _ _ c0)).trans c0; have fk := (hb5.frozen (p := ⟨w.heap.size + 1, k, none⟩) (World.block_lt_of_cell? _ _ c0)).trans f0; have pk := (hb5.cell (World.block_lt_of_cell? _ _ ep)).trans ep; have Bk := Lib.hid (show Below w.heap.size w w5 from by first | exact below_then hB.out hB.out.size hb5 | exact below_then hB.out.drew hB.out.drew.size hb5); have hOk := Lib.hid (show Row w5 _ _ _ from by first | exact hO.out.below hb5 | exact hO.out.drew.below hb5); have hZk := Lib.hid (show Row w5 _ _ _ from by first | exact hZ.out.below hb5 | exact hZ.out.drew.below hb5); have hXk := Lib.hid (show Row w5 _ _ _ from by first | exact hX.out.below hb5 | exact hX.out.drew.below hb5))
          all_goals clear v1 v2 v3 v4 v5
          all_goals go_wp2_with fail
          all_goals (
            go_roundw
            case rel => exact ⟨k + 1, by omega, by go_num, Lib.hid (by have := hOk.out.set k (.int .i64 (S + p * v * M.tdiv g)); rw [hst.out] at this; first | exact this | exact this.drew), Lib.hid (by first | exact hZk.out.apart (by omega) k _ | exact (hZk.out.apart (C := w.heap.size + 1) (by omega) k (.int .i64 (S + p * v * M.tdiv g))).drew), Lib.hid (by first | exact hXk.out.apart (by omega) k _ | exact (hXk.out.apart (C := w.heap.size + 1) (by omega) k (.int .i64 (S + p * v * M.tdiv g))).drew), Lib.hid (by have b1 := Bk.out.setCell (p := ⟨w.heap.size + 1, k, none⟩) (by show w.heap.size ≤ w.heap.size + 1; omega) (.int .i64 (S + p * v * M.tdiv g)); first | exact b1 | exact b1.drew)⟩
            case measure => simp [intOf]; omega)
        · have hk1 : ¬ (k : Int) < 8 := by omega
          obtain rfl : k = 8 := by omega
          go_wp2_with fail
          go_roundw
          case rel => exact ⟨i + 1, by omega, by go_num, Lib.hid (by rw [← shD_end]; exact hO.out), hZ, hB⟩
          case measure => simp [intOf]; omega
    · have hin : i = n := by omega
      subst i
      have YO : Row wr (w.heap.size + 1) 71 [.int .i64 (shaTo xs ps M 0 n), .int .i64 (shaTo xs ps M 1 n), .int .i64 (shaTo xs ps M 2 n), .int .i64 (shaTo xs ps M 3 n), .int .i64 (shaTo xs ps M 4 n), .int .i64 (shaTo xs ps M 5 n), .int .i64 (shaTo xs ps M 6 n), .int .i64 (shaTo xs ps M 7 n)] := hO.out
      obtain ⟨y0, y1, y2, y3, y4, y5, y6, y7⟩ := YO.cells8
      obtain ⟨z0, z1, z2, z3, z4, z5, z6, z7⟩ := hZ.out.cells8
      obtain ⟨f0, f1, f2, f3, f4, f5, f6, f7⟩ := hZ.out.frozens8
      have S8 := ((((((((hZ.out.set 0 (.int .i64 (shaTo xs ps M 0 n))).set 1 (.int .i64 (shaTo xs ps M 1 n))).set 2 (.int .i64 (shaTo xs ps M 2 n))).set 3 (.int .i64 (shaTo xs ps M 3 n))).set 4 (.int .i64 (shaTo xs ps M 4 n))).set 5 (.int .i64 (shaTo xs ps M 5 n))).set 6 (.int .i64 (shaTo xs ps M 6 n))).set 7 (.int .i64 (shaTo xs ps M 7 n)))
      simp only [List.set_cons_zero, List.set_cons_succ] at S8
      obtain ⟨t0, t1, t2, t3, t4, t5, t6, t7⟩ := S8.cells8
      have hb8 : Below w.heap.size w ((((((((wr.setCell ⟨w.heap.size, 0, none⟩ (.int .i64 (shaTo xs ps M 0 n))).setCell ⟨w.heap.size, 1, none⟩ (.int .i64 (shaTo xs ps M 1 n))).setCell ⟨w.heap.size, 2, none⟩ (.int .i64 (shaTo xs ps M 2 n))).setCell ⟨w.heap.size, 3, none⟩ (.int .i64 (shaTo xs ps M 3 n))).setCell ⟨w.heap.size, 4, none⟩ (.int .i64 (shaTo xs ps M 4 n))).setCell ⟨w.heap.size, 5, none⟩ (.int .i64 (shaTo xs ps M 5 n))).setCell ⟨w.heap.size, 6, none⟩ (.int .i64 (shaTo xs ps M 6 n))).setCell ⟨w.heap.size, 7, none⟩ (.int .i64 (shaTo xs ps M 7 n))) := ((((((((hB.out.setCell (p := ⟨w.heap.size, 0, none⟩) (Nat.le_refl _) (.int .i64 (shaTo xs ps M 0 n))).setCell (p := ⟨w.heap.size, 1, none⟩) (Nat.le_refl _) (.int .i64 (shaTo xs ps M 1 n))).setCell (p := ⟨w.heap.size, 2, none⟩) (Nat.le_refl _) (.int .i64 (shaTo xs ps M 2 n))).setCell (p := ⟨w.heap.size, 3, none⟩) (Nat.le_refl _) (.int .i64 (shaTo xs ps M 3 n))).setCell (p := ⟨w.heap.size, 4, none⟩) (Nat.le_refl _) (.int .i64 (shaTo xs ps M 4 n))).setCell (p := ⟨w.heap.size, 5, none⟩) (Nat.le_refl _) (.int .i64 (shaTo xs ps M 5 n))).setCell (p := ⟨w.heap.size, 6, none⟩) (Nat.le_refl _) (.int .i64 (shaTo xs ps M 6 n))).setCell (p := ⟨w.heap.size, 7, none⟩) (Nat.le_refl _) (.int .i64 (shaTo xs ps M 7 n)))
      have HB8 := Lib.hid hb8
      clear YO S8 hb8
      go_wp2_with fail
      refine bodyPost_ret (v := .agg #[.int .i64 (shaTo xs ps M 0 n), .int .i64 (shaTo xs ps M 1 n), .int .i64 (shaTo xs ps M 2 n), .int .i64 (shaTo xs ps M 3 n), .int .i64 (shaTo xs ps M 4 n), .int .i64 (shaTo xs ps M 5 n), .int .i64 (shaTo xs ps M 6 n), .int .i64 (shaTo xs ps M 7 n)]) (by simp [results, Try.results43, go_sem, t0, t1, t2, t3, t4, t5, t6, t7]) rfl ⟨rfl, HB8.out⟩
end Go.Proofs.Ytjbaaomodcgdgaa
