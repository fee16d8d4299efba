/- The plain law of BlendOf, and the contracts of the reference's parts of it. -/
import Derived.Test.YtjbaaomodcgdgaaU5
import Derived.Test.YtjbaaomodcgdgaaS1
import Derived.IntWalk
namespace Go.Proofs.Ytjbaaomodcgdgaa
open Go.RowKit
set_option linter.unusedVariables false
set_option linter.unusedSimpArgs false
theorem mul_bd2 {a b A B : Int} (h1 : 0 ≤ a) (h2 : a ≤ A) (h3 : 0 ≤ b) (h4 : b ≤ B) : 0 ≤ a * b ∧ a * b ≤ A * B :=
  ⟨Int.mul_nonneg h1 h3, Int.mul_le_mul h2 h4 h3 (by omega)⟩
def gA (xs : List (Int × List Int)) (k : Nat) : Int := match xs[k]? with
  | some x => hsL x.2
  | none => 1
theorem gA_at {xs : List (Int × List Int)} {k : Nat} {x : Int × List Int} (h : xs[k]? = some x) : gA xs k = hsL x.2 := by unfold gA; rw [h]
def vA (xs : List (Int × List Int)) (j k : Nat) : Int := match xs[k]? with
  | some x => x.2.getD j 0
  | none => 0
theorem vA_at {xs : List (Int × List Int)} {j k : Nat} {x : Int × List Int} (h : xs[k]? = some x) : vA xs j k = x.2.getD j 0 := by unfold vA; rw [h]
def hvB (xs : List (Int × List Int)) : Bool := xs.all fun x => decide (hsL x.2 ≤ 100)
def nzB (xs : List (Int × List Int)) : Bool := xs.all fun x => decide (0 < hsL x.2)
def bdC (xs : List (Int × List Int)) (fine : Bool) : Int := if flC xs fine = 0 then (if hvB xs then (if nzB xs then 0 else 6) else 3) else flC xs fine
def prC (ps : List Int) : Int := if ps.all (fun x => inB x 0 8) then ps.sum else -1
def pfB (xs : List (Int × List Int)) (ps : List Int) : Bool := decide (ps.length = xs.length) && decide (0 < prC ps)
def blC (xs : List (Int × List Int)) (ps : List Int) : Int := bdC xs (pfB xs ps)
def mulTo (xs : List (Int × List Int)) : Nat → Int
  | 0 => 1
  | k + 1 => (mulTo xs k).tdiv (gI (mulTo xs k) (gA xs k)) * gA xs k
def shaTo (xs : List (Int × List Int)) (ps : List Int) (M : Int) (j : Nat) : Nat → Int
  | 0 => 0
  | k + 1 => shaTo xs ps M j k + gd ps k * vA xs j k * M.tdiv (gA xs k)
theorem hsL_bd {L : List Int} (h : heapOk L = true) : 0 ≤ hsL L ∧ hsL L ≤ 8000 := by
  have hb : ∀ k, 0 ≤ L.getD k 0 ∧ L.getD k 0 ≤ 1000 := by
    intro k
    rw [List.getD_eq_getElem?_getD]
    by_cases hk : k < L.length
    · have h2 : ∀ x ∈ L, 0 ≤ x ∧ x ≤ 1000 := by simpa [heapOk, inB] using h
      rw [List.getElem?_eq_getElem hk]
      exact h2 _ (List.getElem_mem hk)
    · rw [List.getElem?_eq_none (by omega)]; simp
  have h0 := hb 0; have h1 := hb 1; have h2 := hb 2; have h3 := hb 3; have h4 := hb 4; have h5 := hb 5; have h6 := hb 6; have h7 := hb 7
  unfold hsL hS
  omega
theorem fl_heap {xs : List (Int × List Int)} (h : flB xs = true) {x : Int × List Int} (hx : x ∈ xs) : heapOk x.2 = true := by
  have h1 : ∀ x ∈ xs, fleeceOk x.1 x.2 = true := by simpa [flB] using h
  have h2 := h1 x hx
  unfold fleeceOk at h2
  cases hb : inB x.1 0 9 <;> simp_all
theorem bdC_0 {xs : List (Int × List Int)} {b : Bool} (h : bdC xs b = 0) : flC xs b = 0 ∧ hvB xs = true ∧ nzB xs = true := by
  unfold bdC at h
  by_cases h1 : flC xs b = 0
  · rw [if_pos h1] at h
    cases h2 : hvB xs
    · simp [h2] at h
    · cases h3 : nzB xs
      · simp [h2, h3] at h
      · exact ⟨h1, rfl, rfl⟩
  · rw [if_neg h1] at h
    exact absurd h h1
theorem gA_bd {xs : List (Int × List Int)} (h1 : hvB xs = true) (h2 : nzB xs = true) (k : Nat) : 1 ≤ gA xs k ∧ gA xs k ≤ 100 := by
  unfold gA
  split
  · rename_i x hx
    have hm := List.mem_of_getElem? hx
    have e1 : ∀ x ∈ xs, hsL x.2 ≤ 100 := by
      intro y hy
      have := List.all_eq_true.1 h1 y hy
      simpa using this
    have e2 : ∀ x ∈ xs, 0 < hsL x.2 := by
      intro y hy
      have := List.all_eq_true.1 h2 y hy
      simpa using this
    have := e1 x hm; have := e2 x hm
    omega
  · omega
theorem mul_step {M g : Int} (hM : 1 ≤ M) (hg : 1 ≤ g) : 1 ≤ gI M g ∧ 1 ≤ M.tdiv (gI M g) ∧ M.tdiv (gI M g) ≤ M := by
  have h1 := gI_pos (a := M) (b := g) (by omega)
  have h2 : gI M g ≤ M := by
    unfold gI
    have := Nat.gcd_le_left g.natAbs (show 0 < M.natAbs by omega)
    omega
  rw [Int.tdiv_eq_ediv_of_nonneg (by omega)]
  refine ⟨by omega, ?_, Int.ediv_le_self _ (by omega)⟩
  rw [Int.le_ediv_iff_mul_le h1]
  omega
theorem mulTo_bd {xs : List (Int × List Int)} (h : ∀ k, 1 ≤ gA xs k ∧ gA xs k ≤ 100) : ∀ k, 1 ≤ mulTo xs k ∧ mulTo xs k ≤ 100 ^ k
  | 0 => ⟨Int.le_refl _, Int.le_refl _⟩
  | k + 1 => by
    obtain ⟨h1, h2⟩ := mulTo_bd h k
    obtain ⟨g1, g2⟩ := h k
    obtain ⟨s0, s1, s2⟩ := mul_step h1 g1
    unfold mulTo
    generalize (mulTo xs k).tdiv (gI (mulTo xs k) (gA xs k)) = t at s1 s2
    have h3 := Int.mul_le_mul (show t ≤ 100 ^ k by omega) g2 (by omega) (show (0 : Int) ≤ 100 ^ k by omega)
    have h4 := Int.mul_le_mul s1 g1 (by omega) (show (0 : Int) ≤ t by omega)
    rw [Int.pow_succ]
    omega
theorem pow_bd {k : Nat} (h : k ≤ 6) : (100 : Int) ^ k ≤ 1000000000000 := by
  have : k = 0 ∨ k = 1 ∨ k = 2 ∨ k = 3 ∨ k = 4 ∨ k = 5 ∨ k = 6 := by omega
  rcases this with rfl | rfl | rfl | rfl | rfl | rfl | rfl <;> decide
theorem mul_all {xs : List (Int × List Int)} (h1 : hvB xs = true) (h2 : nzB xs = true) {k : Nat} (hk : k ≤ 6) : 1 ≤ mulTo xs k ∧ mulTo xs k ≤ 1000000000000 := by
  have h3 := mulTo_bd (gA_bd h1 h2) k
  have := pow_bd hk
  omega
theorem vA_bd {xs : List (Int × List Int)} (h : flB xs = true) (j k : Nat) : 0 ≤ vA xs j k ∧ vA xs j k ≤ 1000 := by
  unfold vA
  split
  · exact fl_bd h (by assumption) j
  · omega
theorem tdiv_bd {M g : Int} (hM : 0 ≤ M) (hg : 1 ≤ g) : 0 ≤ M.tdiv g ∧ M.tdiv g ≤ M := by
  rw [Int.tdiv_eq_ediv_of_nonneg hM]
  exact ⟨Int.ediv_nonneg hM (by omega), Int.ediv_le_self _ hM⟩
theorem shaTo_bd {xs : List (Int × List Int)} {ps : List Int} {M : Int} (h : flB xs = true) (hg : ∀ k, 1 ≤ gA xs k ∧ gA xs k ≤ 100) (hp : ∀ k, 0 ≤ gd ps k ∧ gd ps k ≤ 8) (hM : 0 ≤ M ∧ M ≤ 1000000000000) (j : Nat) : ∀ k, 0 ≤ shaTo xs ps M j k ∧ shaTo xs ps M j k ≤ k * 8000000000000000
  | 0 => ⟨Int.le_refl _, by simp [shaTo]⟩
  | k + 1 => by
    have ih := shaTo_bd h hg hp hM j k
    have h1 := mul_bd2 (hp k).1 (hp k).2 (vA_bd h j k).1 (vA_bd h j k).2
    have h2 := tdiv_bd hM.1 (hg k).1
    have h3 := mul_bd2 h1.1 h1.2 h2.1 (show M.tdiv (gA xs k) ≤ 1000000000000 by omega)
    unfold shaTo
    omega
/-- The shares. -/
def blTo (xs : List (Int × List Int)) (ps : List Int) (n : Nat) : Nat → List (Int × Int)
  | 0 => []
  | k + 1 => blTo xs ps n k ++ [(frN (shaTo xs ps (mulTo xs n) k n) (ps.sum * mulTo xs n), frD (shaTo xs ps (mulTo xs n) k n) (ps.sum * mulTo xs n))]
theorem blTo_len (xs : List (Int × List Int)) (ps : List Int) (n : Nat) : ∀ k, (blTo xs ps n k).length = k
  | 0 => rfl
  | k + 1 => by simp [blTo, blTo_len xs ps n k]
def blR (xs : List (Int × List Int)) (ps : List Int) : List (Int × Int) := if blC xs ps = 0 then blTo xs ps xs.length 8 else []
theorem blR_len (xs : List (Int × List Int)) (ps : List Int) : (blR xs ps).length ≤ 8 := by
  unfold blR
  split
  · rw [blTo_len]; omega
  · simp
theorem bl_snoc (xs : List (Int × List Int)) (ps : List Int) (n k : Nat) {a b : Int} (ha : frN (shaTo xs ps (mulTo xs n) k n) (ps.sum * mulTo xs n) = a) (hb : frD (shaTo xs ps (mulTo xs n) k n) (ps.sum * mulTo xs n) = b) :
    (blTo xs ps n k).flatMap FrC ++ [.int .i64 a, .int .i64 b] = (blTo xs ps n (k + 1)).flatMap FrC := by
  simp [blTo, ha, hb]
theorem pf_true {xs : List (Int × List Int)} {ps : List Int} (h : pfB xs ps = true) : ps.length = xs.length ∧ (∀ x ∈ ps, 0 ≤ x ∧ x ≤ 8) ∧ 0 < ps.sum ∧ prC ps = ps.sum := by
  unfold pfB at h
  simp only [Bool.and_eq_true, decide_eq_true_eq] at h
  obtain ⟨h1, h2⟩ := h
  unfold prC at h2 ⊢
  cases h3 : ps.all (fun x => inB x 0 8)
  · rw [h3] at h2; simp at h2
  · rw [h3, if_pos rfl] at h2
    exact ⟨h1, by simpa [inB] using h3, h2, by rw [if_pos rfl]⟩
theorem sum_le {ps : List Int} (h : ∀ x ∈ ps, 0 ≤ x ∧ x ≤ 8) : 0 ≤ ps.sum ∧ ps.sum ≤ ps.length * 8 := by
  induction ps with
  | nil => simp
  | cons p ps ih =>
    have h1 := h p (List.mem_cons_self ..)
    have h2 := ih (fun x hx => h x (List.mem_cons_of_mem _ hx))
    simp only [List.sum_cons, List.length_cons]
    omega
theorem gd_ps {ps : List Int} (h : ∀ x ∈ ps, 0 ≤ x ∧ x ≤ 8) (k : Nat) : 0 ≤ gd ps k ∧ gd ps k ≤ 8 := by
  cases hx : ps[k]? with
  | none => simp [gd, List.getD_eq_getElem?_getD, hx]
  | some x => rw [gd_of hx]; exact h x (List.mem_of_getElem? hx)
set_option maxHeartbeats 2000000 in
theorem l01Grams_at (g o : Nat) (a0 a1 a2 a3 a4 a5 a6 a7 : Int) (w : World) (e0 : w.cell? ⟨g, o, none⟩ = some (.int .i32 a0)) (e1 : w.cell? ⟨g, o + 1, none⟩ = some (.int .i32 a1)) (e2 : w.cell? ⟨g, o + 2, none⟩ = some (.int .i32 a2)) (e3 : w.cell? ⟨g, o + 3, none⟩ = some (.int .i32 a3)) (e4 : w.cell? ⟨g, o + 4, none⟩ = some (.int .i32 a4)) (e5 : w.cell? ⟨g, o + 5, none⟩ = some (.int .i32 a5)) (e6 : w.cell? ⟨g, o + 6, none⟩ = some (.int .i32 a6)) (e7 : w.cell? ⟨g, o + 7, none⟩ = some (.int .i32 a7)) (hw : Hid (∀ x ∈ [a0, a1, a2, a3, a4, a5, a6, a7], (Lit.int .i32 x).wf = true)) :
    Calls Try.prog 32 #[.pointer (some ⟨g, o, none⟩)] w fun e w' => e = .returned (.int .i64 (hsL [a0, a1, a2, a3, a4, a5, a6, a7])) ∧ w = w' := by
  obtain ⟨b0, b1, b2, b3, b4, b5, b6, b7⟩ := heap_bounds hw
  clear hw
  go_enter Try.func32, Try.ntmps32
  go_wp2_with fail
  go_rounds 9
  go_ret
  exact ⟨ret_int (by simp [hsL, hS]), rfl⟩
/-- The grams of number k of a list. -/
theorem l01Grams_of {w : World} {A : Option Addr} {n k : Nat} {xs : List (Int × List Int)} (R : Rds w A n 9 FlC xs) (hF : FlOk xs) (hk : k < n) :
    ∃ ad x, A = some ad ∧ xs[k]? = some x ∧ x ∈ xs ∧ Hid (Calls Try.prog 32 #[.pointer (some ⟨(ad.add (k * 9)).block, (ad.add (k * 9)).off + 1, none⟩)] w fun e w' => e = .returned (.int .i64 (hsL x.2)) ∧ w = w') := by
  obtain ⟨ad, f, a0, a1, a2, a3, a4, a5, a6, a7, h1, hx, e0, e1, e2, e3, e4, e5, e6, e7, e8⟩ := R.fleece hF.len hk
  exact ⟨ad, _, h1, hx, List.mem_of_getElem? hx, Lib.hid (l01Grams_at _ _ a0 a1 a2 a3 a4 a5 a6 a7 w e1 e2 e3 e4 e5 e6 e7 e8 (Lib.hid (hF _ (List.mem_of_getElem? hx)).2.2))⟩
theorem l01Grams_x {g : Int} {w : World} {ad : Addr} {n k : Nat} {xs : List (Int × List Int)} {x : Int × List Int} (R : Rds w (some ad) n 9 FlC xs) (hF : FlOk xs) (hk : k < n) (hx : xs[k]? = some x) (hg : hsL x.2 = g) :
    Calls Try.prog 32 #[.pointer (some ⟨(ad.add (k * 9)).block, (ad.add (k * 9)).off + 1, none⟩)] w fun e w' => e = .returned (.int .i64 g) ∧ w' = w := by
  obtain ⟨ad_, x_, hA, hx_, _, h⟩ := l01Grams_of R hF hk
  cases hA
  rw [hx] at hx_
  cases hx_
  exact h.out.mono fun e w2 ⟨h1, h2⟩ => ⟨by rw [h1, hg], h2.symm⟩
theorem l01Parts_any (A : Option Addr) (n c : Nat) (ps : List Int) (w : World) (R : Rds w A n 1 (fun x : Int => [.int .i64 x]) ps) (hn : n ≤ 1048576) :
    Calls Try.prog 57 #[.slice A n c] w fun e w' => e = .returned (.int .i64 (prC ps)) ∧ w = w' := by
  have HXL := Lib.hid R.1
  go_enter Try.func57, Try.ntmps57
  go_wp2_with fail
  go_loop [3, 4] (fun s v => ∃ k : Nat, k ≤ n ∧ v = .int .i64 k ∧ s = .int .i64 (sumTo ps k) ∧ Hid (NotYet (fun x => !inB x 0 8) ps k) ∧ 0 ≤ sumTo ps k ∧ sumTo ps k ≤ k * 8) (fun _ v => n - (intOf v).toNat)
  case atStart => exact ⟨0, by omega, rfl, by simp [sumTo], Lib.hid (NotYet.zero _ _), by simp [sumTo], by simp [sumTo]⟩
  case round =>
    obtain ⟨k, hk, rfl, rfl, H, hs0, hs1⟩ := hrel
    by_cases hlt : k < n
    · obtain ⟨ad, x, rfl, hx, e0⟩ := R.at1 hlt
      have HX := Lib.hid hx; clear hx
      cases hin : inB x 0 8
      · have e1 : prC ps = -1 := by
          unfold prC
          rw [if_neg]
          intro h
          have := List.all_eq_true.1 h x (List.mem_of_getElem? HX.out)
          rw [hin] at this
          exact absurd this (by simp)
        have E1 := Lib.hid e1; clear e1
        go_wp2_with (go_at_call 47; (refine (l00In_any _ _ _ _).mono ?_); rintro e w' ⟨rfl, rfl⟩; rw [hin])
        go_ret
        exact ⟨ret_int E1.out.symm, rfl⟩
      · have hxb : 0 ≤ x ∧ x ≤ 8 := by simpa [inB] using hin
        have e1 := Lib.hid (sumTo_step HX.out)
        go_wp2_with (go_at_call 47; (refine (l00In_any _ _ _ _).mono ?_); rintro e w' ⟨rfl, rfl⟩; rw [hin])
        go_round
        case rel => exact ⟨k + 1, by omega, by go_num, by rw [e1.out], Lib.hid (H.out.step HX.out (by simp [hin])), by rw [e1.out]; omega, by rw [e1.out]; omega⟩
        case measure => simp [intOf]; omega
    · obtain rfl : k = n := by omega
      have e1 : prC ps = sumTo ps k := by
        unfold prC
        rw [if_pos, ← HXL.out, sumTo_all]
        rw [List.all_eq_true]
        intro x hx
        obtain ⟨j, hj, rfl⟩ := List.getElem_of_mem hx
        have := H.out j _ (by rw [← HXL.out]; exact hj) (List.getElem?_eq_getElem hj)
        simpa using this
      have E1 := Lib.hid e1; clear e1
      go_wp2_with fail
      go_ret
      exact ⟨ret_int E1.out.symm, rfl⟩
set_option maxHeartbeats 2000000 in
theorem l01Blended_any (A : Option Addr) (n c : Nat) (xs : List (Int × List Int)) (fine : Bool) (w : World) (R : Rds w A n 9 FlC xs) (hF : Hid (FlOk xs)) :
    Calls Try.prog 46 #[.slice A n c, .bool fine] w fun e w' => e = .returned (.int .i64 (bdC xs fine)) ∧ w = w' := by
  have hn := R.2.1
  have HXL := Lib.hid R.1
  obtain ⟨C, hC⟩ : ∃ C, flC xs fine = C := ⟨_, rfl⟩
  have HC := Lib.hid hC
  by_cases h0 : C = 0
  rotate_left
  · have e1 : bdC xs fine = C := by unfold bdC; rw [hC, if_neg h0]
    have E1 := Lib.hid e1
    have h0i : ¬ (C : Int) = 0 := h0
    clear e1 hC
    go_enter Try.func46, Try.ntmps46
    go_wp2_with fail
    refine (l01Fleeces_any A n c xs fine _ R hF).mono ?_
    rintro e w1 ⟨rfl, rfl⟩
    rw [HC.out]
    go_wp2_with fail
    go_loop [5, 6] (fun s v => s = .int .i64 C ∧ v = .int .i64 0) (fun _ _ => 0)
    case atStart => exact ⟨rfl, rfl⟩
    case round =>
      obtain ⟨rfl, rfl⟩ := hrel
      by_cases hn0 : (0 : Int) < n
      all_goals (
        go_wp2_with fail
        go_loop [5, 7] (fun s v => s = .int .i64 C ∧ v = .int .i64 0) (fun _ _ => 0)
        case atStart => exact ⟨rfl, rfl⟩
        case round =>
          obtain ⟨rfl, rfl⟩ := hrel
          go_wp2_with fail
          go_ret
          exact ⟨ret_int E1.out.symm, rfl⟩)
  subst h0
  have hfl := (flC_0 hC).1
  have HFL := Lib.hid hfl
  clear hC hfl
  go_enter Try.func46, Try.ntmps46
  go_wp2_with fail
  refine (l01Fleeces_any A n c xs fine _ R hF).mono ?_
  rintro e w1 ⟨rfl, rfl⟩
  rw [HC.out]
  go_wp2_with fail
  go_loop [5, 6] (fun s v => ∃ k : Nat, k ≤ n ∧ v = .int .i64 k ∧ ((s = .int .i64 0 ∧ Hid (NotYet (fun x => !decide (hsL x.2 ≤ 100)) xs k)) ∨ (s = .int .i64 3 ∧ Hid (hvB xs = false)))) (fun _ v => n - (intOf v).toNat)
  case atStart => exact ⟨0, by omega, rfl, .inl ⟨rfl, Lib.hid (NotYet.zero _ _)⟩⟩
  case round =>
    obtain ⟨k, hk, rfl, ⟨rfl, H⟩ | ⟨rfl, H⟩⟩ := hrel
    · by_cases hlt : k < n
      · obtain ⟨ad, x, rfl, hx, hm, hg⟩ := l01Grams_of R hF.out hlt
        have hb := hsL_bd (fl_heap HFL.out hm)
        have HX := Lib.hid hx; clear hx
        by_cases h1 : hsL x.2 ≤ 100
        · have HS := Lib.hid (H.out.step HX.out (by simpa using h1))
          go_wp2_with fail
          refine hg.out.mono ?_
          rintro e w2 ⟨rfl, rfl⟩
          go_wp2_with fail
          go_round
          case rel => exact ⟨k + 1, by omega, by go_num, .inl ⟨rfl, HS⟩⟩
          case measure => simp [intOf]; omega
        · have HS : Hid (hvB xs = false) := Lib.hid (by unfold hvB; rw [List.all_eq_false]; exact ⟨x, hm, by simpa using h1⟩)
          go_wp2_with fail
          refine hg.out.mono ?_
          rintro e w2 ⟨rfl, rfl⟩
          go_wp2_with fail
          go_round
          case rel => exact ⟨k + 1, by omega, by go_num, .inr ⟨rfl, HS⟩⟩
          case measure => simp [intOf]; omega
      · obtain rfl : k = n := by omega
        have hv : hvB xs = true := by
          unfold hvB
          rw [List.all_eq_true]
          intro x hx
          obtain ⟨j, hj, rfl⟩ := List.getElem_of_mem hx
          have := H.out j _ (by rw [← HXL.out]; exact hj) (List.getElem?_eq_getElem hj)
          simpa using this
        have HV := Lib.hid hv; clear hv
        go_wp2_with fail
        go_loop [5, 7] (fun s v => ∃ j : Nat, j ≤ k ∧ v = .int .i64 j ∧ ((s = .int .i64 0 ∧ Hid (NotYet (fun x => !decide (0 < hsL x.2)) xs j)) ∨ (s = .int .i64 6 ∧ Hid (nzB xs = false)))) (fun _ v => k - (intOf v).toNat)
        case atStart => exact ⟨0, by omega, rfl, .inl ⟨rfl, Lib.hid (NotYet.zero _ _)⟩⟩
        case round =>
          obtain ⟨j, hj, rfl, ⟨rfl, H2⟩ | ⟨rfl, H2⟩⟩ := hrel
          · by_cases hlt2 : j < k
            · obtain ⟨ad, x, rfl, hx, hm, hg⟩ := l01Grams_of R hF.out hlt2
              have hb := hsL_bd (fl_heap HFL.out hm)
              have HX := Lib.hid hx; clear hx
              by_cases h1 : 0 < hsL x.2
              · have HS := Lib.hid (H2.out.step HX.out (by simpa using h1))
                have h1e : ¬ hsL x.2 = 0 := by omega
                go_wp2_with fail
                refine hg.out.mono ?_
                rintro e w2 ⟨rfl, rfl⟩
                go_wp2_with fail
                go_round
                case rel => exact ⟨j + 1, by omega, by go_num, .inl ⟨rfl, HS⟩⟩
                case measure => simp [intOf]; omega
              · have HS : Hid (nzB xs = false) := Lib.hid (by unfold nzB; rw [List.all_eq_false]; exact ⟨x, hm, by simpa using h1⟩)
                have h1e : hsL x.2 = 0 := by omega
                go_wp2_with fail
                refine hg.out.mono ?_
                rintro e w2 ⟨rfl, rfl⟩
                go_wp2_with fail
                go_round
                case rel => exact ⟨j + 1, by omega, by go_num, .inr ⟨rfl, HS⟩⟩
                case measure => simp [intOf]; omega
            · obtain rfl : j = k := by omega
              have hz : nzB xs = true := by
                unfold nzB
                rw [List.all_eq_true]
                intro x hx
                obtain ⟨i, hi, rfl⟩ := List.getElem_of_mem hx
                have := H2.out i _ (by rw [← HXL.out]; exact hi) (List.getElem?_eq_getElem hi)
                simpa using this
              have e1 : bdC xs fine = 0 := by unfold bdC; rw [HC.out, HV.out, hz]; rfl
              have E1 := Lib.hid e1; clear e1 hz
              go_wp2_with fail
              go_ret
              exact ⟨ret_int E1.out.symm, rfl⟩
          · have e1 : bdC xs fine = 6 := by unfold bdC; rw [HC.out, HV.out, H2.out]; rfl
            have E1 := Lib.hid e1; clear e1
            by_cases hlt2 : (j : Int) < (k : Int)
            all_goals (
              go_wp2_with fail
              go_ret
              exact ⟨ret_int E1.out.symm, rfl⟩)
    · have e1 : bdC xs fine = 3 := by unfold bdC; rw [HC.out, H.out]; rfl
      have E1 := Lib.hid e1; clear e1
      by_cases hlt : (k : Int) < (n : Int)
      all_goals (
        go_wp2_with fail
        go_loop [5, 7] (fun s v => s = .int .i64 3 ∧ v = .int .i64 0) (fun _ _ => 0)
        case atStart => exact ⟨rfl, rfl⟩
        case round =>
          obtain ⟨rfl, rfl⟩ := hrel
          by_cases hn0 : (0 : Int) < n
          all_goals go_wp2_with fail
          all_goals go_ret
          all_goals exact ⟨ret_int E1.out.symm, rfl⟩)
theorem l01Multiple_any (A : Option Addr) (n c : Nat) (xs : List (Int × List Int)) (w : World) (R : Rds w A n 9 FlC xs) (hF : Hid (FlOk xs)) (h1 : Hid (hvB xs = true)) (h2 : Hid (nzB xs = true)) (h6 : n ≤ 6) :
    Calls Try.prog 48 #[.slice A n c] w fun e w' => e = .returned (.int .i64 (mulTo xs n)) ∧ Below w.heap.size w w' := by
  go_enter Try.func48, Try.ntmps48
  go_wp2_with fail
  go_loopw [3, 4] (fun s v wr => ∃ k : Nat, k ≤ n ∧ v = .int .i64 k ∧ s = .int .i64 (mulTo xs k) ∧ Below w.heap.size w wr) (fun _ v _ => n - (intOf v).toNat)
  case atStart => exact ⟨0, by omega, rfl, rfl, Below.refl _ _⟩
  case round =>
    obtain ⟨k, hk, rfl, rfl, hB⟩ := hrel
    by_cases hlt : k < n
    · obtain ⟨ad, x, rfl, hx, hm, hg⟩ := l01Grams_of (R.below hB) hF.out hlt
      have hmb := mul_all h1.out h2.out (k := k) (by omega)
      have hgb := gA_bd h1.out h2.out k
      have e1 : mulTo xs (k + 1) = (mulTo xs k).tdiv (gI (mulTo xs k) (gA xs k)) * gA xs k := rfl
      rw [gA_at hx] at hgb e1
      obtain ⟨s0, s1, s2⟩ := mul_step hmb.1 hgb.1
      have E1 := Lib.hid e1
      clear e1 hx hm
      generalize mulTo xs k = M at hmb s0 s1 s2 E1 ⊢
      generalize hsL x.2 = g at hgb s0 s1 s2 E1 hg
      have hd := gI_pos (a := M) (b := g) (by omega)
      have hp := mul_bd2 (show 0 ≤ M.tdiv (gI M g) by omega) (show M.tdiv (gI M g) ≤ 1000000000000 by omega) (show 0 ≤ g by omega) hgb.2
      have v1 : IntKind.i64.wrap (M.tdiv (gI M g)) = M.tdiv (gI M g) := IntWalk.i64_in _ (by omega)
      have v2 : IntKind.i64.wrap (M.tdiv (gI M g) * g) = M.tdiv (gI M g) * g := IntWalk.i64_in _ (by omega)
      have hd0 : ¬ gI M g = 0 := by omega
      go_wp2_with fail
      refine hg.out.mono ?_
      rintro e w2 ⟨rfl, rfl⟩
      go_wp2_with fail
      refine (l01Common_any M g _ (by unfold Mid; omega) (by unfold Mid; omega) (by omega) (by omega)).mono ?_
      rintro e w3 ⟨rfl, hb3⟩
      have hB3 := below_then hB hB.size hb3
      go_wp2_with fail
      go_roundw
      case rel => exact ⟨k + 1, by omega, by go_num, by rw [E1.out], hB3⟩
      case measure => simp [intOf]; omega
    · obtain rfl : k = n := by omega
      go_wp2_with fail
      go_ret
      exact ⟨rfl, hB⟩
set_option maxHeartbeats 1000000 in
theorem l01Share_any (A B : Option Addr) (n c d : Nat) (xs : List (Int × List Int)) (ps : List Int) (j : Nat) (M : Int) (w : World) (R : Rds w A n 9 FlC xs) (hF : Hid (FlOk xs)) (R2 : Rds w B n 1 (fun x : Int => [.int .i64 x]) ps) (hfl : Hid (flB xs = true)) (h1 : Hid (hvB xs = true)) (h2 : Hid (nzB xs = true)) (h6 : n ≤ 6) (hj : j < 8) (hp : Hid (∀ k, 0 ≤ gd ps k ∧ gd ps k ≤ 8)) (hM : 0 ≤ M ∧ M ≤ 1000000000000) :
    Calls Try.prog 58 #[.slice A n c, .slice B n d, .int .i64 (j : Int), .int .i64 M] w fun e w' => e = .returned (.int .i64 (shaTo xs ps M j n)) ∧ Below w.heap.size w w' := by
  go_enter Try.func58, Try.ntmps58
  go_wp2_with fail
  go_loopw [9, 10] (fun s v wr => ∃ k : Nat, k ≤ n ∧ v = .int .i64 k ∧ s = .int .i64 (shaTo xs ps M j k) ∧ Below w.heap.size w wr) (fun _ v _ => n - (intOf v).toNat)
  case atStart => exact ⟨0, by omega, rfl, rfl, Below.refl _ _⟩
  case round =>
    obtain ⟨k, hk, rfl, rfl, hB⟩ := hrel
    by_cases hlt : k < n
    · obtain ⟨ad, x, rfl, hx, hm, hg⟩ := l01Grams_of (R.below hB) hF.out hlt
      obtain ⟨ad_, x_, hA, hx_, _, _, hc⟩ := (R.below hB).cells hlt
      cases hA
      rw [hx] at hx_
      cases hx_
      have hl8 := (hF.out x hm).2.1
      have e0 : wr.cell? ⟨(ad.add (k * 9)).block, (ad.add (k * 9)).off + 1 + j, none⟩ = some (.int .i32 (x.2.getD j 0)) := by
        have h := hc j (.int .i32 (x.2.getD j 0)) (by
          show (nums .i32 x.2)[j]? = _
          rw [nums_get, List.getElem?_eq_getElem (by omega), List.getD_eq_getElem?_getD, List.getElem?_eq_getElem (by omega)]
          rfl)
        rw [show (ad.add (k * 9)).off + 1 + j = (ad.add (k * 9)).off + (j + 1) by omega]
        exact h
      obtain ⟨bd, p, rfl, hpx, ep⟩ := (R2.below hB).at1 hlt
      have hgp := gd_of hpx
      have hpb := hp.out k
      rw [hgp] at hpb
      have hvb := vA_bd hfl.out j k
      have hsb := shaTo_bd hfl.out (gA_bd h1.out h2.out) hp.out hM j k
      have hgb := gA_bd h1.out h2.out k
      have e1 : shaTo xs ps M j (k + 1) = shaTo xs ps M j k + gd ps k * vA xs j k * M.tdiv (gA xs k) := rfl
      rw [gA_at hx, vA_at hx, hgp] at e1
      rw [gA_at hx] at hgb
      rw [vA_at hx] at hvb
      have E1 := Lib.hid e1; have HX := Lib.hid hx
      clear e1 hx hm hc hl8 hpx hgp hg
      generalize shaTo xs ps M j k = S at hsb E1 ⊢
      obtain ⟨g, hgg⟩ : ∃ g, hsL x.2 = g := ⟨_, rfl⟩
      rw [hgg] at hgb
      replace E1 := E1.out
      rw [hgg] at E1
      replace E1 := Lib.hid E1
      have HG := Lib.hid hgg; clear hgg
      generalize x.2.getD j 0 = v at hvb E1 e0
      have hp1 := mul_bd2 hpb.1 hpb.2 hvb.1 hvb.2
      have ht := tdiv_bd hM.1 hgb.1
      have hp2 := mul_bd2 hp1.1 hp1.2 ht.1 (show M.tdiv g ≤ 1000000000000 by omega)
      have hg0 : ¬ g = 0 := by omega
      have v1 : IntKind.i64.wrap (p * v) = p * v := IntWalk.i64_in _ (by omega)
      have v2 : IntKind.i64.wrap (M.tdiv g) = M.tdiv g := IntWalk.i64_in _ (by omega)
      have v3 : IntKind.i64.wrap (p * v * M.tdiv g) = p * v * M.tdiv g := IntWalk.i64_in _ (by omega)
      have v4 : IntKind.i64.wrap (S + p * v * M.tdiv g) = S + p * v * M.tdiv g := IntWalk.i64_in _ (by omega)
      have v5 : IntKind.i64.wrap v = v := IntWalk.i64_in _ (by omega)
      go_wp2_with fail
      go_quiet ((go_at_call 32; exact Calls.quiet_of_same (l01Grams_x ((R.below hB).below (Joins.below_draws _ _ _)) hF.out hlt HX.out HG.out)))
      go_wp2_with fail
      clear v1 v2 v3 v4 v5
      go_roundw
      case rel => exact ⟨k + 1, by omega, by go_num, by rw [E1.out], hB.trans (Joins.below_draws _ _ _)⟩
      case measure => simp [intOf]; omega
    · obtain rfl : k = n := by omega
      go_wp2_with fail
      go_ret
      exact ⟨rfl, hB⟩
end Go.Proofs.Ytjbaaomodcgdgaa
