/- Contracts: DenOf, SumOfFractions, SumOf; lists found the same (SameFractions, SameNumbers). -/
import Derived.Test.YtjbaaomodcgdgaaS1
import Derived.Test.YtjbaaomodcgdgaaE1
import Derived.Test.YtjbaaomodcgdgaaC3
import Derived.Deep.RegionWith
namespace Go.Proofs.Ytjbaaomodcgdgaa
open Go.RowKit
set_option linter.unusedVariables false
set_option linter.unusedSimpArgs false
def nnF (fs : List (Int × Int)) (k : Nat) : Int := (fs.getD k (0, 1)).1
def dnF (fs : List (Int × Int)) (k : Nat) : Int := (fs.getD k (0, 1)).2
theorem fF_of {fs : List (Int × Int)} {k : Nat} {x : Int × Int} (h : fs[k]? = some x) : nnF fs k = x.1 ∧ dnF fs k = x.2 := by
  unfold nnF dnF
  rw [List.getD_eq_getElem?_getD, h]
  exact ⟨rfl, rfl⟩
def denTo (fs : List (Int × Int)) : Nat → Int
  | 0 => 1
  | k + 1 => (denTo fs k).tdiv (gI (denTo fs k) (dnF fs k)) * dnF fs k
def sfTo (fs : List (Int × Int)) (m : Int) : Nat → Int
  | 0 => 0
  | k + 1 => sfTo fs m k + nnF fs k * m.tdiv (dnF fs k)
theorem sumOf_any (A : Option Addr) (n c : Nat) (xs : List Int) (w : World) (R : Rds w A n 1 (fun x : Int => [.int .i64 x]) xs) (hb : Hid (∀ k, k ≤ n → -1000000000 ≤ (xs.take k).sum ∧ (xs.take k).sum ≤ 1000000000)) :
    Calls Try.prog 17 #[.slice A n c] w fun e w' => e = .returned (.int .i64 xs.sum) ∧ w' = w := by
  have HXL := Lib.hid R.1
  have hn := R.2.1
  go_enter Try.func17, Try.ntmps17
  go_wp2_with fail
  go_loopw [3, 4] (fun s v wr => ∃ k : Nat, k ≤ n ∧ v = .int .i64 k ∧ s = .int .i64 ((xs.take k).sum) ∧ wr = w) (fun _ v _ => n - (intOf v).toNat)
  case atStart => exact ⟨0, by omega, rfl, rfl, rfl⟩
  case round =>
    obtain ⟨k, hk, rfl, rfl, rfl⟩ := hrel
    by_cases hlt : k < n
    · obtain ⟨ad, x, rfl, hx, hc⟩ := R.at1 hlt
      have hs : (xs.take (k + 1)).sum = (xs.take k).sum + x := by rw [List.take_add_one, hx, List.sum_append]; simp
      have b1 := hb.out k hk
      have b2 := hb.out (k + 1) (by omega)
      rw [hs] at b2
      have HS := Lib.hid hs
      obtain ⟨X, hX⟩ : ∃ X, (xs.take k).sum = X := ⟨_, rfl⟩
      rw [hX] at b1 b2 HS ⊢
      clear hs hx hX
      have v1 : IntKind.i64.wrap (X + x) = X + x := IntWalk.i64_in _ (by omega)
      go_wp2_with fail
      go_roundw
      case rel => exact ⟨k + 1, by omega, by go_num, by rw [HS.out], by first | rfl | trivial⟩
      case measure => simp [intOf]; omega
    · obtain rfl : k = n := by omega
      have hni : ¬ (k : Int) < (k : Int) := by omega
      have HE : Hid ((xs.take k).sum = xs.sum) := Lib.hid (by rw [List.take_of_length_le (by rw [HXL.out]; exact Nat.le_refl _)])
      go_wp2_with fail
      go_ret
      exact ⟨by rw [HE.out]; rfl, rfl⟩
set_option maxHeartbeats 1000000 in
theorem denOf_any (A : Option Addr) (n c : Nat) (fs : List (Int × Int)) (w : World) (R : Rds w A n 2 FrC fs) (hb : Hid (∀ k, k ≤ n → 1 ≤ denTo fs k ∧ denTo fs k ≤ 1000000000000)) (hd : Hid (∀ k, k < n → 1 ≤ dnF fs k ∧ dnF fs k ≤ 1000000000000)) :
    Calls Try.prog 15 #[.slice A n c] w fun e w' => e = .returned (.int .i64 (denTo fs n)) ∧ Below w.heap.size w w' := by
  have hn := R.2.1
  go_enter Try.func15, Try.ntmps15
  go_wp2_with fail
  go_loopw [3, 4] (fun s v wr => ∃ k : Nat, k ≤ n ∧ v = .int .i64 k ∧ s = .int .i64 (denTo fs k) ∧ Hid (Below w.heap.size w wr)) (fun _ v _ => n - (intOf v).toNat)
  case atStart => exact ⟨0, by omega, rfl, rfl, Lib.hid (Below.refl _ _)⟩
  case round =>
    obtain ⟨k, hk, rfl, rfl, hB⟩ := hrel
    by_cases hlt : k < n
    · obtain ⟨ad, x, rfl, hx, e0, e1⟩ := (R.below hB.out).frac hlt
      have hdk := (fF_of hx).2
      have b1 := hb.out k hk
      have b2 := hb.out (k + 1) (by omega)
      have b3 := hd.out k hlt
      have HS : Hid (denTo fs (k + 1) = (denTo fs k).tdiv (gI (denTo fs k) x.2) * x.2) := Lib.hid (by rw [← hdk]; rfl)
      rw [HS.out] at b2
      rw [hdk] at b3
      obtain ⟨Dk, hDk⟩ : ∃ Dk, denTo fs k = Dk := ⟨_, rfl⟩
      rw [hDk] at b1 b2 HS ⊢
      obtain ⟨dx, hdx⟩ : ∃ dx, x.2 = dx := ⟨_, rfl⟩
      rw [hdx] at b2 b3 HS e1
      clear hx hdk hDk hdx e0
      have hg1 := gI_pos (a := Dk) (b := dx) (by omega)
      obtain ⟨G, hG⟩ : ∃ G, gI Dk dx = G := ⟨_, rfl⟩
      rw [hG] at hg1 b2 HS
      have hq0 := Int.tdiv_nonneg (a := Dk) (b := G) (by omega) (by omega)
      have hq1 : Dk.tdiv G ≤ Dk := by rw [Int.tdiv_eq_ediv_of_nonneg (by omega)]; exact Int.ediv_le_self _ (by omega)
      obtain ⟨Qk, hQ⟩ : ∃ Qk, Dk.tdiv G = Qk := ⟨_, rfl⟩
      have HQ := Lib.hid hQ
      rw [hQ] at hq0 hq1 b2 HS
      have hG0 : ¬ G = 0 := by omega
      have v1 : IntKind.i64.wrap (Dk.tdiv G) = Qk := by rw [hQ]; exact IntWalk.i64_in _ (by omega)
      have v2 : IntKind.i64.wrap (Qk * dx) = Qk * dx := IntWalk.i64_in _ (by omega)
      have hlc := World.block_lt_of_cell? _ _ e1
      have HP : Hid (Calls Try.prog 51 #[.int .i64 Dk, .int .i64 dx] wr.drew (fun e w1 => e = .returned (.int .i64 G) ∧ w1.cell? ⟨(ad.add (k * 2)).block, (ad.add (k * 2)).off + 1, none⟩ = some (.int .i64 dx) ∧ Hid (Below w.heap.size w w1))) := Lib.hid ((l01Common_any Dk dx wr.drew (by unfold Mid; omega) (by unfold Mid; omega) (by omega) (by omega)).mono (fun e w1 h => by
        obtain ⟨h1, h2⟩ := h
        refine ⟨by rw [h1, hG], (h2.cell hlc).trans e1, Lib.hid ?_⟩
        exact below_then (show Below w.heap.size w wr.drew from ⟨hB.out.os, hB.out.tape, hB.out.output, hB.out.size, hB.out.block⟩) (show w.heap.size ≤ wr.drew.heap.size from hB.out.size) h2))
      clear hG hQ hlc hB
      go_wp2_with fail
      go_region_with (go_at_call 51; refine HP.out.mono ?_; rintro e w1 ⟨rfl, e1b, HB1⟩)
      all_goals
        go_wp2_with fail
        go_roundw
        case rel => exact ⟨k + 1, by omega, by go_num, by rw [HS.out], HB1⟩
        case measure => simp [intOf]; omega
    · obtain rfl : k = n := by omega
      have hni : ¬ (k : Int) < (k : Int) := by omega
      go_wp2_with fail
      go_ret
      exact ⟨rfl, hB.out⟩
theorem sfs_any (A : Option Addr) (n c : Nat) (fs : List (Int × Int)) (m : Int) (w : World) (R : Rds w A n 2 FrC fs) (hm : 0 ≤ m ∧ m ≤ 1000000000000) (hb : Hid (∀ k, k ≤ n → -1000000000000000 ≤ sfTo fs m k ∧ sfTo fs m k ≤ 1000000000000000)) (hd : Hid (∀ k, k < n → 1 ≤ dnF fs k ∧ -1000000000000000 ≤ nnF fs k * m.tdiv (dnF fs k) ∧ nnF fs k * m.tdiv (dnF fs k) ≤ 1000000000000000)) :
    Calls Try.prog 16 #[.slice A n c, .int .i64 m] w fun e w' => e = .returned (.int .i64 (sfTo fs m n)) ∧ Below w.heap.size w w' := by
  have hn := R.2.1
  go_enter Try.func16, Try.ntmps16
  go_wp2_with fail
  go_loopw [5, 6] (fun s v wr => ∃ k : Nat, k ≤ n ∧ v = .int .i64 k ∧ s = .int .i64 (sfTo fs m k) ∧ Hid (Below w.heap.size w wr)) (fun _ v _ => n - (intOf v).toNat)
  case atStart => exact ⟨0, by omega, rfl, rfl, Lib.hid (Below.refl _ _)⟩
  case round =>
    obtain ⟨k, hk, rfl, rfl, hB⟩ := hrel
    by_cases hlt : k < n
    · obtain ⟨ad, x, rfl, hx, e0, e1⟩ := (R.below hB.out).frac hlt
      have hF := fF_of hx
      have b1 := hb.out k hk
      have b2 := hb.out (k + 1) (by omega)
      have b3 := hd.out k hlt
      have HS : Hid (sfTo fs m (k + 1) = sfTo fs m k + x.1 * m.tdiv x.2) := Lib.hid (by rw [← hF.1, ← hF.2]; rfl)
      rw [HS.out] at b2
      rw [hF.1, hF.2] at b3
      obtain ⟨Sk, hSk⟩ : ∃ Sk, sfTo fs m k = Sk := ⟨_, rfl⟩
      rw [hSk] at b1 b2 HS ⊢
      obtain ⟨nx, hnx⟩ : ∃ nx, x.1 = nx := ⟨_, rfl⟩
      obtain ⟨dx, hdx⟩ : ∃ dx, x.2 = dx := ⟨_, rfl⟩
      rw [hdx] at b2 b3 HS e1
      rw [hnx] at b2 b3 HS e0
      clear hx hF hSk hdx hnx
      have hq0 := Int.tdiv_nonneg (a := m) (b := dx) (by omega) (by omega)
      have hq1 : m.tdiv dx ≤ m := by rw [Int.tdiv_eq_ediv_of_nonneg (by omega)]; exact Int.ediv_le_self _ (by omega)
      have hG0 : ¬ dx = 0 := by omega
      have v1 : IntKind.i64.wrap (m.tdiv dx) = m.tdiv dx := IntWalk.i64_in _ (by omega)
      have v2 : IntKind.i64.wrap (nx * m.tdiv dx) = nx * m.tdiv dx := IntWalk.i64_in _ (by omega)
      have v3 : IntKind.i64.wrap (Sk + nx * m.tdiv dx) = Sk + nx * m.tdiv dx := IntWalk.i64_in _ (by omega)
      go_wp2_with fail
      go_quiet (fail)
      go_wp2_with fail
      go_roundw
      case rel => exact ⟨k + 1, by omega, by go_num, by rw [HS.out], Lib.hid ⟨hB.out.os, hB.out.tape, hB.out.output, hB.out.size, hB.out.block⟩⟩
      case measure => simp [intOf]; omega
    · obtain rfl : k = n := by omega
      have hni : ¬ (k : Int) < (k : Int) := by omega
      go_wp2_with fail
      go_ret
      exact ⟨rfl, hB.out⟩
theorem sameFractions_true (A A' : Option Addr) (n c c' : Nat) (xs : List (Int × Int)) (w : World) (R : Rds w A n 2 FrC xs) (R' : Rds w A' n 2 FrC xs) :
    Calls Try.prog 13 #[.slice A n c, .slice A' n c'] w fun e w' => e = .returned (.bool true) ∧ Below w.heap.size w w' := by
  have hn := R.2.1
  go_enter Try.func13, Try.ntmps13
  go_wp2_with fail
  go_loopw [5] (fun v wr => ∃ k : Nat, k ≤ n ∧ v = .int .i64 k ∧ Hid (Below w.heap.size w wr)) (fun v _ => n - (intOf v).toNat)
  case atStart => exact ⟨0, by omega, rfl, Lib.hid (Below.refl _ _)⟩
  case round =>
    obtain ⟨j, hj, rfl, hB⟩ := hrel
    by_cases hlt : j < n
    · obtain ⟨ad, x, rfl, hx, e0, e1⟩ := (R.below hB.out).frac hlt
      obtain ⟨ad_, y, rfl, hy, d0, d1⟩ := (R'.below hB.out).frac hlt
      rw [hx] at hy; cases hy
      clear hx
      go_wp2_with fail
      go_quiet (fail)
      go_wp2_with fail
      go_roundw
      case rel => exact ⟨j + 1, by omega, by go_num, Lib.hid ⟨hB.out.os, hB.out.tape, hB.out.output, hB.out.size, hB.out.block⟩⟩
      case measure => simp [intOf]; omega
    · have hni : ¬ (j : Int) < (n : Int) := by omega
      go_wp2_with fail
      go_ret
      exact ⟨rfl, hB.out⟩
theorem l00SameW (A A' : Option Addr) (n c c' : Nat) (xs : List Int) (w : World) (R : Rds w A n 1 (fun x : Int => [.int .i64 x]) xs) (R' : Rds w A' n 1 (fun x : Int => [.int .i64 x]) xs) :
    Calls Try.prog 50 #[.slice A n c, .slice A' n c'] w fun e w' => e = .returned (.bool true) ∧ Below w.heap.size w w' := by
  have hn := R.2.1
  go_enter Try.func50, Try.ntmps50
  go_wp2_with fail
  go_loopw [5] (fun v wr => ∃ k : Nat, k ≤ n ∧ v = .int .i64 k ∧ Below w.heap.size w wr) (fun v _ => n - (intOf v).toNat)
  case atStart => exact ⟨0, by omega, rfl, Below.refl _ _⟩
  case round =>
    obtain ⟨j, hj, rfl, hB⟩ := hrel
    by_cases hlt : j < n
    · obtain ⟨ad, x, rfl, hx, e0⟩ := (R.below hB).at1 hlt
      obtain ⟨ad_, y, rfl, hy, d0⟩ := (R'.below hB).at1 hlt
      rw [hx] at hy
      cases hy
      clear hx
      go_wp2_with fail
      go_region
      all_goals go_wp2_with fail
      all_goals go_roundw
      case rel => exact ⟨j + 1, by omega, by go_num, hB.drew⟩
      case measure => simp [intOf]; omega
    · go_wp2_with fail
      go_ret
      exact ⟨rfl, hB⟩
theorem sameNumbers_true (A A' : Option Addr) (n c c' : Nat) (xs : List Int) (w : World) (R : Rds w A n 1 (fun x : Int => [.int .i64 x]) xs) (R' : Rds w A' n 1 (fun x : Int => [.int .i64 x]) xs) :
    Calls Try.prog 14 #[.slice A n c, .slice A' n c'] w fun e w' => e = .returned (.bool true) ∧ Below w.heap.size w w' := by
  go_enter Try.func14, Try.ntmps14
  go_wp2_with fail
  refine (l00SameW A A' n c c' xs w R R').mono ?_
  rintro e w1 ⟨rfl, hb⟩
  go_wp2_with fail
  go_ret
  exact ⟨rfl, hb⟩
end Go.Proofs.Ytjbaaomodcgdgaa
