/- Contracts: parting a lump, on both sides. -/
import Derived.Test.YtkdkdnjhhdpbmaaC7
import Derived.Test.YtkdkdnjhhdpbmaaD2
import Derived.Test.YtkdkdnjhhdpbmaaD3
namespace Go.Proofs.Ytkdkdnjhhdpbmaa
open Go.RowKit
set_option linter.unusedVariables false
set_option linter.unusedSimpArgs false
def moreAt (xs : List Int) (i : Nat) : Int := gd xs i - xs.sum / (xs.length : Int)
def leftOf (n i : Nat) : Nat := (i + n - 1) % n
def rightOf (n i : Nat) : Nat := (i + 1) % n
def addAt (xs : List Int) (i : Nat) (v : Int) : List Int := xs.set i (gd xs i + v)
def part1 (xs : List Int) (i : Nat) : List Int := xs.set i (gd xs i - moreAt xs i)
def part2 (xs : List Int) (i : Nat) : List Int := addAt (part1 xs i) (leftOf xs.length i) ((moreAt xs i + 1) / 2)
def part3 (xs : List Int) (i : Nat) : List Int := addAt (part2 xs i) (rightOf xs.length i) (moreAt xs i / 2)
def partL (xs : List Int) (i : Nat) : List Int := if moreAt xs i ≤ 0 then xs else part3 xs i
def partOk (xs : List Int) (i : Nat) : Bool := if moreAt xs i ≤ 0 then true else decide (maxL (part3 xs i) ≤ 10000)
theorem part1_len (xs : List Int) (i : Nat) : (part1 xs i).length = xs.length := by simp [part1]
theorem part2_len (xs : List Int) (i : Nat) : (part2 xs i).length = xs.length := by simp [part2, addAt, part1_len]
theorem part3_len (xs : List Int) (i : Nat) : (part3 xs i).length = xs.length := by simp [part3, addAt, part2_len]
theorem partL_len (xs : List Int) (i : Nat) : (partL xs i).length = xs.length := by unfold partL; split <;> simp [part3_len]
theorem get_gd {xs : List Int} {k : Nat} (h : k < xs.length) : xs[k]? = some (gd xs k) := by
  rw [List.getElem?_eq_getElem h, gd_of (List.getElem?_eq_getElem h)]
theorem gd_set {xs : List Int} {k j : Nat} {v : Int} (hk : k < xs.length) : gd (xs.set k v) j = if k = j then v else gd xs j := by
  unfold gd
  rw [List.getD_eq_getElem?_getD, List.getD_eq_getElem?_getD, List.getElem?_set]
  by_cases h : k = j
  · subst h; simp [hk]
  · simp [h]
theorem mem_gd {xs : List Int} {x : Int} (h : x ∈ xs) : ∃ k, k < xs.length ∧ gd xs k = x := by
  obtain ⟨k, hk, rfl⟩ := List.mem_iff_getElem.1 h
  exact ⟨k, hk, gd_of (List.getElem?_eq_getElem hk)⟩
theorem maxTo_le {xs : List Int} {M : Int} (k : Nat) : maxTo xs k ≤ M ↔ ∀ j, j ≤ k → gd xs j ≤ M := by
  induction k with
  | zero => simp [maxTo]
  | succ k ih =>
    simp only [maxTo]
    constructor
    · intro h j hj
      rcases Nat.lt_or_ge j (k + 1) with h1 | h1
      · exact ih.1 (by omega) j (by omega)
      · obtain rfl : j = k + 1 := by omega
        omega
    · intro h
      have h1 := ih.2 (fun j hj => h j (by omega))
      have h2 := h (k + 1) (Nat.le_refl _)
      omega
theorem leftOf_lt {n i : Nat} (h : 0 < n) : leftOf n i < n := Nat.mod_lt _ h
theorem rightOf_lt {n i : Nat} (h : 0 < n) : rightOf n i < n := Nat.mod_lt _ h
theorem moreAt_bd {xs : List Int} {i : Nat} (h : webOk xs = true) : moreAt xs i ≤ 10000 ∧ 0 ≤ xs.sum / (xs.length : Int) := by
  obtain ⟨h1, h2, h3, h4⟩ := webOk_bd h
  have hs := sum_bd (webOk_small h) xs.length rfl (by omega)
  have hq : 0 ≤ xs.sum / (xs.length : Int) := Int.ediv_nonneg hs.1 (by omega)
  have hg : gd xs i ≤ 10000 := by
    cases hx : xs[i]? with
    | none => simp [gd, List.getD_eq_getElem?_getD, hx]
    | some x => rw [gd_of hx]; exact (h4 x (List.mem_of_getElem? hx)).2
  exact ⟨by unfold moreAt; omega, hq⟩
theorem gd_web {xs : List Int} (h : webOk xs = true) (j : Nat) : 0 ≤ gd xs j ∧ gd xs j ≤ 10000 := by
  cases hx : xs[j]? with
  | none => simp [gd, List.getD_eq_getElem?_getD, hx]
  | some x => rw [gd_of hx]; exact (webOk_bd h).2.2.2 x (List.mem_of_getElem? hx)
theorem part_bd {xs : List Int} {i : Nat} (h : webOk xs = true) (hi : i < xs.length) (hm : 0 < moreAt xs i) :
    (∀ j, 0 ≤ gd (part1 xs i) j ∧ gd (part1 xs i) j ≤ 10000) ∧ (∀ j, 0 ≤ gd (part2 xs i) j ∧ gd (part2 xs i) j ≤ 15001) ∧ (∀ j, 0 ≤ gd (part3 xs i) j ∧ gd (part3 xs i) j ≤ 20001) := by
  have hw := gd_web h
  have hmb := moreAt_bd (i := i) h
  have hd : gd xs i - moreAt xs i = xs.sum / (xs.length : Int) := by unfold moreAt; omega
  have h1 : ∀ j, 0 ≤ gd (part1 xs i) j ∧ gd (part1 xs i) j ≤ 10000 := by
    intro j
    unfold part1
    rw [gd_set hi]
    split
    · have := hw i; omega
    · exact hw j
  have h2 : ∀ j, 0 ≤ gd (part2 xs i) j ∧ gd (part2 xs i) j ≤ 15001 := by
    intro j
    unfold part2 addAt
    rw [gd_set (by rw [part1_len]; exact leftOf_lt (by omega))]
    split
    · have := h1 (leftOf xs.length i); omega
    · have := h1 j; omega
  refine ⟨h1, h2, fun j => ?_⟩
  unfold part3 addAt
  rw [gd_set (by rw [part2_len]; exact rightOf_lt (by omega))]
  split
  · have := h2 (rightOf xs.length i); omega
  · have := h2 j; omega
theorem part_small {xs : List Int} {i : Nat} (h : webOk xs = true) (hi : i < xs.length) (hm : 0 < moreAt xs i) : ∀ x ∈ part3 xs i, 0 ≤ x ∧ x ≤ 20001 := by
  intro x hx
  obtain ⟨k, _, rfl⟩ := mem_gd hx
  exact (part_bd h hi hm).2.2 k
theorem part_web {xs : List Int} {i : Nat} (h : webOk xs = true) (hi : i < xs.length) (hm : 0 < moreAt xs i) : webOk (part3 xs i) = decide (maxL (part3 xs i) ≤ 10000) := by
  obtain ⟨h1, h2, h3, h4⟩ := webOk_bd h
  have hb := (part_bd h hi hm).2.2
  rw [Bool.eq_iff_iff]
  simp only [webOk, Bool.and_eq_true, inB_iff, beq_iff_eq, List.all_eq_true, decide_eq_true_eq, part3_len, maxL]
  rw [maxTo_le]
  constructor
  · rintro ⟨_, _, h5⟩ j hj
    have := h5 _ (List.mem_of_getElem? (get_gd (xs := part3 xs i) (k := j) (by rw [part3_len]; omega)))
    omega
  · intro h5
    refine ⟨by omega, by omega, fun x hx => ?_⟩
    obtain ⟨k, hk, rfl⟩ := mem_gd hx
    rw [part3_len] at hk
    exact ⟨(hb k).1, h5 k (by omega)⟩
theorem left_int {n i : Nat} (h : 0 < n) : ((i : Int) + (n : Int) - 1) % (n : Int) = (leftOf n i : Nat) := by
  unfold leftOf
  rw [show (i : Int) + (n : Int) - 1 = ((i + n - 1 : Nat) : Int) by omega]
  rfl
theorem right_int {n i : Nat} : ((i : Int) + 1) % (n : Int) = (rightOf n i : Nat) := rfl
theorem part_web_self {xs : List Int} (h : webOk xs = true) : 0 < xs.length := by have := (webOk_bd h).1; omega
def plC (xs : List Int) (x : Int) : Int := if webOk xs then (if inB x 0 ((xs.length : Int) - 1) then (if partOk xs x.toNat then 0 else 3) else 2) else 1
def plR (xs : List Int) (x : Int) : List Int := if webOk xs then (if inB x 0 ((xs.length : Int) - 1) then (if partOk xs x.toNat then partL xs x.toNat else []) else []) else []
theorem plR_len (xs : List Int) (x : Int) : (plR xs x).length ≤ 1048576 := by
  unfold plR
  split
  · have := (webOk_bd ‹_›).2.1
    split
    · split
      · rw [partL_len]; omega
      · simp
    · simp
  · simp
end Go.Proofs.Ytkdkdnjhhdpbmaa
