/- The plain law of parting again and again. -/
import Derived.Test.YtkdkdnjhhdpbmaaF3
namespace Go.Proofs.Ytkdkdnjhhdpbmaa
open Go.RowKit
set_option linter.unusedVariables false
set_option linter.unusedSimpArgs false
theorem lumpsTo_mem {xs : List Int} {t : Int} (k : Nat) : ∀ x ∈ lumpsTo xs t k, ∃ j : Nat, j < k ∧ x = j := by
  induction k with
  | zero => intro x h; simp [lumpsTo] at h
  | succ k ih =>
    intro x h
    simp only [lumpsTo, List.mem_append] at h
    rcases h with h | h
    · obtain ⟨j, h1, h2⟩ := ih x h
      exact ⟨j, by omega, h2⟩
    · split at h
      · simp at h; exact ⟨k, by omega, h⟩
      · simp at h
theorem lumps_cases (xs : List Int) (t : Int) : lumpsL xs t = [] ∨ ∃ (k : Nat) (l : List Int), k < xs.length ∧ lumpsL xs t = (k : Int) :: l := by
  cases h : lumpsL xs t with
  | nil => exact .inl rfl
  | cons x l =>
    obtain ⟨j, h1, h2⟩ := lumpsTo_mem (xs := xs) (t := t) xs.length x (by rw [show lumpsTo xs t xs.length = x :: l from h]; simp)
    exact .inr ⟨j, l, h1, by rw [h2]⟩
theorem partL_web {xs : List Int} {i : Nat} (h : webOk xs = true) (hi : i < xs.length) (ho : partOk xs i = true) : webOk (partL xs i) = true := by
  unfold partL
  unfold partOk at ho
  split
  · exact h
  · rename_i hm
    rw [if_neg hm] at ho
    rw [part_web h hi (by omega)]
    exact ho
def paB : Nat → Int → List Int → List Int × Nat × Bool
  | 0, _, xs => (xs, 0, true)
  | f + 1, t, xs => match lumpsL xs t with
    | [] => (xs, 0, true)
    | k :: _ => if partOk xs k.toNat then ((paB f t (partL xs k.toNat)).1, (paB f t (partL xs k.toNat)).2.1 + 1, (paB f t (partL xs k.toNat)).2.2) else ([], 0, false)
theorem paB_zero (t : Int) (xs : List Int) : paB 0 t xs = (xs, 0, true) := rfl
theorem paB_none {f : Nat} {t : Int} {xs : List Int} (h : lumpsL xs t = []) : paB f t xs = (xs, 0, true) := by
  cases f with
  | zero => rfl
  | succ f => simp [paB, h]
theorem paB_bad {f : Nat} {t : Int} {xs l : List Int} {k : Nat} (h : lumpsL xs t = (k : Int) :: l) (ho : partOk xs k = false) (hf : 0 < f) : paB f t xs = ([], 0, false) := by
  cases f with
  | zero => omega
  | succ f => simp [paB, h, ho]
theorem paB_go {f : Nat} {t : Int} {xs l : List Int} {k : Nat} (h : lumpsL xs t = (k : Int) :: l) (ho : partOk xs k = true) : paB (f + 1) t xs = ((paB f t (partL xs k)).1, (paB f t (partL xs k)).2.1 + 1, (paB f t (partL xs k)).2.2) := by
  simp [paB, h, ho]
/-- The state of the loops: after j rounds the web is ys. -/
def PaAt (xs : List Int) (t : Int) (m j : Nat) (ys : List Int) : Prop :=
  j ≤ m ∧ webOk ys = true ∧ ys.length = xs.length ∧ (paB m t xs).1 = (paB (m - j) t ys).1 ∧ ((paB (m - j) t ys).2.2 = true → (paB m t xs).2.1 = (paB (m - j) t ys).2.1 + j) ∧ (paB m t xs).2.2 = (paB (m - j) t ys).2.2
theorem PaAt.zero {xs : List Int} {t : Int} {m : Nat} (h : webOk xs = true) : PaAt xs t m 0 xs := ⟨by omega, h, rfl, rfl, fun _ => rfl, rfl⟩
theorem PaAt.next {xs ys l : List Int} {t : Int} {m j k : Nat} (h : PaAt xs t m j ys) (hl : lumpsL ys t = (k : Int) :: l) (hk : k < ys.length) (ho : partOk ys k = true) (hj : j < m) : PaAt xs t m (j + 1) (partL ys k) := by
  obtain ⟨h1, h2, h3, h4, h5, h6⟩ := h
  rw [show m - j = (m - (j + 1)) + 1 by omega, paB_go hl ho] at h4 h5 h6
  exact ⟨by omega, partL_web h2 hk ho, by rw [partL_len, h3], h4, fun hh => by rw [h5 hh]; simp only; omega, h6⟩
def paR (xs : List Int) (t m : Int) : List Int := if webOk xs then (if inB t 1 12 && inB m 0 100 then (if (paB m.toNat t xs).2.2 then (paB m.toNat t xs).1 else []) else []) else []
def paM (xs : List Int) (t m : Int) : Int := if webOk xs then (if inB t 1 12 && inB m 0 100 then (if (paB m.toNat t xs).2.2 then ((paB m.toNat t xs).2.1 : Nat) else 0) else 0) else 0
def paC (xs : List Int) (t m : Int) : Int := if webOk xs then (if inB t 1 12 && inB m 0 100 then (if (paB m.toNat t xs).2.2 then 0 else 3) else 2) else 1
theorem PaAt.fin {xs ys : List Int} {t : Int} {m j : Nat} (hw : webOk xs = true) (ht : inB t 1 12 = true) (hm : inB (m : Int) 0 100 = true) (h : PaAt xs t m j ys) (he : j = m ∨ lumpsL ys t = []) : paR xs t m = ys ∧ paM xs t m = j ∧ paC xs t m = 0 := by
  obtain ⟨h1, h2, h3, h4, h5, h6⟩ := h
  have e : paB (m - j) t ys = (ys, 0, true) := by
    rcases he with rfl | he
    · rw [Nat.sub_self]; rfl
    · exact paB_none he
  rw [e] at h4 h5 h6
  have h5 := h5 rfl
  simp only at h4 h5 h6
  refine ⟨?_, ?_, ?_⟩
  · simp [paR, hw, ht, hm, h6, h4]
  · simp [paM, hw, ht, hm, h6, h5]
  · simp [paC, hw, ht, hm, h6]
theorem PaAt.bad {xs ys l : List Int} {t : Int} {m j k : Nat} (hw : webOk xs = true) (ht : inB t 1 12 = true) (hm : inB (m : Int) 0 100 = true) (h : PaAt xs t m j ys) (hl : lumpsL ys t = (k : Int) :: l) (ho : partOk ys k = false) (hj : j < m) : paR xs t m = [] ∧ paM xs t m = 0 ∧ paC xs t m = 3 := by
  obtain ⟨h1, h2, h3, h4, h5, h6⟩ := h
  rw [paB_bad hl ho (by omega)] at h6
  refine ⟨?_, ?_, ?_⟩
  · simp [paR, hw, ht, hm, h6]
  · simp [paM, hw, ht, hm, h6]
  · simp [paC, hw, ht, hm, h6]
theorem paB_len (f : Nat) : ∀ (t : Int) (xs : List Int), (paB f t xs).1.length ≤ xs.length := by
  induction f with
  | zero => intro t xs; exact Nat.le_refl _
  | succ f ih =>
    intro t xs
    unfold paB
    split
    · exact Nat.le_refl _
    · split
      · refine Nat.le_trans (ih _ _) ?_
        rw [partL_len]; exact Nat.le_refl _
      · simp
theorem paR_len (xs : List Int) (t m : Int) : (paR xs t m).length ≤ 1048576 := by
  unfold paR
  split
  · have := (webOk_bd ‹_›).2.1
    have h2 := paB_len m.toNat t xs
    split
    · split
      · omega
      · simp
    · simp
  · simp
end Go.Proofs.Ytkdkdnjhhdpbmaa
