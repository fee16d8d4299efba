/- The plain law: lumps of a drawn web, parted again and again: the total stays, and no stripe grows too thick. -/
import Derived.Test.YtkdkdnjhhdpbmaaV3
import Derived.Test.YtkdkdnjhhdpbmaaG2
namespace Go.Proofs.Ytkdkdnjhhdpbmaa
open Go.RowKit
set_option linter.unusedVariables false
set_option linter.unusedSimpArgs false
theorem sum_set (xs : List Int) : ∀ {k : Nat} {v : Int}, k < xs.length → (xs.set k v).sum = xs.sum - gd xs k + v := by
  induction xs with
  | nil => intro k v h; simp at h
  | cons x xs ih =>
    intro k v h
    cases k with
    | zero => simp [gd]; omega
    | succ k =>
      simp only [List.set_cons_succ, List.sum_cons]
      rw [ih (by simpa using h)]
      have : gd (x :: xs) (k + 1) = gd xs k := by simp [gd]
      omega
theorem sum_addAt {xs : List Int} {k : Nat} {v : Int} (h : k < xs.length) : (addAt xs k v).sum = xs.sum + v := by
  unfold addAt
  rw [sum_set _ h]
  omega
def Good (xs : List Int) : Prop := webOk xs = true ∧ xs.sum ≤ 10000
theorem le_sum {xs : List Int} (h : ∀ x ∈ xs, 0 ≤ x) : 0 ≤ xs.sum ∧ ∀ x ∈ xs, x ≤ xs.sum := by
  induction xs with
  | nil => simp
  | cons y xs ih =>
    obtain ⟨h1, h2⟩ := ih (fun x hx => h x (List.mem_cons_of_mem _ hx))
    have hy := h y (List.mem_cons_self ..)
    refine ⟨by rw [List.sum_cons]; omega, fun x hx => ?_⟩
    rw [List.sum_cons]
    rcases List.mem_cons.1 hx with rfl | hx
    · omega
    · have := h2 x hx; omega
theorem part3_sum {xs : List Int} {i : Nat} (hi : i < xs.length) : (part3 xs i).sum = xs.sum := by
  unfold part3
  rw [sum_addAt (by rw [part2_len]; exact rightOf_lt (by omega))]
  unfold part2
  rw [sum_addAt (by rw [part1_len]; exact leftOf_lt (by omega))]
  unfold part1
  rw [sum_set _ hi]
  omega
theorem good_part {xs : List Int} {i : Nat} (h : Good xs) (hi : i < xs.length) : Good (partL xs i) ∧ partOk xs i = true ∧ (partL xs i).sum = xs.sum := by
  unfold partL partOk
  by_cases hm : moreAt xs i ≤ 0
  · rw [if_pos hm, if_pos hm]; exact ⟨h, rfl, rfl⟩
  · rw [if_neg hm, if_neg hm]
    have hs := part3_sum hi
    have hb := (part_bd h.1 hi (by omega)).2.2
    have hl := (webOk_bd h.1).1
    have hle : maxL (part3 xs i) ≤ 10000 := by
      unfold maxL
      rw [maxTo_le]
      intro j hj
      rw [part3_len] at hj
      have := (le_sum (xs := part3 xs i) (fun x hx => by obtain ⟨k, _, rfl⟩ := mem_gd hx; exact (hb k).1)).2 _ (List.mem_of_getElem? (get_gd (k := j) (by rw [part3_len]; omega)))
      rw [hs] at this
      have := h.2
      omega
    exact ⟨⟨by rw [part_web h.1 hi (by omega)]; simpa using hle, by rw [hs]; exact h.2⟩, by simpa using hle, hs⟩
theorem part_at {xs : List Int} {i : Nat} (h : Good xs) (hi : i < xs.length) : gd (partL xs i) i = if gd xs i < xs.sum / (xs.length : Int) then gd xs i else xs.sum / (xs.length : Int) := by
  have hl := (webOk_bd h.1).1
  unfold partL
  by_cases hm : moreAt xs i ≤ 0
  · rw [if_pos hm]
    unfold moreAt at hm
    split
    · rfl
    · omega
  · rw [if_neg hm]
    have hr : rightOf xs.length i ≠ i := by
      unfold rightOf
      rcases Nat.lt_or_ge (i + 1) xs.length with h1 | h1
      · rw [Nat.mod_eq_of_lt h1]; omega
      · rw [show i + 1 = xs.length by omega, Nat.mod_self]; omega
    have hf : leftOf xs.length i ≠ i := by
      unfold leftOf
      rcases Nat.eq_zero_or_pos i with rfl | h1
      · rw [Nat.mod_eq_of_lt (by omega)]; omega
      · rw [show i + xs.length - 1 = (i - 1) + xs.length by omega, Nat.add_mod_right, Nat.mod_eq_of_lt (by omega)]; omega
    unfold part3 addAt
    rw [gd_set (by rw [part2_len]; exact rightOf_lt (by omega)), if_neg hr]
    unfold part2 addAt
    rw [gd_set (by rw [part1_len]; exact leftOf_lt (by omega)), if_neg hf]
    unfold part1
    rw [gd_set hi, if_pos rfl]
    unfold moreAt at hm ⊢
    split <;> omega
/-- One step: the first lump is parted. -/
def stp (t : Int) (xs : List Int) : List Int := match lumpsL xs t with
  | [] => xs
  | k :: _ => partL xs k.toNat
def itr (t : Int) : Nat → List Int → List Int
  | 0, xs => xs
  | j + 1, xs => itr t j (stp t xs)
theorem itr_succ (t : Int) : ∀ (j : Nat) (xs : List Int), itr t (j + 1) xs = stp t (itr t j xs)
  | 0, _ => rfl
  | j + 1, xs => by
    show itr t (j + 1) (stp t xs) = _
    rw [itr_succ t j (stp t xs)]
    rfl
theorem stp_at {t : Int} {xs l : List Int} {k : Nat} (h : lumpsL xs t = (k : Int) :: l) : stp t xs = partL xs k := by unfold stp; rw [h]; rfl
theorem good_stp {t : Int} {xs : List Int} (h : Good xs) : Good (stp t xs) ∧ (stp t xs).length = xs.length ∧ (stp t xs).sum = xs.sum := by
  rcases lumps_cases xs t with h1 | ⟨k, l, hk, h1⟩
  · have e : stp t xs = xs := by unfold stp; rw [h1]
    rw [e]; exact ⟨h, rfl, rfl⟩
  · rw [stp_at h1]
    exact ⟨(good_part h hk).1, partL_len xs k, (good_part h hk).2.2⟩
theorem good_itr {t : Int} : ∀ (j : Nat) {xs : List Int}, Good xs → Good (itr t j xs) ∧ (itr t j xs).length = xs.length ∧ (itr t j xs).sum = xs.sum
  | 0, _, h => ⟨h, rfl, rfl⟩
  | j + 1, xs, h => by
    obtain ⟨g1, g2, g3⟩ := good_stp (t := t) h
    obtain ⟨i1, i2, i3⟩ := good_itr (t := t) j g1
    exact ⟨i1, by rw [show itr t (j + 1) xs = itr t j (stp t xs) from rfl, i2, g2], by rw [show itr t (j + 1) xs = itr t j (stp t xs) from rfl, i3, g3]⟩
theorem pa_good {t : Int} : ∀ (f : Nat) {xs : List Int}, Good xs → (paB f t xs).2.2 = true ∧ (paB f t xs).1 = itr t (paB f t xs).2.1 xs ∧ (paB f t xs).2.1 ≤ f ∧ ((paB f t xs).2.1 = f ∨ lumpsL (paB f t xs).1 t = []) ∧ ∀ j, j < (paB f t xs).2.1 → lumpsL (itr t j xs) t ≠ []
  | 0, xs, h => ⟨rfl, rfl, Nat.le_refl _, .inl rfl, fun j hj => absurd hj (Nat.not_lt_zero _)⟩
  | f + 1, xs, h => by
    rcases lumps_cases xs t with h1 | ⟨k, l, hk, h1⟩
    · rw [paB_none h1]
      exact ⟨rfl, rfl, Nat.zero_le _, .inr h1, fun j hj => absurd hj (Nat.not_lt_zero _)⟩
    · obtain ⟨g1, g2, g3⟩ := good_part h hk
      rw [paB_go h1 g2]
      obtain ⟨i1, i2, i3, i4, i5⟩ := pa_good (t := t) f g1
      rw [← stp_at h1] at i1 i2 i3 i4 i5 ⊢
      refine ⟨i1, i2, by simp only; omega, ?_, ?_⟩
      · rcases i4 with i4 | i4
        · left; simp only; omega
        · right; exact i4
      · intro j hj
        cases j with
        | zero => show lumpsL xs t ≠ []; rw [h1]; simp
        | succ j => exact i5 j (by simp only at hj; omega)
theorem pa_zero {t : Int} {f : Nat} {xs : List Int} (h : Good xs) : (paB f t xs).2.1 = 0 ↔ (f = 0 ∨ lumpsL xs t = []) := by
  obtain ⟨i1, i2, i3, i4, i5⟩ := pa_good (t := t) f h
  constructor
  · intro h0
    rw [h0] at i2
    rcases i4 with i4 | i4
    · left; omega
    · right; rw [i2] at i4; exact i4
  · rintro (h0 | h0)
    · omega
    · rcases Nat.eq_zero_or_pos (paB f t xs).2.1 with h1 | h1
      · exact h1
      · exact absurd h0 (i5 0 h1)
theorem has_lumps {xs : List Int} {t : Int} (i : Nat) : ∀ n, i < n → hasI (lumpsTo xs t n) (i : Int) = lumpAt xs t i
  | 0, h => by omega
  | n + 1, h => by
    have hno : ∀ m, m ≤ i → hasI (lumpsTo xs t m) (i : Int) = false := by
      intro m hm
      unfold hasI
      rw [List.any_eq_false]
      intro y hy
      obtain ⟨j, hj, rfl⟩ := lumpsTo_mem m y hy
      simp; omega
    by_cases hn : i = n
    · subst hn
      cases hl : lumpAt xs t i
      · rw [lumpsTo_no hl]; exact hno i (Nat.le_refl _)
      · rw [lumpsTo_yes hl]; unfold hasI; simp
    · have ih := has_lumps (xs := xs) (t := t) i n (by omega)
      cases hl : lumpAt xs t n
      · rw [lumpsTo_no hl]; exact ih
      · rw [lumpsTo_yes hl, ← ih]
        unfold hasI
        rw [List.any_append]
        have : ((n : Int) == (i : Int)) = false := by simp; omega
        simp [this]
theorem drawn_good {xs : List Int} (h : drawnWeb xs) : Good xs := by
  obtain ⟨h1, h2⟩ := h
  refine ⟨?_, ?_⟩
  · simp only [webOk, Bool.and_eq_true, inB_iff, beq_iff_eq, List.all_eq_true]
    refine ⟨by omega, by omega, fun x hx => ?_⟩
    have := h2 x hx
    omega
  · have := (SumB.of (xs := xs) (n := xs.length) (M := 999) rfl (by omega) (by omega) (by omega) h2)
    have h3 := sumTo_bound (xs := xs) (M := 999) (by omega) h2 xs.length
    rw [sumTo_all] at h3
    have : (xs.length : Int) * 999 ≤ 8 * 999 := Int.mul_le_mul_of_nonneg_right (by omega) (by omega)
    omega
end Go.Proofs.Ytkdkdnjhhdpbmaa
