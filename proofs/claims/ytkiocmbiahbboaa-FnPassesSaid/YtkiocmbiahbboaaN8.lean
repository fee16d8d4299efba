/- The plain law of FnPasses: ranks in the order of the texts; the first of the best ones; texts of passes have ranks. -/
import Derived.Test.YtkiocmbiahbboaaN3
import Derived.Test.YtkiocmbiahbboaaC15
import Derived.Laws.Strings
namespace Go.Proofs.Ytkiocmbiahbboaa
open Go.RowKit
set_option linter.unusedVariables false
set_option linter.unusedSimpArgs false
theorem rkD_mono {r q : Nat} (h : r ≤ q) : rkD r ≤ rkD q := by
  have h1 := (rkD_le (rkD q) q).1 (Nat.le_refl _)
  exact (rkD_le (rkD q) r).2 (by omega)
theorem bytesLess_app {x y : List UInt8} (hl : x.length = y.length) (a b : UInt8) : Op.bytesLess (x ++ [a]) (y ++ [b]) = (Op.bytesLess x y || (x == y && decide (a < b))) := by
  induction x generalizing y with
  | nil =>
    cases y with
    | nil => simp [Op.bytesLess]
    | cons y ys => simp at hl
  | cons x xs ih =>
    cases y with
    | nil => simp at hl
    | cons y ys =>
      simp only [List.cons_append, Op.bytesLess]
      rw [ih (by simpa using hl)]
      by_cases h1 : x < y
      · simp [h1]
      · by_cases h2 : x = y
        · subst h2; simp
        · have h3 : (x == y) = false := by simpa using h2
          rw [h3]; simp [h1, h2]
theorem bytesLess_irr (x : List UInt8) : Op.bytesLess x x = false := by
  induction x with
  | nil => rfl
  | cons a x ih => simp [Op.bytesLess, ih]
theorem rkS_list_child (r d : Nat) (hd : d < 3) : (rkS (3 * r + 1 + d)).data.toList = (rkS r).data.toList ++ [psB d] := by
  rw [rkS_child r d hd]
  show ((rkS r).data.push (psB d)).toList = _
  simp
theorem psB_lt {d e : Nat} (hd : d < 3) (he : e < 3) (h : d ≤ e) : ¬ psB e < psB d := by
  have h1 : d = 0 ∨ d = 1 ∨ d = 2 := by omega
  have h2 : e = 0 ∨ e = 1 ∨ e = 2 := by omega
  rcases h1 with rfl | rfl | rfl <;> rcases h2 with rfl | rfl | rfl <;> first | omega | decide
theorem rkS_len (r : Nat) : (rkS r).data.toList.length = rkD r := by
  have h1 := rkS_size r
  have h3 : (rkS r).data.toList.length = (rkS r).size := by rw [Array.length_toList]; rfl
  omega
theorem psB_inj {d e : Nat} (hd : d < 3) (he : e < 3) (h : psB d = psB e) : d = e := by
  have h1 : d = 0 ∨ d = 1 ∨ d = 2 := by omega
  have h2 : e = 0 ∨ e = 1 ∨ e = 2 := by omega
  rcases h1 with rfl | rfl | rfl <;> rcases h2 with rfl | rfl | rfl <;> first | rfl | exact absurd h (by decide)
theorem rkS_inj : ∀ q r, (rkS q).data.toList = (rkS r).data.toList → q = r := by
  intro q
  refine rank_ind (p := fun q => ∀ r, (rkS q).data.toList = (rkS r).data.toList → q = r) ?_ (fun q d hd ih => ?_) q
  · intro r h
    have h1 := rkS_len 0; have h2 := rkS_len r
    rw [h] at h1
    cases r with
    | zero => rfl
    | succ m => rw [h1] at h2; simp [rkD, rank_zero, rank_succ] at h2
  · intro r h
    cases r with
    | zero =>
      have h1 := rkS_len 0; have h2 := rkS_len (3 * q + 1 + d)
      rw [h, h1, rkD_child q d hd] at h2
      have h4 : rkD 0 = 0 := rfl
      omega
    | succ m =>
      have e : m + 1 = 3 * (m / 3) + 1 + m % 3 := by omega
      have hm3 : m % 3 < 3 := by omega
      rw [e, rkS_list_child q d hd, rkS_list_child _ _ hm3] at h
      have h1 := List.append_inj' h rfl
      have h2 := ih _ h1.1
      have h3 := psB_inj hd hm3 (by simpa using h1.2)
      omega
/-- Every text of the three letters has a rank. -/
theorem rkS_of : ∀ (k : Nat) (L : List UInt8), L.length = k → (∀ b ∈ L, b = 99 ∨ b = 102 ∨ b = 114) → ∃ r, (rkS r).data.toList = L := by
  intro k
  induction k with
  | zero =>
    intro L hL _
    exact ⟨0, by rw [List.length_eq_zero_iff.1 hL]; rfl⟩
  | succ k ih =>
    intro L hL hb
    rcases List.eq_nil_or_concat L with rfl | ⟨L', b, rfl⟩
    · simp at hL
    · rw [List.concat_eq_append] at hL hb ⊢
      obtain ⟨r, hr⟩ := ih L' (by simpa using hL) (fun x hx => hb x (List.mem_append_left _ hx))
      have hbb := hb b (List.mem_append_right _ (List.mem_singleton_self b))
      rcases hbb with rfl | rfl | rfl
      · exact ⟨3 * r + 1 + 0, by rw [rkS_list_child r 0 (by omega), hr]; rfl⟩
      · exact ⟨3 * r + 1 + 1, by rw [rkS_list_child r 1 (by omega), hr]; rfl⟩
      · exact ⟨3 * r + 1 + 2, by rw [rkS_list_child r 2 (by omega), hr]; rfl⟩
/-- Among texts of one length the later one is not less. -/
theorem rkS_order : ∀ q r, r ≤ q → rkD r = rkD q → Op.bytesLess (rkS q).data.toList (rkS r).data.toList = false := by
  intro q
  refine rank_ind (p := fun q => ∀ r, r ≤ q → rkD r = rkD q → Op.bytesLess (rkS q).data.toList (rkS r).data.toList = false) ?_ (fun q d hd ih => ?_) q
  · intro r h _
    obtain rfl : r = 0 := by omega
    exact bytesLess_irr _
  · intro r hr hD
    rw [rkD_child q d hd] at hD
    cases r with
    | zero =>
      have h4 : rkD 0 = 0 := rfl
      omega
    | succ m =>
      have e : m + 1 = 3 * (m / 3) + 1 + m % 3 := by omega
      have hm3 : m % 3 < 3 := by omega
      rw [e, rkD_child _ _ hm3] at hD
      rw [e, rkS_list_child q d hd, rkS_list_child (m / 3) (m % 3) hm3]
      have hl : (rkS q).data.toList.length = (rkS (m / 3)).data.toList.length := by
        have h1 := rkS_size q; have h2 := rkS_size (m / 3)
        have h3 : (rkS q).data.toList.length = (rkS q).size := by rw [Array.length_toList]; rfl
        have h4 : (rkS (m / 3)).data.toList.length = (rkS (m / 3)).size := by rw [Array.length_toList]; rfl
        omega
      rw [bytesLess_app hl]
      have hle : m / 3 ≤ q := by omega
      rw [ih (m / 3) hle (by omega)]
      by_cases hqe : m / 3 = q
      · have := psB_lt hm3 hd (by omega : m % 3 ≤ d)
        simp [this]
      · have hne : ((rkS q).data.toList == (rkS (m / 3)).data.toList) = false := by
          rw [beq_eq_false_iff_ne]
          intro h
          exact hqe (rkS_inj _ _ h).symm
        simp [hne]
/-! The first of the best ones. -/
theorem bestOf_first (sp : List Int → Int) (V : Nat → List Int) (T : Nat) : ∀ q, q < T → sp (V q) ≤ sp (V (bestOf sp V (List.range T))) → bestOf sp V (List.range T) ≤ q := by
  induction T with
  | zero => intro q h; omega
  | succ T ih =>
    intro q hq
    rw [List.range_succ, bestOf_snoc]
    unfold better
    split
    · rename_i hlt
      intro h
      rcases Nat.lt_or_ge q T with h1 | h1
      · have := bestOf_le sp V T q h1
        omega
      · exact h1
    · rename_i hge
      intro h
      rcases Nat.lt_or_ge q T with h1 | h1
      · exact ih q h1 h
      · obtain rfl : q = T := by omega
        cases q with
        | zero => exact Nat.le_refl _
        | succ m => exact Nat.le_of_lt (bestOf_lt sp V (by omega) _ (fun x hx => List.mem_range.1 hx))
theorem fw_cases (xs : List Int) (s : Int) (m : Nat) : (fwFind xs s m = none ∧ ∀ q, q < tot m → s < spreadL (rkV xs q)) ∨ ∃ r, r < tot m ∧ fwFind xs s m = some r ∧ spreadL (rkV xs r) ≤ s ∧ ∀ q, q < r → s < spreadL (rkV xs q) := by
  cases h : fwFind xs s m with
  | none =>
    left
    refine ⟨rfl, fun q hq => ?_⟩
    have := (List.find?_eq_none.1 h) q (List.mem_range.2 hq)
    simpa [spP] using this
  | some r =>
    right
    have h1 := List.find?_some h
    have h2 := List.mem_of_find?_eq_some h
    refine ⟨r, List.mem_range.1 h2, rfl, by simpa [spP] using h1, ?_⟩
    -- the least one that is as told is the one that is found
    have key : ∀ k, (∀ q, q < k → q < tot m → s < spreadL (rkV xs q)) ∨ ∃ j, j < k ∧ j < tot m ∧ spreadL (rkV xs j) ≤ s ∧ ∀ q, q < j → s < spreadL (rkV xs q) := by
      intro k
      induction k with
      | zero => left; intro q hq; omega
      | succ k ih =>
        rcases ih with ih | ⟨j, h3, h4, h5, h6⟩
        · by_cases hk : k < tot m
          · by_cases hs : spreadL (rkV xs k) ≤ s
            · exact .inr ⟨k, by omega, hk, hs, fun q hq => ih q hq (by omega)⟩
            · left
              intro q hq hq2
              rcases Nat.lt_or_ge q k with h | h
              · exact ih q h hq2
              · obtain rfl : q = k := by omega
                omega
          · left
            intro q hq hq2
            exact ih q (by omega) hq2
        · exact .inr ⟨j, by omega, h4, h5, h6⟩
    rcases key (tot m) with hk | ⟨j, _, h4, h5, h6⟩
    · have h1' : spreadL (rkV xs r) ≤ s := by simpa [spP] using h1
      have := hk r (List.mem_range.1 h2) (List.mem_range.1 h2)
      omega
    · have hj := fwFind_some (xs := xs) (s := s) (m := m) h4 (by simp [spP, h5]) (fun q hq => by have := h6 q hq; simp [spP]; omega)
      rw [h] at hj
      cases hj
      exact h6
/-- A longer text, or a later one of one length, is not before one of a smaller rank. -/
theorem rk_before {b q : Nat} (h : b ≤ q) : ¬ (rkS q).size < (rkS b).size ∧ ((rkS q).size = (rkS b).size → Op.bytesLess (rkS q).toList (rkS b).toList = false) := by
  rw [rkS_size, rkS_size]
  refine ⟨by have := rkD_mono h; omega, fun he => ?_⟩
  rw [ByteArray.toList_eq, ByteArray.toList_eq]
  exact rkS_order q b h he.symm
end Go.Proofs.Ytkiocmbiahbboaa
