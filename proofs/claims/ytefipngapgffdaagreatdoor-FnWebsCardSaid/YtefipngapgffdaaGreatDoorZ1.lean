/- Plain law of FnWebs: what the parts of a web have to do with one another. -/
import Derived.Test.YtefipngapgffdaaGreatDoorC17
import Derived.Test.YtefipngapgffdaaGreatDoorC7
import Derived.Test.YtefipngapgffdaaGreatDoorC4
import Derived.Test.YtefipngapgffdaaGreatDoorD1
import Derived.Test.YtefipngapgffdaaGreatDoorD3
import Derived.Test.YtefipngapgffdaaGreatDoorE2
import Derived.Test.YtefipngapgffdaaGreatDoorO2
import Derived.Test.YtefipngapgffdaaGreatDoorQ3
namespace Go.Proofs.YtefipngapgffdaaGreatDoor
open Go.RowKit
set_option linter.unusedVariables false
set_option linter.unusedSimpArgs false
theorem webOk_of2 {xs : List Int} {n : Nat} (h : Web xs n) : webOk xs = true := by
  obtain ⟨h1, h2, h3, h4, h5⟩ := h
  subst h1
  simp only [webOk, Bool.and_eq_true, inB_iff, beq_iff_eq, List.all_eq_true]
  exact ⟨by omega, by omega, h5⟩
theorem web_rw {xs : List Int} (h : webOk xs = true) : rwR (webB xs) = xs ∧ rwC (webB xs) = 0 := by
  obtain ⟨b1, b2, b3, b4⟩ := webOk_bd h
  have hb : ∀ x ∈ xs, 0 ≤ x ∧ x < 1000000000 := fun x hx => by have := b4 x hx; omega
  have e : webB xs = wtB xs := by unfold webB; rw [if_pos h]
  have hne : xs ≠ [] := fun e => by rw [e] at b1; simp at b1
  have hw := wds_wt hne (fun x hx => (hb x hx).1)
  have hs : svs (wtB xs) = xs := by
    unfold svs
    rw [hw, List.map_map]
    exact map_self fun x hx => (itoa_num (hb x hx).1 (hb x hx).2).2
  have ho : sok (wtB xs) = true := by
    unfold sok
    rw [hw, List.all_eq_true]
    intro w hm
    obtain ⟨x, hx, rfl⟩ := List.mem_map.1 hm
    exact (itoa_num (hb x hx).1 (hb x hx).2).1
  have := rw_spec_yes ho (by rw [hs]; exact h)
  rw [hs] at this
  rw [e]
  exact this
/-! rolling -/
theorem rollL_sum (xs : List Int) (b : Int) : (rollL xs b).sum = xs.sum := by
  unfold rollL
  rw [List.sum_append, Int.add_comm, ← List.sum_append, List.take_append_drop]
theorem rollL_mem {xs : List Int} {b x : Int} (h : x ∈ rollL xs b) : x ∈ xs := by
  unfold rollL at h
  rcases List.mem_append.1 h with h | h
  · exact List.mem_of_mem_drop h
  · exact List.mem_of_mem_take h
theorem web_roll {xs : List Int} {n : Nat} (h : Web xs n) (b : Int) : Web (rollL xs b) n :=
  ⟨(rollL_len xs b).trans h.1, h.2.1, h.2.2.1, h.2.2.2.1, fun x hx => h.2.2.2.2 x (rollL_mem hx)⟩
theorem rollAt_neg {n : Nat} (hn : 0 < n) (b : Int) : (rollAt n b = 0 ∧ rollAt n (-b) = 0) ∨ (0 < rollAt n b ∧ rollAt n b < n ∧ rollAt n (-b) = n - rollAt n b) := by
  have h1 := Int.emod_nonneg b (show (n : Int) ≠ 0 by omega)
  have h2 := Int.emod_lt_of_pos b (show (0 : Int) < n by omega)
  by_cases hz : b % (n : Int) = 0
  · have h3 : (-b) % (n : Int) = 0 := Int.emod_eq_zero_of_dvd (Int.dvd_neg.2 (Int.dvd_of_emod_eq_zero hz))
    left
    unfold rollAt
    rw [hz, h3]
    simp
  · have h4 : ((n : Int) - b % n) % n = (n : Int) - b % n := Int.emod_eq_of_lt (by omega) (by omega)
    have h5 : (-b) % (n : Int) = (n : Int) - b % n := by
      have : -b = (n : Int) * (-(b / n) - 1) + ((n : Int) - b % n) := by
        have := Int.mul_ediv_add_emod b n
        have e : (n : Int) * (-(b / n) - 1) = -(n * (b / n)) - n := by rw [Int.mul_sub, Int.mul_neg, Int.mul_one]
        omega
      rw [this, Int.add_comm, Int.add_mul_emod_self_left, h4]
    have h6 : ((n : Int) - ((n : Int) - b % n)) % n = b % n := by rw [show (n : Int) - ((n : Int) - b % n) = b % n by omega]; exact Int.emod_eq_of_lt h1 h2
    right
    unfold rollAt
    rw [h5, h4, h6]
    omega
theorem roll_back {xs : List Int} (hn : 0 < xs.length) (b : Int) : rollL (rollL xs b) (-b) = xs := by
  have hl := rollL_len xs b
  have e : rollL (rollL xs b) (-b) = (rollL xs b).drop (rollAt xs.length (-b)) ++ (rollL xs b).take (rollAt xs.length (-b)) := by conv => lhs; rw [rollL, hl]
  rw [e]
  rcases rollAt_neg hn b with ⟨h1, h2⟩ | ⟨h1, h2, h3⟩
  · rw [h2, List.drop_zero, List.take_zero, List.append_nil]
    unfold rollL
    rw [h1, List.drop_zero, List.take_zero, List.append_nil]
  · rw [h3]
    unfold rollL
    have hd : (xs.drop (rollAt xs.length b)).length = xs.length - rollAt xs.length b := by rw [List.length_drop]
    rw [← hd, List.drop_left, List.take_left, List.take_append_drop]
theorem web_rev {xs : List Int} {n : Nat} (h : Web xs n) : Web xs.reverse n :=
  ⟨by rw [List.length_reverse]; exact h.1, h.2.1, h.2.2.1, h.2.2.2.1, fun x hx => h.2.2.2.2 x (List.mem_reverse.1 hx)⟩
/-! sums -/
theorem outL_sum (xs : List Int) : (outL xs).sum = xs.sum := by
  induction xs with
  | nil => rfl
  | cons x xs ih =>
    have e : outL (x :: xs) = two x ++ outL xs := by simp [outL]
    rw [e, List.sum_append, ih, List.sum_cons]
    have : (two x).sum = x := by simp [two]; omega
    omega
theorem sum_take_succ {xs : List Int} {k : Nat} (h : k < xs.length) : (xs.take (k + 1)).sum = (xs.take k).sum + gd xs k := by
  rw [List.take_add_one, gd_of (List.getElem?_eq_getElem h), List.getElem?_eq_getElem h, List.sum_append]
  simp
theorem sum_drop_succ {xs : List Int} {k : Nat} (h : k < xs.length) : (xs.drop k).sum = gd xs k + (xs.drop (k + 1)).sum := by
  rw [List.drop_eq_getElem_cons h, List.sum_cons, gd_of (List.getElem?_eq_getElem h)]
theorem foldTo_sum (xs : List Int) : ∀ k, 2 * k ≤ xs.length → (foldTo xs k).sum = (xs.take k).sum + (xs.drop (xs.length - k)).sum := by
  intro k
  induction k with
  | zero => intro _; simp [foldTo]
  | succ k ih =>
    intro hk
    rw [foldTo_succ, List.sum_append, ih (by omega), sum_take_succ (by omega), sum_drop_succ (k := xs.length - (k + 1)) (by omega), show xs.length - (k + 1) + 1 = xs.length - k by omega, show xs.length - (k + 1) = xs.length - 1 - k by omega]
    simp
    omega
theorem crossTo_sum (xs : List Int) : ∀ k, 2 * k ≤ xs.length → (crossTo xs k).sum = (xs.take k).sum + ((xs.drop (xs.length / 2)).take k).sum := by
  intro k
  induction k with
  | zero => intro _; simp [crossTo]
  | succ k ih =>
    intro hk
    have hg : gd (xs.drop (xs.length / 2)) k = gd xs (k + xs.length / 2) := by
      have h1 : (xs.drop (xs.length / 2))[k]? = xs[k + xs.length / 2]? := by rw [List.getElem?_drop, Nat.add_comm]
      unfold gd
      rw [List.getD_eq_getElem?_getD, List.getD_eq_getElem?_getD, h1]
    rw [crossTo_succ, List.sum_append, ih (by omega), sum_take_succ (by omega), sum_take_succ (xs := xs.drop (xs.length / 2)) (by rw [List.length_drop]; omega), hg]
    simp
    omega
theorem foldL_sum {xs : List Int} (h : xs.length % 2 = 0) : (foldL xs).sum = xs.sum := by
  unfold foldL
  rw [foldTo_sum _ _ (by omega), show xs.length - xs.length / 2 = xs.length / 2 by omega, ← List.sum_append, List.take_append_drop]
theorem crossL_sum {xs : List Int} (h : xs.length % 2 = 0) : (crossL xs).sum = xs.sum := by
  unfold crossL
  rw [crossTo_sum _ _ (by omega), List.take_of_length_le (l := xs.drop (xs.length / 2)) (by rw [List.length_drop]; omega), ← List.sum_append, List.take_append_drop]
theorem cardD_sum {xs : List Int} {n : Nat} (h : Web xs n) (c : Int) : (cardD xs c).sum = xs.sum := by
  unfold cardD
  rw [outL_sum]
  have he : xs.length % 2 = 0 := by rw [h.1]; exact h.2.1
  split
  · exact foldL_sum he
  · exact crossL_sum he
theorem map_split (f : Int → Int) (xs : List Int) : (xs.map fun x => x - f x).sum + (xs.map f).sum = xs.sum := by
  induction xs with
  | nil => rfl
  | cons x xs ih => simp only [List.map_cons, List.sum_cons]; omega
theorem card_sum {xs : List Int} {n : Nat} (h : Web xs n) (c p : Int) : (cardL xs c p).sum + cardF xs c p = xs.sum := by
  unfold cardL cardF
  split
  · rw [rollL_sum]; omega
  · rw [map_split, cardD_sum h]
theorem crL_sum {xs : List Int} {n : Nat} (h : Web xs n) (s : ByteArray) {p : Int} (hp : 0 ≤ p ∧ p ≤ 100) : ∀ k, (crL xs s p k).sum + crF xs s p k = xs.sum := by
  intro k
  induction k with
  | zero => simp [crL, crF]
  | succ k ih =>
    have := card_sum (crL_web h s hp k) (bq s k) p
    simp only [crL, crF]
    omega
theorem lost0 (x : Int) : lostI x 0 = 0 := by simp [lostI]
theorem cardF0 (xs : List Int) (c : Int) : cardF xs c 0 = 0 := by
  unfold cardF
  split
  · rfl
  · have : ∀ l : List Int, (l.map fun x => lostI x 0).sum = 0 := by
      intro l
      induction l with
      | nil => rfl
      | cons x l ih => rw [List.map_cons, List.sum_cons, ih, lost0]; rfl
    exact this _
theorem crF0 (xs : List Int) (s : ByteArray) : ∀ k, crF xs s 0 k = 0 := by
  intro k
  induction k with
  | zero => rfl
  | succ k ih => simp only [crF, ih, cardF0]; rfl
theorem psOk_pss {s : ByteArray} (h : ∀ b, b ∈ s.data.toList → b = 99 ∨ b = 102 ∨ b = 114) : psOk s = true := by
  unfold psOk
  rw [List.all_eq_true]
  intro k hk
  have hk := List.mem_range.1 hk
  have hq : bq s k = ((s[k]'hk).toNat : Int) := by unfold bq; rw [dif_pos hk]
  have hm : (s[k]'hk) ∈ s.data.toList := by
    have : s.data.toList[k]'(by rw [str_len]; exact hk) = s[k]'hk := rfl
    rw [← this]
    exact List.getElem_mem _
  unfold isP
  rw [hq, decide_eq_true_eq]
  rcases h _ hm with e | e | e <;> rw [e]
  · right; right; rfl
  · right; left; rfl
  · left; rfl
/-- The card of all passes: its code, its length, its total. -/
theorem ca_web {xs : List Int} {n : Nat} {s : ByteArray} {p : Int} (h : Web xs n) (hs : psOk s = true) (hz : s.size ≤ 20) (hp : 0 ≤ p ∧ p ≤ 100) :
    caC xs s p = 0 ∧ (caL xs s p).length = n ∧ (caL xs s p).sum + caF xs s p = xs.sum ∧ 0 ≤ caF xs s p ∧ (p = 0 → caF xs s p = 0) := by
  have h1 : lpC xs p = 0 := by unfold lpC; rw [webOk_of2 h, if_neg (by simp), if_neg (by have := inB_iff.2 hp; rw [this]; simp)]
  have h2 : caC xs s p = 0 := by unfold caC; rw [if_pos h1, if_neg (by omega), hs]; rfl
  have e1 : caL xs s p = crL xs s p s.size := by unfold caL; rw [if_pos h2]
  have e2 : caF xs s p = crF xs s p s.size := by unfold caF; rw [if_pos h2]
  rw [e1, e2]
  exact ⟨h2, (crL_web h s hp _).1, crL_sum h s hp _, (crF_rng h s hp _).1, fun e => by subst e; exact crF0 _ _ _⟩
/-! the folded, the crossed, the drawn web -/
theorem foldL_len (xs : List Int) : (foldL xs).length = xs.length / 2 := by unfold foldL; exact foldTo_length _ _
theorem crossL_len (xs : List Int) : (crossL xs).length = xs.length / 2 := by simp [crossL, crossTo]
theorem foldL_at {xs : List Int} {k : Nat} (h : k < xs.length / 2) : gd (foldL xs) k = gd xs k + gd xs (xs.length - 1 - k) := by
  refine gd_of ?_
  unfold foldL foldTo
  rw [List.getElem?_map, List.getElem?_range h]
  rfl
theorem crossL_at {xs : List Int} {k : Nat} (h : k < xs.length / 2) : gd (crossL xs) k = gd xs k + gd xs (k + xs.length / 2) := by
  refine gd_of ?_
  unfold crossL crossTo
  rw [List.getElem?_map, List.getElem?_range h]
  rfl
theorem outL_at (xs : List Int) : ∀ k, k < xs.length → gd (outL xs) (2 * k) = (gd xs k + 1) / 2 ∧ gd (outL xs) (2 * k + 1) = gd xs k / 2 := by
  induction xs with
  | nil => intro k h; simp at h
  | cons x xs ih =>
    intro k h
    have e : outL (x :: xs) = (x + 1) / 2 :: x / 2 :: outL xs := by simp [outL, two]
    rw [e]
    cases k with
    | zero => exact ⟨rfl, rfl⟩
    | succ k =>
      have := ih k (by simpa using h)
      have e1 : ∀ (a b : Int) (l : List Int) (j : Nat), gd (a :: b :: l) (j + 2) = gd l j := fun a b l j => by simp [gd]
      rw [show 2 * (k + 1) = 2 * k + 2 by omega, show 2 * k + 2 + 1 = (2 * k + 1) + 2 by omega, e1, e1]
      exact this
theorem draw_once {xs : List Int} {n : Nat} (h : Web xs n) : drawC (foldL xs) (n : Int) = 0 ∧ drawR (foldL xs) (n : Int) = outL (foldL xs) ∧ coC xs 102 0 = 0 ∧ coL xs 102 0 = outL (foldL xs) ∧ coF xs 102 0 = 0 := by
  obtain ⟨c1, c2⟩ := card_small h 102
  have hn := h.2.1
  have hlen : (foldL xs).length = n / 2 := by rw [foldL_len, h.1]
  have hd : drawOk (foldL xs) (n : Int) = true := by
    unfold drawOk
    rw [hlen]
    simp only [Bool.and_eq_true, decide_eq_true_eq, inB_iff]
    have h3 := h.2.2.1
    have h4 := h.2.2.2.1
    refine ⟨by omega, ?_, by omega⟩
    unfold allIn
    rw [List.all_eq_true]
    intro x hx
    have := c1 x (by rw [if_pos rfl]; exact hx)
    rw [inB_iff]
    omega
  have hb : bq (oneB 102) 0 = 102 := rfl
  have hps : psOk (oneB 102) = true := by decide
  have hca := ca_web (s := oneB 102) (p := 0) h hps (by rw [oneB_size]; omega) (by omega)
  refine ⟨by unfold drawC; rw [if_pos hd], by unfold drawR; rw [if_pos hd], hca.1, ?_, hca.2.2.2.2 rfl⟩
  unfold coL caL
  rw [if_pos hca.1, oneB_size]
  show cardL xs (bq (oneB 102) 0) 0 = _
  rw [hb]
  unfold cardL cardD
  rw [if_neg (by omega), if_pos rfl]
  exact map_self fun x _ => by rw [lost0]; omega
/-! unevenness -/
theorem le_minTo {xs : List Int} {M : Int} (k : Nat) : M ≤ minTo xs k ↔ ∀ j, j ≤ k → M ≤ gd xs j := by
  induction k with
  | zero => simp [minTo]
  | succ k ih =>
    simp only [minTo]
    constructor
    · intro h j hj
      rcases Nat.lt_or_ge j (k + 1) with h1 | h1
      · exact ih.1 (by omega) j (by omega)
      · obtain rfl : j = k + 1 := by omega
        omega
    · intro h
      have h1 := ih.2 (fun j hj => h j (by omega))
      have h2 := h (k + 1) (Nat.le_refl _)
      omega
theorem maxTo_le2 {xs : List Int} {M : Int} (k : Nat) : maxTo xs k ≤ M ↔ ∀ j, j ≤ k → gd xs j ≤ M := by
  induction k with
  | zero => simp [maxTo]
  | succ k ih =>
    simp only [maxTo]
    constructor
    · intro h j hj
      rcases Nat.lt_or_ge j (k + 1) with h1 | h1
      · exact ih.1 (by omega) j (by omega)
      · obtain rfl : j = k + 1 := by omega
        omega
    · intro h
      have h1 := ih.2 (fun j hj => h j (by omega))
      have h2 := h (k + 1) (Nat.le_refl _)
      omega
theorem spread_eq {xs : List Int} (h0 : 0 < xs.length) : 0 ≤ spreadL xs ∧ (spreadL xs = 0 ↔ ∀ j, j < xs.length → gd xs j = gd xs 0) := by
  have hM := (maxTo_le2 (xs := xs) (M := maxL xs) (xs.length - 1)).1 (Int.le_refl _)
  have hm := (le_minTo (xs := xs) (M := minL xs) (xs.length - 1)).1 (Int.le_refl _)
  have a0 := hM 0 (by omega)
  have b0 := hm 0 (by omega)
  unfold spreadL
  refine ⟨by omega, ?_, ?_⟩
  · intro h j hj
    have := hM j (by omega)
    have := hm j (by omega)
    omega
  · intro h
    have h1 : maxL xs ≤ gd xs 0 := (maxTo_le2 _).2 fun j hj => by rw [h j (by omega)]; exact Int.le_refl _
    have h2 : gd xs 0 ≤ minL xs := (le_minTo _).2 fun j hj => by rw [h j (by omega)]; exact Int.le_refl _
    omega
theorem offTo_zero {xs : List Int} : ∀ k, 0 ≤ offTo xs k ∧ (offTo xs k = 0 ↔ ∀ j, j < k → (xs.length : Int) * gd xs j = xs.sum) := by
  intro k
  induction k with
  | zero => simp [offTo]
  | succ k ih =>
    rw [offTo_succ]
    have h1 : 0 ≤ offAt xs k := by unfold offAt; omega
    refine ⟨by omega, ?_, ?_⟩
    · intro h j hj
      have h2 : offTo xs k = 0 := by omega
      have h3 : offAt xs k = 0 := by omega
      rcases Nat.lt_or_ge j k with h4 | h4
      · exact ih.2.1 h2 j h4
      · obtain rfl : j = k := by omega
        unfold offAt at h3
        omega
    · intro h
      have h2 := ih.2.2 (fun j hj => h j (by omega))
      have h3 : offAt xs k = 0 := by
        unfold offAt
        have := h k (by omega)
        omega
      omega
theorem sum_const {xs : List Int} {c : Int} (h : ∀ x ∈ xs, x = c) : xs.sum = (xs.length : Int) * c := by
  induction xs with
  | nil => simp
  | cons x xs ih =>
    rw [List.sum_cons, ih (fun y hy => h y (List.mem_cons_of_mem _ hy)), h x (List.mem_cons_self ..), List.length_cons, Int.natCast_succ, Int.add_mul, Int.one_mul]
    omega
theorem off_spread {xs : List Int} (h0 : 0 < xs.length) : offL xs = 0 ↔ spreadL xs = 0 := by
  unfold offL
  rw [(offTo_zero _).2, (spread_eq h0).2]
  constructor
  · intro h j hj
    have h1 := h j hj
    have h2 := h 0 h0
    have h3 : (xs.length : Int) * gd xs j = (xs.length : Int) * gd xs 0 := by omega
    exact Int.eq_of_mul_eq_mul_left (by omega) h3
  · intro h j hj
    have hc : ∀ x ∈ xs, x = gd xs 0 := fun x hx => by
      obtain ⟨i, hi, rfl⟩ := List.getElem_of_mem hx
      have := h i hi
      rw [gd_of (List.getElem?_eq_getElem hi)] at this
      exact this
    rw [sum_const hc, h j hj]
theorem tdiv_zero_iff {a g : Int} (ha : 0 ≤ a) (hg : 0 < g) (hd : g ∣ a) : 0 ≤ a.tdiv g ∧ (a.tdiv g = 0 ↔ a = 0) := by
  obtain ⟨c, rfl⟩ := hd
  rw [Int.mul_tdiv_cancel_left _ (by omega)]
  have hc : 0 ≤ c := by
    rcases Int.lt_or_le c 0 with h | h
    · have := Int.mul_neg_of_pos_of_neg hg h; omega
    · exact h
  refine ⟨hc, fun h => by rw [h]; simp, fun h => ?_⟩
  rcases Int.mul_eq_zero.1 h with h | h
  · omega
  · exact h
theorem fr_pos {a b : Int} (ha : 0 ≤ a) (hb : 0 < b) : 0 ≤ frN a b ∧ (frN a b = 0 ↔ a = 0) ∧ 1 ≤ frD a b := by
  have hg := gI_pos (a := a) (b := b) (by omega)
  have e : dI a b = gI a b := by unfold dI; rw [if_neg (by omega)]
  have d1 : gI a b ∣ a := by
    unfold gI
    exact Int.ofNat_dvd_left.2 (Nat.gcd_dvd_left _ _)
  have d2 : gI a b ∣ b := by
    unfold gI
    exact Int.ofNat_dvd_left.2 (Nat.gcd_dvd_right _ _)
  unfold frN frD
  rw [e]
  obtain ⟨h1, h2⟩ := tdiv_zero_iff ha hg d1
  obtain ⟨h3, h4⟩ := tdiv_zero_iff (by omega : 0 ≤ b) hg d2
  refine ⟨h1, h2, ?_⟩
  rcases Int.lt_or_eq_of_le h3 with h | h
  · omega
  · have := h4.1 h.symm; omega
theorem sum_nonneg {xs : List Int} (h : ∀ x ∈ xs, 0 ≤ x) : 0 ≤ xs.sum := by
  induction xs with
  | nil => simp
  | cons y xs ih =>
    have h1 := ih (fun x hx => h x (List.mem_cons_of_mem _ hx))
    have hy := h y (List.mem_cons_self ..)
    rw [List.sum_cons]; omega
theorem un_web {xs : List Int} {n : Nat} (h : Web xs n) : (xs.sum = 0 ∧ unC xs = 6) ∨ (0 < xs.sum ∧ unC xs = 0 ∧ 0 ≤ unN xs ∧ (unN xs = 0 ↔ spreadL xs = 0) ∧ 1 ≤ unD xs) := by
  have hw := webOk_of2 h
  have hs := sum_nonneg (xs := xs) (fun x hx => (h.2.2.2.2 x hx).1)
  have h0 : 0 < xs.length := by have := h.1; have := h.2.2.1; omega
  by_cases hz : xs.sum = 0
  · left
    exact ⟨hz, by unfold unC; rw [if_pos hw, if_pos hz]⟩
  · right
    have hp : 0 < (xs.length : Int) * xs.sum := Int.mul_pos (by omega) (by omega)
    obtain ⟨f1, f2, f3⟩ := fr_pos (a := offL xs) (b := (xs.length : Int) * xs.sum) (offTo_zero _).1 hp
    refine ⟨by omega, by unfold unC; rw [if_pos hw, if_neg hz], ?_, ?_, ?_⟩
    · unfold unN; rw [if_pos hw, if_neg hz]; exact f1
    · unfold unN; rw [if_pos hw, if_neg hz, f2]; exact off_spread h0
    · unfold unD; rw [if_pos hw, if_neg hz]; exact f3
theorem webB_size {xs : List Int} {n : Nat} (h : Web xs n) : (webB xs).size ≤ 1048576 := by
  have e : webB xs = wtB xs := by unfold webB; rw [if_pos (webOk_of2 h)]
  have h1 := wtTo_size (xs := xs) (fun x hx => by have := h.2.2.2.2 x hx; unfold I64; omega) xs.length (Nat.le_refl _)
  have h2 := h.1
  have h3 := h.2.2.2.1
  rw [wtTo_all] at h1
  rw [e]
  omega
theorem take_sum_bd {xs : List Int} {n : Nat} (h : Web xs n) (k : Nat) : 0 ≤ (xs.take k).sum ∧ (xs.take k).sum ≤ 120000 := by
  have h1 : ∀ l : List Int, (∀ x ∈ l, 0 ≤ x ∧ x ≤ 10000) → 0 ≤ l.sum ∧ l.sum ≤ 10000 * l.length := by
    intro l
    induction l with
    | nil => intro _; simp
    | cons x l ih =>
      intro hx
      have a := ih (fun y hy => hx y (List.mem_cons_of_mem _ hy))
      have b := hx x (List.mem_cons_self ..)
      rw [List.sum_cons, List.length_cons]
      push_cast
      omega
  have h2 := h1 (xs.take k) (fun x hx => h.2.2.2.2 x (List.mem_of_mem_take hx))
  have h3 : (xs.take k).length ≤ 12 := by rw [List.length_take]; have := h.1; have := h.2.2.2.1; omega
  omega
/-- What FnWebs asks of a web xs, its passes, a percentage p and a turn b. -/
structure WFacts (xs : List Int) (s : ByteArray) (p b : Int) (n m : Nat) (S : ByteArray) (D M V H C K : List Int) (O T P uN uD uC : Int) : Prop where
  web : Web xs n
  ok : webOk xs = true
  hS : webB xs = S
  rR : rwR S = xs
  rC : rwC S = 0
  sz : S.size ≤ 1048576
  tV : totV xs = T
  oC : okC xs = 0
  cC : caC xs s p = 0
  cL : caL xs s p = D
  cF : caF xs s p = O
  wD : Web D n
  sD : D.sum + O = T
  sT : xs.sum = T
  O0 : 0 ≤ O
  Op : p = 0 → O = 0
  rM : rollR xs b = M
  wM : Web M n
  oM : okC M = 0
  bM : rollR M (-b) = xs
  mV : mirrorR xs = V
  wV : Web V n
  oV : okC V = 0
  bV : mirrorR V = xs
  sp : spreadV xs = P
  P0 : 0 ≤ P
  fH : foldR xs = H
  xC : crossR xs = C
  nm : n = 2 * m
  lH : H.length = m
  lC : C.length = m
  dC : drawC H (n : Int) = 0
  dR : drawR H (n : Int) = K
  o1 : coC xs 102 0 = 0
  o2 : coL xs 102 0 = K
  o3 : coF xs 102 0 = 0
  wK : K.length = n
  aH : ∀ k, k < m → gd H k = gd xs k + gd xs (n - 1 - k)
  aC : ∀ k, k < m → gd C k = gd xs k + gd xs (k + m)
  aK : ∀ k, k < m → gd K (2 * k) = (gd H k + 1) / 2 ∧ gd K (2 * k + 1) = gd H k / 2
  eN : unN xs = uN
  eD : unD xs = uD
  eC : unC xs = uC
  un : (T = 0 ∧ uC = 6) ∨ (0 < T ∧ uC = 0 ∧ 0 ≤ uN ∧ (uN = 0 ↔ P = 0) ∧ 1 ≤ uD)
theorem wfacts {xs : List Int} {n : Nat} {s : ByteArray} {p : Int} (h : Web xs n) (hs : psOk s = true) (hz : s.size ≤ 20) (hp : 0 ≤ p ∧ p ≤ 100) (b : Int) :
    ∃ m S D M V H C K O T P uN uD uC, WFacts xs s p b n m S D M V H C K O T P uN uD uC := by
  have hw := webOk_of2 h
  obtain ⟨r1, r2⟩ := web_rw hw
  obtain ⟨c1, c2, c3, c4, c5⟩ := ca_web h hs hz hp
  obtain ⟨d1, d2, d3, d4, d5⟩ := draw_once h
  have hn := h.1
  have hl : 0 < xs.length := by have := h.2.2.1; omega
  have eR : ∀ (ys : List Int) (k : Int), Web ys n → rollR ys k = rollL ys k := fun ys k hy => by unfold rollR; rw [if_pos (webOk_of2 hy)]
  have eM : ∀ (ys : List Int), Web ys n → mirrorR ys = ys.reverse := fun ys hy => by unfold mirrorR; rw [if_pos (webOk_of2 hy)]
  have oK : ∀ (ys : List Int), Web ys n → okC ys = 0 := fun ys hy => by unfold okC; rw [if_pos (webOk_of2 hy)]
  have fF : foldR xs = foldL xs := by unfold foldR; rw [if_pos hw]
  have fC : crossR xs = crossL xs := by unfold crossR; rw [if_pos hw]
  have e1 : caL xs s p = crL xs s p s.size := by unfold caL; rw [if_pos c1]
  have hev := h.2.1
  have sS : spreadV xs = spreadL xs := by unfold spreadV; rw [if_pos hw]
  have sT : totV xs = xs.sum := by unfold totV; rw [if_pos hw]
  refine ⟨n / 2, webB xs, caL xs s p, rollL xs b, xs.reverse, foldL xs, crossL xs, outL (foldL xs), caF xs s p, xs.sum, spreadL xs, unN xs, unD xs, unC xs, ?_⟩
  exact { web := h, ok := hw, hS := rfl, rR := r1, rC := r2, sz := webB_size h, tV := sT, oC := oK xs h, cC := c1, cL := rfl, cF := rfl, wD := by rw [e1]; exact crL_web h s hp _, sD := c3, sT := rfl, O0 := c4, Op := c5,
          rM := eR xs b h, wM := web_roll h b, oM := oK _ (web_roll h b), bM := by rw [eR _ _ (web_roll h b), roll_back hl], mV := eM xs h, wV := web_rev h, oV := oK _ (web_rev h), bV := by rw [eM _ (web_rev h), List.reverse_reverse],
          sp := sS, P0 := (spread_eq hl).1, fH := fF, xC := fC, nm := by omega, lH := by rw [foldL_len, hn], lC := by rw [crossL_len, hn], dC := d1, dR := d2, o1 := d3, o2 := d4, o3 := d5,
          wK := by rw [outL_len, foldL_len, hn]; omega, aH := fun k hk => by rw [foldL_at (by omega), hn], aC := fun k hk => by rw [crossL_at (by omega), hn], aK := fun k hk => outL_at _ k (by rw [foldL_len]; omega),
          eN := rfl, eD := rfl, eC := rfl, un := un_web h }
end Go.Proofs.YtefipngapgffdaaGreatDoor
