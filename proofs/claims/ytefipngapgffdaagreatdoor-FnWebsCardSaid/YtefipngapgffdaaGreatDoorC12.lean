/- The plain law of a pass: it keeps a web's length and keeps its stripes from 0 to 10000. -/
import Derived.Test.YtefipngapgffdaaGreatDoorC11
import Derived.Test.YtefipngapgffdaaGreatDoorC5
namespace Go.Proofs.YtefipngapgffdaaGreatDoor
open Go.RowKit
set_option linter.unusedVariables false
set_option linter.unusedSimpArgs false
def Web (xs : List Int) (n : Nat) : Prop := xs.length = n ∧ n % 2 = 0 ∧ 2 ≤ n ∧ n ≤ 12 ∧ ∀ x ∈ xs, 0 ≤ x ∧ x ≤ 10000
def lostI (x p : Int) : Int := x * p / 100
def cardD (xs : List Int) (c : Int) : List Int := outL (if c = 102 then foldL xs else crossL xs)
def cardL (xs : List Int) (c p : Int) : List Int := if c = 114 then rollL xs 1 else (cardD xs c).map fun x => x - lostI x p
def cardF (xs : List Int) (c p : Int) : Int := if c = 114 then 0 else ((cardD xs c).map fun x => lostI x p).sum
theorem webOk_web {xs : List Int} {n : Nat} (h : webOk xs = true) (hl : xs.length = n) : Web xs n := by
  have hb := webOk_bd h
  rw [hl] at hb
  exact ⟨hl, hb.2.2.1, hb.1, hb.2.1, hb.2.2.2⟩
theorem lost_rng {x p : Int} (hx : 0 ≤ x ∧ x ≤ 10000) (hp : 0 ≤ p ∧ p ≤ 100) : 0 ≤ x * p ∧ x * p ≤ 1000000 ∧ 0 ≤ lostI x p ∧ lostI x p ≤ x := by
  have h1 := Int.mul_nonneg hx.1 hp.1
  have h2 : x * p ≤ x * 100 := Int.mul_le_mul_of_nonneg_left hp.2 hx.1
  unfold lostI
  omega
theorem gd_web {xs : List Int} {n : Nat} (h : Web xs n) (k : Nat) : 0 ≤ gd xs k ∧ gd xs k ≤ 10000 := by
  unfold gd
  by_cases hk : k < xs.length
  · have := h.2.2.2.2 xs[k] (List.getElem_mem hk)
    simpa [List.getElem?_eq_getElem hk] using this
  · simp [List.getElem?_eq_none (by omega : xs.length ≤ k)]
theorem card_small {xs : List Int} {n : Nat} (h : Web xs n) (c : Int) : Small (if c = 102 then foldL xs else crossL xs) ∧ (if c = 102 then foldL xs else crossL xs).length = n / 2 := by
  have hl := h.1
  split
  · refine ⟨?_, by simp [foldL, foldTo, hl]⟩
    intro x hx
    simp only [foldL, foldTo, List.mem_map] at hx
    obtain ⟨i, _, rfl⟩ := hx
    have h1 := gd_web h i
    have h2 := gd_web h (xs.length - 1 - i)
    omega
  · refine ⟨?_, by simp [crossL, crossTo, hl]⟩
    intro x hx
    simp only [crossL, crossTo, List.mem_map] at hx
    obtain ⟨i, _, rfl⟩ := hx
    have h1 := gd_web h i
    have h2 := gd_web h (i + xs.length / 2)
    omega
theorem outL_len (xs : List Int) : (outL xs).length = xs.length * 2 := by
  induction xs with
  | nil => rfl
  | cons x xs ih => simp only [outL, List.flatMap_cons, List.length_append, two, List.length_cons, List.length_nil] at ih ⊢; omega
theorem cardD_web {xs : List Int} {n : Nat} (h : Web xs n) (c : Int) : Web (cardD xs c) n := by
  obtain ⟨h1, h2⟩ := card_small h c
  have hn := h.2.1
  refine ⟨by unfold cardD; rw [outL_len, h2]; omega, h.2.1, h.2.2.1, h.2.2.2.1, ?_⟩
  intro x hx
  unfold cardD outL at hx
  obtain ⟨y, hy, hxy⟩ := List.mem_flatMap.1 hx
  have := h1 y hy
  simp only [two, List.mem_cons, List.not_mem_nil, or_false] at hxy
  omega
theorem sum_rng {f : Int → Int} {M : Int} : ∀ (xs : List Int), (∀ x ∈ xs, 0 ≤ f x ∧ f x ≤ M) → 0 ≤ (xs.map f).sum ∧ (xs.map f).sum ≤ M * xs.length
  | [], _ => by simp
  | x :: xs, h => by
    have ih := sum_rng xs (fun y hy => h y (List.mem_cons_of_mem _ hy))
    have hx := h x (List.mem_cons_self ..)
    simp only [List.map_cons, List.sum_cons, List.length_cons]
    rw [Int.natCast_succ, Int.mul_add, Int.mul_one]
    omega
theorem card_web {xs : List Int} {n : Nat} (h : Web xs n) {c p : Int} (hp : 0 ≤ p ∧ p ≤ 100) : Web (cardL xs c p) n ∧ 0 ≤ cardF xs c p ∧ cardF xs c p ≤ 120000 := by
  unfold cardL cardF
  by_cases hc : c = 114
  · rw [if_pos hc, if_pos hc]
    refine ⟨⟨by rw [rollL_len, h.1], h.2.1, h.2.2.1, h.2.2.2.1, ?_⟩, by omega, by omega⟩
    intro x hx
    unfold rollL at hx
    rcases List.mem_append.1 hx with hx | hx
    · exact h.2.2.2.2 x (List.mem_of_mem_drop hx)
    · exact h.2.2.2.2 x (List.mem_of_mem_take hx)
  · rw [if_neg hc, if_neg hc]
    have hw := cardD_web h c
    refine ⟨⟨by rw [List.length_map, hw.1], h.2.1, h.2.2.1, h.2.2.2.1, ?_⟩, ?_⟩
    · intro x hx
      obtain ⟨y, hy, rfl⟩ := List.mem_map.1 hx
      have h1 := hw.2.2.2.2 y hy
      have h2 := lost_rng h1 hp
      omega
    · have hs := sum_rng (f := fun x => lostI x p) (M := 10000) (cardD xs c) (fun x hx => by have h1 := hw.2.2.2.2 x hx; have h2 := lost_rng h1 hp; show 0 ≤ lostI x p ∧ lostI x p ≤ 10000; omega)
      have := hw.1
      have := h.2.2.2.1
      omega
end Go.Proofs.YtefipngapgffdaaGreatDoor
