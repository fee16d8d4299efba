/- Contracts: SortOut. -/
import Derived.Test.YtbkhlcbnnjgdpaaGreatDoorH6
import Derived.RegionTactic
import Derived.BigRegion
namespace Go.Proofs.YtbkhlcbnnjgdpaaGreatDoor
open Go.RowKit
set_option linter.unusedVariables false
set_option linter.unusedSimpArgs false
def mixP (P : Nat → Bool) (f : Nat → Int) (L : List Int) : List Int := (List.range 8).map fun j => if P j then f j else L.getD j 0
theorem mixP_at {P : Nat → Bool} (f : Nat → Int) (L : List Int) {k : Nat} (h : k < 8) (hp : P k = false) : (nums .i32 (mixP P f L))[k]? = some (.int .i32 (L.getD k 0)) := by
  simp [nums, mixP, h, hp]
theorem mixP_len (P : Nat → Bool) (f : Nat → Int) (L : List Int) : (mixP P f L).length = 8 := by simp [mixP]
theorem mixP_set {P Q : Nat → Bool} (f : Nat → Int) (L : List Int) {k : Nat} (h : k < 8) (hq : ∀ j, j < 8 → Q j = (P j || decide (j = k))) : (nums .i32 (mixP P f L)).set k (.int .i32 (f k)) = nums .i32 (mixP Q f L) := by
  apply List.ext_getElem?
  intro i
  rw [List.getElem?_set]
  by_cases h1 : k = i
  · subst h1
    simp [nums, mixP, h, hq k h]
  · by_cases h2 : i < 8
    · have h3 : decide (i = k) = false := by simp; omega
      simp [nums, mixP, h1, h2, hq i h2, h3]
    · simp [nums, mixP, h1, h2]
theorem mixP_congr {P Q : Nat → Bool} {f g : Nat → Int} {L M : List Int} (h : ∀ j, j < 8 → (if P j then f j else L.getD j 0) = (if Q j then g j else M.getD j 0)) : mixP P f L = mixP Q g M := by
  unfold mixP
  apply List.map_congr_left
  intro j hj
  exact h j (List.mem_range.1 hj)
theorem mixP_none {P : Nat → Bool} (f : Nat → Int) {L : List Int} (hl : L.length = 8) (h : ∀ j, j < 8 → P j = false) : mixP P f L = L := by
  apply List.ext_getElem?
  intro i
  by_cases h2 : i < 8
  · have : i < L.length := by omega
    simp [mixP, h2, h i h2, List.getElem?_eq_getElem this]
  · simp [mixP, h2]; omega
theorem zeros_at (j : Nat) : ([0, 0, 0, 0, 0, 0, 0, 0] : List Int).getD j 0 = 0 := by
  match j with
  | 0 => rfl
  | 1 => rfl
  | 2 => rfl
  | 3 => rfl
  | 4 => rfl
  | 5 => rfl
  | 6 => rfl
  | 7 => rfl
  | n + 8 => rfl
def soI (k : Nat) (lo hi x : Int) : Int := if inB k lo hi then x else 0
def soO (k : Nat) (lo hi x : Int) : Int := if inB k lo hi then 0 else x
def soC (L : List Int) (lo hi : Int) : Int := asC L (inB lo 0 7 && inB hi lo 7)
end Go.Proofs.YtbkhlcbnnjgdpaaGreatDoor
