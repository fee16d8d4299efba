/- Contracts over webs: folding, crossing, drawing out. -/
import Derived.Test.YtjbaaomodcgdgaaC2
import Derived.StillTailTactics
import Derived.OwnWalk
namespace Go.Proofs.Ytjbaaomodcgdgaa
open Go.RowKit
set_option linter.unusedVariables false
set_option linter.unusedSimpArgs false
def gd (xs : List Int) (k : Nat) : Int := xs.getD k 0
theorem gd_of {xs : List Int} {k : Nat} {x : Int} (h : xs[k]? = some x) : gd xs k = x := by simp [gd, List.getD_eq_getElem?_getD, h]
def foldTo (xs : List Int) (k : Nat) : List Int := (List.range k).map fun i => gd xs i + gd xs (xs.length - 1 - i)
def crossTo (xs : List Int) (k : Nat) : List Int := (List.range k).map fun i => gd xs i + gd xs (i + xs.length / 2)
def foldL (xs : List Int) : List Int := foldTo xs (xs.length / 2)
def crossL (xs : List Int) : List Int := crossTo xs (xs.length / 2)
theorem foldTo_succ (xs : List Int) (k : Nat) : foldTo xs (k + 1) = foldTo xs k ++ [gd xs k + gd xs (xs.length - 1 - k)] := by simp [foldTo, List.range_succ]
theorem foldTo_length (xs : List Int) (k : Nat) : (foldTo xs k).length = k := by simp [foldTo]
theorem crossTo_succ (xs : List Int) (k : Nat) : crossTo xs (k + 1) = crossTo xs k ++ [gd xs k + gd xs (k + xs.length / 2)] := by simp [crossTo, List.range_succ]
theorem crossTo_length (xs : List Int) (k : Nat) : (crossTo xs k).length = k := by simp [crossTo]
def Small (xs : List Int) : Prop := ∀ x ∈ xs, 0 ≤ x ∧ x ≤ 20000
theorem Small.at {xs : List Int} (h : Small xs) {k : Nat} {x : Int} (hx : xs[k]? = some x) : 0 ≤ x ∧ x ≤ 20000 := h x (List.mem_of_getElem? hx)
theorem webOk_small {xs : List Int} (h : webOk xs = true) : Small xs := fun x hx => by have := (webOk_bd h).2.2.2 x hx; omega
theorem gd_small {xs : List Int} (hS : Small xs) (k : Nat) : 0 ≤ gd xs k ∧ gd xs k ≤ 20000 := by
  cases h : xs[k]? with
  | none => simp [gd, List.getD_eq_getElem?_getD, h]
  | some x => rw [gd_of h]; exact hS.at h
theorem info_i64 : (Try.prog.info? 2).map (fun i => (i.zero, i.size, i.bytes)) = some (some (.int .i64 0), 1, 8) := by kernel_rfl
theorem nums_snoc (xs : List Int) (y : Int) : nums .i64 (xs ++ [y]) = nums .i64 xs ++ [.int .i64 y] := by simp [nums]
theorem own_empty (W : World) (e : TypeId) (size : Nat) : (W.alloc (.cells #[] e)).ownsRow W.heap.size e size (.slice (some ⟨W.heap.size, 0, none⟩) 0 0) 0 [] := (Row.alloc W [] e).own (Nat.le_refl _) (by simp [maxLen]) (by simp)
theorem own_nil (W : World) (base : Nat) (e : TypeId) (size : Nat) : W.ownsRow base e size (.slice none 0 0) 0 [] := ⟨by simp, .inl ⟨rfl, rfl⟩⟩

end Go.Proofs.Ytjbaaomodcgdgaa
