/- Contracts: lists of heaps: compared, marked, held. -/
import Derived.Test.YtjbaaomodcgdgaaH4
import Derived.Deep.RegionHeld3
namespace Go.Proofs.Ytjbaaomodcgdgaa
open Go.RowKit
set_option linter.unusedVariables false
set_option linter.unusedSimpArgs false
abbrev HE (h : List Int) : List Value := [.int .i32 (h.getD 0 0), .int .i32 (h.getD 1 0), .int .i32 (h.getD 2 0), .int .i32 (h.getD 3 0), .int .i32 (h.getD 4 0), .int .i32 (h.getD 5 0), .int .i32 (h.getD 6 0), .int .i32 (h.getD 7 0)]
theorem HE_len (xs : List (List Int)) : (xs.flatMap HE).length = xs.length * 8 := by
  induction xs with
  | nil => rfl
  | cons x xs ih => simp only [List.flatMap_cons, List.length_append, ih, List.length_cons, List.length_nil]; omega
theorem Rds.heap {w : World} {A : Option Addr} {n : Nat} {xs : List (List Int)} (R : Rds w A n 8 HE xs) {k : Nat} (hk : k < n) :
    ∃ ad x, A = some ad ∧ xs[k]? = some x ∧ w.cell? (ad.add (k * 8)) = some (.int .i32 (x.getD 0 0)) ∧ w.cell? ⟨(ad.add (k * 8)).block, (ad.add (k * 8)).off + 1, none⟩ = some (.int .i32 (x.getD 1 0)) ∧ w.cell? ⟨(ad.add (k * 8)).block, (ad.add (k * 8)).off + 2, none⟩ = some (.int .i32 (x.getD 2 0)) ∧ w.cell? ⟨(ad.add (k * 8)).block, (ad.add (k * 8)).off + 3, none⟩ = some (.int .i32 (x.getD 3 0)) ∧ w.cell? ⟨(ad.add (k * 8)).block, (ad.add (k * 8)).off + 4, none⟩ = some (.int .i32 (x.getD 4 0)) ∧ w.cell? ⟨(ad.add (k * 8)).block, (ad.add (k * 8)).off + 5, none⟩ = some (.int .i32 (x.getD 5 0)) ∧ w.cell? ⟨(ad.add (k * 8)).block, (ad.add (k * 8)).off + 6, none⟩ = some (.int .i32 (x.getD 6 0)) ∧ w.cell? ⟨(ad.add (k * 8)).block, (ad.add (k * 8)).off + 7, none⟩ = some (.int .i32 (x.getD 7 0)) := by
  obtain ⟨ad, h1, h2⟩ := R.2.2 (by omega)
  have hx : xs[k]? = some (xs[k]'(by rw [R.1]; exact hk)) := List.getElem?_eq_getElem _
  refine ⟨ad, _, h1, hx, h2 k _ hx 0 _ rfl, ?_, ?_, ?_, ?_, ?_, ?_, ?_⟩
  · have h := h2 k _ hx 1 _ rfl; rw [← Addr.add_add] at h; exact h
  · have h := h2 k _ hx 2 _ rfl; rw [← Addr.add_add] at h; exact h
  · have h := h2 k _ hx 3 _ rfl; rw [← Addr.add_add] at h; exact h
  · have h := h2 k _ hx 4 _ rfl; rw [← Addr.add_add] at h; exact h
  · have h := h2 k _ hx 5 _ rfl; rw [← Addr.add_add] at h; exact h
  · have h := h2 k _ hx 6 _ rfl; rw [← Addr.add_add] at h; exact h
  · have h := h2 k _ hx 7 _ rfl; rw [← Addr.add_add] at h; exact h
/-- Number j of a heap in a list of such. -/
theorem Rds.heapAt {w : World} {A : Option Addr} {n : Nat} {xs : List (List Int)} (R : Rds w A n 8 HE xs) {k j : Nat} (hk : k < n) (hj : j < 8) :
    ∃ ad x, A = some ad ∧ xs[k]? = some x ∧ w.cell? ((ad.add (k * 8)).add j) = some (.int .i32 (x.getD j 0)) := by
  obtain ⟨ad, h1, h2⟩ := R.2.2 (by omega)
  have hx : xs[k]? = some (xs[k]'(by rw [R.1]; exact hk)) := List.getElem?_eq_getElem _
  refine ⟨ad, _, h1, hx, ?_⟩
  have h8 : j = 0 ∨ j = 1 ∨ j = 2 ∨ j = 3 ∨ j = 4 ∨ j = 5 ∨ j = 6 ∨ j = 7 := by omega
  have h := h2 k _ hx j (.int .i32 ((xs[k]'(by rw [R.1]; exact hk)).getD j 0)) (by rcases h8 with rfl | rfl | rfl | rfl | rfl | rfl | rfl | rfl <;> rfl)
  rw [← Addr.add_add] at h
  exact h
theorem own_rdsH {w : World} {base n c : Nat} {E : TypeId} {A : Option Addr} {xs : List (List Int)} (O : w.ownsRow base E 8 (.slice A n c) n (xs.flatMap HE)) (hn : n ≤ 1048576) : Rds w A n 8 HE xs :=
  own_rds O (fun x _ => rfl) (by omega) (by omega)
def mk32 (k0 : Int) (j : Nat) : List Int := (List.range j).map fun i : Nat => k0 + (i : Int)
theorem mk32_succ (k0 : Int) (j : Nat) : mk32 k0 (j + 1) = mk32 k0 j ++ [k0 + j] := by simp [mk32, List.range_succ]
theorem mk32_length (k0 : Int) (j : Nat) : (mk32 k0 j).length = j := by simp [mk32]
theorem mk32_get {k0 : Int} {n j : Nat} (h : j < n) : (mk32 k0 n)[j]? = some (k0 + j) := by simp [mk32, h]
def hmark (k0 : Int) (j : Nat) : List Int := mk32 (k0 + 8 * (j : Int)) 8
def hmarks (k0 : Int) : Nat → List (List Int)
  | 0 => []
  | j + 1 => hmarks k0 j ++ [hmark k0 j]
theorem hmarks_len (k0 : Int) : ∀ j, (hmarks k0 j).length = j
  | 0 => rfl
  | j + 1 => by simp [hmarks, hmarks_len k0 j]
theorem hmarks_get (k0 : Int) {n j : Nat} (h : j < n) : (hmarks k0 n)[j]? = some (hmark k0 j) := by
  induction n with
  | zero => omega
  | succ n ih =>
    simp only [hmarks]
    by_cases hj : j < n
    · rw [List.getElem?_append_left (by rw [hmarks_len]; exact hj)]; exact ih hj
    · obtain rfl : j = n := by omega
      rw [List.getElem?_append_right (by rw [hmarks_len]; exact Nat.le_refl _), hmarks_len, Nat.sub_self]
      rfl
theorem hmark_at (k0 : Int) (i : Nat) {j : Nat} (h : j < 8) : (hmark k0 i).getD j 0 = k0 + 8 * (i : Int) + (j : Int) := by
  unfold hmark
  rw [List.getD_eq_getElem?_getD, mk32_get h]
  rfl
theorem hmarks_flat (k0 : Int) : ∀ n, (hmarks k0 n).flatMap HE = nums .i32 (mk32 k0 (n * 8))
  | 0 => rfl
  | n + 1 => by
    simp only [hmarks, List.flatMap_append, List.flatMap_cons, List.flatMap_nil, List.append_nil]
    rw [hmarks_flat k0 n, show (n + 1) * 8 = n * 8 + 1 + 1 + 1 + 1 + 1 + 1 + 1 + 1 by omega]
    simp only [mk32_succ, HE]
    rw [hmark_at _ _ (by omega), hmark_at _ _ (by omega), hmark_at _ _ (by omega), hmark_at _ _ (by omega), hmark_at _ _ (by omega), hmark_at _ _ (by omega), hmark_at _ _ (by omega), hmark_at _ _ (by omega)]
    simp only [nums, List.map_append, List.map_cons, List.map_nil, List.append_assoc, List.cons_append, List.nil_append]
    congr 1
    simp only [List.cons.injEq, Value.int.injEq, true_and, and_true]
    omega
theorem grown_set8 {w wr : World} {g : Nat} (h : w.grownBy wr (some g)) (i : Nat) (v : Value) : w.grownBy (wr.setCell ⟨g, i, none⟩ v) (some g) :=
  ⟨h.os, h.tape, h.output, by simpa [World.setCell] using h.size, fun k hk hne => by
    rw [heap_setCell_other _ _ _ _ (by intro e; exact hne (by rw [e]))]; exact h.block k hk hne⟩
theorem marked_set32 {k0 : Int} {j : Nat} {cs : List Value} (h : j < cs.length) : (nums .i32 (mk32 k0 j) ++ cs.drop j).set j (.int .i32 (k0 + j)) = nums .i32 (mk32 k0 (j + 1)) ++ cs.drop (j + 1) := by
  rw [List.drop_eq_getElem_cons h, set_app _ _ _ _ _ (by rw [nums_length, mk32_length]), mk32_succ]
  simp [nums]
end Go.Proofs.Ytjbaaomodcgdgaa
