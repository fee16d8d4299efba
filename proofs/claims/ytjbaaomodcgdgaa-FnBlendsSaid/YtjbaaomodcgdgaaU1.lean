/- Contracts: lists of fleeces: made anew, compared, marked. -/
import Derived.Test.YtjbaaomodcgdgaaH3
import Derived.Test.YtjbaaomodcgdgaaB2
import Derived.BigQuiet
import Derived.Deep.QuietTactic
import Derived.Deep.RegionHeld3
import Derived.IntWalk
namespace Go.Proofs.Ytjbaaomodcgdgaa
open Go.RowKit
set_option linter.unusedVariables false
set_option linter.unusedSimpArgs false
abbrev FlC (y : Int × List Int) : List Value := .int .i8 y.1 :: nums .i32 y.2
theorem flat_len {xs : List (Int × List Int)} (h : ∀ x ∈ xs, x.2.length = 8) : (xs.flatMap FlC).length = xs.length * 9 := by
  induction xs with
  | nil => rfl
  | cons x xs ih =>
    have h1 := h x (List.mem_cons_self ..)
    simp only [List.flatMap_cons, List.length_append, ih (fun y hy => h y (List.mem_cons_of_mem _ hy)), List.length_cons, nums_length, h1]
    omega
theorem flat_at {xs : List (Int × List Int)} : ∀ {k d : Nat} {x : Int × List Int}, (∀ x ∈ xs, x.2.length = 8) → xs[k]? = some x → d < 9 → (xs.flatMap FlC)[k * 9 + d]? = (FlC x)[d]? := by
  induction xs with
  | nil => intro k d x _ h; simp at h
  | cons y xs ih =>
    intro k d x h hx hd
    have h1 := h y (List.mem_cons_self ..)
    have hl : (FlC y).length = 9 := by simp [FlC, nums_length, h1]
    rw [List.flatMap_cons]
    cases k with
    | zero =>
      simp at hx
      subst hx
      rw [List.getElem?_append_left (by omega)]
      congr 1
      omega
    | succ k =>
      rw [List.getElem?_append_right (by omega), show (k + 1) * 9 + d - (FlC y).length = k * 9 + d by omega]
      exact ih (fun z hz => h z (List.mem_cons_of_mem _ hz)) (by simpa using hx) hd
theorem Rds.fleece {w : World} {A : Option Addr} {n : Nat} {xs : List (Int × List Int)} (R : Rds w A n 9 FlC xs) (h8 : ∀ x ∈ xs, x.2.length = 8) {k : Nat} (hk : k < n) :
    ∃ ad f a0 a1 a2 a3 a4 a5 a6 a7, A = some ad ∧ xs[k]? = some (f, [a0, a1, a2, a3, a4, a5, a6, a7]) ∧ w.cell? (ad.add (k * 9)) = some (.int .i8 f) ∧ w.cell? ⟨(ad.add (k * 9)).block, (ad.add (k * 9)).off + 1, none⟩ = some (.int .i32 a0) ∧ w.cell? ⟨(ad.add (k * 9)).block, (ad.add (k * 9)).off + 2, none⟩ = some (.int .i32 a1) ∧ w.cell? ⟨(ad.add (k * 9)).block, (ad.add (k * 9)).off + 3, none⟩ = some (.int .i32 a2) ∧ w.cell? ⟨(ad.add (k * 9)).block, (ad.add (k * 9)).off + 4, none⟩ = some (.int .i32 a3) ∧ w.cell? ⟨(ad.add (k * 9)).block, (ad.add (k * 9)).off + 5, none⟩ = some (.int .i32 a4) ∧ w.cell? ⟨(ad.add (k * 9)).block, (ad.add (k * 9)).off + 6, none⟩ = some (.int .i32 a5) ∧ w.cell? ⟨(ad.add (k * 9)).block, (ad.add (k * 9)).off + 7, none⟩ = some (.int .i32 a6) ∧ w.cell? ⟨(ad.add (k * 9)).block, (ad.add (k * 9)).off + 8, none⟩ = some (.int .i32 a7) := by
  obtain ⟨ad, x, h1, hx, hm, hc0, hc⟩ := R.cells hk
  obtain ⟨f, L⟩ := x
  obtain ⟨a0, a1, a2, a3, a4, a5, a6, a7, rfl⟩ := heap8 (h8 _ hm)
  exact ⟨ad, f, a0, a1, a2, a3, a4, a5, a6, a7, h1, hx, hc0 _ rfl, hc 0 _ rfl, hc 1 _ rfl, hc 2 _ rfl, hc 3 _ rfl, hc 4 _ rfl, hc 5 _ rfl, hc 6 _ rfl, hc 7 _ rfl⟩
theorem own_rdsFl {w : World} {base n c : Nat} {E : TypeId} {A : Option Addr} {xs : List (Int × List Int)} (O : w.ownsRow base E 9 (.slice A n c) n (xs.flatMap FlC)) (h8 : ∀ x ∈ xs, x.2.length = 8) (hn : n ≤ 1048576) : Rds w A n 9 FlC xs :=
  own_rds O (fun x hx => by simp [FlC, nums_length, h8 x hx]) (by omega) (by omega)
/-! Cells by a rule. -/
def vgen (n : Nat) (f : Nat → Value) : List Value := (List.range n).map f
theorem vgen_len (n : Nat) (f : Nat → Value) : (vgen n f).length = n := by simp [vgen]
theorem vgen_at {n : Nat} (f : Nat → Value) {k : Nat} (h : k < n) : (vgen n f)[k]? = some (f k) := by simp [vgen, h]
theorem vgen_set {n : Nat} {f g : Nat → Value} {k : Nat} {v : Value} (hv : g k = v) (hg : ∀ j, j < n → j ≠ k → g j = f j) (h : k < n) : (vgen n f).set k v = vgen n g := by
  apply List.ext_getElem?
  intro i
  rw [List.getElem?_set]
  by_cases hk : k = i
  · subst hk
    simp [vgen, h, hv]
  · rw [if_neg hk]
    by_cases hi : i < n
    · simp [vgen, hi, hg i hi (fun e => hk e.symm)]
    · simp [vgen, hi]
def zfl (j : Nat) : Value := if j % 9 = 0 then .int .i8 0 else .int .i32 0
def fst (xs : List (Int × List Int)) (c j : Nat) : Value := if j < c then ((xs.flatMap FlC)[j]?).getD undef else zfl j
theorem fst_set {xs : List (Int × List Int)} {n k d : Nat} {x : Int × List Int} {v : Value} (h8 : ∀ x ∈ xs, x.2.length = 8) (hx : xs[k]? = some x) (hk : k < n) (hd : d < 9) (hv : (FlC x)[d]? = some v) :
    (vgen (n * 9) (fst xs (k * 9 + d))).set (k * 9 + d) v = vgen (n * 9) (fst xs (k * 9 + d + 1)) := by
  apply vgen_set
  · unfold fst
    rw [if_pos (by omega), flat_at h8 hx hd, hv]
    rfl
  · intro j hj hne
    unfold fst
    have h2 : (j < k * 9 + d + 1) ↔ (j < k * 9 + d) := by omega
    simp only [h2]
  · omega
theorem fst_end {xs : List (Int × List Int)} {n : Nat} (h8 : ∀ x ∈ xs, x.2.length = 8) (hl : xs.length = n) : vgen (n * 9) (fst xs (n * 9)) = xs.flatMap FlC := by
  apply List.ext_getElem?
  intro i
  by_cases hi : i < n * 9
  · rw [vgen_at _ hi]
    unfold fst
    rw [if_pos hi, List.getElem?_eq_getElem (by rw [flat_len h8, hl]; exact hi)]
    rfl
  · rw [List.getElem?_eq_none (by rw [vgen_len]; omega), List.getElem?_eq_none (by rw [flat_len h8, hl]; omega)]
theorem fst_at {xs : List (Int × List Int)} {n k d : Nat} (hk : k < n) (hd : d < 9) : (vgen (n * 9) (fst xs (k * 9)))[k * 9 + d]? = some (if d = 0 then .int .i8 0 else .int .i32 0) := by
  rw [vgen_at _ (by omega)]
  unfold fst zfl
  rw [if_neg (by omega)]
  have h2 : ((k * 9 + d) % 9 = 0) ↔ d = 0 := by omega
  simp only [h2]
theorem madeCells_fleece (m : Nat) : madeCells (Value.cells (.agg #[.int .i8 0, .int .i32 0, .int .i32 0, .int .i32 0, .int .i32 0, .int .i32 0, .int .i32 0, .int .i32 0, .int .i32 0])) (m * 9) = (vgen (m * 9) (fst [] 0)).toArray := by
  apply Array.ext
  · simp [madeCells, vgen]
  · intro i h1 h2
    have h3 : i % 9 = 0 ∨ i % 9 = 1 ∨ i % 9 = 2 ∨ i % 9 = 3 ∨ i % 9 = 4 ∨ i % 9 = 5 ∨ i % 9 = 6 ∨ i % 9 = 7 ∨ i % 9 = 8 := by omega
    rcases h3 with h3 | h3 | h3 | h3 | h3 | h3 | h3 | h3 | h3 <;> simp [madeCells, Value.cells, vgen, fst, zfl, h3]
theorem fst_zero (xs : List (Int × List Int)) (n : Nat) : vgen n (fst xs 0) = vgen n (fst [] 0) := rfl
theorem grown_set9 {w wr : World} {g : Nat} (h : w.grownBy wr (some g)) (i : Nat) (v : Value) : w.grownBy (wr.setCell ⟨g, i, none⟩ v) (some g) :=
  ⟨h.os, h.tape, h.output, by simpa [World.setCell] using h.size, fun k hk hne => by
    rw [heap_setCell_other _ _ _ _ (by intro e; exact hne (by rw [e]))]; exact h.block k hk hne⟩
end Go.Proofs.Ytjbaaomodcgdgaa
