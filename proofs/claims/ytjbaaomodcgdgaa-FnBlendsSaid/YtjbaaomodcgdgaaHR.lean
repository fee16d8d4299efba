/- Rows that are written whole; the end of a function that returns two arrays. -/
import Derived.Test.YtjbaaomodcgdgaaH4
import Derived.Deep.MidRow
import Derived.Deep.RegionHeld3
namespace Go.Proofs.Ytjbaaomodcgdgaa
open Go.RowKit
set_option linter.unusedVariables false
set_option linter.unusedSimpArgs false
theorem Row.rangeAt {w : World} {B : Nat} {E : TypeId} {L : List Value} (h : Row w B E L) : w.rangeAt B 0 L := fun j v hv => by
  rw [Nat.zero_add, h.cell]; exact hv
theorem Row.there {w : World} {B : Nat} {E : TypeId} {L : List Value} {n : Nat} (h : Row w B E L) (hl : L.length = n) : w.there B 0 n := fun j hj => by
  rw [Nat.zero_add]
  refine ⟨?_, h.frozen j⟩
  rw [h.cell, List.getElem?_eq_getElem (by omega)]
  rfl
theorem Row.setFrom {B : Nat} {E : TypeId} : ∀ (M : List Value) {w : World} {P L : List Value}, Row w B E (P ++ L) → M.length = L.length → Row (w.setCells B P.length M) B E (P ++ M)
  | [], w, P, L, h, hl => by
    have : L = [] := List.length_eq_zero_iff.1 hl.symm
    subst this
    exact h
  | v :: M, w, P, [], h, hl => by simp at hl
  | v :: M, w, P, x :: L, h, hl => by
    have h1 := h.set P.length v
    rw [set_app _ _ _ _ _ rfl] at h1
    have h2 : Row (w.setCell ⟨B, P.length, none⟩ v) B E ((P ++ [v]) ++ L) := by simpa using h1
    have h3 := Row.setFrom M h2 (by simpa using hl)
    simp only [List.length_append, List.length_cons, List.length_nil, List.append_assoc, List.cons_append, List.nil_append] at h3
    exact h3
theorem Row.setAll {w : World} {B : Nat} {E : TypeId} {L : List Value} (h : Row w B E L) (M : List Value) (hm : M.length = L.length) : Row (w.setCells B 0 M) B E M :=
  Row.setFrom (P := []) M h hm
theorem Row.setAway {B C : Nat} {E : TypeId} {L : List Value} (hne : B ≠ C) : ∀ (M : List Value) (o : Nat) {w : World}, Row w B E L → Row (w.setCells C o M) B E L
  | [], _, _, h => h
  | v :: M, o, _, h => Row.setAway hne M (o + 1) (h.apart hne o v)
theorem below_setCells {b C : Nat} {w : World} (hC : b ≤ C) : ∀ (M : List Value) (o : Nat) {w1 : World}, Below b w w1 → Below b w (w1.setCells C o M)
  | [], _, _, h => h
  | v :: M, o, _, h => below_setCells hC M (o + 1) (h.setCell hC v)
theorem one8 (a0 a1 a2 a3 a4 a5 a6 a7 : Int) : (List.toArray [Value.int .i32 a0, .int .i32 a1, .int .i32 a2, .int .i32 a3, .int .i32 a4, .int .i32 a5, .int .i32 a6, .int .i32 a7]).all (·.oneCell') = true := by
  simp [Value.oneCell']
theorem heap_type : Try.prog.underlying 27 = some (.array 8 21) := Try.underlying27
theorem heap_size : (Try.prog.info? 27).map (·.size) = some 8 := by kernel_rfl
theorem heapA_type : Try.prog.underlying 26 = some (.array 8 21) := Try.underlying26
theorem heapA_size : (Try.prog.info? 26).map (·.size) = some 8 := by kernel_rfl
theorem frac_size : (Try.prog.info? 34).map (·.size) = some 2 := by kernel_rfl
theorem one2 (a0 a1 : Int) : (List.toArray [Value.int .i64 a0, .int .i64 a1]).all (·.oneCell') = true := by
  simp [Value.oneCell']
end Go.Proofs.Ytjbaaomodcgdgaa
