/- Plain law: a text of fleeces read. -/
import Derived.Test.YtbkhlcbnnjgdpaaGreatDoorJ1
namespace Go.Proofs.YtbkhlcbnnjgdpaaGreatDoor
open Go.RowKit
set_option linter.unusedVariables false
set_option linter.unusedSimpArgs false
def lnV (w : List UInt8) : Int × List Int := (lnS w).getD (0, [])
def lnK (w : List UInt8) : Bool := (lnS w).isSome
/-- The fleeces of a text's lines. -/
def flR (l : List UInt8) : List (Int × List Int) := (sp 10 l).dropLast.map lnV
/-- The text is one of at most six fleeces. -/
def rfK (l : List UInt8) : Bool := decide ((sp 10 l).getLast? = some []) && (decide ((sp 10 l).length ≤ 7) && (sp 10 l).dropLast.all lnK)
theorem lnK_some {w : List UInt8} (h : lnK w = true) : FlV (lnV w) ∧ w = flD (lnV w) := by
  unfold lnK at h
  obtain ⟨x, hx⟩ := Option.isSome_iff_exists.1 h
  have e : lnV w = x := by unfold lnV; rw [hx]; rfl
  rw [e]
  exact lnS_some hx
theorem lnK_flD {x : Int × List Int} (h : FlV x) : lnK (flD x) = true ∧ lnV (flD x) = x := by
  have := lnS_flD h
  exact ⟨by unfold lnK; rw [this]; rfl, by unfold lnV; rw [this]; rfl⟩
theorem joinTail_end (r : List (List UInt8)) : Lib.joinTail [10] (r ++ [[]]) = Lib.joinTail [10] r ++ [10] := by simp [Lib.joinTail]
theorem join_lines (xs : List (Int × List Int)) : Lib.join (xs.map flD ++ [[]]) [10] = flT xs := by
  have go : ∀ ys : List (Int × List Int), Lib.joinTail [10] (ys.map flD ++ [[]]) = 10 :: flT ys := by
    intro ys
    induction ys with
    | nil => simp [Lib.joinTail, flT]
    | cons y ys ih =>
      rw [List.map_cons, List.cons_append, joinTail_cons, ih]
      simp [flT, flL_eq]
  cases xs with
  | nil => simp [flT, Lib.join_one]
  | cons x xs =>
    rw [List.map_cons, List.cons_append, Lib.join_cons, go]
    simp [flT, flL_eq]
/-- What the lines spell is what stands there. -/
theorem rfK_text {l : List UInt8} (h : rfK l = true) : (∀ x ∈ flR l, FlV x) ∧ (flR l).length ≤ 6 ∧ flT (flR l) = l := by
  unfold rfK at h
  simp only [Bool.and_eq_true, decide_eq_true_eq, List.all_eq_true] at h
  obtain ⟨h1, h2, h3⟩ := h
  have hne : sp 10 l ≠ [] := fun e => by rw [e] at h1; cases h1
  have hs : sp 10 l = (sp 10 l).dropLast ++ [[]] := by
    rw [List.getLast?_eq_some_getLast hne] at h1
    have := List.dropLast_concat_getLast hne
    rw [Option.some.inj h1] at this
    exact this.symm
  have hm : (flR l).map flD = (sp 10 l).dropLast := by
    unfold flR
    rw [List.map_map]
    exact map_self2 fun w hw => (lnK_some (h3 w hw)).2.symm
  refine ⟨fun x hx => ?_, by unfold flR; rw [List.length_map, List.length_dropLast]; omega, ?_⟩
  · obtain ⟨w, hw, rfl⟩ := List.mem_map.1 hx
    exact (lnK_some (h3 w hw)).1
  · rw [← join_lines, hm, ← hs, sp_join]
theorem rfK_of {xs : List (Int × List Int)} (h : ∀ x ∈ xs, FlV x) (h6 : xs.length ≤ 6) : rfK (flT xs) = true ∧ flR (flT xs) = xs := by
  have hs := sp_flT h
  have hd : (sp 10 (flT xs)).dropLast = xs.map flD := by rw [hs, List.dropLast_concat]
  constructor
  · unfold rfK
    simp only [Bool.and_eq_true, decide_eq_true_eq, List.all_eq_true]
    refine ⟨by rw [hs]; simp, by rw [hs, List.length_append, List.length_map]; simp; omega, ?_⟩
    rw [hd]
    intro w hw
    obtain ⟨x, hx, rfl⟩ := List.mem_map.1 hw
    exact (lnK_flD (h x hx)).1
  · unfold flR
    rw [hd, List.map_map]
    exact map_self2 fun x hx => (lnK_flD (h x hx)).2
def rfR (l : List UInt8) : List (Int × List Int) := if rfK l = true then flR l else []
def rfC (l : List UInt8) : Int := if rfK l = true then 0 else 5
theorem rfR_len (l : List UInt8) : (rfR l).length ≤ 6 := by
  unfold rfR
  split
  · exact (rfK_text ‹_›).2.1
  · simp
theorem FlV.wf {x : Int × List Int} (h : FlV x) : (Lit.int .i8 x.1).wf = true ∧ x.2.length = 8 ∧ ∀ y ∈ x.2, (Lit.int .i32 y).wf = true := by
  obtain ⟨h1, h2⟩ := h.bd
  refine ⟨?_, h.1, fun y hy => ?_⟩
  · simp [Lit.wf, IntKind.min, IntKind.max, IntKind.signed, IntKind.bits]; omega
  · have := h2 y hy
    simp [Lit.wf, IntKind.min, IntKind.max, IntKind.signed, IntKind.bits]; omega
theorem rfR_ok (l : List UInt8) : FlOk (rfR l) := by
  unfold rfR
  split
  · exact fun x hx => ((rfK_text ‹_›).1 x hx).wf
  · intro x hx; cases hx
end Go.Proofs.YtbkhlcbnnjgdpaaGreatDoor
