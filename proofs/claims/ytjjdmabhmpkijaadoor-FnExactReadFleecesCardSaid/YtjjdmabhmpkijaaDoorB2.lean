/- Contracts of areAll, slices.ContainsFunc and slices.IndexFunc over lists of heaps and of fleeces. -/
import Derived.Test.YtjjdmabhmpkijaaDoorProg
import Derived.Test.YtjjdmabhmpkijaaDoorK
import Derived.Test.YtjjdmabhmpkijaaDoorH4
namespace Go.Proofs.YtjjdmabhmpkijaaDoor
open Go.RowKit
set_option linter.unusedVariables false
set_option linter.unusedSimpArgs false
theorem Rds.cells {α : Type} {w : World} {A : Option Addr} {n sz : Nat} {C : α → List Value} {xs : List α} (R : Rds w A n sz C xs) {k : Nat} (hk : k < n) :
    ∃ ad x, A = some ad ∧ xs[k]? = some x ∧ x ∈ xs ∧ (∀ v, (C x)[0]? = some v → w.cell? (ad.add (k * sz)) = some v) ∧ ∀ j v, (C x)[j + 1]? = some v → w.cell? ⟨(ad.add (k * sz)).block, (ad.add (k * sz)).off + (j + 1), none⟩ = some v := by
  obtain ⟨ad, h1, h2⟩ := R.2.2 (by omega)
  have hx : xs[k]? = some (xs[k]'(by rw [R.1]; exact hk)) := List.getElem?_eq_getElem _
  refine ⟨ad, _, h1, hx, List.mem_of_getElem? hx, fun v hv => h2 k _ hx 0 v hv, fun j v hv => ?_⟩
  have h := h2 k _ hx (j + 1) v hv
  rw [← Addr.add_add] at h
  exact h
/-- A heap as a list of cells, a fleece likewise. -/
def HC (x : List Int) : List Value := nums .i32 x
end Go.Proofs.YtjjdmabhmpkijaaDoor
