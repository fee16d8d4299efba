/- Contracts: numbers in decimal with a blank between them: impl.joined and spec.l02Text. -/
import Derived.Test.YtjjdmabhmpkijaaDoorQ1
import Derived.Test.YtjjdmabhmpkijaaDoorSt
import Derived.Test.YtjjdmabhmpkijaaDoorC2
import Derived.Lib.Join
namespace Go.Proofs.YtjjdmabhmpkijaaDoor
open Go.RowKit
set_option linter.unusedVariables false
set_option linter.unusedSimpArgs false
/-- A whole number of 64 bits. -/
def I64 (x : Int) : Prop := -9223372036854775808 ≤ x ∧ x ≤ 9223372036854775807
def decs (xs : List Int) : List ByteArray := xs.map dec
theorem decs_len (xs : List Int) : (decs xs).length = xs.length := by simp [decs]
theorem decs_data (xs : List Int) : (decs xs).map (·.data.toList) = xs.map Lib.itoa := by simp [decs, dec]
/-- The first k numbers with a blank between them. -/
def wtTo (xs : List Int) (k : Nat) : ByteArray := ⟨(Lib.join ((xs.map Lib.itoa).take k) [32]).toArray⟩
def wtB (xs : List Int) : ByteArray := ⟨(Lib.join (xs.map Lib.itoa) [32]).toArray⟩
theorem wtTo_all (xs : List Int) : wtTo xs xs.length = wtB xs := by unfold wtTo wtB; rw [List.take_of_length_le (by simp)]
theorem wtTo_0 (xs : List Int) : wtTo xs 0 = ByteArray.empty := by
  unfold wtTo
  rw [List.take_zero, Lib.join_nil]
  rfl
theorem wtTo_1 {xs : List Int} {x : Int} (h : xs[0]? = some x) : wtTo xs 1 = dec x := by
  cases xs with
  | nil => simp at h
  | cons y ys =>
    simp at h
    subst h
    unfold wtTo dec
    rw [List.map_cons, List.take_succ_cons, List.take_zero, Lib.join_one]
theorem wtTo_succ {xs : List Int} {k : Nat} {x : Int} (h : xs[k + 1]? = some x) : wtTo xs (k + 1 + 1) = (wtTo xs (k + 1) ++ ⟨#[32]⟩) ++ dec x := by
  cases xs with
  | nil => simp at h
  | cons y ys =>
    simp at h
    have hm : (ys.map Lib.itoa)[k]? = some (Lib.itoa x) := by rw [List.getElem?_map, h]; rfl
    unfold wtTo dec
    rw [List.map_cons, List.take_succ_cons, List.take_succ_cons, Lib.join_cons, Lib.join_cons, Lib.joinTail_take_succ _ _ _ _ hm]
    apply ByteArray.ext
    simp
theorem wtTo_size {xs : List Int} (hx : ∀ x ∈ xs, I64 x) : ∀ k, k ≤ xs.length → (wtTo xs k).size ≤ 22 * k := by
  intro k
  induction k with
  | zero => intro _; rw [wtTo_0]; show 0 ≤ 0; omega
  | succ k ih =>
    intro hk
    have hg : xs[k]? = some (xs[k]'(by omega)) := List.getElem?_eq_getElem _
    have hb := hx _ (List.getElem_mem (show k < xs.length by omega))
    have hd := dec_len _ hb.1 hb.2
    cases k with
    | zero => rw [wtTo_1 hg]; omega
    | succ k =>
      rw [wtTo_succ hg, ByteArray.size_append, ByteArray.size_append]
      have := ih (by omega)
      have h1 : (⟨#[32]⟩ : ByteArray).size = 1 := rfl
      omega
end Go.Proofs.YtjjdmabhmpkijaaDoor
