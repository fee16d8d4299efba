/- What the passes of a rank make of a web, in the words of the contracts. -/
import Derived.Test.YtkiocmbiahbboaaN8
import Derived.Test.YtkiocmbiahbboaaV6
namespace Go.Proofs.Ytkiocmbiahbboaa
open Go.RowKit
set_option linter.unusedVariables false
set_option linter.unusedSimpArgs false
theorem psOk_rank (r : Nat) : psOk (rkS r) = true := by
  refine rank_ind (p := fun r => psOk (rkS r) = true) rfl (fun r d hd ih => ?_) r
  rw [rkS_child r d hd]
  unfold psOk at ih ⊢
  rw [ByteArray.size_push, List.range_succ, List.all_append, Bool.and_eq_true]
  constructor
  · rw [List.all_eq_true] at ih ⊢
    intro k hk
    have := ih k hk
    rw [bq_push, if_pos (List.mem_range.1 hk)]
    exact this
  · simp only [List.all_cons, List.all_nil, Bool.and_true]
    rw [bq_push, if_neg (by omega), if_pos rfl, psB_psC]
    unfold isP psC
    split
    · simp
    · split <;> simp
theorem ca_rank {xs : List Int} (hw : webOk xs = true) {r : Nat} (hr : r < 1093) : caC xs (rkS r) 0 = 0 ∧ caL xs (rkS r) 0 = rkV xs r := by
  have hs : (rkS r).size ≤ 20 := by have := (rkD_le 6 r).2 (by have : tot 6 = 1093 := rfl; omega); rw [rkS_size]; omega
  have h1 : lpC xs 0 = 0 := by unfold lpC; rw [hw]; rfl
  have e1 : caC xs (rkS r) 0 = 0 := by unfold caC; rw [if_pos h1, if_neg (by omega), psOk_rank]; rfl
  refine ⟨e1, ?_⟩
  unfold caL
  rw [if_pos e1, crL_rank]
theorem webOk_of {xs : List Int} {n : Nat} (h : Web xs n) : webOk xs = true := by
  obtain ⟨h1, h2, h3, h4, h5⟩ := h
  unfold webOk
  rw [h1, Bool.and_eq_true, Bool.and_eq_true]
  refine ⟨by simp [inB]; omega, by simp; omega, ?_⟩
  rw [List.all_eq_true]
  intro x hx
  have := h5 x hx
  simp [inB]; omega
theorem spV_rank {xs : List Int} {n : Nat} (h : Web xs n) (r : Nat) : spreadV (rkV xs r) = spreadL (rkV xs r) ∧ okC (rkV xs r) = 0 := by
  have := webOk_of (rkV_web h r)
  exact ⟨by simp [spreadV, this], by simp [okC, this]⟩
theorem Pss.rank {s : ByteArray} (h : Pss s) (hs : s.size ≤ 3) : ∃ r, r < 40 ∧ rkS r = s := by
  obtain ⟨r, hr⟩ := rkS_of _ s.data.toList rfl h
  refine ⟨r, ?_, ?_⟩
  · have h1 := rkS_len r
    rw [hr] at h1
    have h2 : s.data.toList.length = s.size := by rw [Array.length_toList]; rfl
    exact (rkD_le 3 r).1 (by omega)
  · apply ByteArray.ext
    exact Array.toList_inj.1 hr
end Go.Proofs.Ytkiocmbiahbboaa
