/- NearestBlend: the plain law: its code, what is found, its bounds. -/
import Derived.Test.YtjbaaomodcgdgaaP5
namespace Go.Proofs.Ytjbaaomodcgdgaa
open Go.RowKit
set_option linter.unusedVariables false
set_option linter.unusedSimpArgs false
theorem nbF_some (F : List Int → Int) : ∀ (d : Nat) (pre : List Int) (left : Nat) (st : Sta), (nbF F d pre left st).isSome = true
  | 0, pre, left, st => by
    unfold nbF visit
    cases st with
    | none => rfl
    | some q => split <;> (try split) <;> rfl
  | d + 1, pre, left, st => by
    rw [nbF_succ, nbTo_succ]
    exact nbF_some F d _ _ _
/-- What a choice that was found is like. -/
def NbGood (F : List Int → Int) (n : Nat) (st : Sta) : Prop := ∀ ps l, st = some (ps, l) → ps.length = n ∧ (∀ x ∈ ps, 0 ≤ x ∧ x ≤ 8) ∧ l = F ps
theorem NbGood.visit {F : List Int → Int} {n : Nat} {st : Sta} (h : NbGood F n st) {ps : List Int} (hl : ps.length = n) (hp : ∀ x ∈ ps, 0 ≤ x ∧ x ≤ 8) : NbGood F n (visit F ps st) := by
  intro qs l e
  cases st with
  | none =>
    simp only [Go.Proofs.Ytjbaaomodcgdgaa.visit, Option.some.injEq, Prod.mk.injEq] at e
    obtain ⟨rfl, rfl⟩ := e
    exact ⟨hl, hp, rfl⟩
  | some q =>
    obtain ⟨b, k⟩ := q
    simp only [Go.Proofs.Ytjbaaomodcgdgaa.visit] at e
    split at e
    · simp only [Option.some.injEq, Prod.mk.injEq] at e
      obtain ⟨rfl, rfl⟩ := e
      exact ⟨hl, hp, rfl⟩
    · exact h qs l e
theorem nbF_good {F : List Int → Int} {n : Nat} : ∀ (d : Nat) (pre : List Int) (left : Nat) (st : Sta), pre.length + d + 1 = n → (∀ x ∈ pre, 0 ≤ x ∧ x ≤ 8) → left ≤ 8 → NbGood F n st → NbGood F n (nbF F d pre left st)
  | 0, pre, left, st, hn, hp, hl, h => h.visit (by rw [List.length_append]; simp; omega) (pre_snoc hp hl)
  | d + 1, pre, left, st, hn, hp, hl, h => by
    rw [nbF_succ]
    have : ∀ k, k ≤ left + 1 → NbGood F n (nbTo F d pre left st k) := by
      intro k
      induction k with
      | zero => intro _; exact h
      | succ k ih =>
        intro hk
        rw [nbTo_succ]
        exact nbF_good d _ _ _ (by rw [List.length_append]; simp; omega) (pre_snoc hp (by omega)) (by omega) (ih (by omega))
    exact this _ (Nat.le_refl _)
theorem share_le {M g v p : Int} (hM : 0 ≤ M) (hg : 1 ≤ g) (hv : 0 ≤ v ∧ v ≤ g) (hp : 0 ≤ p ∧ p ≤ 8) : 0 ≤ p * v * M.tdiv g ∧ p * v * M.tdiv g ≤ 8 * M := by
  have ht := tdiv_bd hM hg
  have h1 : g * M.tdiv g ≤ M := by rw [Int.tdiv_eq_ediv_of_nonneg hM]; exact Int.mul_ediv_self_le (by omega)
  have h2 := Int.mul_le_mul_of_nonneg_right hv.2 ht.1
  have h3 : 0 ≤ v * M.tdiv g := Int.mul_nonneg hv.1 ht.1
  have h4 := mul_bd2 hp.1 hp.2 h3 (show v * M.tdiv g ≤ M by omega)
  rw [Int.mul_assoc]
  exact h4
theorem shaTo_bd3 {xs : List (Int × List Int)} {ps : List Int} {M : Int} (h : flB xs = true) (h8 : ∀ x ∈ xs, x.2.length = 8) (hg : ∀ k, 1 ≤ gA xs k ∧ gA xs k ≤ 100) (hp : ∀ k, 0 ≤ gd ps k ∧ gd ps k ≤ 8) (hM : 0 ≤ M ∧ M ≤ 1000000000000) (j : Nat) : ∀ k, 0 ≤ shaTo xs ps M j k ∧ shaTo xs ps M j k ≤ k * 8000000000000
  | 0 => ⟨Int.le_refl _, by simp [shaTo]⟩
  | k + 1 => by
    have ih := shaTo_bd3 h h8 hg hp hM j k
    have hv : 0 ≤ vA xs j k ∧ vA xs j k ≤ gA xs k := by
      refine ⟨(vA_bd h j k).1, ?_⟩
      unfold vA gA
      split
      · rename_i x hx
        have hm := List.mem_of_getElem? hx
        exact getD_le_hsL (fl_heap h hm) (h8 x hm) j
      · omega
    have h1 := share_le hM.1 (hg k).1 hv (hp k)
    unfold shaTo
    omega
theorem offT_bd3 {xs : List (Int × List Int)} {M G P : Int} {W ps : List Int} (h : NbOk xs M G P W) (hp : ∀ k, 0 ≤ gd ps k ∧ gd ps k ≤ 8) : ∀ j, 0 ≤ offT xs ps M G P W j ∧ offT xs ps M G P W j ≤ j * 10000000000000000
  | 0 => ⟨Int.le_refl _, by simp [offT]⟩
  | j + 1 => by
    have ih := offT_bd3 h hp j
    obtain ⟨_, _, _, h4⟩ := h.bd hp j
    have h1 := shaTo_bd3 h.fl h.ok.len (gA_bd h.hv h.nz) hp h.hM j xs.length
    have h6 := h.h6
    have h2 := mul_bd2 h1.1 (show shaTo xs ps M j xs.length ≤ 48000000000000 by omega) h.hG.1 h.hG.2
    unfold offT offD
    omega
/-- The code. -/
def nbC1 (xs : List (Int × List Int)) (W : List Int) (P : Int) : Int := if (bdC xs (inB P 1 8) = 0 ∨ bdC xs (inB P 1 8) = 6) ∧ 100 < hsL W then 3 else bdC xs (inB P 1 8)
def nbC (xs : List (Int × List Int)) (W : List Int) (P : Int) : Int := if heapOk W then (if nbC1 xs W P = 0 ∧ (xs.length = 0 ∨ hsL W = 0) then 6 else nbC1 xs W P) else 1
def nbSt (xs : List (Int × List Int)) (W : List Int) (P : Int) : Sta := nbF (fun ps => offT xs ps (mulTo xs xs.length) (hsL W) P W 8) (xs.length - 1) [] P.toNat none
def nbR (xs : List (Int × List Int)) (W : List Int) (P : Int) : List Int := if nbC xs W P = 0 then (match nbSt xs W P with | some q => q.1 | none => []) else []
def nbL (xs : List (Int × List Int)) (W : List Int) (P : Int) : Int := match nbSt xs W P with | some q => q.2 | none => 0
def nbN (xs : List (Int × List Int)) (W : List Int) (P : Int) : Int := if nbC xs W P = 0 then frN (nbL xs W P) (P * mulTo xs xs.length * hsL W) else 0
def nbD (xs : List (Int × List Int)) (W : List Int) (P : Int) : Int := if nbC xs W P = 0 then frD (nbL xs W P) (P * mulTo xs xs.length * hsL W) else 0
theorem nbC_0 {xs : List (Int × List Int)} {W : List Int} {P : Int} (h : nbC xs W P = 0) : heapOk W = true ∧ bdC xs (inB P 1 8) = 0 ∧ hsL W ≤ 100 ∧ 1 ≤ xs.length ∧ hsL W ≠ 0 := by
  unfold nbC at h
  cases h1 : heapOk W
  · simp [h1] at h
  · rw [h1, if_pos rfl] at h
    split at h
    · omega
    · rename_i h2
      have h3 : bdC xs (inB P 1 8) = 0 ∧ hsL W ≤ 100 := by
        unfold nbC1 at h
        split at h
        · omega
        · rename_i h4
          exact ⟨h, by
            by_cases h5 : hsL W ≤ 100
            · exact h5
            · exact absurd ⟨.inl h, by omega⟩ h4⟩
      exact ⟨rfl, h3.1, h3.2, by
        by_cases h5 : 1 ≤ xs.length
        · exact h5
        · exact absurd ⟨h, .inl (by omega)⟩ h2, fun h5 => h2 ⟨h, .inr h5⟩⟩
theorem nb_ok {xs : List (Int × List Int)} {W : List Int} {P : Int} (hF : FlOk xs) (hW : W.length = 8) (h : nbC xs W P = 0) : NbOk xs (mulTo xs xs.length) (hsL W) P W ∧ 1 ≤ P ∧ P ≤ 8 ∧ 1 ≤ hsL W ∧ 1 ≤ mulTo xs xs.length := by
  obtain ⟨h1, h2, h3, h4, h5⟩ := nbC_0 h
  obtain ⟨b1, b2, b3⟩ := bdC_0 h2
  obtain ⟨b4, b5, b6⟩ := flC_0 b1
  have hp : 1 ≤ P ∧ P ≤ 8 := by simpa [inB] using b5
  have hg := hsL_bd h1
  have hm := mul_all b2 b3 b6
  refine ⟨⟨b4, hF, b2, b3, b6, ⟨by omega, hm.2⟩, ⟨hg.1, h3⟩, ⟨by omega, hp.2⟩, ?_, hW⟩, hp.1, hp.2, by omega, hm.1⟩
  intro j
  rw [List.getD_eq_getElem?_getD]
  by_cases hk : j < W.length
  · have h2 : ∀ x ∈ W, 0 ≤ x ∧ x ≤ 1000 := by simpa [heapOk, inB] using h1
    rw [List.getElem?_eq_getElem hk]
    exact h2 _ (List.getElem_mem hk)
  · rw [List.getElem?_eq_none (by omega)]; simp
/-- What is found. -/
theorem nb_found {xs : List (Int × List Int)} {W : List Int} {P : Int} (hF : FlOk xs) (hW : W.length = 8) (h : nbC xs W P = 0) : ∃ ps l, nbSt xs W P = some (ps, l) ∧ ps.length = xs.length ∧ 0 ≤ l ∧ l ≤ 80000000000000000 := by
  obtain ⟨ho, p1, p2, _, _⟩ := nb_ok hF hW h
  have h1 := nbF_some (fun ps => offT xs ps (mulTo xs xs.length) (hsL W) P W 8) (xs.length - 1) [] P.toNat none
  have h2 := nbF_good (F := fun ps => offT xs ps (mulTo xs xs.length) (hsL W) P W 8) (n := xs.length) (xs.length - 1) [] P.toNat none (by have := (nbC_0 h).2.2.2.1; simp; omega) (by simp) (by omega) (fun _ _ e => by cases e)
  unfold nbSt
  cases h3 : nbF (fun ps => offT xs ps (mulTo xs xs.length) (hsL W) P W 8) (xs.length - 1) [] P.toNat none with
  | none => rw [h3] at h1; cases h1
  | some q =>
    obtain ⟨ps, l⟩ := q
    obtain ⟨e1, e2, e3⟩ := h2 ps l h3
    have := offT_bd3 ho (gd_ps e2) 8
    simp only at e3
    exact ⟨ps, l, rfl, e1, by rw [e3]; exact this.1, by rw [e3]; omega⟩
theorem nbR_len (xs : List (Int × List Int)) (W : List Int) (P : Int) (hF : FlOk xs) (hW : W.length = 8) : (nbR xs W P).length ≤ 6 := by
  unfold nbR
  split
  · rename_i h
    obtain ⟨ps, l, h1, h2, _⟩ := nb_found hF hW h
    rw [h1]
    have := (nb_ok hF hW h).1.h6
    simp only
    omega
  · simp
end Go.Proofs.Ytjbaaomodcgdgaa
