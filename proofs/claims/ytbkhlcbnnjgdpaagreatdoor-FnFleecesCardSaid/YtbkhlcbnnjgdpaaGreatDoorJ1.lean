/- Plain law: the lines of a text of fleeces, cut and read again. -/
import Derived.Test.YtbkhlcbnnjgdpaaGreatDoorBq
import Derived.Test.YtbkhlcbnnjgdpaaGreatDoorL2
namespace Go.Proofs.YtbkhlcbnnjgdpaaGreatDoor
open Go.RowKit
set_option linter.unusedVariables false
set_option linter.unusedSimpArgs false
/-- A fleece's line without its end. -/
def flD (x : Int × List Int) : List UInt8 := Lib.itoa x.1 ++ 58 :: gs x.2
theorem flL_eq (x : Int × List Int) : flL x = flD x ++ [10] := by simp [flL, flD]
/-- A fleece that may stand in a list: eight numbers, all within their bounds. -/
def FlV (x : Int × List Int) : Prop := x.2.length = 8 ∧ fleeceOk x.1 x.2 = true
theorem FlV.bd {x : Int × List Int} (h : FlV x) : (0 ≤ x.1 ∧ x.1 ≤ 9) ∧ ∀ y ∈ x.2, 0 ≤ y ∧ y ≤ 1000 := fl_bdt h.2
theorem itoa_dig {v : Int} (h0 : 0 ≤ v) : ∀ c ∈ Lib.itoa v, 48 ≤ c.toNat ∧ c.toNat ≤ 57 := by
  obtain ⟨n, rfl⟩ : ∃ n : Nat, v = (n : Int) := ⟨v.toNat, by omega⟩
  rw [Lib.itoa_nonneg]
  exact blank_dec n
theorem itoa_no {v : Int} (h0 : 0 ≤ v) {c : UInt8} (hc : c.toNat < 48 ∨ 57 < c.toNat) : c ∉ Lib.itoa v := fun h => by have := itoa_dig h0 c h; omega
theorem itoa_num2 {v : Int} (h0 : 0 ≤ v) (h1 : v < 1000000000) : nok (Lib.itoa v) = true ∧ nvv (Lib.itoa v) = v := by
  obtain ⟨n, rfl⟩ : ∃ n : Nat, v = (n : Int) := ⟨v.toNat, by omega⟩
  rw [Lib.itoa_nonneg]
  exact nok_some (num_dec (by omega))
theorem gs_no {L : List Int} (h : ∀ y ∈ L, 0 ≤ y) {c : UInt8} (hc : c.toNat < 48 ∨ 57 < c.toNat) (h32 : c ≠ 32) : c ∉ gs L := by
  unfold gs
  intro hm
  obtain ⟨y, hy, hm⟩ := List.mem_flatMap.1 hm
  rcases List.mem_cons.1 hm with e | e
  · exact h32 e
  · exact itoa_no (h y hy) hc e
/-- No line's end within a line. -/
theorem flD_nl {x : Int × List Int} (h : FlV x) : (10 : UInt8) ∉ flD x := by
  obtain ⟨h1, h2⟩ := h.bd
  unfold flD
  intro hm
  rcases List.mem_append.1 hm with e | e
  · exact itoa_no h1.1 (by decide) e
  · rcases List.mem_cons.1 e with e | e
    · exact absurd e (by decide)
    · exact gs_no (fun y hy => (h2 y hy).1) (by decide) (by decide) e
/-- A text of fleeces cut at the lines' ends. -/
theorem sp_flT {xs : List (Int × List Int)} (h : ∀ x ∈ xs, FlV x) : sp 10 (flT xs) = xs.map flD ++ [[]] := by
  induction xs with
  | nil => rfl
  | cons x xs ih =>
    have e : flT (x :: xs) = flD x ++ 10 :: flT xs := by simp [flT, flL_eq]
    rw [e, sp_app (flD_nl (h x (by simp))), ih (fun y hy => h y (by simp [hy]))]
    rfl
theorem gs_cons (y : Int) (L : List Int) : gs (y :: L) = 32 :: (Lib.itoa y ++ gs L) := by simp [gs]
/-- Numbers with a blank ahead of each, cut at the blanks: an empty word first. -/
theorem sp_gs {L : List Int} (h : ∀ y ∈ L, 0 ≤ y) : sp 32 (gs L) = [] :: L.map Lib.itoa := by
  have go : ∀ (L : List Int), (∀ y ∈ L, 0 ≤ y) → ∀ p : List UInt8, 32 ∉ p → sp 32 (p ++ gs L) = p :: L.map Lib.itoa := by
    intro L
    induction L with
    | nil => intro _ p hp; rw [show gs [] = [] from rfl, List.append_nil, sp_none hp]; rfl
    | cons y L ih =>
      intro hL p hp
      rw [gs_cons, sp_app hp, ih (fun z hz => hL z (by simp [hz])) _ (itoa_no (hL y (by simp)) (by decide))]
      rfl
  exact go L h [] (by simp)
/-- A line cut at the blanks. -/
theorem sp_flD {x : Int × List Int} (h : FlV x) : sp 32 (flD x) = (Lib.itoa x.1 ++ [58]) :: x.2.map Lib.itoa := by
  obtain ⟨h1, h2⟩ := h.bd
  have go : ∀ (L : List Int), (∀ y ∈ L, 0 ≤ y) → ∀ p : List UInt8, 32 ∉ p → sp 32 (p ++ gs L) = p :: L.map Lib.itoa := by
    intro L
    induction L with
    | nil => intro _ p hp; rw [show gs [] = [] from rfl, List.append_nil, sp_none hp]; rfl
    | cons y L ih =>
      intro hL p hp
      rw [gs_cons, sp_app hp, ih (fun z hz => hL z (by simp [hz])) _ (itoa_no (hL y (by simp)) (by decide))]
      rfl
  have e : flD x = (Lib.itoa x.1 ++ [58]) ++ gs x.2 := by simp [flD]
  rw [e]
  refine go x.2 (fun y hy => (h2 y hy).1) _ ?_
  intro hm
  rcases List.mem_append.1 hm with e | e
  · exact itoa_no h1.1 (by decide) e
  · exact absurd (List.mem_singleton.1 e) (by decide)
/-- What the words of a line spell: the number ahead of the colon, then eight numbers, each within its bounds. -/
def lnS (s : List UInt8) : Option (Int × List Int) :=
  match sp 32 s with
  | [] => none
  | h :: t => if t.length = 8 ∧ 2 ≤ h.length ∧ h.getLast? = some 58 ∧ nok h.dropLast = true ∧ nvv h.dropLast ≤ 9 ∧ (t.all fun w => nok w && decide (nvv w ≤ 1000)) = true
      then some (nvv h.dropLast, t.map nvv) else none
theorem nvv_0 (w : List UInt8) : 0 ≤ nvv w := (nvv_bd w).1
theorem nok_itoa {w : List UInt8} (h : nok w = true) : w = Lib.itoa (nvv w) := by
  cases hn : num w with
  | none => rw [(nok_none hn).1] at h; cases h
  | some n =>
    obtain ⟨h1, h2⟩ := num_some hn
    rw [(nok_some hn).2, Lib.itoa_nonneg, ← h1]
theorem map_self2 {α : Type} {l : List α} {f : α → α} (h : ∀ x ∈ l, f x = x) : l.map f = l := by
  have : l.map f = l.map id := List.map_congr_left h
  rw [this, List.map_id]
theorem lnS_flD {x : Int × List Int} (h : FlV x) : lnS (flD x) = some x := by
  obtain ⟨h1, h2⟩ := h.bd
  obtain ⟨n1, n2⟩ := itoa_num2 h1.1 (by omega)
  have hne : Lib.itoa x.1 ≠ [] := by
    obtain ⟨n, hn⟩ : ∃ n : Nat, x.1 = (n : Int) := ⟨x.1.toNat, by omega⟩
    rw [hn, Lib.itoa_nonneg]
    exact dec_ne n
  have hl : 1 ≤ (Lib.itoa x.1).length := by cases hh : Lib.itoa x.1 with
    | nil => exact absurd hh hne
    | cons a b => simp
  have hm : x.2.map (nvv ∘ Lib.itoa) = x.2 := map_self2 fun y hy => (itoa_num2 (h2 y hy).1 (by have := (h2 y hy).2; omega)).2
  unfold lnS
  rw [sp_flD h]
  simp only
  rw [if_pos, List.dropLast_concat, n2, List.map_map, hm]
  refine ⟨by rw [List.length_map]; exact h.1, by rw [List.length_append]; simp; omega, by simp, by rw [List.dropLast_concat]; exact n1, by rw [List.dropLast_concat, n2]; exact h1.2, ?_⟩
  rw [List.all_eq_true]
  intro w hw
  obtain ⟨y, hy, rfl⟩ := List.mem_map.1 hw
  obtain ⟨e1, e2⟩ := itoa_num2 (h2 y hy).1 (by have := (h2 y hy).2; omega)
  rw [e1, e2]
  simpa using (h2 y hy).2
/-- What is read from a line stands there. -/
theorem lnS_some {s : List UInt8} {x : Int × List Int} (h : lnS s = some x) : FlV x ∧ s = flD x := by
  unfold lnS at h
  obtain ⟨a, t, e⟩ := sp_ne 32 s
  rw [e] at h
  simp only at h
  split at h
  · rename_i hc
    obtain ⟨c1, c2, c3, c4, c5, c6⟩ := hc
    obtain rfl := Option.some.inj h
    rw [List.all_eq_true] at c6
    have ht : ∀ w ∈ t, nok w = true ∧ nvv w ≤ 1000 := fun w hw => by have := c6 w hw; simpa using this
    have hv : FlV (nvv a.dropLast, t.map nvv) := by
      refine ⟨by show (t.map nvv).length = 8; rw [List.length_map]; exact c1, ?_⟩
      simp only [fleeceOk, heapOk, Bool.and_eq_true, List.all_eq_true, inB_iff]
      refine ⟨⟨nvv_0 _, c5⟩, fun y hy => ?_⟩
      obtain ⟨w, hw, rfl⟩ := List.mem_map.1 hy
      exact ⟨nvv_0 _, (ht w hw).2⟩
    refine ⟨hv, ?_⟩
    have ha : a = Lib.itoa (nvv a.dropLast) ++ [58] := by
      rw [← nok_itoa c4]
      have hne : a ≠ [] := fun e => by rw [e] at c2; simp at c2
      rw [List.getLast?_eq_some_getLast hne] at c3
      have := List.dropLast_concat_getLast hne
      rw [Option.some.inj c3] at this
      exact this.symm
    have htt : t.map (Lib.itoa ∘ nvv) = t := map_self2 fun w hw => (nok_itoa (ht w hw).1).symm
    have e2 : sp 32 (flD (nvv a.dropLast, t.map nvv)) = sp 32 s := by
      rw [sp_flD hv, e]
      show (Lib.itoa (nvv a.dropLast) ++ [58]) :: (t.map nvv).map Lib.itoa = a :: t
      rw [List.map_map, htt, ← ha]
    have := congrArg (fun l => Lib.join l [32]) e2
    simp only [sp_join] at this
    exact this.symm
  · cases h
end Go.Proofs.YtbkhlcbnnjgdpaaGreatDoor
