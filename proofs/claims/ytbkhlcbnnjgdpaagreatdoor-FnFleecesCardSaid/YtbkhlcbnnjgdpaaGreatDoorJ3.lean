/- Plain law: the lines of a text with their ends; a line of a fleece read by the program. -/
import Derived.Test.YtbkhlcbnnjgdpaaGreatDoorJ2
import Derived.Test.YtbkhlcbnnjgdpaaGreatDoorO4
import Derived.Lib.IndexBytes
import Derived.Lib.Strings
import Derived.Lib.IndexMore
namespace Go.Proofs.YtbkhlcbnnjgdpaaGreatDoor
open Go.RowKit
set_option linter.unusedVariables false
set_option linter.unusedSimpArgs false
/-- The lines of a text, each with its end. -/
def lns : List UInt8 → List (List UInt8)
  | [] => []
  | x :: r => if x = 10 then [10] :: lns r else match lns r with
    | [] => [[x]]
    | a :: t => (x :: a) :: t
theorem lns_app {p : List UInt8} (h : (10 : UInt8) ∉ p) (r : List UInt8) : lns (p ++ 10 :: r) = (p ++ [10]) :: lns r := by
  induction p with
  | nil => simp [lns]
  | cons x p ih =>
    have hx : x ≠ 10 := fun e => h (by rw [e]; exact List.mem_cons_self ..)
    have hp : (10 : UInt8) ∉ p := fun e => h (List.mem_cons_of_mem _ e)
    rw [List.cons_append, lns, if_neg hx, ih hp]
    rfl
theorem lns_one {p : List UInt8} (h : (10 : UInt8) ∉ p) (h0 : p ≠ []) : lns p = [p] := by
  induction p with
  | nil => exact absurd rfl h0
  | cons x p ih =>
    have hx : x ≠ 10 := fun e => h (by rw [e]; exact List.mem_cons_self ..)
    have hp : (10 : UInt8) ∉ p := fun e => h (List.mem_cons_of_mem _ e)
    rw [lns, if_neg hx]
    cases p with
    | nil => rfl
    | cons y q => rw [ih hp (by simp)]
theorem lns_flT {xs : List (Int × List Int)} (h : ∀ x ∈ xs, FlV x) : lns (flT xs) = xs.map flL := by
  induction xs with
  | nil => rfl
  | cons x xs ih =>
    have e : flT (x :: xs) = flD x ++ 10 :: flT xs := by simp [flT, flL_eq]
    rw [e, lns_app (flD_nl (h x (by simp))), ih (fun y hy => h y (by simp [hy])), List.map_cons, flL_eq]
theorem lns_rfK {l : List UInt8} (h : rfK l = true) : lns l = (flR l).map flL := by
  obtain ⟨h1, h2, h3⟩ := rfK_text h
  have := lns_flT h1
  rw [h3] at this
  exact this
/-- The next line, by the first end of a line. -/
theorem indexByte_some {l : List UInt8} {i : Nat} {c : UInt8} (h : Lib.indexByte l c = i) : i < l.length ∧ c ∉ l.take i ∧ l = l.take i ++ c :: l.drop (i + 1) := by
  induction l generalizing i with
  | nil => simp [Lib.indexByte] at h
  | cons x r ih =>
    rw [Lib.indexByte] at h
    by_cases hx : x = c
    · subst hx
      simp at h
      obtain rfl : i = 0 := by omega
      simp
    · have hb : (x == c) = false := by simpa using hx
      rw [hb] at h
      by_cases hn : Lib.indexByte r c = -1
      · rw [hn] at h; simp at h
      · have hb2 : (Lib.indexByte r c == -1) = false := by simpa using hn
        rw [hb2] at h
        simp at h
        have hg := Lib.indexByte_ge r c
        obtain ⟨j, rfl⟩ : ∃ j : Nat, i = j + 1 := ⟨i - 1, by omega⟩
        obtain ⟨h1, h2, h3⟩ := ih (i := j) (by omega)
        refine ⟨by simp; omega, ?_, ?_⟩
        · rw [List.take_succ_cons]
          intro hm
          rcases List.mem_cons.1 hm with e | e
          · exact hx e.symm
          · exact h2 e
        · rw [List.take_succ_cons, List.drop_succ_cons, List.cons_append, ← h3]
theorem indexByte_neg {l : List UInt8} {c : UInt8} (h : Lib.indexByte l c = -1) : c ∉ l := by
  induction l with
  | nil => simp
  | cons x r ih =>
    rw [Lib.indexByte] at h
    by_cases hx : x = c
    · subst hx; simp at h
    · have hb : (x == c) = false := by simpa using hx
      rw [hb] at h
      by_cases hn : Lib.indexByte r c = -1
      · intro hm
        rcases List.mem_cons.1 hm with e | e
        · exact hx e.symm
        · exact ih hn e
      · have hb2 : (Lib.indexByte r c == -1) = false := by simpa using hn
        rw [hb2] at h
        simp at h
        have hg := Lib.indexByte_ge r c
        omega
theorem indexByte_hit {p r : List UInt8} {c : UInt8} (h : c ∉ p) : Lib.indexByte (p ++ c :: r) c = p.length := by
  have hg := Lib.indexByte_ge (p ++ c :: r) c
  rcases Int.lt_or_eq_of_le hg with h1 | h1
  · obtain ⟨i, hi⟩ : ∃ i : Nat, Lib.indexByte (p ++ c :: r) c = i := ⟨(Lib.indexByte (p ++ c :: r) c).toNat, by omega⟩
    obtain ⟨h2, h3, h4⟩ := indexByte_some hi
    rw [hi]
    congr 1
    rcases Nat.lt_trichotomy i p.length with hlt | heq | hgt
    · exfalso
      have e : (p ++ c :: r)[i]? = some c := by rw [h4, List.getElem?_append_right (by rw [List.length_take]; omega), List.length_take, show i - min i (p ++ c :: r).length = 0 by omega]; rfl
      rw [List.getElem?_append_left hlt] at e
      exact h (List.mem_of_getElem? e)
    · exact heq
    · exfalso
      refine h3 ?_
      rw [List.take_append, List.mem_append]
      right
      obtain ⟨k, hk⟩ : ∃ k, i - p.length = k + 1 := ⟨i - p.length - 1, by omega⟩
      rw [hk, List.take_succ_cons]
      exact List.mem_cons_self ..
  · exfalso
    exact indexByte_neg h1.symm (by simp)
theorem lns_next {l : List UInt8} {i : Nat} (h : Lib.indexByte l 10 = i) : lns l = l.take (i + 1) :: lns (l.drop (i + 1)) ∧ i < l.length := by
  obtain ⟨h1, h2, h3⟩ := indexByte_some h
  refine ⟨?_, h1⟩
  have e : l.take (i + 1) = l.take i ++ [10] := by
    have h4 : l[i]? = some 10 := by
      rw [h3, List.getElem?_append_right (by rw [List.length_take]; omega), List.length_take, show i - min i l.length = 0 by omega]
      rfl
    rw [List.take_add_one, h4]
    rfl
  conv => lhs; rw [h3]
  rw [lns_app h2, e]
theorem lns_last {l : List UInt8} (h : Lib.indexByte l 10 = -1) (h0 : l ≠ []) : lns l = [l] := lns_one (indexByte_neg h) h0
/-- A line read by the program. -/
def rdL (l : List UInt8) : List UInt8 := (Lib.cut (Lib.trimSuffix l [10]) [58]).1
def rdR (l : List UInt8) : List UInt8 := (Lib.cut (Lib.trimSuffix l [10]) [58]).2.1
def rdW (l : List UInt8) : List (List UInt8) := sp 32 (rdR l)
def rdOk (l : List UInt8) : Bool := pok 8 (rdL l) && (decide ((rdW l).length = 9) && (rdW l).tail.all (pok 32))
def rdV (l : List UInt8) : Int × List Int := (pv 8 (rdL l), (rdW l).tail.map (pv 32))
theorem pv_bd (B : Nat) (w : List UInt8) (hB : B = 8 ∨ B = 32) : -(2 ^ (B - 1) : Nat) ≤ pv B w ∧ pv B w ≤ (2 ^ (B - 1) : Nat) - 1 := by
  unfold pv
  cases h : Lib.parseIntB B w with
  | ok v =>
    have := Lib.parseIntB_bounds h
    rcases hB with rfl | rfl
    · simp only at this ⊢; omega
    · simp only at this ⊢; omega
  | «syntax» => rcases hB with rfl | rfl <;> simp
  | range => rcases hB with rfl | rfl <;> simp
theorem rdV_wf {l : List UInt8} (h : rdOk l = true) : (Lit.int .i8 (rdV l).1).wf = true ∧ (rdV l).2.length = 8 ∧ ∀ y ∈ (rdV l).2, (Lit.int .i32 y).wf = true := by
  unfold rdOk at h
  simp only [Bool.and_eq_true, decide_eq_true_eq] at h
  refine ⟨?_, by unfold rdV; simp [h.2.1], ?_⟩
  · have := pv_bd 8 (rdL l) (.inl rfl)
    unfold rdV
    simp [Lit.wf, IntKind.min, IntKind.max, IntKind.signed, IntKind.bits]
    simp at this
    omega
  · intro y hy
    unfold rdV at hy
    obtain ⟨w, hw, rfl⟩ := List.mem_map.1 hy
    have := pv_bd 32 w (.inr rfl)
    simp [Lit.wf, IntKind.min, IntKind.max, IntKind.signed, IntKind.bits]
    simp at this
    omega
theorem trim_flL (x : Int × List Int) : Lib.trimSuffix (flL x) [10] = flD x := by
  unfold Lib.trimSuffix
  rw [if_pos (by unfold Lib.hasSuffix; rw [flL_eq, List.isSuffixOf_iff_suffix]; exact List.suffix_append _ _), flL_eq]
  simp
theorem cut_flD {x : Int × List Int} (h : FlV x) : Lib.cut (flD x) [58] = (Lib.itoa x.1, gs x.2, true) := by
  obtain ⟨h1, h2⟩ := h.bd
  have hi : Lib.index (flD x) [58] = (Lib.itoa x.1).length := by
    rw [Lib.index_one]
    unfold flD
    exact indexByte_hit (itoa_no h1.1 (by decide))
  unfold Lib.cut
  rw [hi, if_pos (by omega)]
  have e1 : (((Lib.itoa x.1).length : Nat) : Int).toNat = (Lib.itoa x.1).length := by omega
  rw [e1]
  have e2 : (flD x).take (Lib.itoa x.1).length = Lib.itoa x.1 := by unfold flD; rw [List.take_left]
  have e3 : (flD x).drop ((Lib.itoa x.1).length + [(58 : UInt8)].length) = gs x.2 := by
    unfold flD
    rw [List.drop_append]
    simp
  rw [e2, e3]
theorem parse_itoa {B : Nat} {v : Int} (hB : B = 8 ∨ B = 32) (h0 : 0 ≤ v) (h1 : v < 2 ^ (B - 1)) : pok B (Lib.itoa v) = true ∧ pv B (Lib.itoa v) = v := by
  obtain ⟨n, rfl⟩ : ∃ n : Nat, v = (n : Int) := ⟨v.toNat, by omega⟩
  rw [Lib.itoa_nonneg]
  refine pok_ok (parse_dec (by rcases hB with rfl | rfl <;> omega) (by rcases hB with rfl | rfl <;> omega) ?_)
  rcases hB with rfl | rfl
  · simp at h1 ⊢; omega
  · simp at h1 ⊢; omega
/-- A line as the program writes it is read. -/
theorem rd_flL {x : Int × List Int} (h : FlV x) : rdOk (flL x) = true ∧ rdV (flL x) = x := by
  obtain ⟨h1, h2⟩ := h.bd
  have eL : rdL (flL x) = Lib.itoa x.1 := by unfold rdL; rw [trim_flL, cut_flD h]
  have eR : rdR (flL x) = gs x.2 := by unfold rdR; rw [trim_flL, cut_flD h]
  have eW : rdW (flL x) = [] :: x.2.map Lib.itoa := by unfold rdW; rw [eR, sp_gs (fun y hy => (h2 y hy).1)]
  obtain ⟨p1, p2⟩ := parse_itoa (B := 8) (.inl rfl) h1.1 (by have := h1.2; simp; omega)
  have p3 : ∀ y ∈ x.2, pok 32 (Lib.itoa y) = true ∧ pv 32 (Lib.itoa y) = y := fun y hy => parse_itoa (.inr rfl) (h2 y hy).1 (by have := (h2 y hy).2; simp; omega)
  constructor
  · unfold rdOk
    rw [eL, eW, p1]
    simp only [Bool.true_and, List.tail_cons, Bool.and_eq_true, decide_eq_true_eq, List.length_cons, List.length_map, List.all_eq_true]
    refine ⟨by rw [h.1], ?_⟩
    intro w hw
    obtain ⟨y, hy, rfl⟩ := List.mem_map.1 hw
    exact (p3 y hy).1
  · unfold rdV
    rw [eL, eW, p2, List.tail_cons, List.map_map, map_self2 (l := x.2) (f := pv 32 ∘ Lib.itoa) fun y hy => (p3 y hy).2]
/-- What the program has read so far, and its end. -/
theorem rf_line {l x : List UInt8} (h : rfK l = true) (hx : x ∈ lns l) : rdOk x = true := by
  rw [lns_rfK h] at hx
  obtain ⟨y, hy, rfl⟩ := List.mem_map.1 hx
  exact (rd_flL ((rfK_text h).1 y hy)).1
theorem rf_six {l : List UInt8} (h : rfK l = true) : (lns l).length ≤ 6 := by rw [lns_rfK h, List.length_map]; exact (rfK_text h).2.1
theorem rf_all {l : List UInt8} (h : rfK l = true) : (lns l).map rdV = flR l := by
  rw [lns_rfK h, List.map_map]
  exact map_self2 fun y hy => (rd_flL ((rfK_text h).1 y hy)).2
theorem rf_no {l : List UInt8} (h : rfK l = false) : rfR l = [] ∧ rfC l = 5 := by
  have h2 : ¬ rfK l = true := by rw [h]; simp
  exact ⟨by unfold rfR; rw [if_neg h2], by unfold rfC; rw [if_neg h2]⟩
/-- Fleeces that are valid, and not too many, and whose text is this one, are what the text spells. -/
theorem rf_end {l : List UInt8} {xs : List (Int × List Int)} (h8 : ∀ x ∈ xs, x.2.length = 8) (hc : flC xs true = 0) (ht : flT xs = l) : rfR l = xs ∧ rfC l = 0 := by
  obtain ⟨h1, h2⟩ := flC_zero.1 hc
  have hv : ∀ x ∈ xs, FlV x := fun x hx => ⟨h8 x hx, List.all_eq_true.1 h1 x hx⟩
  obtain ⟨h3, h4⟩ := rfK_of hv h2
  rw [ht] at h3 h4
  exact ⟨by unfold rfR; rw [if_pos h3, h4], by unfold rfC; rw [if_pos h3]⟩
theorem rf_back {l : List UInt8} (h : rfK l = true) : flC ((lns l).map rdV) true = 0 ∧ flT ((lns l).map rdV) = l := by
  obtain ⟨h1, h2, h3⟩ := rfK_text h
  rw [rf_all h]
  exact ⟨flC_zero.2 ⟨List.all_eq_true.2 fun x hx => (h1 x hx).2, h2⟩, h3⟩
end Go.Proofs.YtbkhlcbnnjgdpaaGreatDoor
