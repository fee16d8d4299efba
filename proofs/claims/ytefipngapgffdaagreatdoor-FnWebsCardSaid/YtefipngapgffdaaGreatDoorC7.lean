/- Contracts: slices.Clone, slices.Reverse over whole numbers; MirrorWeb. -/
import Derived.Test.YtefipngapgffdaaGreatDoorC6
import Derived.BigRegion
import Derived.RegionTactic
import Derived.ChangeAlike
import Derived.Lib.LazyBuf
namespace Go.Proofs.YtefipngapgffdaaGreatDoor
open Go.RowKit
set_option linter.unusedVariables false
set_option linter.unusedSimpArgs false
theorem clone_i64 (A : Option Addr) (n c : Nat) (xs : List Int) (w : World) (R : Rds w A n 1 (fun x : Int => [.int .i64 x]) xs) (h0 : 0 < n) (hn : n ≤ 1048576) :
    Calls Tryz.prog 46 #[.slice A n c] w (RetOwn 2 1 n (nums .i64 xs) w) := by
  have HXL := Lib.hid R.1
  obtain ⟨ad, rfl, hc⟩ := R.2.2 h0
  have hcells : ∀ (j : Nat) (u : Value), (nums .i64 xs)[j]? = some u → (w.alloc (.cells #[] 2)).cell? (ad.add j) = some u := by
    intro j u hu
    rw [nums_get] at hu
    obtain ⟨x, hx, rfl⟩ := Option.map_eq_some_iff.1 hu
    have := R.cellOf hx
    exact ((below_alloc1 w _).cell (World.block_lt_of_cell? w _ this)).trans this
  have HC := Lib.hid hcells; clear hcells hc
  obtain ⟨i0, hi, hz0, hz1, hz2⟩ := info_parts info_i64
  have hnil := fun w : World => run_eql_slice_nil (P := Tryz.prog) w 24 2 (some ad) n c Tryz.underlying24
  have O0 := own_empty w 2 1
  go_enter Tryz.func46, Tryz.ntmps46
  go_wp2_with ((at_builtin; refine wpList_append_own _ (by rfl) _ _ 24 (by rfl) w.heap.size 2 i0 (.int .i64 0) 1 8 Tryz.underlying24 hi hz0 hz1 hz2 rfl (by omega) _ 0 [] (by rfl) O0 ad n c (nums .i64 xs) (by rfl) (by rw [nums_length, HXL.out, Nat.mul_one]) HC.out (by intro u hu; obtain ⟨x, _, rfl⟩ := List.mem_map.1 hu; rfl) (by simp only [maxLen]; omega) (by omega) (by simp) ?_; intro v2 w2 O2 hg2 _))
  go_ret
  rw [Nat.zero_add, List.nil_append] at O2
  have hv : ∃ A' c', v2 = .slice A' n c' := by
    rcases O2.2 with ⟨rfl, h1⟩ | ⟨g, cap, cur, rfl, _⟩
    · omega
    · exact ⟨_, _, rfl⟩
  obtain ⟨A', c', rfl⟩ := hv
  exact ⟨A', c', rfl, O2, (below_alloc1 w _).grown hg2 (by simp) (fun k hk => by simp [Value.ownBlock] at hk; omega)⟩
theorem nums_set_app (L : List Int) (T : List Value) (i : Nat) (v : Int) (h : i < (nums .i64 L).length) : (nums .i64 L ++ T).set i (.int .i64 v) = nums .i64 (L.set i v) ++ T := by
  rw [List.set_append_left _ _ h]
  simp [nums, List.map_set]
theorem grown_set {w wr : World} {g : Nat} (h : w.grownBy wr (some g)) (i : Nat) (v : Value) : w.grownBy (wr.setCell ⟨g, i, none⟩ v) (some g) :=
  ⟨h.os, h.tape, h.output, by simpa [World.setCell] using h.size, fun k hk hne => by
    rw [heap_setCell_other _ _ _ _ (by intro e; exact hne (by rw [e]))]; exact h.block k hk hne⟩
def RevInv (xs : List Int) (k : Nat) (L : List Int) : Prop := L.length = xs.length ∧ ∀ i, i < xs.length → L[i]? = if i < k ∨ xs.length - k ≤ i then xs[xs.length - 1 - i]? else xs[i]?
theorem RevInv.zero (xs : List Int) : RevInv xs 0 xs := ⟨rfl, fun i hi => by rw [if_neg (by omega)]⟩
theorem RevInv.at1 {xs L : List Int} {k : Nat} (h : RevInv xs k L) (hk : k < xs.length - 1 - k) : L[k]? = xs[k]? := by rw [h.2 k (by omega), if_neg (by omega)]
theorem RevInv.at2 {xs L : List Int} {k : Nat} (h : RevInv xs k L) (hk : k < xs.length - 1 - k) : L[xs.length - 1 - k]? = xs[xs.length - 1 - k]? := by rw [h.2 _ (by omega), if_neg (by omega)]
theorem RevInv.step {xs L : List Int} {k : Nat} {x y : Int} (h : RevInv xs k L) (hk : k < xs.length - 1 - k) (hx : L[k]? = some x) (hy : L[xs.length - 1 - k]? = some y) : RevInv xs (k + 1) ((L.set k y).set (xs.length - 1 - k) x) := by
  have hx' := h.at1 hk
  have hy' := h.at2 hk
  have hl := h.1
  rw [hx] at hx'
  rw [hy] at hy'
  refine ⟨by simp [hl], fun i hi => ?_⟩
  rw [List.getElem?_set, List.getElem?_set]
  by_cases h1 : xs.length - 1 - k = i
  · rw [if_pos h1, if_pos (by simp [hl]; omega), if_pos (by omega), ← h1, show xs.length - 1 - (xs.length - 1 - k) = k by omega, ← hx']
  · rw [if_neg h1]
    by_cases h2 : k = i
    · rw [if_pos h2, if_pos (by omega), if_pos (by omega), ← h2, ← hy']
    · rw [if_neg h2, h.2 i hi]
      by_cases h3 : i < k ∨ xs.length - k ≤ i
      · rw [if_pos h3, if_pos (by omega)]
      · rw [if_neg h3, if_neg (by omega)]
theorem RevInv.done {xs L : List Int} {k : Nat} (h : RevInv xs k L) (hk : ¬ (k : Int) < (xs.length : Int) - 1 - k) : L = xs.reverse := by
  apply List.ext_getElem?
  intro i
  by_cases hi : i < xs.length
  · rw [h.2 i hi, List.getElem?_reverse hi]
    split
    · rfl
    · rw [show xs.length - 1 - i = i by omega]
  · rw [List.getElem?_eq_none (by rw [h.1]; omega), List.getElem?_eq_none (by simp; omega)]
theorem reverse_i64 (b E : Nat) (A : Option Addr) (n c : Nat) (xs : List Int) (w : World) (O : w.ownsRow b E 1 (.slice A n c) n (nums .i64 xs)) (h0 : 0 < n) (hn : n ≤ 1048576) :
    Calls Tryz.prog 47 #[.slice A n c] w fun e w' => e = .returned (.tuple #[]) ∧ w'.ownsRow b E 1 (.slice A n c) n (nums .i64 xs.reverse) ∧ w.grownBy w' (Value.ownBlock (.slice A n c)) := by
  have hxl : xs.length = n := by have := O.1; simpa [nums] using this
  obtain ⟨g, T, rfl, hbg, hrow, hnc, hcm, hlen⟩ := own_row O h0 (by omega)
  have HXL := Lib.hid hxl; clear hxl
  have HL := Lib.hid hlen; clear hlen O
  go_enter Tryz.func47, Tryz.ntmps47
  go_wp2_with fail
  go_loopw [2, 3] (fun a z wr => ∃ (k : Nat) (L : List Int), k ≤ n ∧ (k : Int) ≤ (n : Int) - k ∧ a = .int .i64 k ∧ z = .int .i64 ((n : Int) - 1 - k) ∧ RevInv xs k L ∧ Row wr g E (nums .i64 L ++ T) ∧ w.grownBy wr (some g)) (fun a _ _ => n - (intOf a).toNat)
  case atStart => exact ⟨0, xs, by omega, by omega, rfl, by go_num, RevInv.zero _, hrow, ⟨rfl, rfl, rfl, Nat.le_refl _, fun _ _ _ => rfl⟩⟩
  case round =>
    obtain ⟨k, L, hk, hk2, rfl, rfl, hI, hr, hg⟩ := hrel
    by_cases hlt : (k : Int) < (n : Int) - 1 - k
    · have hk1 : k < xs.length - 1 - k := by rw [HXL.out]; omega
      obtain ⟨x, hx⟩ : ∃ x, L[k]? = some x := ⟨_, List.getElem?_eq_getElem (by rw [hI.1]; omega)⟩
      obtain ⟨y, hy⟩ : ∃ y, L[xs.length - 1 - k]? = some y := ⟨_, List.getElem?_eq_getElem (by rw [hI.1]; omega)⟩
      have hst := hI.step hk1 hx hy
      rw [HXL.out] at hy hst
      have HST := Lib.hid hst
      have c1 : wr.cell? ⟨g, k, none⟩ = some (.int .i64 x) := by rw [hr.cell, List.getElem?_append_left (by rw [nums_length, hI.1, HXL.out]; omega), nums_get, hx]; rfl
      have c2 : wr.cell? ⟨g, n - 1 - k, none⟩ = some (.int .i64 y) := by rw [hr.cell, List.getElem?_append_left (by rw [nums_length, hI.1, HXL.out]; omega), nums_get, hy]; rfl
      have f1 := hr.frozen k
      have f2 := hr.frozen (n - 1 - k)
      have hr1 := (hr.set k (.int .i64 y)).set (n - 1 - k) (.int .i64 x)
      have hr2 := (hr.set (n - 1 - k) (.int .i64 x)).set k (.int .i64 y)
      have hkl : k < (nums .i64 L).length := by rw [nums_length, hI.1, HXL.out]; omega
      have hkl2 : n - 1 - k < (nums .i64 L).length := by rw [nums_length, hI.1, HXL.out]; omega
      rw [nums_set_app _ _ _ _ hkl, nums_set_app _ _ _ _ (by rw [nums_length, List.length_set, ← nums_length .i64]; exact hkl2)] at hr1
      rw [nums_set_app _ _ _ _ hkl2, nums_set_app _ _ _ _ (by rw [nums_length, List.length_set, ← nums_length .i64]; exact hkl), List.set_comm _ _ (by omega)] at hr2
      obtain ⟨u1, s1⟩ : ∃ u, (wr.setCell ⟨g, k, none⟩ (.int .i64 y)).cell? ⟨g, n - 1 - k, none⟩ = some u := by
        rw [(hr.set k _).cell]
        exact ⟨_, List.getElem?_eq_getElem (by rw [List.length_set, List.length_append]; omega)⟩
      obtain ⟨u2, s2⟩ : ∃ u, (wr.setCell ⟨g, n - 1 - k, none⟩ (.int .i64 x)).cell? ⟨g, k, none⟩ = some u := by
        rw [(hr.set (n - 1 - k) _).cell]
        exact ⟨_, List.getElem?_eq_getElem (by rw [List.length_set, List.length_append]; omega)⟩
      have hg1 : w.grownBy ((wr.setCell ⟨g, k, none⟩ (.int .i64 y)).setCell ⟨g, n - 1 - k, none⟩ (.int .i64 x)) (some g) := grown_set (grown_set hg _ _) _ _
      have hg2 : w.grownBy ((wr.setCell ⟨g, n - 1 - k, none⟩ (.int .i64 x)).setCell ⟨g, k, none⟩ (.int .i64 y)) (some g) := grown_set (grown_set hg _ _) _ _
      have q1 : k < n := by omega
      have q2 : (k : Int) ≤ (n : Int) - 1 := by omega
      have q3 : (n : Int) - 1 - k < n := by omega
      have q4 : n - 1 - k < n := by omega
      clear hx hy hst hI hkl hkl2 hr
      have HR1 := Lib.hid hr1; clear hr1
      have HR2 := Lib.hid hr2; clear hr2
      have HG1 := Lib.hid hg1; clear hg1
      have HG2 := Lib.hid hg2; clear hg2
      go_wp2_with fail
      go_region
      all_goals go_wp2_with fail
      all_goals go_roundw
      case rel => first
        | exact ⟨k + 1, _, by omega, by omega, by go_num, by go_num, HST.out, HR1.out, ⟨HG1.out.os, HG1.out.tape, HG1.out.output, HG1.out.size, HG1.out.block⟩⟩
        | exact ⟨k + 1, _, by omega, by omega, by go_num, by go_num, HST.out, HR2.out, ⟨HG2.out.os, HG2.out.tape, HG2.out.output, HG2.out.size, HG2.out.block⟩⟩
      case measure => simp [intOf]; omega
    · have q1 : ¬ (k : Int) < (n : Int) - 1 - k := hlt
      go_wp2_with fail
      go_returns
      have he := hI.done (by rw [HXL.out]; omega)
      subst he
      exact ⟨rfl, own_of_row hr hbg hnc hcm (by simp [nums, HXL.out]) (by have := HL.out; rw [nums_length] at this ⊢; simpa using this), by simpa [Value.ownBlock] using hg⟩
theorem iMirrorWeb (A : Option Addr) (n c : Nat) (xs : List Int) (w : World) (R : Rds w A n 1 (fun x : Int => [.int .i64 x]) xs) :
    Calls Tryz.prog 15 #[.slice A n c] w (RetOwnT 2 1 (mirrorR xs).length (nums .i64 (mirrorR xs)) [.int .i64 (okC xs)] w) := by
  have HXL := Lib.hid R.1
  cases h : webOk xs
  · have e1 : mirrorR xs = [] := by simp [mirrorR, h]
    rw [e1]
    go_enter Tryz.func15, Tryz.ntmps15
    go_wp2_with (go_at_call 19; (refine (validWeb_any A n c xs _ R).mono ?_); rintro e w1 ⟨rfl, hb⟩)
    go_ret2
    exact ⟨none, 0, by simp [okC, h], own_nil _ _ _ _, by assumption⟩
  · have e1 : mirrorR xs = xs.reverse := by simp [mirrorR, h]
    have e2 : xs.reverse.length = n := by simp [HXL.out]
    have hbd := webOk_bd h
    rw [HXL.out] at hbd
    obtain ⟨hb1, hb2, _, _⟩ := hbd
    rw [e1, e2]
    clear e1 e2
    go_enter Tryz.func15, Tryz.ntmps15
    go_wp2_with fail
    refine (validWeb_any A n c xs _ R).mono ?_
    rintro e w1 ⟨rfl, hb⟩
    go_wp2_with fail
    refine (clone_i64 A n c xs _ (R.below hb) (by omega) (by omega)).mono ?_
    rintro e w2 ⟨A2, c2, rfl, O2, hb2⟩
    go_wp2_with fail
    refine (reverse_i64 _ _ A2 n c2 xs _ O2 (by omega) (by omega)).mono ?_
    rintro e w3 ⟨rfl, O3, hg⟩
    go_wp2_with fail
    go_ret2
    have hbb := below_then hb hb.size hb2
    exact ⟨A2, c2, by simp [okC, h], own_lower O3 hb.size, hbb.grown hg hbb.size (fun k hk => by have := own_base O2 k hk; have := hb.size; omega)⟩
end Go.Proofs.YtefipngapgffdaaGreatDoor
