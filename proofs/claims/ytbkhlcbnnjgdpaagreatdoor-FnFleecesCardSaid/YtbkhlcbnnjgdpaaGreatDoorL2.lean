/- Contracts: the text of fleeces: spec.l01Text; impl.FleecesText and spec.FleecesText. -/
import Derived.Test.YtbkhlcbnnjgdpaaGreatDoorL1
namespace Go.Proofs.YtbkhlcbnnjgdpaaGreatDoor
open Go.RowKit
set_option linter.unusedVariables false
set_option linter.unusedSimpArgs false
theorem inB_bd {x a b : Int} (h : inB x a b = true) : a ≤ x ∧ x ≤ b := by simpa [inB] using h
theorem fl_bdt {f : Int} {L : List Int} (h : fleeceOk f L = true) : (0 ≤ f ∧ f ≤ 9) ∧ ∀ y ∈ L, 0 ≤ y ∧ y ≤ 1000 := by
  simp only [fleeceOk, heapOk, Bool.and_eq_true, List.all_eq_true] at h
  exact ⟨inB_bd h.1, fun y hy => inB_bd (h.2 y hy)⟩
def flTxt (xs : List (Int × List Int)) : ByteArray := if flC xs true = 0 then bt (flT xs) else ByteArray.empty
theorem flC_zero {xs : List (Int × List Int)} : flC xs true = 0 ↔ flB xs = true ∧ xs.length ≤ 6 := by
  unfold flC
  cases flB xs
  · simp
  · by_cases h : xs.length ≤ 6 <;> simp [h]
theorem iareFleeces (A : Option Addr) (n c : Nat) (xs : List (Int × List Int)) (w : World) (R : Rds w A n 9 FlC xs) (hF : Hid (FlOk xs)) :
    Calls Tryz.prog 47 #[.slice A n c] w fun e w' => e = .returned (.bool (decide (flC xs true = 0))) ∧ Below w.heap.size w w' := by
  have hl := R.1
  have hall := areAll_F (p := fun x => fleeceOk x.1 x.2) (xs := xs) (k := 71) (enters_of Tryz.func71 rfl (by decide)) (Lib.hid fun f a0 a1 a2 a3 a4 a5 a6 a7 w' hm => iValidFleece f a0 a1 a2 a3 a4 a5 a6 a7 w' (i8_rng (hF.out _ hm).1) (Lib.hid (hF.out _ hm).2.2)) (Lib.hid hF.out.len) A n c w R
  have HALL := Lib.hid hall; clear hall
  by_cases h6 : n ≤ 6
  · have h6i : (n : Int) ≤ 6 := by omega
    have E : Hid (decide (flC xs true = 0) = flB xs) := Lib.hid (by
      cases h : flB xs
      · exact decide_eq_false (fun e => by rw [flC_zero, h] at e; exact Bool.noConfusion e.1)
      · exact decide_eq_true (flC_zero.2 ⟨h, by omega⟩))
    clear hl
    go_enter Tryz.func47, Tryz.ntmps47
    go_wp2_with fail
    refine HALL.out.mono ?_
    rintro e w1 ⟨rfl, hb⟩
    go_wp2_with fail
    go_ret
    exact ⟨by rw [E.out]; rfl, hb⟩
  · have h6i : ¬ (n : Int) ≤ 6 := by omega
    have E : Hid (decide (flC xs true = 0) = false) := Lib.hid (decide_eq_false (fun e => by rw [flC_zero] at e; omega))
    clear hl
    go_enter Tryz.func47, Tryz.ntmps47
    go_wp2_with fail
    go_ret
    exact ⟨by rw [E.out]; rfl, Below.refl _ _⟩
theorem iFleecesText (B0 : Nat) (A : Option Addr) (n c : Nat) (xs : List (Int × List Int)) (w : World) (R : Rds w A n 9 FlC xs) (hF : Hid (FlOk xs)) (hT : Tb B0 w) (hB0 : B0 ≤ w.heap.size) :
    Calls Tryz.prog 16 #[.slice A n c] w fun e w' => e = .returned (.string (flTxt xs)) ∧ Below w.heap.size w w' := by
  have hl := R.1
  by_cases h : flC xs true = 0
  · have E : Hid (flTxt xs = bt (flT xs)) := Lib.hid (by unfold flTxt; rw [if_pos h])
    have h6 : n ≤ 6 := by have := (flC_zero.1 h).2; omega
    have H : Hid (decide (flC xs true = 0) = true) := Lib.hid (decide_eq_true h)
    clear hl h
    go_enter Tryz.func16, Tryz.ntmps16
    go_wp2_with fail
    refine (iareFleeces A n c xs _ R hF).mono ?_
    rintro e w1 ⟨rfl, hb⟩
    rw [H.out]
    go_wp2_with fail
    refine (ifleecesText B0 A n c xs _ (R.below hb) hF h6 (hT.on (hb.mono hB0)) (Nat.le_trans hB0 hb.size)).mono ?_
    rintro e w2 ⟨rfl, hb2⟩
    go_wp2_with fail
    go_ret
    exact ⟨by rw [E.out]; rfl, below_then hb hb.size hb2⟩
  · have E : Hid (flTxt xs = ByteArray.empty) := Lib.hid (by unfold flTxt; rw [if_neg h])
    have H : Hid (decide (flC xs true = 0) = false) := Lib.hid (decide_eq_false h)
    clear hl h
    go_enter Tryz.func16, Tryz.ntmps16
    go_wp2_with fail
    refine (iareFleeces A n c xs _ R hF).mono ?_
    rintro e w1 ⟨rfl, hb⟩
    rw [H.out]
    go_wp2_with fail
    go_ret
    exact ⟨by rw [E.out]; rfl, hb⟩
end Go.Proofs.YtbkhlcbnnjgdpaaGreatDoor
