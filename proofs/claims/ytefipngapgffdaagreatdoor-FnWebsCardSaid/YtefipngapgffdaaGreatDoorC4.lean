/- Contracts of FoldWeb and CrossWeb, on both sides. -/
import Derived.Test.YtefipngapgffdaaGreatDoorC3
namespace Go.Proofs.YtefipngapgffdaaGreatDoor
open Go.RowKit
set_option linter.unusedVariables false
set_option linter.unusedSimpArgs false

def foldR (xs : List Int) : List Int := if webOk xs then foldL xs else []
theorem foldR_len (xs : List Int) : (foldR xs).length ≤ 1048576 := by
  unfold foldR
  split
  · have := (webOk_bd ‹_›).2.1
    simp [foldL, foldTo]; omega
  · simp
theorem iFoldWeb (A : Option Addr) (n c : Nat) (xs : List Int) (w : World) (R : Rds w A n 1 (fun x : Int => [.int .i64 x]) xs) :
    Calls Tryz.prog 20 #[.slice A n c] w (RetOwnT 2 1 (foldR xs).length (nums .i64 (foldR xs)) [.int .i64 (okC xs)] w) := by
  have HXL := Lib.hid R.1
  cases h : webOk xs
  · have e1 : foldR xs = [] := by simp [foldR, h]
    rw [e1]
    go_enter Tryz.func20, Tryz.ntmps20
    go_wp2_with (go_at_call 19; (refine (validWeb_any A n c xs _ R).mono ?_); rintro e w1 ⟨rfl, hb⟩)
    go_ret2
    exact ⟨none, 0, by simp [okC, h], own_nil _ _ _ _, by assumption⟩
  · have e1 : foldR xs = foldL xs := by simp [foldR, h]
    have e2 : (foldL xs).length = n / 2 := by simp [foldL, foldTo, HXL.out]
    have hbd := webOk_bd h
    rw [HXL.out] at hbd
    rw [e1, e2]
    have E2 := Lib.hid e2; clear e1 e2
    go_enter Tryz.func20, Tryz.ntmps20
    go_wp2_with (first
      | (go_at_call 19; (refine (validWeb_any A n c xs _ R).mono ?_); rintro e w1 ⟨rfl, hb⟩)
      | (go_at_call 54; (refine (folded_any A n c xs _ (R.below (by assumption)) (webOk_small h) (by omega)).mono ?_); rintro e w2 ⟨A2, c2, rfl, O2, hb2⟩))
    go_ret2
    exact ⟨A2, c2, by simp [okC, h], own_lower O2 hb.size, below_then hb hb.size hb2⟩
theorem sFoldWeb (A : Option Addr) (n c : Nat) (xs : List Int) (w : World) (R : Rds w A n 1 (fun x : Int => [.int .i64 x]) xs) :
    Calls Tryz.prog 21 #[.slice A n c] w (RetOwnT 2 1 (foldR xs).length (nums .i64 (foldR xs)) [.int .i64 (okC xs)] w) := by
  have HXL := Lib.hid R.1
  cases h : webOk xs
  · have e1 : foldR xs = [] := by simp [foldR, h]
    rw [e1]
    go_enter Tryz.func21, Tryz.ntmps21
    go_wp2_with (go_at_call 44; (refine (l02Ok_any A n c xs _ R).mono ?_); rintro e w1 ⟨rfl, rfl⟩)
    go_ret2
    exact ⟨some ⟨w.heap.size, 0, none⟩, 0, by simp [okC, h], own_empty _ _ _, by go_grown⟩
  · have e1 : foldR xs = foldL xs := by simp [foldR, h]
    have e2 : (foldL xs).length = n / 2 := by simp [foldL, foldTo, HXL.out]
    have hbd := webOk_bd h
    rw [HXL.out] at hbd
    rw [e1, e2]
    have E2 := Lib.hid e2; clear e1 e2
    go_enter Tryz.func21, Tryz.ntmps21
    go_wp2_with (first
      | (go_at_call 44; (refine (l02Ok_any A n c xs _ R).mono ?_); rintro e w1 ⟨rfl, rfl⟩)
      | (go_at_call 55; (refine (l02Double_fold A n c xs _ R (webOk_small h) (by omega)).mono ?_); rintro e w2 ⟨A2, c2, rfl, O2, hb2⟩))
    go_ret2
    exact ⟨A2, c2, by simp [okC, h], O2, hb2⟩

def crossR (xs : List Int) : List Int := if webOk xs then crossL xs else []
theorem crossR_len (xs : List Int) : (crossR xs).length ≤ 1048576 := by
  unfold crossR
  split
  · have := (webOk_bd ‹_›).2.1
    simp [crossL, crossTo]; omega
  · simp
theorem iCrossWeb (A : Option Addr) (n c : Nat) (xs : List Int) (w : World) (R : Rds w A n 1 (fun x : Int => [.int .i64 x]) xs) :
    Calls Tryz.prog 22 #[.slice A n c] w (RetOwnT 2 1 (crossR xs).length (nums .i64 (crossR xs)) [.int .i64 (okC xs)] w) := by
  have HXL := Lib.hid R.1
  cases h : webOk xs
  · have e1 : crossR xs = [] := by simp [crossR, h]
    rw [e1]
    go_enter Tryz.func22, Tryz.ntmps22
    go_wp2_with (go_at_call 19; (refine (validWeb_any A n c xs _ R).mono ?_); rintro e w1 ⟨rfl, hb⟩)
    go_ret2
    exact ⟨none, 0, by simp [okC, h], own_nil _ _ _ _, by assumption⟩
  · have e1 : crossR xs = crossL xs := by simp [crossR, h]
    have e2 : (crossL xs).length = n / 2 := by simp [crossL, crossTo, HXL.out]
    have hbd := webOk_bd h
    rw [HXL.out] at hbd
    rw [e1, e2]
    have E2 := Lib.hid e2; clear e1 e2
    go_enter Tryz.func22, Tryz.ntmps22
    go_wp2_with (first
      | (go_at_call 19; (refine (validWeb_any A n c xs _ R).mono ?_); rintro e w1 ⟨rfl, hb⟩)
      | (go_at_call 56; (refine (crossed_any A n c xs _ (R.below (by assumption)) (webOk_small h) (by omega)).mono ?_); rintro e w2 ⟨A2, c2, rfl, O2, hb2⟩))
    go_ret2
    exact ⟨A2, c2, by simp [okC, h], own_lower O2 hb.size, below_then hb hb.size hb2⟩
theorem sCrossWeb (A : Option Addr) (n c : Nat) (xs : List Int) (w : World) (R : Rds w A n 1 (fun x : Int => [.int .i64 x]) xs) :
    Calls Tryz.prog 23 #[.slice A n c] w (RetOwnT 2 1 (crossR xs).length (nums .i64 (crossR xs)) [.int .i64 (okC xs)] w) := by
  have HXL := Lib.hid R.1
  cases h : webOk xs
  · have e1 : crossR xs = [] := by simp [crossR, h]
    rw [e1]
    go_enter Tryz.func23, Tryz.ntmps23
    go_wp2_with (go_at_call 44; (refine (l02Ok_any A n c xs _ R).mono ?_); rintro e w1 ⟨rfl, rfl⟩)
    go_ret2
    exact ⟨some ⟨w.heap.size, 0, none⟩, 0, by simp [okC, h], own_empty _ _ _, by go_grown⟩
  · have e1 : crossR xs = crossL xs := by simp [crossR, h]
    have e2 : (crossL xs).length = n / 2 := by simp [crossL, crossTo, HXL.out]
    have hbd := webOk_bd h
    rw [HXL.out] at hbd
    rw [e1, e2]
    have E2 := Lib.hid e2; clear e1 e2
    go_enter Tryz.func23, Tryz.ntmps23
    go_wp2_with (first
      | (go_at_call 44; (refine (l02Ok_any A n c xs _ R).mono ?_); rintro e w1 ⟨rfl, rfl⟩)
      | (go_at_call 55; (refine (l02Double_cross A n c xs _ R (webOk_small h) (by omega)).mono ?_); rintro e w2 ⟨A2, c2, rfl, O2, hb2⟩))
    go_ret2
    exact ⟨A2, c2, by simp [okC, h], O2, hb2⟩
end Go.Proofs.YtefipngapgffdaaGreatDoor
