/- Contracts over webs: validity and total. -/
import Derived.Test.YtefipngapgffdaaGreatDoorProg
import Derived.Test.YtefipngapgffdaaGreatDoorK
import Derived.Test.YtefipngapgffdaaGreatDoorA0
import Derived.Test.YtefipngapgffdaaGreatDoorB1
import Derived.Test.YtefipngapgffdaaGreatDoorC1
namespace Go.Proofs.YtefipngapgffdaaGreatDoor
open Go.RowKit
set_option linter.unusedVariables false
set_option linter.unusedSimpArgs false

def webOk (xs : List Int) : Bool := inB (xs.length : Int) 2 12 && (((xs.length : Int) % 2 == 0) && xs.all fun x => inB x 0 10000)
theorem inB_iff {n lo hi : Int} : inB n lo hi = true ↔ lo ≤ n ∧ n ≤ hi := by simp [inB]
theorem webOk_bd {xs : List Int} (h : webOk xs = true) : 2 ≤ xs.length ∧ xs.length ≤ 12 ∧ xs.length % 2 = 0 ∧ ∀ x ∈ xs, 0 ≤ x ∧ x ≤ 10000 := by
  simp only [webOk, Bool.and_eq_true, inB_iff, beq_iff_eq, List.all_eq_true] at h
  obtain ⟨h1, h2, h3⟩ := h
  exact ⟨by omega, by omega, by omega, h3⟩
theorem SumB.of {xs : List Int} {n : Nat} {M : Int} (hl : xs.length = n) (hM : 0 ≤ M) (hM2 : M ≤ 1000000000) (hn : n ≤ 1000000) (h : ∀ x ∈ xs, 0 ≤ x ∧ x ≤ M) : SumB xs n := by
  refine ⟨hl, fun k hk => ?_⟩
  obtain ⟨h1, h2⟩ := sumTo_bound hM h k
  have : (k : Int) * M ≤ 1000000 * 1000000000 := Int.mul_le_mul (by omega) hM2 hM (by omega)
  omega
theorem webOk_sum {xs : List Int} {n : Nat} (hl : xs.length = n) (h : webOk xs = true) : SumB xs n := by
  obtain ⟨h1, h2, h3, h4⟩ := webOk_bd h
  exact SumB.of hl (by omega) (by omega) (by omega) h4
def totV (xs : List Int) : Int := if webOk xs then xs.sum else 0
/-- The code of a web: 0, or 1 if it is not valid. -/
def okC (xs : List Int) : Int := if webOk xs then 0 else 1
theorem length_any (A : Option Addr) (n c : Nat) (w : World) (hn : n ≤ 140737488351232) : Calls Tryz.prog 51 #[.slice A n c] w fun e w' => e = .returned (.int .i64 n) ∧ w = w' := by
  go_enter Tryz.func51, Tryz.ntmps51
  go_wp2
  go_ret
  exact ⟨rfl, rfl⟩
theorem validWeb1 (x : Int) (w : World) : Calls Tryz.prog 53 #[.int .i64 x] w fun e w' => e = .returned (.bool (inB x 0 10000)) ∧ Below w.heap.size w w' := by
  go_enter Tryz.func53, Tryz.ntmps53
  go_wp2_with (go_at_call 50; go_call within_any as e w' ⟨rfl, rfl⟩)
  go_ret
  exact ⟨rfl, Below.refl _ _⟩
theorem validWeb_any (A : Option Addr) (n c : Nat) (xs : List Int) (w : World) (R : Rds w A n 1 (fun x : Int => [.int .i64 x]) xs) :
    Calls Tryz.prog 19 #[.slice A n c] w fun e w' => e = .returned (.bool (webOk xs)) ∧ Below w.heap.size w w' := by
  have hn := R.2.1
  have HXL := Lib.hid R.1
  have he : webOk xs = (inB (n : Int) 2 12 && (((n : Int) % 2 == 0) && xs.all fun x => inB x 0 10000)) := by rw [webOk, HXL.out]
  have HE := Lib.hid he; clear he
  cases h1 : inB (n : Int) 2 12 <;> cases h2 : ((n : Int) % 2 == 0)
  all_goals
    go_enter Tryz.func19, Tryz.ntmps19
    go_wp2_with (first
      | (go_at_call 51; (refine (length_any _ _ _ _ hn).mono ?_); rintro e w' ⟨rfl, rfl⟩)
      | (go_at_call 50; (refine (within_any _ _ _ _).mono ?_); rintro e w' ⟨rfl, rfl⟩)
      | (go_at_call 52; (refine (areAll_i64 (p := fun x => inB x 0 10000) (enters_of Tryz.func53 rfl (by decide)) (fun x w _ => validWeb1 x w) A n c _ R).mono ?_); rintro e w' ⟨rfl, hb⟩))
    go_ret
    refine ⟨?_, by first | exact Below.refl _ _ | assumption⟩
    rw [HE.out]
    simp [*]
theorem all_of_notYet {xs : List Int} (h : NotYet (fun x => !inB x 0 10000) xs xs.length) : (xs.all fun x => inB x 0 10000) = true := by
  rw [List.all_eq_true]
  intro x hx
  obtain ⟨i, hi, rfl⟩ := List.mem_iff_getElem.1 hx
  simpa using h i _ hi (List.getElem?_eq_getElem hi)
theorem webOk_no {xs : List Int} {j : Nat} {x : Int} (hx : xs[j]? = some x) (h : ¬ inB x 0 10000 = true) : webOk xs = false := by
  have : (xs.all fun x => inB x 0 10000) = false := by
    cases hq : (xs.all fun x => inB x 0 10000)
    · rfl
    · exact absurd (List.all_eq_true.1 hq x (List.mem_of_getElem? hx)) h
  simp [webOk, this]
theorem l02Ok_any (A : Option Addr) (n c : Nat) (xs : List Int) (w : World) (R : Rds w A n 1 (fun x : Int => [.int .i64 x]) xs) :
    Calls Tryz.prog 44 #[.slice A n c] w fun e w' => e = .returned (.bool (webOk xs)) ∧ w = w' := by
  have hn := R.2.1
  have HXL := Lib.hid R.1
  have he : webOk xs = (inB (n : Int) 2 12 && (((n : Int) % 2 == 0) && xs.all fun x => inB x 0 10000)) := by rw [webOk, HXL.out]
  have HE := Lib.hid he; clear he
  go_enter Tryz.func44, Tryz.ntmps44
  go_wp2_with fail
  go_loop [3] (fun v => ∃ k : Nat, k ≤ n ∧ v = .int .i64 k ∧ NotYet (fun x => !inB x 0 10000) xs k) (fun v => n - (intOf v).toNat)
  case atStart => exact ⟨0, by omega, rfl, NotYet.zero _ _⟩
  case round =>
    obtain ⟨j, hj, rfl, hny⟩ := hrel
    have HNY := Lib.hid hny; clear hny
    by_cases hlt : j < n
    · obtain ⟨ad, x, rfl, hx, hc⟩ := R.at1 hlt
      have HX := Lib.hid hx; clear hx
      cases h : inB x 0 10000
      all_goals
        go_wp2_with (go_at_call 74; (refine (l00In_any _ _ _ _).mono ?_); rintro e w' ⟨rfl, rfl⟩)
      · go_ret
        exact ⟨by rw [webOk_no HX.out (by simp [h])]; rfl, rfl⟩
      · go_round
        case rel => exact ⟨j + 1, by omega, by go_num, HNY.out.step HX.out (by simp [h])⟩
        case measure => simp [intOf]; omega
    · obtain rfl : j = n := by omega
      have hall : (xs.all fun x => inB x 0 10000) = true := all_of_notYet (by rw [HXL.out]; exact HNY.out)
      have HA := Lib.hid hall; clear hall
      cases h1 : inB (j : Int) 2 12 <;> cases h2 : ((j : Int) % 2 == 0)
      all_goals
        go_wp2_with (go_at_call 74; (refine (l00In_any _ _ _ _).mono ?_); rintro e w' ⟨rfl, rfl⟩)
        go_ret
        refine ⟨?_, rfl⟩
        rw [HE.out, HA.out]
        simp [*]
theorem iTotalOf (A : Option Addr) (n c : Nat) (xs : List Int) (w : World) (R : Rds w A n 1 (fun x : Int => [.int .i64 x]) xs) :
    Calls Tryz.prog 10 #[.slice A n c] w fun e w' => e = .returned (.tuple #[.int .i64 (totV xs), .int .i64 (okC xs)]) ∧ Below w.heap.size w w' := by
  have HXL := Lib.hid R.1
  cases h : webOk xs
  all_goals
    go_enter Tryz.func10, Tryz.ntmps10
    go_wp2_with (first
      | (go_at_call 19; (refine (validWeb_any A n c xs _ R).mono ?_); rintro e w1 ⟨rfl, hb⟩)
      | (go_at_call 35; (refine (sumAll_any A n c xs _ (R.below (by assumption)) (webOk_sum HXL.out h)).mono ?_); rintro e w1 ⟨rfl, rfl⟩))
    go_ret2
    exact ⟨by simp [totV, okC, h], by assumption⟩
end Go.Proofs.YtefipngapgffdaaGreatDoor
