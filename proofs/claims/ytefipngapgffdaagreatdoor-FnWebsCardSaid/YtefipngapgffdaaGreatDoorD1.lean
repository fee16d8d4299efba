/- Contracts: DrawOut on both sides. -/
import Derived.Test.YtefipngapgffdaaGreatDoorC5
namespace Go.Proofs.YtefipngapgffdaaGreatDoor
open Go.RowKit
set_option linter.unusedVariables false
set_option linter.unusedSimpArgs false
def allIn (xs : List Int) : Bool := xs.all fun x => inB x 0 20000
def drawOk (xs : List Int) (s : Int) : Bool := inB (xs.length : Int) 1 6 && (allIn xs && decide (s = 2 * (xs.length : Int)))
def drawR (xs : List Int) (s : Int) : List Int := if drawOk xs s then outL xs else []
def drawC (xs : List Int) (s : Int) : Int := if drawOk xs s then 0 else 2
theorem drawR_len (xs : List Int) (s : Int) : (drawR xs s).length ≤ 1048576 := by
  unfold drawR
  split
  · rename_i h
    simp only [drawOk, Bool.and_eq_true, inB_iff] at h
    rw [outL_length]; omega
  · simp
theorem allIn_small {xs : List Int} (h : allIn xs = true) : Small xs := fun x hx => inB_iff.1 (List.all_eq_true.1 h x hx)
def fineTo (f : Bool) (xs : List Int) (k : Nat) : Bool := f && (xs.take k).all fun x => inB x 0 20000
theorem fineTo_succ {f : Bool} {xs : List Int} {k : Nat} {x : Int} (h : xs[k]? = some x) : fineTo f xs (k + 1) = (fineTo f xs k && inB x 0 20000) := by
  unfold fineTo
  rw [List.take_add_one, h, List.all_append]
  cases f <;> simp
theorem fineTo_all (f : Bool) (xs : List Int) : fineTo f xs xs.length = (f && allIn xs) := by simp [fineTo, allIn]
theorem drawOk_eq (xs : List Int) (s : Int) : drawOk xs s = ((inB (xs.length : Int) 1 6 && decide (s = 2 * (xs.length : Int))) && allIn xs) := by
  unfold drawOk
  cases inB (xs.length : Int) 1 6 <;> cases allIn xs <;> cases decide (s = 2 * (xs.length : Int)) <;> rfl
theorem drawOut1 (x : Int) (w : World) : Calls Tryz.prog 57 #[.int .i64 x] w fun e w' => e = .returned (.bool (inB x 0 20000)) ∧ Below w.heap.size w w' := by
  go_enter Tryz.func57, Tryz.ntmps57
  go_wp2_with (go_at_call 50; go_call within_any as e w' ⟨rfl, rfl⟩)
  go_ret
  exact ⟨rfl, Below.refl _ _⟩
theorem iDrawOut (A : Option Addr) (n c : Nat) (xs : List Int) (s : Int) (w : World) (R : Rds w A n 1 (fun x : Int => [.int .i64 x]) xs) :
    Calls Tryz.prog 24 #[.slice A n c, .int .i64 s] w (RetOwnT 2 1 (drawR xs s).length (nums .i64 (drawR xs s)) [.int .i64 (drawC xs s)] w) := by
  have HXL := Lib.hid R.1
  have hn := R.2.1
  have he : drawOk xs s = (inB (n : Int) 1 6 && (allIn xs && decide (s = 2 * (n : Int)))) := by rw [drawOk, HXL.out]
  have HE := Lib.hid he; clear he
  by_cases hok : drawOk xs s = true
  · have e1 : drawR xs s = outL xs := by simp [drawR, hok]
    have e3 : drawC xs s = 0 := by simp [drawC, hok]
    have e2 : (outL xs).length = 2 * n := by rw [outL_length, HXL.out]
    rw [e1, e2, e3]
    clear e1 e2 e3
    rw [HE.out] at hok
    simp only [Bool.and_eq_true, decide_eq_true_eq] at hok
    obtain ⟨h1, h2, rfl⟩ := hok
    have h6 := inB_iff.1 h1
    go_enter Tryz.func24, Tryz.ntmps24
    go_wp2_with (first
      | (go_at_call 51; (refine (length_any _ _ _ _ hn).mono ?_); rintro e w' ⟨rfl, rfl⟩)
      | (go_at_call 50; (refine (within_any _ _ _ _).mono ?_); rintro e w' ⟨rfl, rfl⟩)
      | (go_at_call 52; (refine (areAll_i64 (p := fun x => inB x 0 20000) (enters_of Tryz.func57 rfl (by decide)) (fun x w _ => drawOut1 x w) A n c _ R).mono ?_); rintro e w1 ⟨rfl, hb⟩; rw [show (xs.all fun x => inB x 0 20000) = true from h2])
      | (go_at_call 58; (refine (drawn_any A n c xs _ (R.below (by assumption)) (allIn_small h2) (by omega)).mono ?_); rintro e w2 ⟨A2, c2, rfl, O2, hb2⟩))
    go_ret2
    exact ⟨A2, c2, rfl, own_lower O2 hb.size, below_then hb hb.size hb2⟩
  · have e1 : drawR xs s = [] := by simp [drawR, hok]
    have e3 : drawC xs s = 2 := by simp [drawC, hok]
    rw [e1, e3]
    clear e1 e3
    cases h1 : inB (n : Int) 1 6
    · go_enter Tryz.func24, Tryz.ntmps24
      go_wp2_with (first
        | (go_at_call 51; (refine (length_any _ _ _ _ hn).mono ?_); rintro e w' ⟨rfl, rfl⟩)
        | (go_at_call 50; (refine (within_any _ _ _ _).mono ?_); rintro e w' ⟨rfl, rfl⟩))
      go_ret2
      exact ⟨none, 0, rfl, own_nil _ _ _ _, Below.refl _ _⟩
    · have h6 := inB_iff.1 h1
      cases h2 : allIn xs
      · go_enter Tryz.func24, Tryz.ntmps24
        go_wp2_with (first
          | (go_at_call 51; (refine (length_any _ _ _ _ hn).mono ?_); rintro e w' ⟨rfl, rfl⟩)
          | (go_at_call 50; (refine (within_any _ _ _ _).mono ?_); rintro e w' ⟨rfl, rfl⟩)
          | (go_at_call 52; (refine (areAll_i64 (p := fun x => inB x 0 20000) (enters_of Tryz.func57 rfl (by decide)) (fun x w _ => drawOut1 x w) A n c _ R).mono ?_); rintro e w1 ⟨rfl, hb⟩; rw [show (xs.all fun x => inB x 0 20000) = false from h2]))
        go_ret2
        exact ⟨none, 0, rfl, own_nil _ _ _ _, hb⟩
      · have h3 : (s == 2 * (n : Int)) = false := by
          rw [HE.out, h1, h2] at hok
          simpa using hok
        go_enter Tryz.func24, Tryz.ntmps24
        go_wp2_with (first
          | (go_at_call 51; (refine (length_any _ _ _ _ hn).mono ?_); rintro e w' ⟨rfl, rfl⟩)
          | (go_at_call 50; (refine (within_any _ _ _ _).mono ?_); rintro e w' ⟨rfl, rfl⟩)
          | (go_at_call 52; (refine (areAll_i64 (p := fun x => inB x 0 20000) (enters_of Tryz.func57 rfl (by decide)) (fun x w _ => drawOut1 x w) A n c _ R).mono ?_); rintro e w1 ⟨rfl, hb⟩; rw [show (xs.all fun x => inB x 0 20000) = true from h2]))
        go_ret2
        exact ⟨none, 0, rfl, own_nil _ _ _ _, hb⟩
end Go.Proofs.YtefipngapgffdaaGreatDoor
