/- Contracts: impl.WebText and spec.WebText. -/
import Derived.Test.YtefipngapgffdaaGreatDoorQ2
namespace Go.Proofs.YtefipngapgffdaaGreatDoor
open Go.RowKit
set_option linter.unusedVariables false
set_option linter.unusedSimpArgs false
def webB (xs : List Int) : ByteArray := if webOk xs = true then wtB xs else ByteArray.empty
theorem iWebText (B : Nat) (A : Option Addr) (n c : Nat) (xs : List Int) (w : World) (R : Rds w A n 1 (fun x : Int => [.int .i64 x]) xs) (hT : Tb B w) (hB : B ≤ w.heap.size) :
    Calls Tryz.prog 9 #[.slice A n c] w fun e w' => e = .returned (.string (webB xs)) ∧ Below w.heap.size w w' := by
  have hl := R.1
  cases h : webOk xs
  · have E : Hid (webB xs = ByteArray.empty) := Lib.hid (by unfold webB; rw [h]; rfl)
    clear hl
    go_enter Tryz.func9, Tryz.ntmps9
    go_wp2_with (go_at_call 19; (refine (validWeb_any A n c xs _ R).mono ?_); rintro e w1 ⟨rfl, hb⟩; rw [h])
    go_ret
    exact ⟨by rw [E.out]; rfl, hb⟩
  · have E : Hid (webB xs = wtB xs) := Lib.hid (by unfold webB; rw [if_pos h])
    obtain ⟨h1, h2, h3, h4⟩ := webOk_bd h
    have HX : Hid (∀ x ∈ xs, I64 x) := Lib.hid (fun x hx => by have := h4 x hx; unfold I64; omega)
    rw [hl] at h1 h2
    have H := Lib.hid h
    clear h3 h4 hl h
    go_enter Tryz.func9, Tryz.ntmps9
    go_wp2_with fail
    refine (validWeb_any A n c xs _ R).mono ?_
    rintro e w1 ⟨rfl, hb⟩
    rw [H.out]
    go_wp2_with fail
    refine (joined_any B A n c xs _ (R.below hb) HX.out (by omega) (by omega) (hT.on (hb.mono hB)) (Nat.le_trans hB hb.size)).mono ?_
    rintro e w2 ⟨rfl, hb2⟩
    go_wp2_with fail
    go_ret
    exact ⟨by rw [E.out]; rfl, below_then hb hb.size hb2⟩
end Go.Proofs.YtefipngapgffdaaGreatDoor
