/- Contracts: ValidWeb of the spec. -/
import Derived.Test.YthpdfjfkokgkoaaC2
namespace Go.Proofs.Ythpdfjfkokgkoaa
open Go.RowKit
set_option linter.unusedVariables false
set_option linter.unusedSimpArgs false
theorem sValidWeb (A : Option Addr) (n c : Nat) (xs : List Int) (w : World) (R : Rds w A n 1 (fun x : Int => [.int .i64 x]) xs) :
    Calls Try.prog 20 #[.slice A n c] w fun e w' => e = .returned (.bool (webOk xs)) ∧ Below w.heap.size w w' := by
  go_enter Try.func20, Try.ntmps20
  go_wp2_with (go_at_call 31; (refine (l02Ok_any A n c xs _ R).mono ?_); rintro e w1 ⟨rfl, rfl⟩)
  go_ret
  exact ⟨rfl, Below.refl _ _⟩
end Go.Proofs.Ythpdfjfkokgkoaa
