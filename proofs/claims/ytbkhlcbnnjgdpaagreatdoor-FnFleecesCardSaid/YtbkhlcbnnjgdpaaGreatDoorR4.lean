/- The plain law of TakeLongest. -/
import Derived.Test.YtbkhlcbnnjgdpaaGreatDoorH7
import Derived.Test.YtbkhlcbnnjgdpaaGreatDoorR1
import Derived.Test.YtbkhlcbnnjgdpaaGreatDoorBh
namespace Go.Proofs.YtbkhlcbnnjgdpaaGreatDoor
open Go.RowKit
set_option linter.unusedVariables false
set_option linter.unusedSimpArgs false
/-- What is left to take behind the first d lengths from the top. -/
def tkG (L : List Int) (g : Int) : Nat → Int
  | 0 => g
  | d + 1 => tkG L g d - min (tkG L g d) (L.getD (7 - d) 0)
/-- What is taken of length j. -/
def tk (L : List Int) (g : Int) (j : Nat) : Int := min (tkG L g (7 - j)) (L.getD j 0)
def tlC (L : List Int) (g : Int) : Int := if asC L (decide (0 ≤ g)) = 0 then (if hsL L < g then 6 else 0) else asC L (decide (0 ≤ g))
theorem tkG_rng {L : List Int} {g : Int} (h : heapOk L = true) (hg : 0 ≤ g) : ∀ d : Nat, 0 ≤ tkG L g d ∧ tkG L g d ≤ g
  | 0 => by simp [tkG]; exact hg
  | d + 1 => by
    have ih := tkG_rng h hg d
    have hb := heapOk_at h (7 - d)
    simp only [tkG]
    omega
end Go.Proofs.YtbkhlcbnnjgdpaaGreatDoor
