/- Contracts: decimal numbers: impl.decimal (strconv.FormatInt) and spec.Decimal. -/
import Derived.Test.YtefipngapgffdaaGreatDoorShelf
import Derived.Test.YtefipngapgffdaaGreatDoorK
import Derived.Lib.AppendIntMem
import Derived.Lib.ItoaLen
import Derived.Laws.IdiomStrings
namespace Go.Proofs.YtefipngapgffdaaGreatDoor
open Go.RowKit
set_option linter.unusedVariables false
set_option linter.unusedSimpArgs false
/-- The decimal digits of a number. -/
def dec (n : Int) : ByteArray := ⟨(Lib.itoa n).toArray⟩
theorem dec_small {m : Nat} (h : m < 10) : dec (m : Int) = ⟨#[UInt8.ofNat (48 + m)]⟩ := by
  unfold dec Lib.itoa
  rw [if_neg (by omega), show ((m : Int)).toNat = m from rfl, Lib.decDigits, dif_pos h]
theorem dec_big {m : Nat} (h : ¬ m < 10) : dec (m : Int) = dec ((m / 10 : Nat) : Int) ++ ⟨#[UInt8.ofNat (48 + m % 10)]⟩ := by
  unfold dec Lib.itoa
  rw [if_neg (by omega), if_neg (by omega), show ((m : Int)).toNat = m from rfl, show (((m / 10 : Nat) : Int)).toNat = m / 10 from rfl, Lib.decDigits, dif_neg h]
  apply ByteArray.ext
  simp
theorem dec_len (n : Int) (h0 : -9223372036854775808 ≤ n) (h1 : n ≤ 9223372036854775807) : (dec n).size ≤ 21 := by
  have := Lib.itoa_length_le n h0 h1
  show (Lib.itoa n).toArray.size ≤ 21
  simpa using this
/-- The table of the powers of ten, whatever is done from block B on. -/
abbrev Tb (B : Nat) (w : World) : Prop := Lib.TabBelow Tryz.prog B w "internal/strconv.uint64pow10" .u64 Lib.pow10Tab
theorem decimal_any (B : Nat) (n : Int) (w : World) (h0 : -9223372036854775808 ≤ n) (h1 : n ≤ 9223372036854775807) (hT : Tb B w) :
    Calls Tryz.prog 69 #[.int .i64 n] w fun e w' => e = .returned (.string (dec n)) ∧ Below w.heap.size w w' := by
  go_enter Tryz.func69, Tryz.ntmps69
  go_wp2_with (go_at_call 86; (refine (Tryz.strconv_FormatInt_10 n h0 h1 _ hT.here).mono ?_); rintro e w' ⟨rfl, k, os, rfl⟩)
  go_ret
  exact ⟨rfl, Lib.below_grow _ _ (Nat.le_refl _) _ _⟩
end Go.Proofs.YtefipngapgffdaaGreatDoor
