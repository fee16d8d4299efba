/- Contracts: impl.SharesOf. -/
import Derived.Test.YtbkhlcbnnjgdpaaGreatDoorS1
import Derived.Deep.RegionHeld3
import Derived.IntWalk
import Derived.Deep.AppendLies
namespace Go.Proofs.YtbkhlcbnnjgdpaaGreatDoor
open Go.RowKit
set_option linter.unusedVariables false
set_option linter.unusedSimpArgs false
theorem own_emptyF (W : World) (e : TypeId) (size : Nat) : (W.alloc (.cells #[] e)).ownsRow W.heap.size e size (.slice (some ⟨W.heap.size, 0, none⟩) 0 0) 0 [] := (Row.alloc W [] e).own (Nat.le_refl _) (by simp [maxLen]) (by simp)
theorem own_nilF (W : World) (base : Nat) (e : TypeId) (size : Nat) : W.ownsRow base e size (.slice none 0 0) 0 [] := ⟨by simp, .inl ⟨rfl, rfl⟩⟩
def shTo (L : List Int) (S : Int) : Nat → List (Int × Int)
  | 0 => []
  | k + 1 => shTo L S k ++ [(frN (L.getD k 0) S, frD (L.getD k 0) S)]
theorem shTo_len (L : List Int) (S : Int) : ∀ k, (shTo L S k).length = k
  | 0 => rfl
  | k + 1 => by simp [shTo, shTo_len L S k]
def shR (L : List Int) : List (Int × Int) := if smC L = 0 then shTo L (hsL L) 8 else []
theorem shR_len (L : List Int) : (shR L).length ≤ 1048576 := by
  unfold shR
  split
  · rw [shTo_len]; omega
  · simp
theorem shR_0 {L : List Int} (h : smC L = 0) : shR L = shTo L (hsL L) 8 := by unfold shR; rw [if_pos h]
theorem shR_1 {L : List Int} (h : smC L ≠ 0) : shR L = [] := by unfold shR; rw [if_neg h]
theorem info_frac : (Tryz.prog.info? 48).map (fun i => (i.zero, i.size, i.bytes)) = some (some (.agg #[.int .i64 0, .int .i64 0]), 2, 16) := by kernel_rfl
theorem sh_snoc (L : List Int) (S : Int) (k : Nat) {x : Int} (h : L.getD k 0 = x) : (shTo L S k).flatMap FrC ++ [.int .i64 (frN x S), .int .i64 (frD x S)] = (shTo L S (k + 1)).flatMap FrC := by
  subst h
  simp [shTo]
end Go.Proofs.YtbkhlcbnnjgdpaaGreatDoor
