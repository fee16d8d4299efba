/- Contracts: slices.Grow of the nil list, slices.Concat of two lists. -/
import Derived.Test.YtefipngapgffdaaGreatDoorC7
import Derived.Lib.AppendZerosOnto
import Derived.Lib.Walk
namespace Go.Proofs.YtefipngapgffdaaGreatDoor
open Go.RowKit
set_option linter.unusedVariables false
set_option linter.unusedSimpArgs false
set_option maxHeartbeats 1000000 in
theorem grow_any (n : Nat) (w : World) (hn : 0 < n) (hn2 : n ≤ 1000) :
    Calls Tryz.prog 91 #[.slice none 0 0, .int .i64 n] w (RetOwn 2 1 0 [] w) := by
  obtain ⟨i0, hi, hzz⟩ := Option.map_eq_some_iff.1 info_i64
  simp only [Prod.mk.injEq] at hzz
  obtain ⟨hz0, hz1, hz2⟩ := hzz
  have hrz : ∀ ty, (Builtin.append_ #[24, 3] ty #[.slice none 0 0, .int .i64 n]).run Tryz.prog w =
      .ok (.slice (some ⟨w.heap.size, 0, none⟩) (0 + n) (grownCap w (0 + n) 0 2)) (w.drew.alloc (.cells (([] : List Value).toArray ++ Builtin.zeroCells (Value.cells (.int .i64 0)) n ++ Builtin.zeroCells (Value.cells (.int .i64 0)) (grownCap w (0 + n) 0 2 - (0 + n))) 2)) := fun ty =>
    Lib.run_append_grow_zeros w 24 3 ty 2 i0 (.int .i64 0) .i64 .i64 Tryz.underlying24 Tryz.underlying3 hi hz0 none 0 0 [] (run_firstCells_none w.drew _ _ _ _) n hn (by omega) (by omega) (by omega) (by rw [hz2]; omega)
      (growslice_fits (by omega) (by rw [hz2]; omega))
  have hG := grownCap_ge w (0 + n) 0 2
  have hGm := grownCap_le_maxLen w (0 + n) 0 2 (by unfold maxLen; omega)
  obtain ⟨G, hGd⟩ : ∃ G, G = grownCap w (0 + n) 0 2 := ⟨_, rfl⟩
  rw [← hGd] at hrz hG hGm
  obtain ⟨cs, hcs⟩ : ∃ cs : Array Value, cs = ([] : List Value).toArray ++ Builtin.zeroCells (Value.cells (.int .i64 0)) n ++ Builtin.zeroCells (Value.cells (.int .i64 0)) (G - (0 + n)) := ⟨_, rfl⟩
  have hlen : cs.size = G := by
    rw [hcs]
    simp [Builtin.zeroCells, Value.cells]
    omega
  rw [← hcs] at hrz
  clear hcs hGd hi hz0 hz1 hz2
  have HL := Lib.hid hlen; have HGM := Lib.hid hGm; clear hlen
  unfold maxLen at hGm
  have hG63 : G ≤ 9223372036854775807 := by omega
  go_enter Tryz.func91, Tryz.ntmps91
  go_wp2_with (at_builtin; refine Lib.wpList_append_run _ rfl _ _ _ _ rfl _ _ rfl rfl _ _ (hrz _) ?_)
  go_ret
  have hr : Row (w.drew.alloc (.cells cs 2)) w.heap.size 2 ([] ++ cs.toList) := by
    have := Row.alloc w.drew cs.toList 2
    simpa using this
  exact ⟨_, G, rfl, own_of_row (n := 0) hr (Nat.le_refl _) (by omega) HGM.out (by simp) (by simp [HL.out]), (Below.refl _ _).drew.alloc (Nat.le_refl _) _⟩
end Go.Proofs.YtefipngapgffdaaGreatDoor
