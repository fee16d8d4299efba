/- Contracts: slices.Clone, slices.Reverse over whole numbers; MirrorWeb. -/
import Derived.Test.YtjbaaomodcgdgaaC6
import Derived.BigRegion
import Derived.RegionTactic
import Derived.ChangeAlike
import Derived.Lib.LazyBuf
namespace Go.Proofs.Ytjbaaomodcgdgaa
open Go.RowKit
set_option linter.unusedVariables false
set_option linter.unusedSimpArgs false
theorem clone_i64 (A : Option Addr) (n c : Nat) (xs : List Int) (w : World) (R : Rds w A n 1 (fun x : Int => [.int .i64 x]) xs) (h0 : 0 < n) (hn : n ≤ 1048576) :
    Calls Try.prog 44 #[.slice A n c] w (RetOwn 2 1 n (nums .i64 xs) w) := by
  have HXL := Lib.hid R.1
  obtain ⟨ad, rfl, hc⟩ := R.2.2 h0
  have hcells : ∀ (j : Nat) (u : Value), (nums .i64 xs)[j]? = some u → (w.alloc (.cells #[] 2)).cell? (ad.add j) = some u := by
    intro j u hu
    rw [nums_get] at hu
    obtain ⟨x, hx, rfl⟩ := Option.map_eq_some_iff.1 hu
    have := R.cellOf hx
    exact ((below_alloc1 w _).cell (World.block_lt_of_cell? w _ this)).trans this
  have HC := Lib.hid hcells; clear hcells hc
  obtain ⟨i0, hi, hz0, hz1, hz2⟩ := info_parts info_i64
  have hnil := fun w : World => run_eql_slice_nil (P := Try.prog) w 37 2 (some ad) n c Try.underlying37
  have O0 := own_empty w 2 1
  go_enter Try.func44, Try.ntmps44
  go_wp2_with ((at_builtin; refine wpList_append_own _ (by rfl) _ _ 37 (by rfl) w.heap.size 2 i0 (.int .i64 0) 1 8 Try.underlying37 hi hz0 hz1 hz2 rfl (by omega) _ 0 [] (by rfl) O0 ad n c (nums .i64 xs) (by rfl) (by rw [nums_length, HXL.out, Nat.mul_one]) HC.out (by intro u hu; obtain ⟨x, _, rfl⟩ := List.mem_map.1 hu; rfl) (by simp only [maxLen]; omega) (by omega) (by simp) ?_; intro v2 w2 O2 hg2 _))
  go_ret
  rw [Nat.zero_add, List.nil_append] at O2
  have hv : ∃ A' c', v2 = .slice A' n c' := by
    rcases O2.2 with ⟨rfl, h1⟩ | ⟨g, cap, cur, rfl, _⟩
    · omega
    · exact ⟨_, _, rfl⟩
  obtain ⟨A', c', rfl⟩ := hv
  exact ⟨A', c', rfl, O2, (below_alloc1 w _).grown hg2 (by simp) (fun k hk => by simp [Value.ownBlock] at hk; omega)⟩
theorem nums_set_app (L : List Int) (T : List Value) (i : Nat) (v : Int) (h : i < (nums .i64 L).length) : (nums .i64 L ++ T).set i (.int .i64 v) = nums .i64 (L.set i v) ++ T := by
  rw [List.set_append_left _ _ h]
  simp [nums, List.map_set]
theorem grown_set {w wr : World} {g : Nat} (h : w.grownBy wr (some g)) (i : Nat) (v : Value) : w.grownBy (wr.setCell ⟨g, i, none⟩ v) (some g) :=
  ⟨h.os, h.tape, h.output, by simpa [World.setCell] using h.size, fun k hk hne => by
    rw [heap_setCell_other _ _ _ _ (by intro e; exact hne (by rw [e]))]; exact h.block k hk hne⟩
end Go.Proofs.Ytjbaaomodcgdgaa
