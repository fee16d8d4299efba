/- Contracts: the mirrored web. -/
import Derived.Test.YtefipngapgffdaaGreatDoorC3
namespace Go.Proofs.YtefipngapgffdaaGreatDoor
open Go.RowKit
set_option linter.unusedVariables false
set_option linter.unusedSimpArgs false
def mirrorR (xs : List Int) : List Int := if webOk xs then xs.reverse else []
theorem mirrorR_len (xs : List Int) : (mirrorR xs).length ≤ 1048576 := by
  unfold mirrorR
  split
  · have := (webOk_bd ‹_›).2.1
    simp; omega
  · simp
theorem rev_succ {xs : List Int} {k : Nat} {x : Int} (hk : k < xs.length) (h : xs[xs.length - 1 - k]? = some x) : xs.reverse.take (k + 1) = xs.reverse.take k ++ [x] := by
  rw [List.take_add_one, List.getElem?_reverse (by omega), h]
  rfl
theorem sMirrorWeb (A : Option Addr) (n c : Nat) (xs : List Int) (w : World) (R : Rds w A n 1 (fun x : Int => [.int .i64 x]) xs) :
    Calls Tryz.prog 16 #[.slice A n c] w (RetOwnT 2 1 (mirrorR xs).length (nums .i64 (mirrorR xs)) [.int .i64 (okC xs)] w) := by
  have HXL := Lib.hid R.1
  cases h : webOk xs
  · have e1 : mirrorR xs = [] := by simp [mirrorR, h]
    rw [e1]
    go_enter Tryz.func16, Tryz.ntmps16
    go_wp2_with (go_at_call 44; (refine (l02Ok_any A n c xs _ R).mono ?_); rintro e w1 ⟨rfl, rfl⟩)
    go_ret2
    exact ⟨some ⟨w.heap.size, 0, none⟩, 0, by simp [okC, h], own_empty _ _ _, by go_grown⟩
  · have e1 : mirrorR xs = xs.reverse := by simp [mirrorR, h]
    have e2 : xs.reverse.length = n := by simp [HXL.out]
    have hbd := webOk_bd h
    rw [HXL.out] at hbd
    obtain ⟨hb1, hb2, _, _⟩ := hbd
    rw [e1, e2]
    clear e1 e2
    go_enter Tryz.func16, Tryz.ntmps16
    go_wp2_with (go_at_call 44; (refine (l02Ok_any A n c xs _ R).mono ?_); rintro e w1 ⟨rfl, rfl⟩)
    go_loopw [4, 5] (fun s v wr => ∃ (k : Nat) (A' : Option Addr) (c' : Nat), k ≤ n ∧ v = .int .i64 ((n : Int) - 1 - k) ∧ s = .slice A' k c' ∧ wr.ownsRow w.heap.size 2 1 (.slice A' k c') k (nums .i64 (xs.reverse.take k)) ∧ Below w.heap.size w wr) (fun _ v _ => (intOf v + 1).toNat)
    case atStart => exact ⟨0, _, _, by omega, by go_num, rfl, by simpa [nums] using own_empty w 2 1, by go_grown⟩
    case round =>
      obtain ⟨j, A', c', hj, rfl, rfl, O, hB⟩ := hrel
      by_cases hlt : j < n
      · obtain ⟨ad, x, rfl, hx, hc⟩ := (R.below hB).at1 (show n - 1 - j < n by omega)
        have hv := rev_succ (xs := xs) (k := j) (by rw [HXL.out]; exact hlt) (by rw [HXL.out]; exact hx)
        have HV := Lib.hid hv
        clear hx hv
        have q1 : (j : Int) ≤ (n : Int) - 1 := by omega
        have q2 : (n : Int) - 1 - j < n := by omega
        have q3 : (0 : Int) ≤ (n : Int) - 1 - j := by omega
        go_wp2_with ((at_builtin; refine app_any (w0 := w) w.heap.size (by rfl) _ _ 24 2 (.int .i64 0) 1 8 (by rfl) Tryz.underlying24 info_i64 rfl (by omega) (by omega) _ (by rfl) 1 1 [.int .i64 x] (by rfl) (by rfl) (by simp [Value.oneCell']) O hB hB.size (by omega) ?_; intro A2 c2 w2 O2 HBn hg2))
        rw [← nums_snoc, ← HV.out] at O2
        go_roundw
        case rel => exact ⟨j + 1, A2, c2, by omega, by go_num, rfl, O2, HBn⟩
        case measure => simp [intOf]; omega
      · have q1 : ¬ (j : Int) ≤ (n : Int) - 1 := by omega
        go_wp2_with fail
        go_ret2
        obtain rfl : j = n := by omega
        rw [List.take_of_length_le (by simp [HXL.out])] at O
        exact ⟨A', c', by simp [okC, h], O, hB⟩
end Go.Proofs.YtefipngapgffdaaGreatDoor
