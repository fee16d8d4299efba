/- Contracts over webs: folding, crossing, drawing out. -/
import Derived.Test.YtefipngapgffdaaGreatDoorC2
import Derived.StillTailTactics
import Derived.OwnWalk
namespace Go.Proofs.YtefipngapgffdaaGreatDoor
open Go.RowKit
set_option linter.unusedVariables false
set_option linter.unusedSimpArgs false
def gd (xs : List Int) (k : Nat) : Int := xs.getD k 0
theorem gd_of {xs : List Int} {k : Nat} {x : Int} (h : xs[k]? = some x) : gd xs k = x := by simp [gd, List.getD_eq_getElem?_getD, h]
def foldTo (xs : List Int) (k : Nat) : List Int := (List.range k).map fun i => gd xs i + gd xs (xs.length - 1 - i)
def crossTo (xs : List Int) (k : Nat) : List Int := (List.range k).map fun i => gd xs i + gd xs (i + xs.length / 2)
def foldL (xs : List Int) : List Int := foldTo xs (xs.length / 2)
def crossL (xs : List Int) : List Int := crossTo xs (xs.length / 2)
theorem foldTo_succ (xs : List Int) (k : Nat) : foldTo xs (k + 1) = foldTo xs k ++ [gd xs k + gd xs (xs.length - 1 - k)] := by simp [foldTo, List.range_succ]
theorem foldTo_length (xs : List Int) (k : Nat) : (foldTo xs k).length = k := by simp [foldTo]
theorem crossTo_succ (xs : List Int) (k : Nat) : crossTo xs (k + 1) = crossTo xs k ++ [gd xs k + gd xs (k + xs.length / 2)] := by simp [crossTo, List.range_succ]
theorem crossTo_length (xs : List Int) (k : Nat) : (crossTo xs k).length = k := by simp [crossTo]
def Small (xs : List Int) : Prop := ∀ x ∈ xs, 0 ≤ x ∧ x ≤ 20000
theorem Small.at {xs : List Int} (h : Small xs) {k : Nat} {x : Int} (hx : xs[k]? = some x) : 0 ≤ x ∧ x ≤ 20000 := h x (List.mem_of_getElem? hx)
theorem webOk_small {xs : List Int} (h : webOk xs = true) : Small xs := fun x hx => by have := (webOk_bd h).2.2.2 x hx; omega
theorem gd_small {xs : List Int} (hS : Small xs) (k : Nat) : 0 ≤ gd xs k ∧ gd xs k ≤ 20000 := by
  cases h : xs[k]? with
  | none => simp [gd, List.getD_eq_getElem?_getD, h]
  | some x => rw [gd_of h]; exact hS.at h
theorem info_i64 : (Tryz.prog.info? 2).map (fun i => (i.zero, i.size, i.bytes)) = some (some (.int .i64 0), 1, 8) := by kernel_rfl
theorem nums_snoc (xs : List Int) (y : Int) : nums .i64 (xs ++ [y]) = nums .i64 xs ++ [.int .i64 y] := by simp [nums]
theorem own_empty (W : World) (e : TypeId) (size : Nat) : (W.alloc (.cells #[] e)).ownsRow W.heap.size e size (.slice (some ⟨W.heap.size, 0, none⟩) 0 0) 0 [] := (Row.alloc W [] e).own (Nat.le_refl _) (by simp [maxLen]) (by simp)
theorem own_nil (W : World) (base : Nat) (e : TypeId) (size : Nat) : W.ownsRow base e size (.slice none 0 0) 0 [] := ⟨by simp, .inl ⟨rfl, rfl⟩⟩

theorem folded_any (A : Option Addr) (n c : Nat) (xs : List Int) (w : World) (R : Rds w A n 1 (fun x : Int => [.int .i64 x]) xs) (hS : Small xs) (hn : n ≤ 1000) :
    Calls Tryz.prog 54 #[.slice A n c] w (RetOwn 2 1 (n / 2) (nums .i64 (foldL xs)) w) := by
  have HXL := Lib.hid R.1
  go_enter Tryz.func54, Tryz.ntmps54
  go_wp2_with fail
  go_loopw [3, 8] (fun s v wr => ∃ (k : Nat) (A' : Option Addr) (c' : Nat), k ≤ n / 2 ∧ v = .int .i64 k ∧ s = .slice A' k c' ∧ wr.ownsRow w.heap.size 2 1 (.slice A' k c') k (nums .i64 (foldTo xs k)) ∧ Below w.heap.size w wr) (fun _ v _ => n / 2 - (intOf v).toNat)
  case atStart => exact ⟨0, _, _, by omega, rfl, rfl, by simpa [foldTo, nums] using own_nil w w.heap.size 2 1, by go_grown⟩
  case round =>
    obtain ⟨j, A', c', hj, rfl, rfl, O, hB⟩ := hrel
    by_cases hlt : j < n / 2
    · obtain ⟨ad, x, rfl, hx, hc⟩ := (R.below hB).at1 (show j < n by omega)
      obtain ⟨ad', y, h', hy, hc'⟩ := (R.below hB).at1 (show (n - 1 - j) < n by omega)
      cases h'
      have hx0 := hS.at hx
      have hy0 := hS.at hy
      have hv : foldTo xs (j + 1) = foldTo xs j ++ [x + y] := by rw [foldTo_succ, gd_of hx, HXL.out, gd_of hy]
      have HV := Lib.hid hv
      have hjn : j < n := by omega
      have hjn2 : (n - 1 - j) < n := by omega
      have hc1 := Lib.hid (fun (w2 : World) (hb : Below w.heap.size w w2) => (R.below hb).cellOf hx)
      have hc2 := Lib.hid (fun (w2 : World) (hb : Below w.heap.size w w2) => (R.below hb).cellOf hy)
      have hle1 : (j : Int) ≤ (n : Int) - 1 := by omega
      have hle2 : ((n : Int) - 1 - j) < n := by omega
      clear hx hy hv
      go_wp2_with fail
      have v0 : IntKind.i64.wrap ((n : Int) - 1) = (n : Int) - 1 := IntWalk.i64_in _ (by omega)
      have v1 : IntKind.i64.wrap ((n : Int) - 1 - j) = (n : Int) - 1 - j := IntWalk.i64_in _ (by omega)
      have v9 : IntKind.i64.wrap (x + y) = x + y := IntWalk.i64_in _ (by omega)
      go_region_held3 (fun w' => w'.cell? (ad.add j) = some (.int .i64 x) ∧ w'.cell? (ad.add (n - 1 - j)) = some (.int .i64 y))
        (first
          | go_keep
          | (go_split_ands
             refine ⟨?_, ?_⟩
             · exact hc1.out _ HBn
             · exact hc2.out _ HBn))
        ((refine step_app (w0 := w) (W := wr) w.heap.size (by rfl) _ _ 24 2 (.int .i64 0) 1 8 (by rfl) Tryz.underlying24 info_i64 rfl (by omega) (by omega) _ (by rfl) 1 1 [.int .i64 (x + y)] (by rfl) (by rfl) (by simp [Value.oneCell']) ⟨(Below.refl _ _).drew, by simp⟩ O hB hB.size (by omega) (by clear v0 v1 v9; omega) ?_; intro A2 c2 w2 O2 HBn))
      clear v0 v1 v9
      rw [← nums_snoc, ← HV.out] at O2
      go_wp2_with fail
      go_roundw
      case rel => exact ⟨j + 1, A2, c2, by omega, by go_num, rfl, O2, HBn⟩
      case measure => simp [intOf]; omega
    · go_wp2_with fail
      go_ret
      obtain rfl : j = n / 2 := by omega
      refine ⟨A', c', rfl, ?_, hB⟩
      rw [foldL, HXL.out]
      exact O
theorem crossed_any (A : Option Addr) (n c : Nat) (xs : List Int) (w : World) (R : Rds w A n 1 (fun x : Int => [.int .i64 x]) xs) (hS : Small xs) (hn : n ≤ 1000) :
    Calls Tryz.prog 56 #[.slice A n c] w (RetOwn 2 1 (n / 2) (nums .i64 (crossL xs)) w) := by
  have HXL := Lib.hid R.1
  go_enter Tryz.func56, Tryz.ntmps56
  go_wp2_with fail
  go_loopw [3, 8] (fun s v wr => ∃ (k : Nat) (A' : Option Addr) (c' : Nat), k ≤ n / 2 ∧ v = .int .i64 k ∧ s = .slice A' k c' ∧ wr.ownsRow w.heap.size 2 1 (.slice A' k c') k (nums .i64 (crossTo xs k)) ∧ Below w.heap.size w wr) (fun _ v _ => n / 2 - (intOf v).toNat)
  case atStart => exact ⟨0, _, _, by omega, rfl, rfl, by simpa [crossTo, nums] using own_nil w w.heap.size 2 1, by go_grown⟩
  case round =>
    obtain ⟨j, A', c', hj, rfl, rfl, O, hB⟩ := hrel
    by_cases hlt : j < n / 2
    · obtain ⟨ad, x, rfl, hx, hc⟩ := (R.below hB).at1 (show j < n by omega)
      obtain ⟨ad', y, h', hy, hc'⟩ := (R.below hB).at1 (show (j + n / 2) < n by omega)
      cases h'
      have hx0 := hS.at hx
      have hy0 := hS.at hy
      have hv : crossTo xs (j + 1) = crossTo xs j ++ [x + y] := by rw [crossTo_succ, gd_of hx, HXL.out, gd_of hy]
      have HV := Lib.hid hv
      have hjn : j < n := by omega
      have hjn2 : (j + n / 2) < n := by omega
      have hc1 := Lib.hid (fun (w2 : World) (hb : Below w.heap.size w w2) => (R.below hb).cellOf hx)
      have hc2 := Lib.hid (fun (w2 : World) (hb : Below w.heap.size w w2) => (R.below hb).cellOf hy)
      have hle2 : (j : Int) + (n : Int) / 2 < n := by omega
      have hle3 : (0 : Int) ≤ (j : Int) + (n : Int) / 2 := by omega
      clear hx hy hv
      go_wp2_with fail
      have v0 : IntKind.i64.wrap ((j : Int) + (n : Int) / 2) = (j : Int) + (n : Int) / 2 := IntWalk.i64_in _ (by omega)
      have v1 : (n : Int).tdiv 2 = (n : Int) / 2 := Int.tdiv_eq_ediv_of_nonneg (by omega)
      have v2 : IntKind.i64.wrap ((n : Int) / 2) = (n : Int) / 2 := IntWalk.i64_in _ (by omega)
      have v3 : ((j : Int) + (n : Int) / 2).toNat = j + n / 2 := by omega
      have v9 : IntKind.i64.wrap (x + y) = x + y := IntWalk.i64_in _ (by omega)
      go_region_held3 (fun w' => w'.cell? (ad.add j) = some (.int .i64 x) ∧ w'.cell? (ad.add (j + n / 2)) = some (.int .i64 y))
        (first
          | go_keep
          | (go_split_ands
             refine ⟨?_, ?_⟩
             · exact hc1.out _ HBn
             · exact hc2.out _ HBn))
        ((refine step_app (w0 := w) (W := wr) w.heap.size (by rfl) _ _ 24 2 (.int .i64 0) 1 8 (by rfl) Tryz.underlying24 info_i64 rfl (by omega) (by omega) _ (by rfl) 1 1 [.int .i64 (x + y)] (by rfl) (by rfl) (by simp [Value.oneCell']) ⟨(Below.refl _ _).drew, by simp⟩ O hB hB.size (by omega) (by clear v0 v1 v2 v3 v9; omega) ?_; intro A2 c2 w2 O2 HBn))
      clear v0 v1 v2 v3 v9
      rw [← nums_snoc, ← HV.out] at O2
      go_wp2_with fail
      go_roundw
      case rel => exact ⟨j + 1, A2, c2, by omega, by go_num, rfl, O2, HBn⟩
      case measure => simp [intOf]; omega
    · go_wp2_with fail
      go_ret
      obtain rfl : j = n / 2 := by omega
      refine ⟨A', c', rfl, ?_, hB⟩
      rw [crossL, HXL.out]
      exact O
theorem l02Double_fold (A : Option Addr) (n c : Nat) (xs : List Int) (w : World) (R : Rds w A n 1 (fun x : Int => [.int .i64 x]) xs) (hS : Small xs) (hn : n ≤ 1000) :
    Calls Tryz.prog 55 #[.slice A n c, .bool true] w (RetOwn 2 1 (n / 2) (nums .i64 (foldL xs)) w) := by
  have HXL := Lib.hid R.1
  go_enter Tryz.func55, Tryz.ntmps55
  go_wp2_with fail
  go_loopw [5, 7] (fun s v wr => ∃ (k : Nat) (A' : Option Addr) (c' : Nat), k ≤ n / 2 ∧ v = .int .i64 k ∧ s = .slice A' k c' ∧ wr.ownsRow w.heap.size 2 1 (.slice A' k c') k (nums .i64 (foldTo xs k)) ∧ Below w.heap.size w wr) (fun _ v _ => n / 2 - (intOf v).toNat)
  case atStart => exact ⟨0, _, _, by omega, rfl, rfl, by simpa [foldTo, nums] using own_empty w 2 1, by go_grown⟩
  case round =>
    obtain ⟨j, A', c', hj, rfl, rfl, O, hB⟩ := hrel
    by_cases hlt : j < n / 2
    · obtain ⟨ad, x, rfl, hx, hc⟩ := (R.below hB).at1 (show j < n by omega)
      obtain ⟨ad', y, h', hy, hc'⟩ := (R.below hB).at1 (show (n - 1 - j) < n by omega)
      cases h'
      have hx0 := hS.at hx
      have hy0 := hS.at hy
      have hv : foldTo xs (j + 1) = foldTo xs j ++ [x + y] := by rw [foldTo_succ, gd_of hx, HXL.out, gd_of hy]
      have HV := Lib.hid hv
      have hjn : j < n := by omega
      have hjn2 : (n - 1 - j) < n := by omega
      have hc1 := Lib.hid (fun (w2 : World) (hb : Below w.heap.size w w2) => (R.below hb).cellOf hx)
      have hc2 := Lib.hid (fun (w2 : World) (hb : Below w.heap.size w w2) => (R.below hb).cellOf hy)
      have hle1 : (j : Int) ≤ (n : Int) - 1 := by omega
      have hle2 : ((n : Int) - 1 - j) < n := by omega
      clear hx hy hv
      go_wp2_with fail
      have v0 : IntKind.i64.wrap ((n : Int) - 1) = (n : Int) - 1 := IntWalk.i64_in _ (by omega)
      have v1 : IntKind.i64.wrap ((n : Int) - 1 - j) = (n : Int) - 1 - j := IntWalk.i64_in _ (by omega)
      have v9 : IntKind.i64.wrap (x + y) = x + y := IntWalk.i64_in _ (by omega)
      go_region_held3 (fun w' => w'.cell? (ad.add j) = some (.int .i64 x) ∧ w'.cell? (ad.add (n - 1 - j)) = some (.int .i64 y))
        (first
          | go_keep
          | (go_split_ands
             refine ⟨?_, ?_⟩
             · exact hc1.out _ HBn
             · exact hc2.out _ HBn))
        ((refine step_app (w0 := w) (W := wr) w.heap.size (by rfl) _ _ 24 2 (.int .i64 0) 1 8 (by rfl) Tryz.underlying24 info_i64 rfl (by omega) (by omega) _ (by rfl) 1 1 [.int .i64 (x + y)] (by rfl) (by rfl) (by simp [Value.oneCell']) ⟨(Below.refl _ _).drew, by simp⟩ O hB hB.size (by omega) (by clear v0 v1 v9; omega) ?_; intro A2 c2 w2 O2 HBn))
      clear v0 v1 v9
      rw [← nums_snoc, ← HV.out] at O2
      go_wp2_with fail
      go_roundw
      case rel => exact ⟨j + 1, A2, c2, by omega, by go_num, rfl, O2, HBn⟩
      case measure => simp [intOf]; omega
    · go_wp2_with fail
      go_ret
      obtain rfl : j = n / 2 := by omega
      refine ⟨A', c', rfl, ?_, hB⟩
      rw [foldL, HXL.out]
      exact O
theorem l02Double_cross (A : Option Addr) (n c : Nat) (xs : List Int) (w : World) (R : Rds w A n 1 (fun x : Int => [.int .i64 x]) xs) (hS : Small xs) (hn : n ≤ 1000) :
    Calls Tryz.prog 55 #[.slice A n c, .bool false] w (RetOwn 2 1 (n / 2) (nums .i64 (crossL xs)) w) := by
  have HXL := Lib.hid R.1
  go_enter Tryz.func55, Tryz.ntmps55
  go_wp2_with fail
  go_loopw [5, 7] (fun s v wr => ∃ (k : Nat) (A' : Option Addr) (c' : Nat), k ≤ n / 2 ∧ v = .int .i64 k ∧ s = .slice A' k c' ∧ wr.ownsRow w.heap.size 2 1 (.slice A' k c') k (nums .i64 (crossTo xs k)) ∧ Below w.heap.size w wr) (fun _ v _ => n / 2 - (intOf v).toNat)
  case atStart => exact ⟨0, _, _, by omega, rfl, rfl, by simpa [crossTo, nums] using own_empty w 2 1, by go_grown⟩
  case round =>
    obtain ⟨j, A', c', hj, rfl, rfl, O, hB⟩ := hrel
    by_cases hlt : j < n / 2
    · obtain ⟨ad, x, rfl, hx, hc⟩ := (R.below hB).at1 (show j < n by omega)
      obtain ⟨ad', y, h', hy, hc'⟩ := (R.below hB).at1 (show (j + n / 2) < n by omega)
      cases h'
      have hx0 := hS.at hx
      have hy0 := hS.at hy
      have hv : crossTo xs (j + 1) = crossTo xs j ++ [x + y] := by rw [crossTo_succ, gd_of hx, HXL.out, gd_of hy]
      have HV := Lib.hid hv
      have hjn : j < n := by omega
      have hjn2 : (j + n / 2) < n := by omega
      have hc1 := Lib.hid (fun (w2 : World) (hb : Below w.heap.size w w2) => (R.below hb).cellOf hx)
      have hc2 := Lib.hid (fun (w2 : World) (hb : Below w.heap.size w w2) => (R.below hb).cellOf hy)
      have hle2 : (j : Int) + (n : Int) / 2 < n := by omega
      have hle3 : (0 : Int) ≤ (j : Int) + (n : Int) / 2 := by omega
      clear hx hy hv
      go_wp2_with fail
      have v0 : IntKind.i64.wrap ((j : Int) + (n : Int) / 2) = (j : Int) + (n : Int) / 2 := IntWalk.i64_in _ (by omega)
      have v1 : (n : Int).tdiv 2 = (n : Int) / 2 := Int.tdiv_eq_ediv_of_nonneg (by omega)
      have v2 : IntKind.i64.wrap ((n : Int) / 2) = (n : Int) / 2 := IntWalk.i64_in _ (by omega)
      have v3 : ((j : Int) + (n : Int) / 2).toNat = j + n / 2 := by omega
      have v9 : IntKind.i64.wrap (x + y) = x + y := IntWalk.i64_in _ (by omega)
      go_region_held3 (fun w' => w'.cell? (ad.add j) = some (.int .i64 x) ∧ w'.cell? (ad.add (j + n / 2)) = some (.int .i64 y))
        (first
          | go_keep
          | (go_split_ands
             refine ⟨?_, ?_⟩
             · exact hc1.out _ HBn
             · exact hc2.out _ HBn))
        ((refine step_app (w0 := w) (W := wr) w.heap.size (by rfl) _ _ 24 2 (.int .i64 0) 1 8 (by rfl) Tryz.underlying24 info_i64 rfl (by omega) (by omega) _ (by rfl) 1 1 [.int .i64 (x + y)] (by rfl) (by rfl) (by simp [Value.oneCell']) ⟨(Below.refl _ _).drew, by simp⟩ O hB hB.size (by omega) (by clear v0 v1 v2 v3 v9; omega) ?_; intro A2 c2 w2 O2 HBn))
      clear v0 v1 v2 v3 v9
      rw [← nums_snoc, ← HV.out] at O2
      go_wp2_with fail
      go_roundw
      case rel => exact ⟨j + 1, A2, c2, by omega, by go_num, rfl, O2, HBn⟩
      case measure => simp [intOf]; omega
    · go_wp2_with fail
      go_ret
      obtain rfl : j = n / 2 := by omega
      refine ⟨A', c', rfl, ?_, hB⟩
      rw [crossL, HXL.out]
      exact O
end Go.Proofs.YtefipngapgffdaaGreatDoor
