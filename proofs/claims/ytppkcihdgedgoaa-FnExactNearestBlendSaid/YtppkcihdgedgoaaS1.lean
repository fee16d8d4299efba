/- Contracts: lists of fractions: compared, marked, held. -/
import Derived.Test.YtppkcihdgedgoaaR2
import Derived.Deep.RegionHeld3
namespace Go.Proofs.Ytppkcihdgedgoaa
open Go.RowKit
set_option linter.unusedVariables false
set_option linter.unusedSimpArgs false
abbrev FrC (y : Int × Int) : List Value := [.int .i64 y.1, .int .i64 y.2]
theorem FrC_len (xs : List (Int × Int)) : (xs.flatMap FrC).length = xs.length * 2 := by
  induction xs with
  | nil => rfl
  | cons x xs ih => simp only [List.flatMap_cons, List.length_append, ih, List.length_cons, List.length_nil]; omega
theorem Rds.frac {w : World} {A : Option Addr} {n : Nat} {xs : List (Int × Int)} (R : Rds w A n 2 FrC xs) {k : Nat} (hk : k < n) :
    ∃ ad x, A = some ad ∧ xs[k]? = some x ∧ w.cell? (ad.add (k * 2)) = some (.int .i64 x.1) ∧ w.cell? ⟨(ad.add (k * 2)).block, (ad.add (k * 2)).off + 1, none⟩ = some (.int .i64 x.2) := by
  obtain ⟨ad, h1, h2⟩ := R.2.2 (by omega)
  have hx : xs[k]? = some (xs[k]'(by rw [R.1]; exact hk)) := List.getElem?_eq_getElem _
  refine ⟨ad, _, h1, hx, h2 k _ hx 0 _ rfl, ?_⟩
  have h := h2 k _ hx 1 _ rfl
  rw [← Addr.add_add] at h
  exact h
theorem own_rdsF {w : World} {base n c : Nat} {E : TypeId} {A : Option Addr} {xs : List (Int × Int)} (O : w.ownsRow base E 2 (.slice A n c) n (xs.flatMap FrC)) (hn : n ≤ 1048576) : Rds w A n 2 FrC xs :=
  own_rds O (fun x _ => rfl) (by omega) (by omega)
def fmarks (k0 : Int) : Nat → List (Int × Int)
  | 0 => []
  | j + 1 => fmarks k0 j ++ [(k0 + 2 * (j : Int), k0 + 2 * (j : Int) + 1)]
theorem fmarks_len (k0 : Int) : ∀ j, (fmarks k0 j).length = j
  | 0 => rfl
  | j + 1 => by simp [fmarks, fmarks_len k0 j]
theorem fmarks_get (k0 : Int) {n j : Nat} (h : j < n) : (fmarks k0 n)[j]? = some (k0 + 2 * (j : Int), k0 + 2 * (j : Int) + 1) := by
  induction n with
  | zero => omega
  | succ n ih =>
    simp only [fmarks]
    by_cases hj : j < n
    · rw [List.getElem?_append_left (by rw [fmarks_len]; exact hj)]; exact ih hj
    · obtain rfl : j = n := by omega
      rw [List.getElem?_append_right (by rw [fmarks_len]; exact Nat.le_refl _), fmarks_len, Nat.sub_self]
      rfl
set_option maxHeartbeats 1000000 in
theorem eqFractionS_true (A A' : Option Addr) (n c c' : Nat) (xs : List (Int × Int)) (w : World) (R : Rds w A n 2 FrC xs) (R' : Rds w A' n 2 FrC xs) :
    Calls Try.prog 24 #[.slice A n c, .slice A' n c'] w fun e w' => e = .returned (.bool true) ∧ Below w.heap.size w w' := by
  have hn := R.2.1
  go_enter Try.func24, Try.ntmps24
  go_wp2_with fail
  go_loopw [5] (fun v wr => ∃ k : Nat, k ≤ n ∧ v = .int .i64 k ∧ Below w.heap.size w wr) (fun v _ => n - (intOf v).toNat)
  case atStart => exact ⟨0, by omega, rfl, Below.refl _ _⟩
  case round =>
    obtain ⟨j, hj, rfl, hB⟩ := hrel
    by_cases hlt : j < n
    · obtain ⟨ad, x, rfl, hx, e0, e1⟩ := (R.below hB).frac hlt
      obtain ⟨ad_, y, rfl, hy, d0, d1⟩ := (R'.below hB).frac hlt
      rw [hx] at hy; cases hy
      clear hx
      go_wp2_with fail
      go_region_held3 (fun w' => w'.cell? (ad.add (j * 2)) = some (.int .i64 x.1) ∧ w'.cell? ⟨(ad.add (j * 2)).block, (ad.add (j * 2)).off + 1, none⟩ = some (.int .i64 x.2) ∧ w'.cell? (ad_.add (j * 2)) = some (.int .i64 x.1) ∧ w'.cell? ⟨(ad_.add (j * 2)).block, (ad_.add (j * 2)).off + 1, none⟩ = some (.int .i64 x.2))
        (first | exact ⟨e0, e1, d0, d1⟩ | exact ⟨h1, h2, h3, h4⟩ | (refine ⟨?_, ?_, ?_, ?_⟩ <;> first | assumption | go_keep))
        ((go_at_call 30; refine (eqFraction_true _ _ _).mono ?_; rintro e w1 ⟨rfl, hb⟩; have h1 := (hb.cell (World.block_lt_of_cell? _ _ e0)).trans e0; have h2 := (hb.cell (World.block_lt_of_cell? _ _ e1)).trans e1; have h3 := (hb.cell (World.block_lt_of_cell? _ _ d0)).trans d0; have h4 := (hb.cell (World.block_lt_of_cell? _ _ d1)).trans d1; have hB1 := below_then hB.drew hB.drew.size hb))
      go_wp2_with fail
      go_roundw
      case rel => exact ⟨j + 1, by omega, by go_num, by first | exact hB1 | exact hB1.drew⟩
      case measure => simp [intOf]; omega
    · go_wp2_with fail
      go_ret
      exact ⟨rfl, hB⟩
theorem heldFractionS_any (A : Option Addr) (n c : Nat) (k0 : Int) (w : World) (R : Rds w A n 2 FrC (fmarks k0 n)) (hn : n ≤ 1048576) (h0 : 0 ≤ k0) (h1 : k0 ≤ 100000000) :
    Calls Try.prog 26 #[.slice A n c, .int .i64 k0] w fun e w' => e = .returned (.int .i64 (k0 + 2 * (n : Int))) ∧ w = w' := by
  go_enter Try.func26, Try.ntmps26
  go_wp2_with fail
  go_loop [1, 5] (fun kk v => ∃ k : Nat, k ≤ n ∧ v = .int .i64 k ∧ kk = .int .i64 (k0 + 2 * (k : Int))) (fun _ v => n - (intOf v).toNat)
  case atStart => exact ⟨0, by omega, rfl, by simp⟩
  case round =>
    obtain ⟨j, hj, rfl, rfl⟩ := hrel
    by_cases hlt : j < n
    · obtain ⟨ad, x, rfl, hx, e0, e1⟩ := R.frac hlt
      rw [fmarks_get k0 hlt] at hx
      cases hx
      go_wp2_with fail
      go_round
      case rel => exact ⟨j + 1, by omega, by go_num, by show Value.int .i64 _ = Value.int .i64 _; congr 1; omega⟩
      case measure => simp [intOf]; omega
    · go_wp2_with fail
      go_ret
      obtain rfl : j = n := by omega
      exact ⟨rfl, rfl⟩
theorem fm_set (k0 : Int) {j : Nat} {cs : List Value} (h : j * 2 + 1 < cs.length) :
    (((fmarks k0 j).flatMap FrC ++ cs.drop (j * 2)).set (j * 2) (.int .i64 (k0 + 2 * (j : Int)))).set (j * 2 + 1) (.int .i64 (k0 + 2 * (j : Int) + 1)) = (fmarks k0 (j + 1)).flatMap FrC ++ cs.drop ((j + 1) * 2) := by
  have e2 : ((fmarks k0 j).flatMap FrC).length = j * 2 := by rw [FrC_len, fmarks_len]
  rw [List.drop_eq_getElem_cons (show j * 2 < cs.length by omega), List.drop_eq_getElem_cons (show j * 2 + 1 < cs.length by omega)]
  rw [set_app _ _ _ _ _ e2.symm]
  have s2 := set_app ((fmarks k0 j).flatMap FrC ++ [Value.int .i64 (k0 + 2 * (j : Int))]) (cs.drop (j * 2 + 1 + 1)) (cs[j * 2 + 1]'h) (.int .i64 (k0 + 2 * (j : Int) + 1)) (j * 2 + 1) (by simp [e2])
  rw [List.append_assoc, List.append_assoc] at s2
  simp only [List.cons_append, List.nil_append] at s2
  rw [s2]
  simp only [fmarks, List.flatMap_append, List.flatMap_cons, List.flatMap_nil, List.append_nil, List.append_assoc, List.cons_append, List.nil_append]
  rw [show (j + 1) * 2 = j * 2 + 1 + 1 by omega]
theorem markFractionS_any (b E : Nat) (A : Option Addr) (n c : Nat) (xs : List (Int × Int)) (k0 : Int) (w : World) (O : w.ownsRow b E 2 (.slice A n c) n (xs.flatMap FrC)) (hn : n ≤ 1048576) (h0 : 0 ≤ k0) (h1 : k0 ≤ 100000000) :
    Calls Try.prog 25 #[.slice A n c, .int .i64 k0] w fun e w' => e = .returned (.int .i64 (k0 + 2 * (n : Int))) ∧ w'.ownsRow b E 2 (.slice A n c) n ((fmarks k0 n).flatMap FrC) ∧ w.grownBy w' (Value.ownBlock (.slice A n c)) := by
  rcases Nat.eq_zero_or_pos n with rfl | hpos
  · go_enter Try.func25, Try.ntmps25
    go_wp2_with fail
    go_loop [1, 5] (fun kk v => kk = .int .i64 k0 ∧ v = .int .i64 0) (fun _ _ => 0)
    case atStart => exact ⟨rfl, rfl⟩
    case round =>
      obtain ⟨rfl, rfl⟩ := hrel
      go_wp2_with fail
      go_ret
      exact ⟨by simp, by simpa [fmarks] using (show w.ownsRow b E 2 (.slice A 0 c) 0 [] from by have := O.1; have hx : xs.flatMap FrC = [] := List.eq_nil_of_length_eq_zero (by simpa using this); rw [hx] at O; exact O), ⟨rfl, rfl, rfl, Nat.le_refl _, fun _ _ _ => rfl⟩⟩
  · obtain ⟨g, L, rfl, hbg, hrow, hnc, hcm, hlen⟩ := own_row O hpos (by omega)
    have hxl : (xs.flatMap FrC).length = n * 2 := by have := O.1; simpa using this
    generalize hcs : xs.flatMap FrC ++ L = cs at hrow
    have hcl : cs.length = c * 2 := by rw [← hcs, List.length_append]; simpa using hlen
    clear hcs hlen O
    have HXL := Lib.hid hxl; clear hxl
    have HCL := Lib.hid hcl; clear hcl
    go_enter Try.func25, Try.ntmps25
    go_wp2_with fail
    go_loopw [1, 5] (fun kk v wr => ∃ k : Nat, k ≤ n ∧ v = .int .i64 k ∧ kk = .int .i64 (k0 + 2 * (k : Int)) ∧ Hid (Row wr g E ((fmarks k0 k).flatMap FrC ++ cs.drop (k * 2))) ∧ w.grownBy wr (some g)) (fun _ v _ => n - (intOf v).toNat)
    case atStart => exact ⟨0, by omega, rfl, by simp, Lib.hid (by simpa [fmarks] using hrow), ⟨rfl, rfl, rfl, Nat.le_refl _, fun _ _ _ => rfl⟩⟩
    case round =>
      obtain ⟨j, hj, rfl, rfl, hr, hg⟩ := hrel
      clear hrow
      by_cases hlt : j < n
      · have hjc : j * 2 + 1 < cs.length := by rw [HCL.out]; omega
        have hset := Lib.hid (fm_set k0 hjc)
        have hll : ((fmarks k0 j).flatMap FrC ++ cs.drop (j * 2)).length = cs.length := by rw [List.length_append, FrC_len, fmarks_len, List.length_drop]; omega
        obtain ⟨u0, c0⟩ : ∃ u, wr.cell? ⟨g, j * 2, none⟩ = some u := by
          rw [hr.out.cell]
          exact ⟨_, List.getElem?_eq_getElem (by rw [hll]; omega)⟩
        obtain ⟨u1, c1⟩ : ∃ u, wr.cell? ⟨g, j * 2 + 1, none⟩ = some u := by
          rw [hr.out.cell]
          exact ⟨_, List.getElem?_eq_getElem (by rw [hll]; omega)⟩
        have f0 := hr.out.frozen (j * 2)
        have f1 := hr.out.frozen (j * 2 + 1)
        clear hll hjc
        have HG := Lib.hid hg; clear hg
        go_wp2_with fail
        go_roundw
        case rel =>
          refine ⟨j + 1, by omega, by go_num, by show Value.int .i64 _ = Value.int .i64 _; congr 1; omega, Lib.hid (by rw [← hset.out]; exact (hr.out.set (j * 2) _).set (j * 2 + 1) _), ?_⟩
          exact ⟨HG.out.os, HG.out.tape, HG.out.output, by simpa [World.setCell] using HG.out.size, fun i hi hne => by
            rw [heap_setCell_other _ _ _ _ (by intro e; exact hne (by rw [e])), heap_setCell_other _ _ _ _ (by intro e; exact hne (by rw [e]))]; exact HG.out.block i hi hne⟩
        case measure => simp [intOf]; omega
      · go_wp2_with fail
        go_ret
        obtain rfl : j = n := by omega
        exact ⟨rfl, own_of_row hr.out hbg hnc hcm (by rw [FrC_len, fmarks_len]) (by rw [FrC_len, fmarks_len, List.length_drop, HCL.out]; omega), by simpa [Value.ownBlock] using hg⟩
end Go.Proofs.Ytppkcihdgedgoaa
