/- Contracts: parted and l02Part: a stripe parted in a copy of the web. -/
import Derived.Test.YtkdkdnjhhdpbmaaF1
namespace Go.Proofs.Ytkdkdnjhhdpbmaa
open Go.RowKit
set_option linter.unusedVariables false
set_option linter.unusedSimpArgs false
theorem row_at {w : World} {g E : Nat} {L : List Int} {T : List Value} (r : Row w g E (nums .i64 L ++ T)) {k : Nat} (h : k < L.length) : w.cell? ⟨g, k, none⟩ = some (.int .i64 (gd L k)) := by
  rw [r.cell, List.getElem?_append_left (by rw [nums_length]; exact h), nums_get, get_gd h]; rfl
theorem row_put {w : World} {g E : Nat} {L : List Int} {T : List Value} (r : Row w g E (nums .i64 L ++ T)) {k : Nat} (v : Int) (h : k < L.length) : Row (w.setCell ⟨g, k, none⟩ (.int .i64 v)) g E (nums .i64 (L.set k v) ++ T) := by
  have := r.set k (.int .i64 v)
  rwa [nums_set_app _ _ _ _ (by rw [nums_length]; exact h)] at this
theorem parted_any (A : Option Addr) (n c : Nat) (xs : List Int) (i : Nat) (w : World) (R : Rds w A n 1 (fun x : Int => [.int .i64 x]) xs) (h : webOk xs = true) (hi : i < n) :
    Calls Try.prog 26 #[.slice A n c, .int .i64 i] w (RetOwnT 2 1 n (nums .i64 (partL xs i)) [.bool (partOk xs i)] w) := by
  have HXL := Lib.hid R.1
  have hbd := webOk_bd h
  rw [HXL.out] at hbd
  obtain ⟨hn2, hn12, _, _⟩ := hbd
  have hS := webOk_small h
  have HSB : Hid (SumB xs n) := webOk_sum HXL.out h
  have hsb := sum_bd hS n HXL.out (by omega)
  have hgi := gd_web h i
  have hmb := moreAt_bd (i := i) h
  have hq : xs.sum / (n : Int) ≤ 20000000 := Int.le_trans (Int.ediv_le_self _ hsb.1) hsb.2
  rw [HXL.out] at hmb
  have hme : gd xs i - xs.sum / (n : Int) = moreAt xs i := by rw [moreAt, HXL.out]
  have HME := Lib.hid hme; clear hme
  go_enter Try.func26, Try.ntmps26
  go_wp2_with fail
  refine (clone_i64 A n c xs _ R (by omega) (by omega)).mono ?_
  rintro e w1 ⟨A1, c1, rfl, O1, hb⟩
  go_wp2_with fail
  refine (length_any _ _ _ _ (by omega)).mono ?_
  rintro e w' ⟨rfl, rfl⟩
  obtain ⟨g, T, rfl, hbg, hr, hnc, hcm, hlen⟩ := own_row O1 (by omega) (by omega)
  have HL := Lib.hid hlen; clear hlen
  have R1 := R.below hb
  obtain ⟨ad, x, rfl, hx, hcx⟩ := R1.at1 hi
  obtain rfl := gd_of hx
  clear hx
  go_wp2_with fail
  have q0 : ((n : Int) == 0) = false := by simp; omega
  have v1 : (xs.sum).tdiv (n : Int) = xs.sum / (n : Int) := Int.tdiv_eq_ediv_of_nonneg hsb.1
  have v2 : IntKind.i64.wrap (xs.sum / (n : Int)) = xs.sum / (n : Int) := IntWalk.i64_in _ (by omega)
  have v3 : IntKind.i64.wrap (gd xs i - xs.sum / (n : Int)) = moreAt xs i := by rw [HME.out]; exact IntWalk.i64_in _ (by rw [← HME.out]; omega)
  go_quiet ((go_at_call 31; exact Calls.quiet_of_same ((sumAll_any _ n c xs _ (R1.below (Joins.below_draws _ _ _)) HSB.out).mono fun e w2 ⟨h1, h2⟩ => ⟨h1, h2.symm⟩)))
  clear v1 v2 v3 hcx
  have hrq : Row (w1.drewN nq) g 2 (nums .i64 xs ++ T) := hr
  have hbq : Below w.heap.size w (w1.drewN nq) := hb.trans (Joins.below_draws _ _ _)
  have Oq : (w1.drewN nq).ownsRow w.heap.size 2 1 (.slice (some ⟨g, 0, none⟩) n c1) n (nums .i64 xs) := O1
  generalize w1.drewN nq = wq at *
  clear hr hb O1 R1
  by_cases hm : moreAt xs i ≤ 0
  · have e1 : partL xs i = xs := by simp [partL, hm]
    have e2 : partOk xs i = true := by simp [partOk, hm]
    have E1 := Lib.hid e1
    have E2 := Lib.hid e2
    clear e1 e2
    go_wp2_with fail
    go_ret2
    rw [E1.out, E2.out]
    exact ⟨_, _, rfl, Oq, hbq⟩
  · have e1 : partL xs i = part3 xs i := by simp [partL, hm]
    have e2 : partOk xs i = decide (maxL (part3 xs i) ≤ 10000) := by simp [partOk, hm]
    have E1 := Lib.hid e1
    have E2 := Lib.hid e2
    have hix : i < xs.length := by rw [HXL.out]; exact hi
    obtain ⟨p1, p2, p3⟩ := part_bd h hix (by omega)
    have hl : leftOf n i < n := leftOf_lt (by omega)
    have hrr : rightOf n i < n := rightOf_lt (by omega)
    have b1 := p1 (leftOf n i)
    have b2 := p2 (rightOf n i)
    have b3 := p1 i
    have hl1 := part1_len xs i
    have hl2 := part2_len xs i
    have hl3 := part3_len xs i
    rw [HXL.out] at hl1 hl2 hl3
    have hd : gd xs i - moreAt xs i = gd (part1 xs i) i := by unfold part1; rw [gd_set hix, if_pos rfl]
    have ra := row_put hrq (gd xs i - moreAt xs i) hix
    have ra' : Row (wq.setCell ⟨g, i, none⟩ (.int .i64 (gd xs i - moreAt xs i))) g 2 (nums .i64 (part1 xs i) ++ T) := ra
    have rb := row_put ra' (gd (part1 xs i) (leftOf n i) + (moreAt xs i + 1) / 2) (k := leftOf n i) (by omega)
    have eb : (part1 xs i).set (leftOf n i) (gd (part1 xs i) (leftOf n i) + (moreAt xs i + 1) / 2) = part2 xs i := by rw [part2, addAt, HXL.out]
    rw [eb] at rb
    have rc := row_put rb (gd (part2 xs i) (rightOf n i) + moreAt xs i / 2) (k := rightOf n i) (by omega)
    have ec : (part2 xs i).set (rightOf n i) (gd (part2 xs i) (rightOf n i) + moreAt xs i / 2) = part3 xs i := by rw [part3, addAt, HXL.out]
    rw [ec] at rc
    have c0 := row_at hrq hix
    have f0 := hrq.frozen i
    have ca := row_at ra' (k := leftOf n i) (by omega)
    have fa := ra'.frozen (leftOf n i)
    have cb := row_at rb (k := rightOf n i) (by omega)
    have fb := rb.frozen (rightOf n i)
    have b4 : 0 ≤ gd xs i - moreAt xs i ∧ gd xs i - moreAt xs i ≤ 100000000 := by rw [hd]; omega
    have o3 := own_of_row (base := w.heap.size) (n := n) (c := c1) (sz := 1) (xs := nums .i64 (part3 xs i)) rc hbg hnc hcm (by rw [nums_length]; omega) (by have := HL.out; rw [nums_length] at this ⊢; rw [HXL.out] at this; omega)
    have RZ := Lib.hid (own_rds1 o3 (by omega))
    have hb3 := Below.setCell (p := ⟨g, rightOf n i, none⟩) (Below.setCell (p := ⟨g, leftOf n i, none⟩) (Below.setCell (p := ⟨g, i, none⟩) hbq hbg (.int .i64 (gd xs i - moreAt xs i))) hbg (.int .i64 (gd (part1 xs i) (leftOf n i) + (moreAt xs i + 1) / 2))) hbg (.int .i64 (gd (part2 xs i) (rightOf n i) + moreAt xs i / 2))
    have O3 := Lib.hid o3; have HB3 := Lib.hid hb3; clear o3 hb3
    have RC := Lib.hid rc; clear rc rb ra ra' hrq eb ec
    have HD := Lib.hid hd; clear hd
    have il := left_int (n := n) (i := i) (by omega)
    have ir := right_int (n := n) (i := i)
    have hl0 : ((leftOf n i : Nat) : Int) < n := by omega
    have hr0 : ((rightOf n i : Nat) : Int) < n := by omega
    have q0 : ((n : Int) == 0) = false := by simp; omega
    generalize moreAt xs i = mo at *
    generalize leftOf n i = lf at *
    generalize rightOf n i = rt at *
    clear e1 e2 p1 p2 p3 hmb HME
    go_wp2_with fail
    refine (max_i64 (some ⟨g, 0, none⟩) n c1 (part3 xs i) _ RZ.out (by omega) (by omega)).mono ?_
    rintro e w9 ⟨rfl, rfl⟩
    go_wp2_with fail
    go_ret2
    rw [E1.out, E2.out]
    exact ⟨_, _, rfl, O3.out, HB3.out⟩
theorem l00Own_any (A : Option Addr) (n c : Nat) (xs : List Int) (w : World) (R : Rds w A n 1 (fun x : Int => [.int .i64 x]) xs) (h0 : 0 < n) (hn : n ≤ 1048576) :
    Calls Try.prog 30 #[.slice A n c] w (RetOwn 2 1 n (nums .i64 xs) w) := by
  have HXL := Lib.hid R.1
  obtain ⟨ad, rfl, hc⟩ := R.2.2 h0
  have hcells : ∀ (j : Nat) (u : Value), (nums .i64 xs)[j]? = some u → (w.alloc (.cells #[] 2)).cell? (ad.add j) = some u := by
    intro j u hu
    rw [nums_get] at hu
    obtain ⟨x, hx, rfl⟩ := Option.map_eq_some_iff.1 hu
    have := R.cellOf hx
    exact ((below_alloc1 w _).cell (World.block_lt_of_cell? w _ this)).trans this
  have HC := Lib.hid hcells; clear hcells hc
  obtain ⟨i0, hi, hz0, hz1, hz2⟩ := info_parts info_i64
  have O0 := own_empty w 2 1
  go_enter Try.func30, Try.ntmps30
  go_wp2_with ((at_builtin; refine wpList_append_own _ (by rfl) _ _ 24 (by rfl) w.heap.size 2 i0 (.int .i64 0) 1 8 Try.underlying24 hi hz0 hz1 hz2 rfl (by omega) _ 0 [] (by rfl) O0 ad n c (nums .i64 xs) (by rfl) (by rw [nums_length, HXL.out, Nat.mul_one]) HC.out (by intro u hu; obtain ⟨x, _, rfl⟩ := List.mem_map.1 hu; rfl) (by simp only [maxLen]; omega) (by omega) (by simp) ?_; intro v2 w2 O2 hg2 _))
  go_ret
  rw [Nat.zero_add, List.nil_append] at O2
  have hv : ∃ A' c', v2 = .slice A' n c' := by
    rcases O2.2 with ⟨rfl, h1⟩ | ⟨g, cap, cur, rfl, _⟩
    · omega
    · exact ⟨_, _, rfl⟩
  obtain ⟨A', c', rfl⟩ := hv
  exact ⟨A', c', rfl, O2, (below_alloc1 w _).grown hg2 (by simp) (fun k hk => by simp [Value.ownBlock] at hk; omega)⟩
theorem l02Part_any (A : Option Addr) (n c : Nat) (xs : List Int) (i : Nat) (w : World) (R : Rds w A n 1 (fun x : Int => [.int .i64 x]) xs) (h : webOk xs = true) (hi : i < n) :
    Calls Try.prog 28 #[.slice A n c, .int .i64 i] w (RetOwnT 2 1 n (nums .i64 (partL xs i)) [.bool (partOk xs i)] w) := by
  have HXL := Lib.hid R.1
  have hbd := webOk_bd h
  rw [HXL.out] at hbd
  obtain ⟨hn2, hn12, _, _⟩ := hbd
  have hS := webOk_small h
  have HSB : Hid (SumB xs n) := webOk_sum HXL.out h
  have hsb := sum_bd hS n HXL.out (by omega)
  have hgi := gd_web h i
  have hmb := moreAt_bd (i := i) h
  have hq : xs.sum / (n : Int) ≤ 20000000 := Int.le_trans (Int.ediv_le_self _ hsb.1) hsb.2
  rw [HXL.out] at hmb
  have hme : gd xs i - xs.sum / (n : Int) = moreAt xs i := by rw [moreAt, HXL.out]
  have HME := Lib.hid hme; clear hme
  go_enter Try.func28, Try.ntmps28
  go_wp2_with fail
  refine (l00Own_any A n c xs _ R (by omega) (by omega)).mono ?_
  rintro e w1 ⟨A1, c1, rfl, O1, hb⟩
  obtain ⟨g, T, rfl, hbg, hr, hnc, hcm, hlen⟩ := own_row O1 (by omega) (by omega)
  have HL := Lib.hid hlen; clear hlen
  have R1 := R.below hb
  obtain ⟨ad, x, rfl, hx, hcx⟩ := R1.at1 hi
  obtain rfl := gd_of hx
  clear hx
  go_wp2_with fail
  have q0 : ((n : Int) == 0) = false := by simp; omega
  have v1 : (xs.sum).tdiv (n : Int) = xs.sum / (n : Int) := Int.tdiv_eq_ediv_of_nonneg hsb.1
  have v2 : IntKind.i64.wrap (xs.sum / (n : Int)) = xs.sum / (n : Int) := IntWalk.i64_in _ (by omega)
  have v3 : IntKind.i64.wrap (gd xs i - xs.sum / (n : Int)) = moreAt xs i := by rw [HME.out]; exact IntWalk.i64_in _ (by rw [← HME.out]; omega)
  go_quiet ((go_at_call 39; exact Calls.quiet_of_same ((l02Total_any _ n c xs _ (R1.below (Joins.below_draws _ _ _)) HSB.out).mono fun e w2 ⟨h1, h2⟩ => ⟨h1, h2.symm⟩)))
  clear v1 v2 v3 hcx
  have hrq : Row (w1.drewN nq) g 2 (nums .i64 xs ++ T) := hr
  have hbq : Below w.heap.size w (w1.drewN nq) := hb.trans (Joins.below_draws _ _ _)
  have Oq : (w1.drewN nq).ownsRow w.heap.size 2 1 (.slice (some ⟨g, 0, none⟩) n c1) n (nums .i64 xs) := O1
  generalize w1.drewN nq = wq at *
  clear hr hb O1 R1
  by_cases hm : moreAt xs i ≤ 0
  · have e1 : partL xs i = xs := by simp [partL, hm]
    have e2 : partOk xs i = true := by simp [partOk, hm]
    have E1 := Lib.hid e1
    have E2 := Lib.hid e2
    clear e1 e2
    go_wp2_with fail
    go_ret2
    rw [E1.out, E2.out]
    exact ⟨_, _, rfl, Oq, hbq⟩
  · have e1 : partL xs i = part3 xs i := by simp [partL, hm]
    have e2 : partOk xs i = decide (maxL (part3 xs i) ≤ 10000) := by simp [partOk, hm]
    have E1 := Lib.hid e1
    have E2 := Lib.hid e2
    have hix : i < xs.length := by rw [HXL.out]; exact hi
    obtain ⟨p1, p2, p3⟩ := part_bd h hix (by omega)
    have hl : leftOf n i < n := leftOf_lt (by omega)
    have hrr : rightOf n i < n := rightOf_lt (by omega)
    have b1 := p1 (leftOf n i)
    have b2 := p2 (rightOf n i)
    have b3 := p1 i
    have hl1 := part1_len xs i
    have hl2 := part2_len xs i
    have hl3 := part3_len xs i
    rw [HXL.out] at hl1 hl2 hl3
    have hd : gd xs i - moreAt xs i = gd (part1 xs i) i := by unfold part1; rw [gd_set hix, if_pos rfl]
    have ra := row_put hrq (gd xs i - moreAt xs i) hix
    have ra' : Row (wq.setCell ⟨g, i, none⟩ (.int .i64 (gd xs i - moreAt xs i))) g 2 (nums .i64 (part1 xs i) ++ T) := ra
    have rb := row_put ra' (gd (part1 xs i) (leftOf n i) + (moreAt xs i + 1) / 2) (k := leftOf n i) (by omega)
    have eb : (part1 xs i).set (leftOf n i) (gd (part1 xs i) (leftOf n i) + (moreAt xs i + 1) / 2) = part2 xs i := by rw [part2, addAt, HXL.out]
    rw [eb] at rb
    have rc := row_put rb (gd (part2 xs i) (rightOf n i) + moreAt xs i / 2) (k := rightOf n i) (by omega)
    have ec : (part2 xs i).set (rightOf n i) (gd (part2 xs i) (rightOf n i) + moreAt xs i / 2) = part3 xs i := by rw [part3, addAt, HXL.out]
    rw [ec] at rc
    have c0 := row_at hrq hix
    have f0 := hrq.frozen i
    have ca := row_at ra' (k := leftOf n i) (by omega)
    have fa := ra'.frozen (leftOf n i)
    have cb := row_at rb (k := rightOf n i) (by omega)
    have fb := rb.frozen (rightOf n i)
    have b4 : 0 ≤ gd xs i - moreAt xs i ∧ gd xs i - moreAt xs i ≤ 100000000 := by rw [hd]; omega
    have o3 := own_of_row (base := w.heap.size) (n := n) (c := c1) (sz := 1) (xs := nums .i64 (part3 xs i)) rc hbg hnc hcm (by rw [nums_length]; omega) (by have := HL.out; rw [nums_length] at this ⊢; rw [HXL.out] at this; omega)
    have RZ := Lib.hid (own_rds1 o3 (by omega))
    have hb3 := Below.setCell (p := ⟨g, rightOf n i, none⟩) (Below.setCell (p := ⟨g, leftOf n i, none⟩) (Below.setCell (p := ⟨g, i, none⟩) hbq hbg (.int .i64 (gd xs i - moreAt xs i))) hbg (.int .i64 (gd (part1 xs i) (leftOf n i) + (moreAt xs i + 1) / 2))) hbg (.int .i64 (gd (part2 xs i) (rightOf n i) + moreAt xs i / 2))
    have O3 := Lib.hid o3; have HB3 := Lib.hid hb3; clear o3 hb3
    have HPW := Lib.hid (part_web h hix (by omega))
    have RC := Lib.hid rc; clear rc rb ra ra' hrq eb ec
    have HD := Lib.hid hd; clear hd
    have il := left_int (n := n) (i := i) (by omega)
    have ir := right_int (n := n) (i := i)
    have hl0 : ((leftOf n i : Nat) : Int) < n := by omega
    have hr0 : ((rightOf n i : Nat) : Int) < n := by omega
    have q0 : ((n : Int) == 0) = false := by simp; omega
    generalize moreAt xs i = mo at *
    generalize leftOf n i = lf at *
    generalize rightOf n i = rt at *
    clear e1 e2 p1 p2 p3 hmb HME
    go_wp2_with fail
    refine (l02Ok_any (some ⟨g, 0, none⟩) n c1 (part3 xs i) _ RZ.out).mono ?_
    rintro e w9 ⟨rfl, rfl⟩
    go_wp2_with fail
    go_ret2
    rw [E1.out, E2.out, ← HPW.out]
    exact ⟨_, _, rfl, O3.out, HB3.out⟩
end Go.Proofs.Ytkdkdnjhhdpbmaa
