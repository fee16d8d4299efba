/- Contracts: lists of yarns compared; SameYarns. -/
import Derived.Test.YthllecfbpipagaaY5
import Derived.BigQuiet
import Derived.Deep.QuietTactic
import Derived.Deep.RegionHeld3
namespace Go.Proofs.Ythllecfbpipagaa
open Go.RowKit
set_option linter.unusedVariables false
set_option linter.unusedSimpArgs false
set_option maxHeartbeats 1000000 in
theorem eqYarnS_true (A A' : Option Addr) (n c c' : Nat) (xs : List (Int × Int × Int)) (w : World) (R : Rds w A n 3 YC xs) (R' : Rds w A' n 3 YC xs) :
    Calls Try.prog 13 #[.slice A n c, .slice A' n c'] w fun e w' => e = .returned (.bool true) ∧ Below w.heap.size w w' := by
  have hn := R.2.1
  go_enter Try.func13, Try.ntmps13
  go_wp2_with fail
  go_loopw [5] (fun v wr => ∃ k : Nat, k ≤ n ∧ v = .int .i64 k ∧ Below w.heap.size w wr) (fun v _ => n - (intOf v).toNat)
  case atStart => exact ⟨0, by omega, rfl, Below.refl _ _⟩
  case round =>
    obtain ⟨j, hj, rfl, hB⟩ := hrel
    by_cases hlt : j < n
    · obtain ⟨ad, x, rfl, hx, e0, e1, e2⟩ := (R.below hB).yarn hlt
      obtain ⟨ad_, y, rfl, hy, d0, d1, d2⟩ := (R'.below hB).yarn hlt
      rw [hx] at hy; cases hy
      clear hx
      go_wp2_with fail
      go_region_held3 (fun w' => w'.cell? (ad.add (j * 3)) = some (.int .i16 x.1) ∧ w'.cell? ⟨(ad.add (j * 3)).block, (ad.add (j * 3)).off + 1, none⟩ = some (.int .i16 x.2.1) ∧ w'.cell? ⟨(ad.add (j * 3)).block, (ad.add (j * 3)).off + 2, none⟩ = some (.int .i16 x.2.2) ∧ w'.cell? (ad_.add (j * 3)) = some (.int .i16 x.1) ∧ w'.cell? ⟨(ad_.add (j * 3)).block, (ad_.add (j * 3)).off + 1, none⟩ = some (.int .i16 x.2.1) ∧ w'.cell? ⟨(ad_.add (j * 3)).block, (ad_.add (j * 3)).off + 2, none⟩ = some (.int .i16 x.2.2))
        (first | exact ⟨e0, e1, e2, d0, d1, d2⟩ | (refine ⟨?_, ?_, ?_, ?_, ?_, ?_⟩ <;> first | assumption | go_keep))
        ((go_at_call 22; refine (eqYarn_true _ _ _ _).mono ?_; rintro e w1 ⟨rfl, hb⟩; have h1 := (hb.cell (World.block_lt_of_cell? _ _ e0)).trans e0; have h2 := (hb.cell (World.block_lt_of_cell? _ _ e1)).trans e1; have h3 := (hb.cell (World.block_lt_of_cell? _ _ e2)).trans e2; have h4 := (hb.cell (World.block_lt_of_cell? _ _ d0)).trans d0; have h5 := (hb.cell (World.block_lt_of_cell? _ _ d1)).trans d1; have h6 := (hb.cell (World.block_lt_of_cell? _ _ d2)).trans d2; have hB1 := below_then hB.drew hB.drew.size hb))
      go_wp2_with fail
      go_roundw
      case rel => exact ⟨j + 1, by omega, by go_num, by first | exact hB1 | exact hB1.drew⟩
      case measure => simp [intOf]; omega
    · go_wp2_with fail
      go_ret
      exact ⟨rfl, hB⟩
def samE (xs ys : List (Int × Int × Int)) : Bool := decide (xs = ys)
theorem same_step {xs ys : List (Int × Int × Int)} {k : Nat} {x y : Int × Int × Int} (h : xs.take k = ys.take k) (hx : xs[k]? = some x) (hy : ys[k]? = some y) (e : x = y) : xs.take (k + 1) = ys.take (k + 1) := by
  rw [List.take_add_one, List.take_add_one, h, hx, hy, e]
theorem same_not {xs ys : List (Int × Int × Int)} {k : Nat} {x y : Int × Int × Int} (hx : xs[k]? = some x) (hy : ys[k]? = some y) (e : x ≠ y) : samE xs ys = false := by
  unfold samE
  rw [decide_eq_false_iff_not]
  intro h
  subst h
  rw [hx] at hy
  exact e (Option.some.inj hy)
set_option maxHeartbeats 1000000 in
theorem slicesEqual_any (A A' : Option Addr) (n m c c' : Nat) (xs ys : List (Int × Int × Int)) (w : World) (R : Rds w A n 3 YC xs) (R' : Rds w A' m 3 YC ys) :
    Calls Try.prog 28 #[.slice A n c, .slice A' m c'] w fun e w' => e = .returned (.bool (samE xs ys)) ∧ Below w.heap.size w w' := by
  have hn := R.2.1
  have hm := R'.2.1
  have hxl := R.1
  have hyl := R'.1
  by_cases hnm : n = m
  rotate_left
  · have hs : samE xs ys = false := by
      unfold samE
      rw [decide_eq_false_iff_not]
      intro h
      rw [h] at hxl
      omega
    have HS := Lib.hid hs; clear hs hxl hyl
    have q : ((n : Int) != (m : Int)) = true := by simp; omega
    go_enter Try.func28, Try.ntmps28
    go_wp2_with fail
    go_ret
    exact ⟨by rw [HS.out]; rfl, Below.refl _ _⟩
  · subst hnm
    have HXL := Lib.hid hxl; have HYL := Lib.hid hyl; clear hxl hyl
    go_enter Try.func28, Try.ntmps28
    go_wp2_with fail
    go_loopw [13] (fun v wr => ∃ k : Nat, k ≤ n ∧ v = .int .i64 k ∧ Hid (xs.take k = ys.take k) ∧ Below w.heap.size w wr) (fun v _ => n - (intOf v).toNat)
    case atStart => exact ⟨0, by omega, rfl, Lib.hid (by simp), Below.refl _ _⟩
    case round =>
      obtain ⟨j, hj, rfl, HT, hB⟩ := hrel
      by_cases hlt : j < n
      · obtain ⟨ad, x, rfl, hx, e0, e1, e2⟩ := (R.below hB).yarn hlt
        obtain ⟨ad_, y, rfl, hy, d0, d1, d2⟩ := (R'.below hB).yarn hlt
        by_cases hxy : x = y
        · have HN := Lib.hid (same_step HT.out hx hy hxy)
          subst hxy
          clear hx hy
          go_wp2_with fail
          go_quiet (fail)
          go_wp2_with fail
          go_roundw
          case rel => exact ⟨j + 1, by omega, by go_num, HN, hB.trans (Joins.below_draws _ _ nq)⟩
          case measure => simp [intOf]; omega
        · have HN := Lib.hid (same_not hx hy hxy)
          clear hx hy
          obtain ⟨x1, x2, x3⟩ := x
          obtain ⟨y1, y2, y3⟩ := y
          simp only [] at e0 e1 e2 d0 d1 d2
          have hd : (x1 == y1 && (x2 == y2 && x3 == y3)) = false := by
            rw [Bool.and_eq_false_iff, Bool.and_eq_false_iff]
            simp only [beq_eq_false_iff_ne, ne_eq]
            by_cases h1 : x1 = y1
            · by_cases h2 : x2 = y2
              · right; right; intro h3; exact hxy (by rw [h1, h2, h3])
              · right; left; exact h2
            · left; exact h1
          have hd2 : (((x1 == y1) && (x2 == y2)) && (x3 == y3)) = false := by rw [Bool.and_assoc]; exact hd
          cases f1 : (x1 == y1)
          all_goals cases f2 : (x2 == y2)
          all_goals cases f3 : (x3 == y3)
          all_goals simp only [f1, f2, f3, Bool.and_true, Bool.and_false, Bool.true_and, Bool.false_and] at hd hd2
          all_goals try (exfalso; exact Bool.noConfusion hd)
          all_goals clear hxy
          all_goals go_wp2_with fail
          all_goals go_quiet (fail)
          all_goals go_wp2_with fail
          all_goals go_ret
          all_goals exact ⟨by rw [HN.out]; rfl, hB.trans (Joins.below_draws _ _ nq)⟩
      · obtain rfl : j = n := by omega
        have hs : samE xs ys = true := by
          unfold samE
          rw [decide_eq_true_eq]
          have h := HT.out
          rwa [List.take_of_length_le (by rw [HXL.out]; exact Nat.le_refl _), List.take_of_length_le (by rw [HYL.out]; exact Nat.le_refl _)] at h
        have HS := Lib.hid hs; clear hs
        go_wp2_with fail
        go_ret
        exact ⟨by rw [HS.out]; rfl, hB⟩
set_option maxHeartbeats 1000000 in
theorem sSameYarns (A A' : Option Addr) (n m c c' : Nat) (xs ys : List (Int × Int × Int)) (w : World) (R : Rds w A n 3 YC xs) (R' : Rds w A' m 3 YC ys) :
    Calls Try.prog 10 #[.slice A n c, .slice A' m c'] w fun e w' => e = .returned (.bool (samE xs ys)) ∧ Below w.heap.size w w' := by
  have hn := R.2.1
  have hm := R'.2.1
  have hxl := R.1
  have hyl := R'.1
  by_cases hnm : n = m
  rotate_left
  · have hs : samE xs ys = false := by
      unfold samE
      rw [decide_eq_false_iff_not]
      intro h
      rw [h] at hxl
      omega
    have HS := Lib.hid hs; clear hs hxl hyl
    have q : ((n : Int) != (m : Int)) = true := by simp; omega
    go_enter Try.func10, Try.ntmps10
    go_wp2_with fail
    go_ret
    exact ⟨by rw [HS.out]; rfl, Below.refl _ _⟩
  · subst hnm
    have HXL := Lib.hid hxl; have HYL := Lib.hid hyl; clear hxl hyl
    go_enter Try.func10, Try.ntmps10
    go_wp2_with fail
    go_loopw [5] (fun v wr => ∃ k : Nat, k ≤ n ∧ v = .int .i64 k ∧ Hid (xs.take k = ys.take k) ∧ Below w.heap.size w wr) (fun v _ => n - (intOf v).toNat)
    case atStart => exact ⟨0, by omega, rfl, Lib.hid (by simp), Below.refl _ _⟩
    case round =>
      obtain ⟨j, hj, rfl, HT, hB⟩ := hrel
      by_cases hlt : j < n
      · obtain ⟨ad, x, rfl, hx, e0, e1, e2⟩ := (R.below hB).yarn hlt
        obtain ⟨ad_, y, rfl, hy, d0, d1, d2⟩ := (R'.below hB).yarn hlt
        by_cases hxy : x = y
        · have HN := Lib.hid (same_step HT.out hx hy hxy)
          subst hxy
          clear hx hy
          go_wp2_with fail
          go_quiet (fail)
          go_wp2_with fail
          go_roundw
          case rel => exact ⟨j + 1, by omega, by go_num, HN, hB.trans (Joins.below_draws _ _ nq)⟩
          case measure => simp [intOf]; omega
        · have HN := Lib.hid (same_not hx hy hxy)
          clear hx hy
          obtain ⟨x1, x2, x3⟩ := x
          obtain ⟨y1, y2, y3⟩ := y
          simp only [] at e0 e1 e2 d0 d1 d2
          have hd : (x1 == y1 && (x2 == y2 && x3 == y3)) = false := by
            rw [Bool.and_eq_false_iff, Bool.and_eq_false_iff]
            simp only [beq_eq_false_iff_ne, ne_eq]
            by_cases h1 : x1 = y1
            · by_cases h2 : x2 = y2
              · right; right; intro h3; exact hxy (by rw [h1, h2, h3])
              · right; left; exact h2
            · left; exact h1
          have hd2 : (((x1 == y1) && (x2 == y2)) && (x3 == y3)) = false := by rw [Bool.and_assoc]; exact hd
          cases f1 : (x1 == y1)
          all_goals cases f2 : (x2 == y2)
          all_goals cases f3 : (x3 == y3)
          all_goals simp only [f1, f2, f3, Bool.and_true, Bool.and_false, Bool.true_and, Bool.false_and] at hd hd2
          all_goals try (exfalso; exact Bool.noConfusion hd)
          all_goals clear hxy
          all_goals go_wp2_with fail
          all_goals go_quiet (fail)
          all_goals go_wp2_with fail
          all_goals go_ret
          all_goals exact ⟨by rw [HN.out]; rfl, hB.trans (Joins.below_draws _ _ nq)⟩
      · obtain rfl : j = n := by omega
        have hs : samE xs ys = true := by
          unfold samE
          rw [decide_eq_true_eq]
          have h := HT.out
          rwa [List.take_of_length_le (by rw [HXL.out]; exact Nat.le_refl _), List.take_of_length_le (by rw [HYL.out]; exact Nat.le_refl _)] at h
        have HS := Lib.hid hs; clear hs
        go_wp2_with fail
        go_ret
        exact ⟨by rw [HS.out]; rfl, hB⟩
theorem iSameYarns (A A' : Option Addr) (n m c c' : Nat) (xs ys : List (Int × Int × Int)) (w : World) (R : Rds w A n 3 YC xs) (R' : Rds w A' m 3 YC ys) :
    Calls Try.prog 12 #[.slice A n c, .slice A' m c'] w fun e w' => e = .returned (.bool (samE xs ys)) ∧ Below w.heap.size w w' := by
  go_enter Try.func12, Try.ntmps12
  go_wp2_with fail
  refine (slicesEqual_any A A' n m c c' xs ys _ R R').mono ?_
  rintro e w1 ⟨rfl, hb⟩
  go_wp2_with fail
  go_ret
  exact ⟨rfl, hb⟩
theorem sSameW (A : Option Addr) (n c : Nat) (xs : List (Int × Int × Int)) (A' : Option Addr) (m c' : Nat) (ys : List (Int × Int × Int)) (w : World) (R : Rds w A n 3 YC xs) (gxs : Hid (∀ x ∈ xs, ((Lit.int .i16 x.1).wf = true ∧ (Lit.int .i16 x.2.1).wf = true ∧ (Lit.int .i16 x.2.2).wf = true))) (R' : Rds w A' m 3 YC ys) (gys : Hid (∀ x ∈ ys, ((Lit.int .i16 x.1).wf = true ∧ (Lit.int .i16 x.2.1).wf = true ∧ (Lit.int .i16 x.2.2).wf = true))) :
    Calls Try.prog 10 #[.slice A n c, .slice A' m c'] w fun e w' => e = .returned (.bool (samE xs ys)) ∧ Below w.heap.size w w' := sSameYarns A A' n m c c' xs ys w R R'
theorem iSameW (A : Option Addr) (n c : Nat) (xs : List (Int × Int × Int)) (A' : Option Addr) (m c' : Nat) (ys : List (Int × Int × Int)) (w : World) (R : Rds w A n 3 YC xs) (gxs : Hid (∀ x ∈ xs, ((Lit.int .i16 x.1).wf = true ∧ (Lit.int .i16 x.2.1).wf = true ∧ (Lit.int .i16 x.2.2).wf = true))) (R' : Rds w A' m 3 YC ys) (gys : Hid (∀ x ∈ ys, ((Lit.int .i16 x.1).wf = true ∧ (Lit.int .i16 x.2.1).wf = true ∧ (Lit.int .i16 x.2.2).wf = true))) :
    Calls Try.prog 12 #[.slice A n c, .slice A' m c'] w fun e w' => e = .returned (.bool (samE xs ys)) ∧ Below w.heap.size w w' := iSameYarns A A' n m c c' xs ys w R R'
end Go.Proofs.Ythllecfbpipagaa
