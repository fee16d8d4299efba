/- Contracts: sizes, greatest common divisors, fractions in lowest terms. -/
import Derived.Test.YtbkhlcbnnjgdpaaGreatDoorBa
import Derived.BigQuiet
import Derived.RegionTactic
import Derived.BigRegion
namespace Go.Proofs.YtbkhlcbnnjgdpaaGreatDoor
open Go.RowKit
set_option linter.unusedVariables false
set_option linter.unusedSimpArgs false
def gI (a b : Int) : Int := (Nat.gcd a.natAbs b.natAbs : Nat)
def dI (a b : Int) : Int := if b < 0 then -gI a b else gI a b
def frN (a b : Int) : Int := a.tdiv (dI a b)
def frD (a b : Int) : Int := b.tdiv (dI a b)
abbrev Fr (a b : Int) : Value := .agg #[.int .i64 a, .int .i64 b]
theorem gI_pos {a b : Int} (h : b ≠ 0) : 0 < gI a b := by
  unfold gI
  have : 0 < Nat.gcd a.natAbs b.natAbs := Nat.gcd_pos_of_pos_right _ (Int.natAbs_pos.2 h)
  omega
theorem gI_le {a b : Int} (h : b ≠ 0) : gI a b ≤ b.natAbs := by
  unfold gI
  have : Nat.gcd a.natAbs b.natAbs ≤ b.natAbs := Nat.gcd_le_right _ (Int.natAbs_pos.2 h)
  omega
theorem tdiv_le (a d : Int) : -(a.natAbs : Int) ≤ a.tdiv d ∧ a.tdiv d ≤ a.natAbs := by
  have : (a.tdiv d).natAbs ≤ a.natAbs := by rw [Int.natAbs_tdiv]; exact Nat.div_le_self _ _
  omega
def Mid (a : Int) : Prop := -1000000000000000000 ≤ a ∧ a ≤ 1000000000000000000
theorem size_any (a : Int) (w : World) (h : Mid a) : Calls Tryz.prog 95 #[.int .i64 a] w fun e w' => e = .returned (.int .i64 a.natAbs) ∧ w = w' := by
  unfold Mid at h
  by_cases h0 : a < 0
  all_goals
    go_enter Tryz.func95, Tryz.ntmps95
    go_wp2
    go_ret
    exact ⟨ret_int (by first | omega | (split <;> omega)), rfl⟩
theorem divisor_any (a b : Int) (w : World) (ha : Mid a) (hb : Mid b) : Calls Tryz.prog 78 #[.int .i64 a, .int .i64 b] w fun e w' => e = .returned (.int .i64 (gI a b)) ∧ Below w.heap.size w w' := by
  have ha' := ha
  have hb' := hb
  unfold Mid at ha' hb'
  go_enter Tryz.func78, Tryz.ntmps78
  go_wp2_with (go_at_call 95; (refine (size_any _ _ (by assumption)).mono ?_); rintro e w' ⟨rfl, rfl⟩)
  clear ha hb
  go_loopw [0, 1] (fun p q wr => ∃ x y : Nat, p = .int .i64 x ∧ q = .int .i64 y ∧ x ≤ 1000000000000000000 ∧ y ≤ 1000000000000000000 ∧ Hid (Nat.gcd x y = Nat.gcd a.natAbs b.natAbs) ∧ Below w.heap.size w wr) (fun _ q _ => (intOf q).toNat)
  case atStart => exact ⟨a.natAbs, b.natAbs, rfl, rfl, by omega, by omega, rfl, Below.refl _ _⟩
  case round =>
    obtain ⟨x, y, rfl, rfl, hx, hy, HG, hB⟩ := hrel
    by_cases h0 : y = 0
    · subst h0
      have q1 : (((0 : Nat) : Int) != 0) = false := by decide
      go_wp2_with fail
      go_ret
      exact ⟨by rw [gI, ← HG.out, Nat.gcd_zero_right]; rfl, hB⟩
    · have q1 : ((y : Int) != 0) = true := by simp; omega
      have hm : x % y < y := Nat.mod_lt _ (by omega)
      have v1 : (x : Int).tmod (y : Int) = ((x % y : Nat) : Int) := by rw [Int.tmod_eq_emod_of_nonneg (by omega)]; rfl
      have v2 : IntKind.i64.wrap ((x % y : Nat) : Int) = ((x % y : Nat) : Int) := IntWalk.i64_in _ (by omega)
      have V1 := Lib.hid v1; clear v1
      have V2 := Lib.hid v2; clear v2
      have q2 : ((y : Int) == 0) = false := by simp; omega
      go_wp2_with fail
      have v1 := V1.out
      have v2 := V2.out
      go_quiet (fail)
      clear v1 v2
      go_wp2_with fail
      go_roundw
      case rel => exact ⟨y, x % y, rfl, by first | rfl | (rw [V1.out]) | (congr 1; exact V1.out) | (simp [V1.out]), hy, by omega, by show Nat.gcd y (x % y) = _; rw [← HG.out, Nat.gcd_comm, ← Nat.gcd_rec, Nat.gcd_comm], hB.trans (Joins.below_draws _ _ _)⟩
      case measure => simp [intOf]; omega
theorem fraction_any (a b : Int) (w : World) (ha : Mid a) (hb : Mid b) (h0 : b ≠ 0) : Calls Tryz.prog 53 #[.int .i64 a, .int .i64 b] w fun e w' => e = .returned (Fr (frN a b) (frD a b)) ∧ Below w.heap.size w w' := by
  have hp := gI_pos (a := a) h0
  have hl := gI_le (a := a) h0
  have ha' := ha
  have hb' := hb
  unfold Mid at ha' hb'
  by_cases hneg : b < 0
  · go_enter Tryz.func53, Tryz.ntmps53
    go_wp2_with (go_at_call 78; (refine (divisor_any _ _ _ ha hb).mono ?_); rintro e w1 ⟨rfl, hb1⟩)
    have r1 : Row w1 w.heap.size 48 [.int .i64 0, .int .i64 0] := (Row.alloc w [.int .i64 0, .int .i64 0] 48).below hb1
    have c1 := r1.cell 0
    have c2 := r1.cell 1
    have f1 := r1.frozen 0
    have f2 := r1.frozen 1
    have s0 := fun v => (r1.set 0 v).cell 0
    have s1 := fun v u => ((r1.set 0 v).set 1 u).cell 1
    simp at c1 c2 s0 s1
    have t1 := tdiv_le a (-gI a b)
    have t2 := tdiv_le b (-gI a b)
    have v1 : IntKind.i64.wrap (-a.tdiv (gI a b)) = -a.tdiv (gI a b) := IntWalk.i64_in _ (by rw [Int.tdiv_neg] at t1; omega)
    have v2 : IntKind.i64.wrap (-b.tdiv (gI a b)) = -b.tdiv (gI a b) := IntWalk.i64_in _ (by rw [Int.tdiv_neg] at t2; omega)
    have q1 : ((-gI a b) == 0) = false := by simp; omega
    have q2 : ¬ (-gI a b) = 0 := by omega
    have hB := below_then (B := w.heap.size) (below_alloc1 w _) (by go_size) hb1
    clear hb1 t1 t2
    go_region
    all_goals clear v1 v2
    all_goals go_wp2_with fail
    all_goals refine bodyPost_ret (v := Fr (-a.tdiv (gI a b)) (-b.tdiv (gI a b))) (by simp [results, Tryz.results53, go_sem, s0, s1]) rfl ⟨by simp [frN, frD, dI, hneg, Int.tdiv_neg], by go_grown⟩
  · go_enter Tryz.func53, Tryz.ntmps53
    go_wp2_with (go_at_call 78; (refine (divisor_any _ _ _ ha hb).mono ?_); rintro e w1 ⟨rfl, hb1⟩)
    have r1 : Row w1 w.heap.size 48 [.int .i64 0, .int .i64 0] := (Row.alloc w [.int .i64 0, .int .i64 0] 48).below hb1
    have c1 := r1.cell 0
    have c2 := r1.cell 1
    have f1 := r1.frozen 0
    have f2 := r1.frozen 1
    have s0 := fun v => (r1.set 0 v).cell 0
    have s1 := fun v u => ((r1.set 0 v).set 1 u).cell 1
    simp at c1 c2 s0 s1
    have t1 := tdiv_le a (gI a b)
    have t2 := tdiv_le b (gI a b)
    have v1 : IntKind.i64.wrap (a.tdiv (gI a b)) = a.tdiv (gI a b) := IntWalk.i64_in _ (by omega)
    have v2 : IntKind.i64.wrap (b.tdiv (gI a b)) = b.tdiv (gI a b) := IntWalk.i64_in _ (by omega)
    have q1 : ((gI a b) == 0) = false := by simp; omega
    have q2 : ¬ (gI a b) = 0 := by omega
    have hB := below_then (B := w.heap.size) (below_alloc1 w _) (by go_size) hb1
    clear hb1 t1 t2
    go_region
    all_goals clear v1 v2
    all_goals go_wp2_with fail
    all_goals refine bodyPost_ret (v := Fr (a.tdiv (gI a b)) (b.tdiv (gI a b))) (by simp [results, Tryz.results53, go_sem, s0, s1]) rfl ⟨by simp [frN, frD, dI, show ¬ b < 0 from by omega], by go_grown⟩
theorem l01Common_any (a b : Int) (w : World) (ha : Mid a) (hb : Mid b) (ha0 : 0 ≤ a) (hb0 : 0 ≤ b) : Calls Tryz.prog 79 #[.int .i64 a, .int .i64 b] w fun e w' => e = .returned (.int .i64 (gI a b)) ∧ Below w.heap.size w w' := by
  unfold Mid at ha hb
  go_enter Tryz.func79, Tryz.ntmps79
  go_wp2_with fail
  go_loopw [0, 1] (fun p q wr => ∃ x y : Nat, p = .int .i64 x ∧ q = .int .i64 y ∧ x ≤ 1000000000000000000 ∧ y ≤ 1000000000000000000 ∧ Hid (Nat.gcd x y = Nat.gcd a.natAbs b.natAbs) ∧ Below w.heap.size w wr) (fun _ q _ => (intOf q).toNat)
  case atStart => exact ⟨a.natAbs, b.natAbs, by go_num, by go_num, by omega, by omega, rfl, Below.refl _ _⟩
  case round =>
    obtain ⟨x, y, rfl, rfl, hx, hy, HG, hB⟩ := hrel
    by_cases h0 : y = 0
    · subst h0
      have q1 : ¬ (0 : Int) < ((0 : Nat) : Int) := by decide
      go_wp2_with fail
      go_ret
      exact ⟨by rw [gI, ← HG.out, Nat.gcd_zero_right]; rfl, hB⟩
    · have q1 : (0 : Int) < (y : Int) := by omega
      have hm : x % y < y := Nat.mod_lt _ (by omega)
      have q2 : ((y : Int) == 0) = false := by simp; omega
      go_wp2_with fail
      go_roundw
      case rel => exact ⟨y, x % y, rfl, by first | rfl | (simp; done) | go_num, hy, by omega, by show Nat.gcd y (x % y) = _; rw [← HG.out, Nat.gcd_comm, ← Nat.gcd_rec, Nat.gcd_comm], hB⟩
      case measure => simp [intOf]; omega
theorem l01Make_any (a b : Int) (w : World) (ha : Mid a) (hb : Mid b) (h0 : 0 < b) : Calls Tryz.prog 55 #[.int .i64 a, .int .i64 b] w fun e w' => e = .returned (Fr (frN a b) (frD a b)) ∧ Below w.heap.size w w' := by
  have hp := gI_pos (a := a) (b := b) (by omega)
  have hl := gI_le (a := a) (b := b) (by omega)
  have hgm : gI (max a (-a)) b = gI a b := by unfold gI; congr 2; omega
  have HGM := Lib.hid hgm; clear hgm
  have hM : Mid (max a (-a)) := by unfold Mid at *; omega
  have hM0 : 0 ≤ max a (-a) := by omega
  have ha' := ha
  have hb' := hb
  unfold Mid at ha' hb'
  have hneg : ¬ b < 0 := by omega
  go_enter Tryz.func55, Tryz.ntmps55
  go_wp2_with (first
    | (go_at_call 80; (refine (l00Max_any _ _ _).mono ?_); rintro e w1 ⟨rfl, rfl⟩)
    | (go_at_call 79; (refine (l01Common_any _ _ _ hM hb hM0 (by omega)).mono ?_); rintro e w1 ⟨rfl, hb1⟩; rw [HGM.out]))
  have r1 : Row w1 w.heap.size 48 [.int .i64 0, .int .i64 0] := (Row.alloc w [.int .i64 0, .int .i64 0] 48).below hb1
  have c1 := r1.cell 0
  have c2 := r1.cell 1
  have f1 := r1.frozen 0
  have f2 := r1.frozen 1
  have s0 := fun v => (r1.set 0 v).cell 0
  have s1 := fun v u => ((r1.set 0 v).set 1 u).cell 1
  simp at c1 c2 s0 s1
  have t1 := tdiv_le a (gI a b)
  have t2 := tdiv_le b (gI a b)
  have v1 : IntKind.i64.wrap (a.tdiv (gI a b)) = a.tdiv (gI a b) := IntWalk.i64_in _ (by omega)
  have v2 : IntKind.i64.wrap (b.tdiv (gI a b)) = b.tdiv (gI a b) := IntWalk.i64_in _ (by omega)
  have q1 : (gI a b == 0) = false := by simp; omega
  have q2 : ¬ gI a b = 0 := by omega
  have hB := below_then (B := w.heap.size) (below_alloc1 w _) (by go_size) hb1
  clear hb1 t1 t2
  go_region
  all_goals clear v1 v2
  all_goals go_wp2_with fail
  all_goals refine bodyPost_ret (v := Fr (a.tdiv (gI a b)) (b.tdiv (gI a b))) (by simp [results, Tryz.results55, go_sem, s0, s1]) rfl ⟨by simp [frN, frD, dI, show ¬ b < 0 from by omega], by go_grown⟩
end Go.Proofs.YtbkhlcbnnjgdpaaGreatDoor
