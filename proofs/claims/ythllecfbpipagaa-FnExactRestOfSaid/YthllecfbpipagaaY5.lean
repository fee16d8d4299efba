/- Contracts: lists of yarns: made anew, compared; SameYarns. -/
import Derived.Test.YthllecfbpipagaaY1
import Derived.BigQuiet
import Derived.Deep.QuietTactic
import Derived.Deep.RegionHeld3
namespace Go.Proofs.Ythllecfbpipagaa
open Go.RowKit
set_option linter.unusedVariables false
set_option linter.unusedSimpArgs false
abbrev YC (y : Int × Int × Int) : List Value := [.int .i16 y.1, .int .i16 y.2.1, .int .i16 y.2.2]
theorem YC_len (xs : List (Int × Int × Int)) : (xs.flatMap YC).length = xs.length * 3 := by
  induction xs with
  | nil => rfl
  | cons x xs ih => simp only [List.flatMap_cons, List.length_append, ih, List.length_cons, List.length_nil]; omega
theorem Rds.yarn {w : World} {A : Option Addr} {n : Nat} {xs : List (Int × Int × Int)} (R : Rds w A n 3 YC xs) {k : Nat} (hk : k < n) :
    ∃ ad x, A = some ad ∧ xs[k]? = some x ∧ w.cell? (ad.add (k * 3)) = some (.int .i16 x.1) ∧ w.cell? ⟨(ad.add (k * 3)).block, (ad.add (k * 3)).off + 1, none⟩ = some (.int .i16 x.2.1) ∧ w.cell? ⟨(ad.add (k * 3)).block, (ad.add (k * 3)).off + 2, none⟩ = some (.int .i16 x.2.2) := by
  obtain ⟨ad, h1, h2⟩ := R.2.2 (by omega)
  have hx : xs[k]? = some (xs[k]'(by rw [R.1]; exact hk)) := List.getElem?_eq_getElem _
  refine ⟨ad, _, h1, hx, h2 k _ hx 0 _ rfl, ?_, ?_⟩
  · have h := h2 k _ hx 1 _ rfl
    rw [← Addr.add_add] at h
    exact h
  · have h := h2 k _ hx 2 _ rfl
    rw [← Addr.add_add] at h
    exact h
theorem own_rdsY {w : World} {base n c : Nat} {E : TypeId} {A : Option Addr} {xs : List (Int × Int × Int)} (O : w.ownsRow base E 3 (.slice A n c) n (xs.flatMap YC)) (hn : n ≤ 1048576) : Rds w A n 3 YC xs :=
  own_rds O (fun x _ => rfl) (by omega) (by omega)
theorem madeCells_yarn (m : Nat) : madeCells (Value.cells (.agg #[.int .i16 0, .int .i16 0, .int .i16 0])) (m * 3) = (List.replicate (m * 3) (.int .i16 0)).toArray := by
  apply Array.ext
  · simp [madeCells]
  · intro i h1 h2
    have h3 : i % 3 = 0 ∨ i % 3 = 1 ∨ i % 3 = 2 := by omega
    rcases h3 with h3 | h3 | h3 <;> simp [madeCells, Value.cells, h3]
def yFill (xs : List (Int × Int × Int)) (n k : Nat) : List Value := (xs.take k).flatMap YC ++ List.replicate ((n - k) * 3) (.int .i16 0)
theorem yFill_set {xs : List (Int × Int × Int)} {n k : Nat} {x : Int × Int × Int} (hx : xs[k]? = some x) (hl : xs.length = n) (hk : k < n) :
    (((yFill xs n k).set (k * 3) (.int .i16 x.1)).set (k * 3 + 1) (.int .i16 x.2.1)).set (k * 3 + 2) (.int .i16 x.2.2) = yFill xs n (k + 1) := by
  have e1 : (n - k) * 3 = (n - (k + 1)) * 3 + 1 + 1 + 1 := by omega
  have e2 : ((xs.take k).flatMap YC).length = k * 3 := by rw [YC_len, List.length_take]; congr 1; omega
  have e3 : xs.take (k + 1) = xs.take k ++ [x] := by rw [List.take_add_one, hx]; rfl
  unfold yFill
  rw [e1, List.replicate_succ, List.replicate_succ, List.replicate_succ, e3, List.flatMap_append]
  rw [set_app _ _ _ _ _ e2.symm]
  have s2 := set_app ((xs.take k).flatMap YC ++ [Value.int .i16 x.1]) (.int .i16 0 :: List.replicate ((n - (k + 1)) * 3) (.int .i16 0)) (.int .i16 0) (.int .i16 x.2.1) (k * 3 + 1) (by simp [e2])
  rw [List.append_assoc, List.append_assoc] at s2
  simp only [List.cons_append, List.nil_append] at s2
  rw [s2]
  have s3 := set_app ((xs.take k).flatMap YC ++ [Value.int .i16 x.1, .int .i16 x.2.1]) (List.replicate ((n - (k + 1)) * 3) (.int .i16 0)) (.int .i16 0) (.int .i16 x.2.2) (k * 3 + 2) (by simp [e2])
  rw [List.append_assoc, List.append_assoc] at s3
  simp only [List.cons_append, List.nil_append] at s3
  rw [s3]
  simp
theorem yFill_at {xs : List (Int × Int × Int)} {n k : Nat} (hl : xs.length = n) (hk : k < n) : (yFill xs n k)[k * 3]? = some (.int .i16 0) ∧ (yFill xs n k)[k * 3 + 1]? = some (.int .i16 0) ∧ (yFill xs n k)[k * 3 + 2]? = some (.int .i16 0) := by
  have e2 : ((xs.take k).flatMap YC).length = k * 3 := by rw [YC_len, List.length_take]; congr 1; omega
  unfold yFill
  refine ⟨?_, ?_, ?_⟩
  all_goals
    rw [List.getElem?_append_right (by omega), e2]
    rw [List.getElem?_replicate, if_pos (by omega)]
theorem szYarnS_le (A : Option Addr) (n c : Nat) (l : Int) (w : World) (h : (n : Int) ≤ l) (hl : l ≤ 1048576) : Calls Try.prog 9 #[.slice A n c, .int .i64 l] w fun e w' => e = .returned (.int .i64 (l - n)) ∧ w = w' := by
  go_enter Try.func9, Try.ntmps9
  go_wp2_with fail
  go_ret
  exact ⟨rfl, rfl⟩
theorem szYarnS_gt (A : Option Addr) (n c : Nat) (l : Int) (w : World) (h : l < (n : Int)) (hn : n ≤ 140737488351232) (h0 : 0 ≤ l) : Calls Try.prog 9 #[.slice A n c, .int .i64 l] w fun e w' => e = .returned (.int .i64 (-1)) ∧ w = w' := by
  go_enter Try.func9, Try.ntmps9
  go_wp2_with fail
  go_ret
  exact ⟨rfl, rfl⟩
set_option maxHeartbeats 1000000 in
theorem toYarnS_any (A : Option Addr) (n c : Nat) (xs : List (Int × Int × Int)) (w : World) (R : Rds w A n 3 YC xs) (hn : n ≤ 1048576) :
    Calls Try.prog 11 #[.slice A n c] w (RetOwn 35 3 n (xs.flatMap YC) w) := by
  have hxl := R.1
  have hmk := run_make_n (P := Try.prog) 25 35 (z := .agg #[.int .i16 0, .int .i16 0, .int .i16 0]) (sz := 3) (by_ := 6) Try.underlying25 (by kernel_rfl) n (by omega) (by omega)
  rw [madeCells_yarn] at hmk
  have h0 : Row (w.alloc (.cells (List.replicate (n * 3) (.int .i16 0)).toArray 35)) w.heap.size 35 (yFill xs n 0) := by
    have := Row.alloc w (List.replicate (n * 3) (.int .i16 0)) 35
    simpa [yFill] using this
  have hb0 := below_alloc1 w (.cells (List.replicate (n * 3) (.int .i16 0)).toArray 35)
  have H0 := Lib.hid h0; clear h0
  have HXL := Lib.hid hxl; clear hxl
  go_enter Try.func11, Try.ntmps11
  go_wp2_with fail
  go_loopw [4] (fun v wr => ∃ k : Nat, k ≤ n ∧ v = .int .i64 k ∧ Hid (Row wr w.heap.size 35 (yFill xs n k)) ∧ Below w.heap.size w wr) (fun v _ => n - (intOf v).toNat)
  case atStart => exact ⟨0, by omega, rfl, H0, hb0⟩
  case round =>
    obtain ⟨j, hj, rfl, hr, hB⟩ := hrel
    clear hmk H0 hb0
    by_cases hlt : j < n
    · obtain ⟨ad, x, rfl, hx, e0, e1, e2⟩ := (R.below hB).yarn hlt
      have hset := Lib.hid (yFill_set hx HXL.out hlt)
      obtain ⟨z0, z1, z2⟩ := yFill_at (xs := xs) HXL.out hlt
      have HX := Lib.hid hx; clear hx
      have Z0 := Lib.hid z0; have Z1 := Lib.hid z1; have Z2 := Lib.hid z2; clear z0 z1 z2
      go_wp2_with fail
      refine (toYarn x.1 x.2.1 x.2.2 _).mono ?_
      rintro e w1 ⟨rfl, hb⟩
      have hr1 := Lib.hid (hr.out.below hb)
      have c0 : w1.cell? ⟨w.heap.size, j * 3, none⟩ = some (.int .i16 0) := by rw [hr1.out.cell]; exact Z0.out
      have c1 : w1.cell? ⟨w.heap.size, j * 3 + 1, none⟩ = some (.int .i16 0) := by rw [hr1.out.cell]; exact Z1.out
      have c2 : w1.cell? ⟨w.heap.size, j * 3 + 2, none⟩ = some (.int .i16 0) := by rw [hr1.out.cell]; exact Z2.out
      have f0 := hr1.out.frozen (j * 3)
      have f1 := hr1.out.frozen (j * 3 + 1)
      have f2 := hr1.out.frozen (j * 3 + 2)
      clear e0 e1 e2
      have hB1 := below_then hB hB.size hb
      clear hb
      go_wp2_with fail
      go_roundw
      case rel => exact ⟨j + 1, by omega, by go_num, Lib.hid (by rw [← hset.out]; exact ((hr1.out.set (j * 3) _).set (j * 3 + 1) _).set (j * 3 + 2) _), by go_grown⟩
      case measure => simp [intOf]; omega
    · go_wp2_with fail
      go_ret
      obtain rfl : j = n := by omega
      have e1 : yFill xs j j = xs.flatMap YC := by
        unfold yFill
        rw [Nat.sub_self, Nat.zero_mul, List.replicate_zero, List.append_nil, List.take_of_length_le (by rw [HXL.out]; exact Nat.le_refl _)]
      have hr' := hr.out
      rw [e1] at hr'
      exact ⟨_, _, rfl, hr'.own (Nat.le_refl _) (by unfold maxLen; omega) (by rw [YC_len, HXL.out]), hB⟩
end Go.Proofs.Ythllecfbpipagaa
