/- Contracts: l02Roll, RollWeb. -/
import Derived.Test.YtefipngapgffdaaGreatDoorC10
import Derived.Test.YtefipngapgffdaaGreatDoorC3
import Derived.IntWalk
namespace Go.Proofs.YtefipngapgffdaaGreatDoor
open Go.RowKit
set_option linter.unusedVariables false
set_option linter.unusedSimpArgs false
theorem roll_get {xs : List Int} {n j : Nat} (hl : xs.length = n) (hj : j < n) (b : Int) : (rollL xs b)[j]? = xs[(((j : Int) - b % n + n) % n).toNat]? := by
  have m1 := Int.emod_nonneg b (show (n : Int) ≠ 0 by omega)
  have m2 := Int.emod_lt_of_pos b (show (0 : Int) < n by omega)
  unfold rollL
  rw [hl]
  obtain ⟨s, hs⟩ : ∃ s, b % (n : Int) = s := ⟨_, rfl⟩
  have hat : rollAt n b = if s = 0 then 0 else ((n : Int) - s).toNat := by
    unfold rollAt
    rw [hs]
    split
    · rename_i h; subst h; rw [Int.sub_zero, Int.emod_self]; rfl
    · rw [Int.emod_eq_of_lt (by omega) (by omega)]
  rw [hs] at m1 m2 ⊢
  rw [hat]
  by_cases h0 : s = 0
  · subst h0
    rw [if_pos rfl, List.drop_zero, List.take_zero, List.append_nil, Int.sub_zero, Int.add_emod_right, Int.emod_eq_of_lt (by omega) (by omega)]
    rfl
  · rw [if_neg h0]
    by_cases hjs : (j : Int) < s
    · rw [List.getElem?_append_left (by rw [List.length_drop]; omega), List.getElem?_drop, Int.emod_eq_of_lt (by omega) (by omega)]
      congr 1
      omega
    · rw [List.getElem?_append_right (by rw [List.length_drop]; omega), List.getElem?_take, if_pos (by rw [List.length_drop]; omega), Int.add_emod_right, Int.emod_eq_of_lt (by omega) (by omega)]
      congr 1
      rw [List.length_drop]
      omega
def rollR (xs : List Int) (b : Int) : List Int := if webOk xs then rollL xs b else []
theorem rollR_len (xs : List Int) (b : Int) : (rollR xs b).length ≤ 1048576 := by
  unfold rollR
  split
  · have := (webOk_bd ‹_›).2.1
    rw [rollL_len]; omega
  · simp
set_option maxHeartbeats 2000000 in
theorem l02Roll_any (A : Option Addr) (n c : Nat) (xs : List Int) (b : Int) (w : World) (R : Rds w A n 1 (fun x : Int => [.int .i64 x]) xs) (hb : -9223372036854775808 ≤ b ∧ b ≤ 9223372036854775807) (hn : 0 < n) (hn2 : n ≤ 12) :
    Calls Tryz.prog 45 #[.slice A n c, .int .i64 b] w (RetOwn 2 1 n (nums .i64 (rollL xs b)) w) := by
  have hxl := R.1
  obtain ⟨t1, t2, t3⟩ := tmod_fix (b := b) (n := (n : Int)) (by omega)
  have m1 := Int.emod_nonneg b (show (n : Int) ≠ 0 by omega)
  have m2 := Int.emod_lt_of_pos b (show (0 : Int) < n by omega)
  have HG := Lib.hid (fun j (hj : j < n) => roll_get hxl hj b)
  have HRL := Lib.hid (rollL_len xs b)
  obtain ⟨q, hq⟩ : ∃ q, b.tmod n = q := ⟨_, rfl⟩
  obtain ⟨s, hs⟩ : ∃ s, b % (n : Int) = s := ⟨_, rfl⟩
  rw [hq] at t1 t2 t3
  rw [hs] at t3 m1 m2
  have v1 : IntKind.i64.wrap q = q := IntWalk.i64_in _ (by omega)
  have v2 : IntKind.i64.wrap (q + n) = q + n := IntWalk.i64_in _ (by omega)
  have v3 : IntKind.i64.wrap s = s := IntWalk.i64_in _ (by omega)
  have z1 : ((n : Int) == 0) = false := by simp; omega
  have z2 : ¬ (n : Int) = 0 := by omega
  have HS := Lib.hid hs; have HXL := Lib.hid hxl; clear hs hxl
  go_enter Tryz.func45, Tryz.ntmps45
  go_wp2_with fail
  clear v1 v2 v3 t3 hq
  go_loopw [6, 7] (fun o v wr => ∃ (k : Nat) (A' : Option Addr) (c' : Nat), k ≤ n ∧ v = .int .i64 k ∧ o = .slice A' k c' ∧ wr.ownsRow w.heap.size 2 1 (.slice A' k c') k (nums .i64 ((rollL xs b).take k)) ∧ Below w.heap.size w wr) (fun _ v _ => n - (intOf v).toNat)
  case atStart => exact ⟨0, _, _, by omega, rfl, rfl, by simpa [nums] using own_empty w 2 1, by go_grown⟩
  case round =>
    obtain ⟨j, A', c', hj, rfl, rfl, O, hB⟩ := hrel
    by_cases hlt : j < n
    · have i1 := Int.emod_nonneg ((j : Int) - s + n) (show (n : Int) ≠ 0 by omega)
      have i2 := Int.emod_lt_of_pos ((j : Int) - s + n) (show (0 : Int) < n by omega)
      have i3 : ((j : Int) - s + n).tmod n = ((j : Int) - s + n) % n := Int.tmod_eq_emod_of_nonneg (by omega)
      obtain ⟨p, hp⟩ := Int.eq_ofNat_of_zero_le i1
      rw [hp] at i2 i3
      have hpn : p < n := by omega
      obtain ⟨ad, x, rfl, hx, hc⟩ := (R.below hB).at1 hpn
      have hg : (rollL xs b)[j]? = some x := by rw [HG.out j hlt, HS.out, hp]; simpa using hx
      have HV := Lib.hid (show (rollL xs b).take (j + 1) = (rollL xs b).take j ++ [x] by rw [List.take_add_one, hg]; rfl)
      have w1 : IntKind.i64.wrap ((j : Int) - s) = (j : Int) - s := IntWalk.i64_in _ (by omega)
      have w2 : IntKind.i64.wrap ((j : Int) - s + n) = (j : Int) - s + n := IntWalk.i64_in _ (by omega)
      have w3 : IntKind.i64.wrap (p : Int) = (p : Int) := IntWalk.i64_in _ (by omega)
      clear hx hg i1 hp
      go_wp2_with ((at_builtin; refine app_any (w0 := w) w.heap.size (by rfl) _ _ 24 2 (.int .i64 0) 1 8 (by rfl) Tryz.underlying24 info_i64 rfl (by omega) (by omega) _ (by rfl) 1 1 [.int .i64 x] (by rfl) (by rfl) (by simp [Value.oneCell']) O hB hB.size (by clear w1 w2 w3 i3; omega) ?_; intro A2 c2 w4 O2 HBn hg2))
      clear w1 w2 w3 i3
      rw [← nums_snoc, ← HV.out] at O2
      go_wp2_with fail
      go_roundw
      case rel => exact ⟨j + 1, A2, c2, by omega, by go_num, rfl, O2, HBn⟩
      case measure => simp [intOf]; omega
    · obtain rfl : j = n := by omega
      go_wp2_with fail
      go_ret
      refine ⟨A', c', rfl, ?_, hB⟩
      rw [List.take_of_length_le (by rw [HRL.out, HXL.out]; exact Nat.le_refl _)] at O
      exact O
theorem own_cap {w : World} {b e s n c : Nat} {A : Option Addr} {xs : List Value} (h : w.ownsRow b e s (.slice A n c) n xs) : n ≤ c ∧ c ≤ 9223372036854775807 := by
  rcases h.2 with ⟨h1, h0⟩ | ⟨g, cap, cur, h1, _, _, h2, h3, _⟩
  · cases h1; exact ⟨Nat.le_refl _, by omega⟩
  · cases h1; exact ⟨h2, by unfold maxLen at h3; omega⟩
set_option maxHeartbeats 1000000 in
theorem iRollWeb (A : Option Addr) (n c : Nat) (xs : List Int) (b : Int) (w : World) (R : Rds w A n 1 (fun x : Int => [.int .i64 x]) xs) (hc : n ≤ c ∧ c ≤ 9223372036854775807) (g : (Lit.int .i64 b).wf = true) :
    Calls Tryz.prog 13 #[.slice A n c, .int .i64 b] w (RetOwnT 2 1 (rollR xs b).length (nums .i64 (rollR xs b)) [.int .i64 (okC xs)] w) := by
  have HXL := Lib.hid R.1
  have hb := bounds_i64 g
  clear g
  cases h : webOk xs
  · have e1 : rollR xs b = [] := by simp [rollR, h]
    rw [e1]
    go_enter Tryz.func13, Tryz.ntmps13
    go_wp2_with (go_at_call 19; (refine (validWeb_any A n c xs _ R).mono ?_); rintro e w1 ⟨rfl, hb1⟩)
    go_ret2
    exact ⟨none, 0, by simp [okC, h], own_nil _ _ _ _, by assumption⟩
  · have e1 : rollR xs b = rollL xs b := by simp [rollR, h]
    have e2 : (rollL xs b).length = n := by rw [rollL_len, HXL.out]
    have hbd := webOk_bd h
    rw [HXL.out] at hbd
    rw [e1, e2]
    have E2 := Lib.hid e2; clear e1 e2
    go_enter Tryz.func13, Tryz.ntmps13
    go_wp2_with (first
      | (go_at_call 19; (refine (validWeb_any A n c xs _ R).mono ?_); rintro e w1 ⟨rfl, hb1⟩)
      | (go_at_call 43; (refine (rolled_any A n c xs b _ (R.below (by assumption)) hb (by omega) (by omega) hc.1 hc.2).mono ?_); rintro e w2 ⟨A2, c2, rfl, O2, hb2⟩))
    go_ret2
    exact ⟨A2, c2, by simp [okC, h], own_lower O2 hb1.size, below_then hb1 hb1.size hb2⟩
theorem sRollWeb (A : Option Addr) (n c : Nat) (xs : List Int) (b : Int) (w : World) (R : Rds w A n 1 (fun x : Int => [.int .i64 x]) xs) (hc : n ≤ c ∧ c ≤ 9223372036854775807) (g : (Lit.int .i64 b).wf = true) :
    Calls Tryz.prog 14 #[.slice A n c, .int .i64 b] w (RetOwnT 2 1 (rollR xs b).length (nums .i64 (rollR xs b)) [.int .i64 (okC xs)] w) := by
  have HXL := Lib.hid R.1
  have hb := bounds_i64 g
  clear g
  cases h : webOk xs
  · have e1 : rollR xs b = [] := by simp [rollR, h]
    rw [e1]
    go_enter Tryz.func14, Tryz.ntmps14
    go_wp2_with (go_at_call 44; (refine (l02Ok_any A n c xs _ R).mono ?_); rintro e w1 ⟨rfl, rfl⟩)
    go_ret2
    exact ⟨some ⟨w.heap.size, 0, none⟩, 0, by simp [okC, h], own_empty _ _ _, by go_grown⟩
  · have e1 : rollR xs b = rollL xs b := by simp [rollR, h]
    have e2 : (rollL xs b).length = n := by rw [rollL_len, HXL.out]
    have hbd := webOk_bd h
    rw [HXL.out] at hbd
    rw [e1, e2]
    have E2 := Lib.hid e2; clear e1 e2
    go_enter Tryz.func14, Tryz.ntmps14
    go_wp2_with (first
      | (go_at_call 44; (refine (l02Ok_any A n c xs _ R).mono ?_); rintro e w1 ⟨rfl, rfl⟩)
      | (go_at_call 45; (refine (l02Roll_any A n c xs b _ R hb (by omega) (by omega)).mono ?_); rintro e w2 ⟨A2, c2, rfl, O2, hb2⟩))
    go_ret2
    exact ⟨A2, c2, by simp [okC, h], O2, hb2⟩
end Go.Proofs.YtefipngapgffdaaGreatDoor
