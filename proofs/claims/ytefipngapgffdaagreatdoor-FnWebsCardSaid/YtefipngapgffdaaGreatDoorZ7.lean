/- The walk of FnWebs, from the sums on. -/
import Derived.Test.YtefipngapgffdaaGreatDoorZ6
import Derived.BigQuiet
import Derived.Deep.QuietTactic
import Derived.IntWalk
namespace Go.Proofs.YtefipngapgffdaaGreatDoor
open Go.RowKit
set_option linter.unusedVariables false
set_option linter.unusedSimpArgs false
set_option maxRecDepth 100000 in
set_option maxHeartbeats 8000000 in
theorem web20 (w0 w : World) {A : Option Addr} {n c : Nat} {xs : List Int} {s : ByteArray} {p b : Int} {m : Nat} {S : ByteArray} {D M V H C K : List Int} {O T P uN uD uC : Int} (F : Hid (WFacts xs s p b n m S D M V H C K O T P uN uD uC)) (HCP : Hid (n ≤ c ∧ c ≤ 9223372036854775807)) (hnb : 2 ≤ n ∧ n ≤ 8)
    (R : Hid (Rds w A n 1 (fun x : Int => [.int .i64 x]) xs)) {Ad : Option Addr} {cd_ : Nat} (RD : Hid (Rds w Ad n 1 (fun x : Int => [.int .i64 x]) D)) (HB : Hid (Below w0.heap.size w0 w))
    (t : Array Value) (ht : t.size = 548) (h5 : t[5]! = .slice A n c) (h7 : t[7]! = .int .i64 p) (h10 : t[10]! = .int .i64 T) (h15 : t[15]! = .slice Ad n cd_) (h16 : t[16]! = .int .i64 O) (h31 : t[31]! = .int .i64 P)
    (Kk : Act → World → Prop) (hK : ∀ a w, (rs (cd 18 webCode)).wp Tryz.prog (bodyPost Tryz.prog Tryz.f3 fun e w' => e = .returned (.bool true) ∧ Below w0.heap.size w0 w') a w → Kk a w) :
    (hd (cd 18 webCode)).wp Tryz.prog (Exit.then Kk (bodyPost Tryz.prog Tryz.f3 fun e w' => e = .returned (.bool true) ∧ Below w0.heap.size w0 w')) ⟨t, []⟩ w := by
  rw [(slots548 t ht).choose_spec.1] at h5 h7 h10 h15 h16 h31
  obtain ⟨z, hz⟩ : ∃ z, (slots548 t ht).choose = z := ⟨_, rfl⟩
  have e := (slots548 t ht).choose_spec.2
  rw [hz] at h5 h7 h10 h15 h16 h31 e
  rw [e, h5, h7, h10, h15, h16, h31]
  clear e hz h5 h7 h10 h15 h16 h31 ht t
  conv => arg 2; whnf
  conv at hK => enter [a, w, 1, 2]; whnf
  go_wp2_with fail
  go_loopw [33, 34, 35] (fun a b2 v wr => ∃ k : Nat, k ≤ n ∧ v = .int .i64 k ∧ a = .int .i64 ((xs.take k).sum) ∧ b2 = .int .i64 ((D.take k).sum) ∧ wr = w) (fun _ _ v _ => n - (intOf v).toNat)
  case atStart => exact ⟨0, by omega, rfl, rfl, rfl, rfl⟩
  case round =>
    obtain ⟨k, hk, rfl, rfl, rfl, rfl⟩ := hrel
    by_cases hlt : k < n
    · as_aux_lemma =>
      obtain ⟨ad, x, rfl, hx, hc⟩ := R.out.at1 hlt
      obtain ⟨ad2, y, rfl, hy, hc2⟩ := RD.out.at1 hlt
      have hsx := sum_take_succ (xs := xs) (k := k) (by rw [F.out.web.1]; exact hlt)
      have hsy := sum_take_succ (xs := D) (k := k) (by rw [F.out.wD.1]; exact hlt)
      rw [gd_of hx] at hsx
      rw [gd_of hy] at hsy
      have bx := take_sum_bd F.out.web k
      have by_ := take_sum_bd F.out.wD k
      have bx2 := take_sum_bd F.out.web (k + 1)
      have by2 := take_sum_bd F.out.wD (k + 1)
      obtain ⟨X, hX⟩ : ∃ X, (xs.take k).sum = X := ⟨_, rfl⟩
      obtain ⟨Y, hY⟩ : ∃ Y, (D.take k).sum = Y := ⟨_, rfl⟩
      rw [hX] at hsx bx ⊢
      rw [hY] at hsy by_ ⊢
      rw [hsx] at bx2
      rw [hsy] at by2
      have HSX := Lib.hid hsx; have HSY := Lib.hid hsy; clear hsx hsy hX hY hx hy
      have v1 : IntKind.i64.wrap (X + x) = X + x := IntWalk.i64_in _ (by omega)
      have v2 : IntKind.i64.wrap (Y + y) = Y + y := IntWalk.i64_in _ (by omega)
      go_wp2_with fail
      go_roundw
      case rel => exact ⟨k + 1, by omega, by go_num, by rw [HSX.out], by rw [HSY.out], by first | rfl | trivial⟩
      case measure => simp [intOf]; omega
    · obtain rfl : k = n := by omega
      have hni : ¬ (k : Int) < (k : Int) := by omega
      have e1 : Hid ((xs.take k).sum = T) := Lib.hid (by rw [List.take_of_length_le (by rw [F.out.web.1]; exact Nat.le_refl _)]; exact F.out.sT)
      have e2 : Hid ((D.take k).sum = D.sum) := Lib.hid (by rw [List.take_of_length_le (by rw [F.out.wD.1]; exact Nat.le_refl _)])
      rw [e1.out, e2.out]
      have bD := take_sum_bd F.out.wD k
      rw [e2.out] at bD
      clear e1 e2
      have hsd := F.out.sD
      have hT0 : 0 ≤ T ∧ T ≤ 120000 := by have h1 := take_sum_bd F.out.web k; rw [List.take_of_length_le (by rw [F.out.web.1]; exact Nat.le_refl _), F.out.sT] at h1; exact h1
      obtain ⟨Z, hZ⟩ : ∃ Z, D.sum = Z := ⟨_, rfl⟩
      rw [hZ] at hsd bD ⊢
      clear hZ
      have hO0 := F.out.O0
      have hOp := Lib.hid F.out.Op
      have v1 : IntKind.i64.wrap (Z + O) = T := (IntWalk.i64_in _ (by omega)).trans (by omega)
      have hno : ¬ O < 0 := by omega
      clear hsd bD hT0 hO0 RD
      by_cases hpz : p = 0
      · have hpn : (p == 0) = true := by simpa using hpz
        have hOn : (O == 0) = true := by have := hOp.out hpz; simpa using this
        clear hpz
        go_upto_region 29 with fail
        exact web29 w0 _ F HCP hnb R HB _ rfl rfl rfl rfl _ (by assumption)
      · have hpn : (p == 0) = false := by simpa using hpz
        clear hpz
        go_upto_region 29 with fail
        exact web29 w0 _ F HCP hnb R HB _ rfl rfl rfl rfl _ (by assumption)
end Go.Proofs.YtefipngapgffdaaGreatDoor
