/- The walk of FnFleeces, the mean and the median. -/
import Derived.Test.YtbkhlcbnnjgdpaaGreatDoorX6
import Derived.BigQuiet
import Derived.Deep.QuietTactic
import Derived.Deep.DeepCutAuto
import Derived.Deep.MidRow
import Derived.IntWalk
namespace Go.Proofs.YtbkhlcbnnjgdpaaGreatDoor
open Go.RowKit
set_option linter.unusedVariables false
set_option linter.unusedSimpArgs false
set_option maxRecDepth 100000 in
set_option maxHeartbeats 8000000 in
theorem fl53 (w0 w : World) {n cx : Nat} {Ax : Option Addr} {xs : List (Int × List Int)} (HL : Hid (∀ x ∈ xs, FlD x)) (hn4 : n ≤ 4) (RF : Hid (Rds w Ax n 9 FlC xs)) {bh b51 : Nat} {L : List Int} {A M MN MD : Int} (HH : Hid (Hp L)) (X5 : Hid (Row w bh 25 (nums .i32 L))) (hA : Hid (hsL L = A)) (X51 : Hid (Row w b51 48 [.int .i64 MN, .int .i64 MD])) (hM : 0 < A → M = mdn L ∧ MN * A = wsum L 8 * MD ∧ 1 ≤ MD ∧ 0 ≤ MN ∧ MN ≤ 1000 ∧ MD ≤ 1000) (hA0 : 0 ≤ A ∧ A ≤ 96) (HB : Hid (Below w0.heap.size w0 w))
    (t : Array Value) (ht : t.size = 648) (h5 : t[5]! = .pointer (some ⟨bh, 0, none⟩)) (h6 : t[6]! = .slice Ax n cx) (h11 : t[11]! = .int .i64 A) (h51 : t[51]! = .pointer (some ⟨b51, 0, none⟩)) (h55 : t[55]! = .int .i64 M)
    (Kk : Act → World → Prop) (hK : ∀ a w, (rs (cd 32 flCode)).wp Tryz.prog (bodyPost Tryz.prog Tryz.f3 fun e w' => e = .returned (.bool true) ∧ Below w0.heap.size w0 w') a w → Kk a w)
    (K1 : Act → World → Prop) (hK1 : ∀ a w, (rs (hd (cd 32 flCode))).wp Tryz.prog (Exit.then Kk (bodyPost Tryz.prog Tryz.f3 fun e w' => e = .returned (.bool true) ∧ Below w0.heap.size w0 w')) a w → K1 a w) :
    (hd (hd (cd 32 flCode))).wp Tryz.prog (Exit.then K1 (Exit.then Kk (bodyPost Tryz.prog Tryz.f3 fun e w' => e = .returned (.bool true) ∧ Below w0.heap.size w0 w'))) ⟨t, []⟩ w := by
  rw [(slots648 t ht).choose_spec.1] at h5 h6 h11 h51 h55
  obtain ⟨z, hz⟩ : ∃ z, (slots648 t ht).choose = z := ⟨_, rfl⟩
  have e := (slots648 t ht).choose_spec.2
  rw [hz] at h5 h6 h11 h51 h55 e
  rw [e, h5, h6, h11, h51, h55]
  clear e hz h5 h6 h11 h51 h55 ht t
  conv => arg 2; whnf
  conv at hK => enter [a, w, 1, 2]; whnf
  conv at hK1 => enter [a, w, 1, 2]; whnf
  by_cases hp : 0 < A
  rotate_left
  · go_upto_region 64 with fail
    exact fl64 w0 _ HL hn4 RF HB _ rfl rfl _ (by assumption)
  obtain ⟨hMm, hmean, hMD, hMN0, hMN1, hMD1⟩ := hM hp
  obtain ⟨m, hm8, hmm, hlo, hhi⟩ := mdn_is HH.out (by rw [hA.out]; exact hp)
  rw [hA.out] at hlo hhi
  rw [hmm] at hMm
  subst hMm
  clear hmm hM
  have hl8 := HH.out.len
  have HC : Hid (∀ k, k < 8 → w.cell? ⟨bh, k, none⟩ = some (.int .i32 (L.getD k 0))) := Lib.hid (fun k hk => by rw [X5.out.cell]; exact list_at2 hl8 hk)
  have hMean := Lib.hid hmean; have hLo := Lib.hid hlo; have hHi := Lib.hid hhi
  clear hmean hlo hhi
  go_wp2_with fail
  go_loopw [57, 58, 59] (fun s u v wr => ∃ k : Nat, k ≤ 8 ∧ v = .int .i64 k ∧ s = .int .i64 (psum L (min k m)) ∧ u = .int .i64 (wsum L k) ∧ wr = w) (fun _ _ v _ => 8 - (intOf v).toNat)
  case atStart => exact ⟨0, by omega, rfl, by rw [Nat.zero_min]; rfl, rfl, rfl⟩
  case round =>
    obtain ⟨k, hk, rfl, rfl, rfl, hwr⟩ := hrel
    rw [hwr]
    clear hwr
    by_cases hlk : k < 8
    · as_aux_lemma =>
      have hki : (k : Int) < 8 := by omega
      have hc := HC.out k hlk
      have hb1 := HH.out.at k; have hb2 := psum_bd12 HH.out (min k m); have hb3 := wsum_bd12 HH.out k hk; have hb4 := wsum_bd12 HH.out (k + 1) (by omega)
      have hw1 : wsum L (k + 1) = wsum L k + (k : Int) * L.getD k 0 := rfl
      have hp1 : k < m → psum L (min (k + 1) m) = psum L (min k m) + L.getD k 0 := fun h => by rw [Nat.min_eq_left (by omega), Nat.min_eq_left (by omega)]; rfl
      have hp2 : ¬ k < m → psum L (min (k + 1) m) = psum L (min k m) := fun h => by rw [Nat.min_eq_right (by omega), Nat.min_eq_right (by omega)]
      have hmul : 0 ≤ (k : Int) * L.getD k 0 ∧ (k : Int) * L.getD k 0 ≤ 84 := ⟨Int.mul_nonneg (by omega) hb1.1, by have := Int.mul_le_mul (show (k : Int) ≤ 7 by omega) hb1.2 hb1.1 (by omega); omega⟩
      obtain ⟨x, hx⟩ : ∃ x, L.getD k 0 = x := ⟨_, rfl⟩
      rw [hx] at hc hb1 hw1 hp1 hmul
      obtain ⟨P, hP⟩ : ∃ x, psum L (min k m) = x := ⟨_, rfl⟩
      rw [hP] at hb2 hp1 hp2 ⊢
      obtain ⟨W, hW⟩ : ∃ x, wsum L k = x := ⟨_, rfl⟩
      rw [hW] at hb3 hw1 ⊢
      have HW1 := Lib.hid hw1; have HP1 := Lib.hid hp1; have HP2 := Lib.hid hp2
      have v1 : IntKind.i64.wrap x = x := IntWalk.i64_in _ (by omega)
      have v2 : IntKind.i64.wrap (P + x) = P + x := IntWalk.i64_in _ (by omega)
      have v3 : IntKind.i64.wrap ((k : Int) * x) = (k : Int) * x := IntWalk.i64_in _ (by omega)
      have v4 : IntKind.i64.wrap (W + (k : Int) * x) = W + (k : Int) * x := IntWalk.i64_in _ (by omega)
      clear hb1 hb2 hb3 hb4 hw1 hp1 hp2 hx hP hW hmul
      by_cases hkm : k < m
      · as_aux_lemma =>
        have hkmi : (k : Int) < (m : Int) := by omega
        go_wp2_with fail
        go_roundw
        case rel => exact ⟨k + 1, by omega, by go_num, by rw [HP1.out hkm], by rw [HW1.out], by trivial⟩
        case measure => simp [intOf]; omega
      · as_aux_lemma =>
        have hkmi : ¬ (k : Int) < (m : Int) := by omega
        go_wp2_with fail
        go_roundw
        case rel => exact ⟨k + 1, by omega, by go_num, by rw [HP2.out hkm], by rw [HW1.out], by trivial⟩
        case measure => simp [intOf]; omega
    · obtain rfl : k = 8 := by omega
      rw [Nat.min_eq_right (show m ≤ 8 by omega)]
      have hc := HC.out m hm8
      have hb1 := HH.out.at m; have hb2 := psum_bd12 HH.out m; have hb3 := wsum_bd12 HH.out 8 (by omega)
      have h1 := hLo.out; have h2 := hHi.out; have h3 := hMean.out
      obtain ⟨x, hx⟩ : ∃ x, L.getD m 0 = x := ⟨_, rfl⟩
      rw [hx] at hc hb1 h2
      obtain ⟨P, hP⟩ : ∃ x, psum L m = x := ⟨_, rfl⟩
      rw [hP] at hb2 h1 h2 ⊢
      obtain ⟨W, hW⟩ : ∃ x, wsum L 8 = x := ⟨_, rfl⟩
      rw [hW] at hb3 h3 ⊢
      have hq1 := Int.mul_le_mul hMN1 hA0.2 hA0.1 (by omega)
      have hq0 := Int.mul_nonneg hMN0 hA0.1
      have hm0 : ¬ (m : Int) < 0 := by omega
      have hm7 : ¬ 7 < (m : Int) := by omega
      have v1 : IntKind.i64.wrap x = x := IntWalk.i64_in _ (by omega)
      have v2 : IntKind.i64.wrap (2 * P) = 2 * P := IntWalk.i64_in _ (by omega)
      have v3 : IntKind.i64.wrap (P + x) = P + x := IntWalk.i64_in _ (by omega)
      have v4 : IntKind.i64.wrap (2 * (P + x)) = 2 * (P + x) := IntWalk.i64_in _ (by omega)
      have v5 : IntKind.i64.wrap (MN * A) = MN * A := IntWalk.i64_in _ (by omega)
      have v6 : IntKind.i64.wrap (W * MD) = MN * A := by rw [← h3]; exact v5
      have n1 : ¬ A ≤ 2 * P := by omega
      have n2 : ¬ 2 * (P + x) < A := by omega
      have n3 : ¬ MD < 1 := by omega
      obtain ⟨f0, f1⟩ := X51.out.cells2
      clear hb1 hb2 hb3 h1 h2 h3 hx hP hW hq0 hq1
      go_upto_region 64 with fail
      exact fl64 w0 _ HL hn4 RF HB _ rfl rfl _ (by assumption)
end Go.Proofs.YtbkhlcbnnjgdpaaGreatDoor
