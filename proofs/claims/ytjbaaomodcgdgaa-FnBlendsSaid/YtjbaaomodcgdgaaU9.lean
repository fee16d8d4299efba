/- Contracts: spec.BlendOf. -/
import Derived.Test.YtjbaaomodcgdgaaU8
import Derived.Deep.AppendLies
namespace Go.Proofs.Ytjbaaomodcgdgaa
open Go.RowKit
set_option linter.unusedVariables false
set_option linter.unusedSimpArgs false
theorem info_frac2 : (Try.prog.info? 34).map (fun i => (i.zero, i.size, i.bytes)) = some (some (.agg #[.int .i64 0, .int .i64 0]), 2, 16) := by kernel_rfl
theorem bd_false (xs : List (Int × List Int)) : bdC xs false ≠ 0 := by
  intro h
  have := (flC_0 (bdC_0 h).1).2.1
  simp at this
set_option maxHeartbeats 2000000 in
theorem sBlendOf (A : Option Addr) (n c : Nat) (xs : List (Int × List Int)) (B : Option Addr) (m d : Nat) (ps : List Int) (w : World) (R : Rds w A n 9 FlC xs) (hF : Hid (FlOk xs)) (hn : n ≤ 1048576) (R2 : Rds w B m 1 (fun x : Int => [.int .i64 x]) ps) (hm : m ≤ 1048576) :
    Calls Try.prog 19 #[.slice A n c, .slice B m d] w (RetOwnT 34 2 (blR xs ps).length ((blR xs ps).flatMap FrC) [.int .i64 (blC xs ps)] w) := by
  have HXL := Lib.hid R.1
  have HPL := Lib.hid R2.1
  have HB0 := below_alloc1 w (.cells #[] 34)
  have O0 := own_empty w 34 2
  have R1 := Lib.hid (R.below HB0)
  have R3 := Lib.hid (R2.below HB0)
  obtain ⟨P, hP⟩ : ∃ P, prC ps = P := ⟨_, rfl⟩
  obtain ⟨C, hC⟩ : ∃ C, blC xs ps = C := ⟨_, rfl⟩
  have HP := Lib.hid hP
  have HC := Lib.hid hC
  by_cases hmn : m = n
  rotate_left
  · have hpf : pfB xs ps = false := by
      unfold pfB
      rw [HXL.out, HPL.out, decide_eq_false hmn]
      rfl
    have hb : bdC xs false = C := by rw [← hC, blC, hpf]
    have h0 : ¬ C = 0 := by rw [← hb]; exact bd_false xs
    have hr : blR xs ps = [] := by unfold blR; rw [hC, if_neg h0]
    have HBC := Lib.hid hb
    have hmi : ¬ (m : Int) = (n : Int) := by omega
    rw [hr, hC]
    clear hP hC hb hr hpf
    go_enter Try.func19, Try.ntmps19
    go_wp2_with fail
    refine (l01Parts_any B m d ps _ R3.out (by omega)).mono ?_
    rintro e w1 ⟨rfl, rfl⟩
    rw [HP.out]
    go_wp2_with fail
    refine (l01Blended_any A n c xs false _ R1.out hF).mono ?_
    rintro e w2 ⟨rfl, rfl⟩
    rw [HBC.out]
    go_wp2_with fail
    go_ret2
    exact ⟨_, _, rfl, O0, HB0⟩
  subst hmn
  by_cases hp : 0 < P
  rotate_left
  · have hpf : pfB xs ps = false := by
      unfold pfB
      rw [hP, decide_eq_false hp]
      simp
    have hb : bdC xs false = C := by rw [← hC, blC, hpf]
    have h0 : ¬ C = 0 := by rw [← hb]; exact bd_false xs
    have hr : blR xs ps = [] := by unfold blR; rw [hC, if_neg h0]
    have HBC := Lib.hid hb
    have hpd : decide (0 < P) = false := decide_eq_false hp
    rw [hr, hC]
    clear hP hC hb hr hpf
    go_enter Try.func19, Try.ntmps19
    go_wp2_with fail
    refine (l01Parts_any B m d ps _ R3.out (by omega)).mono ?_
    rintro e w1 ⟨rfl, rfl⟩
    rw [HP.out]
    go_wp2_with fail
    refine (l01Blended_any A m c xs false _ R1.out hF).mono ?_
    rintro e w2 ⟨rfl, rfl⟩
    rw [HBC.out]
    go_wp2_with fail
    go_ret2
    exact ⟨_, _, rfl, O0, HB0⟩
  have hpf : pfB xs ps = true := by
    unfold pfB
    rw [hP, decide_eq_true hp, HXL.out, HPL.out]
    simp
  have hb : bdC xs true = C := by rw [← hC, blC, hpf]
  have hpd : decide (0 < P) = true := decide_eq_true hp
  have HBC := Lib.hid hb
  by_cases h0 : C = 0
  rotate_left
  · have hr : blR xs ps = [] := by unfold blR; rw [hC, if_neg h0]
    rw [hr, hC]
    clear hP hC hb hr hpf
    go_enter Try.func19, Try.ntmps19
    go_wp2_with fail
    refine (l01Parts_any B m d ps _ R3.out (by omega)).mono ?_
    rintro e w1 ⟨rfl, rfl⟩
    rw [HP.out]
    go_wp2_with fail
    refine (l01Blended_any A m c xs true _ R1.out hF).mono ?_
    rintro e w2 ⟨rfl, rfl⟩
    rw [HBC.out]
    go_wp2_with fail
    go_ret2
    exact ⟨_, _, rfl, O0, HB0⟩
  subst h0
  obtain ⟨b1, b2, b3⟩ := bdC_0 hb
  obtain ⟨b4, _, h6⟩ := flC_0 b1
  rw [HXL.out] at h6
  obtain ⟨_, hps, _, hPS⟩ := pf_true hpf
  have hsl := sum_le hps
  rw [HPL.out] at hsl
  have H1 := Lib.hid b2; have H2 := Lib.hid b3; have H3 := Lib.hid b4
  have H4 := Lib.hid (gd_ps hps)
  have hmu := mul_all b2 b3 h6
  have e2 : blR xs ps = blTo xs ps m 8 := by unfold blR; rw [hC, if_pos rfl, HXL.out]
  rw [e2, blTo_len, hC]
  have hSP : ps.sum = P := by rw [← hPS, hP]
  rw [hSP] at hsl
  have HSP := Lib.hid hSP
  obtain ⟨M, hMM⟩ : ∃ M, mulTo xs m = M := ⟨_, rfl⟩
  rw [hMM] at hmu
  have HMM := Lib.hid hMM
  clear hP hC hb hpf b1 b2 b3 b4 hps hPS e2 hSP hMM
  have hq := mul_bd2 hsl.1 (show P ≤ 48 by omega) (show 0 ≤ M by omega) hmu.2
  have hq0 : 0 < P * M := Int.mul_pos hp (by omega)
  have v1 : IntKind.i64.wrap (P * M) = P * M := IntWalk.i64_in _ (by omega)
  go_enter Try.func19, Try.ntmps19
  go_wp2_with fail
  refine (l01Parts_any B m d ps _ R3.out (by omega)).mono ?_
  rintro e w1 ⟨rfl, rfl⟩
  rw [HP.out]
  go_wp2_with fail
  refine (l01Blended_any A m c xs true _ R1.out hF).mono ?_
  rintro e w2 ⟨rfl, rfl⟩
  rw [HBC.out]
  go_wp2_with fail
  refine (l01Multiple_any A m c xs _ R1.out hF H1 H2 h6).mono ?_
  rintro e w3 ⟨rfl, hb3⟩
  rw [HMM.out]
  replace O0 := own_below O0 hb3
  have HB3 := below_then HB0 HB0.size hb3
  clear hb3 HB0
  go_wp2_with fail
  go_loopw [6, 10] (fun s v wr => ∃ (k : Nat) (A' : Option Addr) (c' : Nat), k ≤ 8 ∧ v = .int .i64 k ∧ s = .slice A' k c' ∧ wr.ownsRow w.heap.size 34 2 (.slice A' k c') k ((blTo xs ps m k).flatMap FrC) ∧ Below w.heap.size w wr) (fun _ v _ => 8 - (intOf v).toNat)
  case atStart => exact ⟨0, _, _, by omega, rfl, rfl, O0, HB3⟩
  case round =>
    obtain ⟨k, A', c', hk, rfl, rfl, O, hB⟩ := hrel
    clear O0 HB3
    by_cases hlt : k < 8
    · have hk1 : (k : Int) < 8 := by omega
      have hsb := shaTo_bd H3.out (gA_bd H1.out H2.out) H4.out (M := M) (by omega) k m
      have hsnoc := bl_snoc xs ps m k rfl rfl
      rw [HMM.out, HSP.out] at hsnoc
      obtain ⟨z, hz⟩ : ∃ z, shaTo xs ps M k m = z := ⟨_, rfl⟩
      rw [hz] at hsb hsnoc
      have HZ := Lib.hid hz; clear hz
      obtain ⟨fa, hfa⟩ : ∃ y, frN z (P * M) = y := ⟨_, rfl⟩
      obtain ⟨fb, hfb⟩ : ∃ y, frD z (P * M) = y := ⟨_, rfl⟩
      rw [hfa, hfb] at hsnoc
      have HS := Lib.hid hsnoc; have HFA := Lib.hid hfa; have HFB := Lib.hid hfb
      clear hsnoc hfa hfb
      have hB0 := hB.size
      go_wp2_with fail
      refine (l01Share_any A B m c d xs ps k M _ (R.below hB) hF (R2.below hB) H3 H1 H2 h6 hlt H4 (by omega)).mono ?_
      rintro e w4 ⟨rfl, hb4⟩
      rw [HZ.out]
      replace O := own_below O hb4
      have hB4 := below_then hB hB0 hb4
      clear hb4
      go_wp2_with fail
      refine (l01Make_any z (P * M) _ (by unfold Mid; omega) (by unfold Mid; omega) hq0).mono ?_
      rintro e w5 ⟨rfl, hb5⟩
      rw [HFA.out, HFB.out]
      replace O := own_below O hb5
      have hB5 := below_then hB4 hB4.size hb5
      have hB6 := hB5.size
      clear hb5
      go_wp2_with ((at_builtin; refine app_any (w0 := w) w.heap.size (by rfl) _ _ 30 34 (.agg #[.int .i64 0, .int .i64 0]) 2 16 (by rfl) Try.underlying30 info_frac2 rfl (by omega) (by omega) _ (by rfl) 1 1 [.int .i64 fa, .int .i64 fb] (by rfl) (by rfl) (by simp [Value.oneCell']) O hB5 hB6 (by omega) ?_; intro A2 c2 w6 O2 HBn hg2))
      rw [HS.out] at O2
      go_wp2_with fail
      go_roundw
      case rel => exact ⟨k + 1, A2, c2, by omega, by go_num, rfl, O2, HBn⟩
      case measure => simp [intOf]; omega
    · have hk1 : ¬ (k : Int) < 8 := by omega
      obtain rfl : k = 8 := by omega
      go_wp2_with fail
      go_ret2
      exact ⟨A', c', by rfl, O, hB⟩
end Go.Proofs.Ytjbaaomodcgdgaa
