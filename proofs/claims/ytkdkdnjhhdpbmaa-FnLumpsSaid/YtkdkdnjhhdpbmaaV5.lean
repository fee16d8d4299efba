/- The walk of the law FnLumps: its calls by their contracts, its loops, its tests by the plain law. -/
import Derived.Test.YtkdkdnjhhdpbmaaV4
import Derived.BigQuiet
import Derived.Deep.QuietTactic
import Derived.IntWalk
namespace Go.Proofs.Ytkdkdnjhhdpbmaa
open Go.RowKit
set_option linter.unusedVariables false
set_option linter.unusedSimpArgs false
theorem a2Has_is {b : Bool} (A : Option Addr) (n c : Nat) (xs : List Int) (x : Int) (w : World) (R : Rds w A n 1 (fun x : Int => [.int .i64 x]) xs) (h : hasI xs x = b) :
    Calls Try.prog 15 #[.slice A n c, .int .i64 x] w fun e w' => e = .returned (.bool b) ∧ w' = w :=
  (a2Has_any A n c xs x w R).mono fun e w2 ⟨h1, h2⟩ => ⟨by rw [h1, h], h2.symm⟩
theorem gLumpsI {q : Nat} (A : Option Addr) (n c : Nat) (xs : List Int) (t : Int) (w : World) (R : Rds w A n 1 (fun x : Int => [.int .i64 x]) xs) (h : Good xs) (ht : 1 ≤ t ∧ t ≤ 12) (hq : (lumpsL xs t).length = q) :
    Calls Try.prog 7 #[.slice A n c, .int .i64 t] w (RetOwnT 2 1 q (nums .i64 (lumpsL xs t)) [.int .i64 0] w) := by
  have c1 := iLumpsIn A n c xs t w R
  rw [show lumpR xs t = lumpsL xs t by simp [lumpR, h.1, inB, ht.1, ht.2], show lumpC xs t = 0 by simp [lumpC, h.1, inB, ht.1, ht.2], hq] at c1
  exact c1
theorem gLumpsS {q : Nat} (A : Option Addr) (n c : Nat) (xs : List Int) (t : Int) (w : World) (R : Rds w A n 1 (fun x : Int => [.int .i64 x]) xs) (h : Good xs) (ht : 1 ≤ t ∧ t ≤ 12) (hq : (lumpsL xs t).length = q) :
    Calls Try.prog 8 #[.slice A n c, .int .i64 t] w (RetOwnT 2 1 q (nums .i64 (lumpsL xs t)) [.int .i64 0] w) := by
  have c1 := sLumpsIn A n c xs t w R
  rw [show lumpR xs t = lumpsL xs t by simp [lumpR, h.1, inB, ht.1, ht.2], show lumpC xs t = 0 by simp [lumpC, h.1, inB, ht.1, ht.2], hq] at c1
  exact c1
theorem pl_good {xs : List Int} {i : Nat} (h : Good xs) (hi : i < xs.length) : plR xs (i : Int) = partL xs i ∧ plC xs (i : Int) = 0 := by
  have h2 := (good_part h hi).2.1
  have h3 : inB (i : Int) 0 ((xs.length : Int) - 1) = true := by simp [inB]; omega
  exact ⟨by simp [plR, h.1, h3, h2], by simp [plC, h.1, h3, h2]⟩
theorem gPartI (A : Option Addr) (n c : Nat) (xs : List Int) (i : Nat) (w : World) (R : Rds w A n 1 (fun x : Int => [.int .i64 x]) xs) (h : Good xs) (hi : i < n) :
    Calls Try.prog 9 #[.slice A n c, .int .i64 (i : Int)] w (RetOwnT 2 1 n (nums .i64 (partL xs i)) [.int .i64 0] w) := by
  have c1 := iPartLump A n c xs i w R
  have hl := R.1
  rw [(pl_good h (by omega)).1, (pl_good h (by omega)).2, partL_len, hl] at c1
  exact c1
theorem gPartS (A : Option Addr) (n c : Nat) (xs : List Int) (i : Nat) (w : World) (R : Rds w A n 1 (fun x : Int => [.int .i64 x]) xs) (h : Good xs) (hi : i < n) :
    Calls Try.prog 10 #[.slice A n c, .int .i64 (i : Int)] w (RetOwnT 2 1 n (nums .i64 (partL xs i)) [.int .i64 0] w) := by
  have c1 := sPartLump A n c xs i w R
  have hl := R.1
  rw [(pl_good h (by omega)).1, (pl_good h (by omega)).2, partL_len, hl] at c1
  exact c1
theorem pa_is {xs : List Int} {t : Int} {m : Nat} (h : Good xs) (ht : 1 ≤ t ∧ t ≤ 12) (hm : m ≤ 100) : paR xs t (m : Int) = itr t (paB m t xs).2.1 xs ∧ paM xs t (m : Int) = ((paB m t xs).2.1 : Nat) ∧ paC xs t (m : Int) = 0 := by
  obtain ⟨i1, i2, i3, i4, i5⟩ := pa_good (t := t) m h
  have h1 : inB t 1 12 = true := by simp [inB, ht.1, ht.2]
  have h2 : inB (m : Int) 0 100 = true := by simp [inB]; omega
  have h3 : (m : Int).toNat = m := rfl
  exact ⟨by simp only [paR, h.1, h1, h2, h3, i1]; simpa using i2, by simp [paM, h.1, h1, h2, h3, i1], by simp [paC, h.1, h1, h2, h3, i1]⟩
theorem gAllI (A : Option Addr) (n c : Nat) (xs : List Int) (t : Int) (m k : Nat) (w : World) (R : Rds w A n 1 (fun x : Int => [.int .i64 x]) xs) (h : Good xs) (ht : 1 ≤ t ∧ t ≤ 12) (hm : m ≤ 100) (hk : (paB m t xs).2.1 = k) :
    Calls Try.prog 11 #[.slice A n c, .int .i64 t, .int .i64 (m : Int)] w (RetOwnT 2 1 n (nums .i64 (itr t k xs)) [.int .i64 (k : Int), .int .i64 0] w) := by
  have c1 := iPartAll A n c xs t m w R
  obtain ⟨e1, e2, e3⟩ := pa_is h ht hm
  rw [e1, e2, e3, hk, (good_itr (t := t) k h).2.1, R.1] at c1
  exact c1
theorem gAllS (A : Option Addr) (n c : Nat) (xs : List Int) (t : Int) (m k : Nat) (w : World) (R : Rds w A n 1 (fun x : Int => [.int .i64 x]) xs) (h : Good xs) (ht : 1 ≤ t ∧ t ≤ 12) (hm : m ≤ 100) (hk : (paB m t xs).2.1 = k) :
    Calls Try.prog 12 #[.slice A n c, .int .i64 t, .int .i64 (m : Int)] w (RetOwnT 2 1 n (nums .i64 (itr t k xs)) [.int .i64 (k : Int), .int .i64 0] w) := by
  have c1 := sPartAll A n c xs t m w R
  obtain ⟨e1, e2, e3⟩ := pa_is h ht hm
  rw [e1, e2, e3, hk, (good_itr (t := t) k h).2.1, R.1] at c1
  exact c1
theorem gTot {S : Int} (A : Option Addr) (n c : Nat) (xs : List Int) (w : World) (R : Rds w A n 1 (fun x : Int => [.int .i64 x]) xs) (h : Good xs) (hS : xs.sum = S) :
    Calls Try.prog 13 #[.slice A n c] w fun e w' => e = .returned (.tuple #[.int .i64 S, .int .i64 0]) ∧ Below w.heap.size w w' := by
  have c1 := iTotalOf A n c xs w R
  rw [show totV xs = S by simp [totV, h.1, hS], show okC xs = 0 by simp [okC, h.1]] at c1
  exact c1
set_option maxRecDepth 100000 in
set_option maxHeartbeats 8000000 in
theorem walk_FnLumps (w : World) (A0 : Option Addr) (n0 c0 : Nat) (x0 : List Int) (hc0 : n0 ≤ c0) (R0 : Rds w A0 n0 1 (fun x : Int => [.int .u8 x]) x0) (g0 : ∀ x ∈ x0, (Lit.int .u8 x).wf = true) (b0 : n0 * 1 ≤ 140737488351232)
    (A1 : Option Addr) (n1 c1 : Nat) (x1 : List Int) (hc1 : n1 ≤ c1) (R1 : Rds w A1 n1 1 (fun x : Int => [.int .u8 x]) x1) (g1 : ∀ x ∈ x1, (Lit.int .u8 x).wf = true) (b1 : n1 * 1 ≤ 140737488351232) :
    Calls Try.prog 3 #[.slice A0 n0 c0, .slice A1 n1 c1] w fun e w' => e = .returned (.bool true) ∧ Below w.heap.size w w' := by
  have G0 := Lib.hid g0; have G1 := Lib.hid g1
  clear g0 g1 hc0 hc1
  cases hlong : decide (3000 < n0 ∨ 3000 < n1)
  rotate_left
  · go_enter Try.func3, Try.ntmps3
    go_wp2_with fail
    refine (a2Long_any A0 A1 n0 c0 n1 c1 _ R0.2.1 R1.2.1).mono ?_
    rintro e w1 ⟨rfl, rfl⟩
    rw [hlong]
    go_wp2_with fail
    go_ret
    exact ⟨rfl, Below.refl _ _⟩
  have HLG := Lib.hid hlong; clear hlong b0 b1
  have HB := Lib.hid (Below.refl w.heap.size w)
  go_enter Try.func3, Try.ntmps3
  go_wp2_with fail
  refine (a2Long_any A0 A1 n0 c0 n1 c1 _ R0.2.1 R1.2.1).mono ?_
  rintro e w1 ⟨rfl, rfl⟩
  rw [HLG.out]
  go_wp2_with fail
  refine (a2Web_any A0 n0 c0 x0 _ R0 G0.out).mono ?_
  rintro e w1 ⟨A, c, xs, rfl, hd, O, hb⟩
  have hG := drawn_good hd
  have hS := le_sum (xs := xs) (fun x hx => (hd.2 x hx).1)
  obtain ⟨n, hn⟩ : ∃ n, xs.length = n := ⟨_, rfl⟩
  have hnb : 2 ≤ n ∧ n ≤ 8 := by have := hd.1; omega
  rw [hn] at O
  rw [hn]
  have HN := Lib.hid hn
  have HD := Lib.hid hd; clear hd hn
  have R := Lib.hid (own_rds1 O (by omega))
  replace HB := Lib.hid (below_then HB.out HB.out.size hb)
  replace R1 := Lib.hid (R1.below hb)
  clear R0 G0 O hb
  obtain ⟨S, hSS⟩ : ∃ S, xs.sum = S := ⟨_, rfl⟩
  have hSb : 0 ≤ S ∧ S ≤ 10000 := ⟨by rw [← hSS]; exact hS.1, by rw [← hSS]; exact hG.2⟩
  have HG := Lib.hid hG
  have HSS := Lib.hid hSS; clear hG hS hSS
  go_wp2_with fail
  refine (a2At_any A1 n1 c1 x1 0 4 _ R1.out G1.out (by omega) (by omega) (by omega)).mono ?_
  rintro e w2 ⟨t0, rfl, ht0, ht4, rfl⟩
  have v0 : IntKind.i64.wrap (1 + t0) = 1 + t0 := IntWalk.i64_in _ (by omega)
  go_wp2_with fail
  refine (a2At_any A1 n1 c1 x1 1 12 _ R1.out G1.out (by omega) (by omega) (by omega)).mono ?_
  rintro e w2 ⟨m_, rfl, hm0, hm9, rfl⟩
  clear v0
  obtain ⟨m, rfl⟩ : ∃ m : Nat, m_ = (m : Int) := ⟨m_.toNat, by omega⟩
  have ht : 1 ≤ 1 + t0 ∧ 1 + t0 ≤ 12 := by omega
  generalize 1 + t0 = t at ht ⊢
  clear ht0 ht4
  go_wp2_with fail
  refine (a2At_any A1 n1 c1 x1 2 (n : Int) _ R1.out G1.out (by omega) (by omega) (by omega)).mono ?_
  rintro e w2 ⟨i_, rfl, hi0, hi9, rfl⟩
  clear R1 G1
  obtain ⟨i, rfl⟩ : ∃ i : Nat, i_ = (i : Int) := ⟨i_.toNat, by omega⟩
  have hi : i < n := by omega
  have hm : m ≤ 100 := by omega
  obtain ⟨k, hk⟩ : ∃ k, (paB m t xs).2.1 = k := ⟨_, rfl⟩
  have HK := Lib.hid hk
  have HPA := Lib.hid (pa_good (t := t) m HG.out)
  have HPZ := Lib.hid (pa_zero (t := t) (f := m) HG.out)
  rw [hk] at HPA HPZ
  clear hk
  have hq2 : (lumpsL xs t).length ≤ 1000 := by have := lumpsTo_len xs t xs.length; have := HN.out; unfold lumpsL; omega
  obtain ⟨q2, hq2e⟩ : ∃ q, (lumpsL xs t).length = q := ⟨_, rfl⟩
  have HQ2 := Lib.hid hq2e
  rw [hq2e] at hq2; clear hq2e
  go_wp2_with fail
  refine (gLumpsI A n c xs t _ R.out HG.out ht HQ2.out).mono ?_
  rintro e wL ⟨AL, cL, rfl, O, hb⟩
  replace HB := Lib.hid (below_then HB.out HB.out.size hb)
  replace R := Lib.hid (R.out.below hb)
  have RL := Lib.hid (own_rds1 O (by omega))
  clear O hb
  go_wp2_with fail
  refine (gLumpsS A n c xs t _ R.out HG.out ht HQ2.out).mono ?_
  rintro e wD ⟨AD, cD, rfl, O, hb⟩
  replace HB := Lib.hid (below_then HB.out HB.out.size hb)
  replace R := Lib.hid (R.out.below hb)
  replace RL := Lib.hid (RL.out.below hb)
  have RD := Lib.hid (own_rds1 O (by omega))
  clear O hb
  go_wp2_with fail
  refine (gPartI A n c xs i _ R.out HG.out hi).mono ?_
  rintro e wP ⟨AP, cP, rfl, O, hb⟩
  replace HB := Lib.hid (below_then HB.out HB.out.size hb)
  replace R := Lib.hid (R.out.below hb)
  replace RL := Lib.hid (RL.out.below hb)
  replace RD := Lib.hid (RD.out.below hb)
  have RP := Lib.hid (own_rds1 O (by omega))
  clear O hb
  go_wp2_with fail
  refine (gPartS A n c xs i _ R.out HG.out hi).mono ?_
  rintro e wQ ⟨AQ, cQ, rfl, O, hb⟩
  replace HB := Lib.hid (below_then HB.out HB.out.size hb)
  replace R := Lib.hid (R.out.below hb)
  replace RL := Lib.hid (RL.out.below hb)
  replace RD := Lib.hid (RD.out.below hb)
  replace RP := Lib.hid (RP.out.below hb)
  have RQ := Lib.hid (own_rds1 O (by omega))
  clear O hb
  go_wp2_with fail
  refine (gAllI A n c xs t m k _ R.out HG.out ht hm HK.out).mono ?_
  rintro e wY ⟨AY, cY, rfl, O, hb⟩
  replace HB := Lib.hid (below_then HB.out HB.out.size hb)
  replace R := Lib.hid (R.out.below hb)
  replace RL := Lib.hid (RL.out.below hb)
  replace RD := Lib.hid (RD.out.below hb)
  replace RP := Lib.hid (RP.out.below hb)
  replace RQ := Lib.hid (RQ.out.below hb)
  have RY := Lib.hid (own_rds1 O (by omega))
  clear O hb
  go_wp2_with fail
  refine (gAllS A n c xs t m k _ R.out HG.out ht hm HK.out).mono ?_
  rintro e wZ ⟨AZ, cZ, rfl, O, hb⟩
  replace HB := Lib.hid (below_then HB.out HB.out.size hb)
  replace R := Lib.hid (R.out.below hb)
  replace RL := Lib.hid (RL.out.below hb)
  replace RD := Lib.hid (RD.out.below hb)
  replace RP := Lib.hid (RP.out.below hb)
  replace RQ := Lib.hid (RQ.out.below hb)
  replace RY := Lib.hid (RY.out.below hb)
  have RZ := Lib.hid (own_rds1 O (by omega))
  clear O hb
  go_wp2_with fail
  refine (gTot A n c xs _ R.out HG.out HSS.out).mono ?_
  rintro e wT ⟨rfl, hb⟩
  replace HB := Lib.hid (below_then HB.out HB.out.size hb)
  replace R := Lib.hid (R.out.below hb)
  replace RL := Lib.hid (RL.out.below hb)
  replace RD := Lib.hid (RD.out.below hb)
  replace RP := Lib.hid (RP.out.below hb)
  replace RQ := Lib.hid (RQ.out.below hb)
  replace RY := Lib.hid (RY.out.below hb)
  replace RZ := Lib.hid (RZ.out.below hb)
  clear hb
  have hkm : (k : Int) ≤ (m : Int) := by have := HPA.out.2.2.1; omega
  go_wp2_with fail
  refine (a2Same_true AL AD q2 cL cD (lumpsL xs t) _ RL.out RD.out).mono ?_
  rintro e wLD ⟨rfl, hb⟩
  replace HB := Lib.hid (below_then HB.out HB.out.size hb)
  replace R := Lib.hid (R.out.below hb)
  replace RL := Lib.hid (RL.out.below hb)
  replace RD := Lib.hid (RD.out.below hb)
  replace RP := Lib.hid (RP.out.below hb)
  replace RQ := Lib.hid (RQ.out.below hb)
  replace RY := Lib.hid (RY.out.below hb)
  replace RZ := Lib.hid (RZ.out.below hb)
  clear hb
  go_wp2_with fail
  refine (a2Same_true AP AQ n cP cQ (partL xs i) _ RP.out RQ.out).mono ?_
  rintro e wPQ ⟨rfl, hb⟩
  replace HB := Lib.hid (below_then HB.out HB.out.size hb)
  replace R := Lib.hid (R.out.below hb)
  replace RL := Lib.hid (RL.out.below hb)
  replace RD := Lib.hid (RD.out.below hb)
  replace RP := Lib.hid (RP.out.below hb)
  replace RQ := Lib.hid (RQ.out.below hb)
  replace RY := Lib.hid (RY.out.below hb)
  replace RZ := Lib.hid (RZ.out.below hb)
  clear hb
  go_wp2_with fail
  refine (a2Same_true AY AZ n cY cZ (itr t k xs) _ RY.out RZ.out).mono ?_
  rintro e wYZ ⟨rfl, hb⟩
  replace HB := Lib.hid (below_then HB.out HB.out.size hb)
  replace R := Lib.hid (R.out.below hb)
  replace RL := Lib.hid (RL.out.below hb)
  replace RD := Lib.hid (RD.out.below hb)
  replace RP := Lib.hid (RP.out.below hb)
  replace RQ := Lib.hid (RQ.out.below hb)
  replace RY := Lib.hid (RY.out.below hb)
  replace RZ := Lib.hid (RZ.out.below hb)
  clear hb
  clear RL
  clear RP
  clear RY
  go_wp2_with fail
  go_loopw [25] (fun v wr => ∃ j : Nat, j ≤ n ∧ v = .int .i64 j ∧ Hid (Below wYZ.heap.size wYZ wr)) (fun v _ => n - (intOf v).toNat)
  case atStart => exact ⟨0, by omega, rfl, Lib.hid (Below.refl _ _)⟩
  case round =>
    obtain ⟨j, hj, rfl, hB⟩ := hrel
    by_cases hlt : j < n
    · obtain ⟨ad, x, rfl, hx, e0⟩ := (R.out.below hB.out).at1 hlt
      have hg := gd_of hx
      have hxb := gd_web HG.out.1 j
      rw [hg] at hxb
      have hv := has_lumps (xs := xs) (t := t) j xs.length (by rw [HN.out]; exact hlt)
      change hasI (lumpsL xs t) (j : Int) = decide (t * xs.sum < gd xs j * (xs.length : Int)) at hv
      rw [HSS.out, hg, HN.out] at hv
      have m1 := mul_bd hxb.1 hxb.2 (show (0 : Int) ≤ (n : Int) by omega) (show (n : Int) ≤ 8 by omega)
      have m2 := mul_bd (show (0 : Int) ≤ t by omega) (show t ≤ 12 by omega) hSb.1 hSb.2
      have v1 : IntKind.i64.wrap (x * (n : Int)) = x * (n : Int) := IntWalk.i64_in _ (by omega)
      have v2 : IntKind.i64.wrap (t * S) = t * S := IntWalk.i64_in _ (by omega)
      clear hx hg m1 m2
      obtain ⟨b, hbd⟩ : ∃ b, decide (t * S < x * (n : Int)) = b := ⟨_, rfl⟩
      rw [hbd] at hv
      have HV := Lib.hid hv; clear hv
      go_wp2_with fail
      go_quiet ((go_at_call 15; exact Calls.quiet_of_same (a2Has_is AD q2 cD (lumpsL xs t) (j : Int) _ ((RD.out.below hB.out).below (Joins.below_draws _ _ _)) HV.out)))
      go_wp2_with fail
      clear v1 v2
      go_roundw
      case rel => exact ⟨j + 1, by omega, by go_num, Lib.hid (hB.out.trans (Joins.below_draws _ _ _))⟩
      case measure => simp [intOf]; omega
    · have hjn : j = n := by omega
      subst j
      replace HB := Lib.hid (below_then HB.out HB.out.size hB.out)
      replace R := Lib.hid (R.out.below hB.out)
      replace RD := Lib.hid (RD.out.below hB.out)
      replace RQ := Lib.hid (RQ.out.below hB.out)
      replace RZ := Lib.hid (RZ.out.below hB.out)
      clear hB
      rename World => W0
      have hn0 : ¬ (n : Int) = 0 := by omega
      have hGb : 0 ≤ S.tdiv (n : Int) ∧ S.tdiv (n : Int) ≤ 10000 := by
        rw [Int.tdiv_eq_ediv_of_nonneg hSb.1]
        have h1 := Int.ediv_nonneg hSb.1 (show (0 : Int) ≤ (n : Int) by omega)
        have h2 := Int.ediv_le_self (n : Int) hSb.1
        omega
      have hGd : S.tdiv (n : Int) = S / (n : Int) := Int.tdiv_eq_ediv_of_nonneg hSb.1
      obtain ⟨G, hGe⟩ : ∃ G, S.tdiv (n : Int) = G := ⟨_, rfl⟩
      rw [hGe] at hGb hGd
      have HGD := Lib.hid hGd; clear hGd
      have vG : IntKind.i64.wrap G = G := IntWalk.i64_in _ (by omega)
      go_wp2_with fail
      clear hGe vG
      refine (gTot AQ n cQ (partL xs i) _ RQ.out (good_part HG.out (by rw [HN.out]; exact hi)).1 (by rw [(good_part HG.out (by rw [HN.out]; exact hi)).2.2, HSS.out])).mono ?_
      rintro e wU ⟨rfl, hb⟩
      replace HB := Lib.hid (below_then HB.out HB.out.size hb)
      replace R := Lib.hid (R.out.below hb)
      replace RD := Lib.hid (RD.out.below hb)
      replace RQ := Lib.hid (RQ.out.below hb)
      replace RZ := Lib.hid (RZ.out.below hb)
      clear hb
      go_wp2_with fail
      refine (gTot AZ n cZ (itr t k xs) _ RZ.out (good_itr k HG.out).1 (by rw [(good_itr (t := t) k HG.out).2.2, HSS.out])).mono ?_
      rintro e wV ⟨rfl, hb⟩
      replace HB := Lib.hid (below_then HB.out HB.out.size hb)
      replace R := Lib.hid (R.out.below hb)
      replace RD := Lib.hid (RD.out.below hb)
      replace RQ := Lib.hid (RQ.out.below hb)
      replace RZ := Lib.hid (RZ.out.below hb)
      clear hb
      have hq3 : (lumpsL (itr t k xs) t).length ≤ 1000 := by have := lumpsTo_len (itr t k xs) t (itr t k xs).length; have h2 := (good_itr (t := t) k HG.out).2.1; have := HN.out; unfold lumpsL; omega
      obtain ⟨q3, hq3e⟩ : ∃ q, (lumpsL (itr t k xs) t).length = q := ⟨_, rfl⟩
      have HQ3 := Lib.hid hq3e
      rw [hq3e] at hq3; clear hq3e
      go_wp2_with fail
      refine (gLumpsI AZ n cZ (itr t k xs) t _ RZ.out (good_itr k HG.out).1 ht HQ3.out).mono ?_
      rintro e wV ⟨AV, cV, rfl, O, hb⟩
      replace HB := Lib.hid (below_then HB.out HB.out.size hb)
      replace R := Lib.hid (R.out.below hb)
      replace RD := Lib.hid (RD.out.below hb)
      replace RQ := Lib.hid (RQ.out.below hb)
      replace RZ := Lib.hid (RZ.out.below hb)
      clear O hb
      obtain ⟨adQ, P, rfl, hP, eQ⟩ := RQ.out.at1 hi
      obtain ⟨ad, X, rfl, hX, eX⟩ := R.out.at1 hi
      have hmin : P = (if G < X then G else X) := by
        rw [← gd_of hP, part_at HG.out (by rw [HN.out]; exact hi), gd_of hX, HSS.out, HN.out, HGD.out]
        split <;> split <;> omega
      clear hP hX
      have hcase1 : q3 ≤ 0 ∨ (0 < q3 ∧ (m : Int) ≤ (k : Int)) := by
        rcases HPA.out.2.2.2.1 with h | h
        · rcases Nat.eq_zero_or_pos q3 with h2 | h2
          · left; omega
          · right; omega
        · left
          rw [HPA.out.2.1] at h
          have := HQ3.out
          rw [h] at this
          simp at this
          omega
      have hcase2 : (k ≤ 0 ∧ m ≤ 0) ∨ (k ≤ 0 ∧ q2 ≤ 0 ∧ 0 < m) ∨ (0 < k ∧ 0 < m ∧ 0 < q2) := by
        have hz := HPZ.out
        have hq := HQ2.out
        rcases Nat.eq_zero_or_pos k with h | h
        · rcases hz.1 h with h1 | h1
          · left; omega
          · rw [h1] at hq
            simp at hq
            rcases Nat.eq_zero_or_pos m with h2 | h2
            · left; omega
            · right; left; omega
        · right; right
          refine ⟨h, ?_, ?_⟩
          · rcases Nat.eq_zero_or_pos m with h2 | h2
            · have := hz.2 (.inl h2); omega
            · exact h2
          · rcases Nat.eq_zero_or_pos q2 with h2 | h2
            · have := hz.2 (.inr (List.eq_nil_of_length_eq_zero (by rw [hq]; exact h2))); omega
            · exact h2
      have hcases : (q3 = 0 ∧ k = 0 ∧ m = 0) ∨ (q3 = 0 ∧ k = 0 ∧ q2 = 0 ∧ ¬ (m : Int) = 0) ∨ (q3 = 0 ∧ ¬ (k : Int) = 0 ∧ ¬ (m : Int) = 0 ∧ ¬ (q2 : Int) = 0) ∨ ((0 : Int) < (q3 : Int) ∧ k = m ∧ m = 0) ∨ ((0 : Int) < (q3 : Int) ∧ k = m ∧ ¬ (m : Int) = 0 ∧ ¬ (q2 : Int) = 0) := by omega
      clear hcase1 hcase2
      rcases hcases with ⟨rfl, rfl, rfl⟩ | ⟨rfl, rfl, rfl, z1⟩ | ⟨rfl, z1, z2, z3⟩ | ⟨z1, rfl, rfl⟩ | ⟨z1, rfl, z2, z3⟩
      · go_wp2_with fail
        go_big_quiet (fail)
        all_goals go_wp2_with fail
        all_goals (
          go_loopw [33, 34] (fun s v wr => ∃ (j : Nat) (A' : Option Addr) (c' : Nat), j ≤ 0 ∧ v = .int .i64 j ∧ s = .slice A' n c' ∧ Hid (Rds wr A' n 1 (fun x : Int => [.int .i64 x]) (itr t j xs)) ∧ Hid (Below wV.heap.size wV wr)) (fun _ v _ => 0 - (intOf v).toNat)
          case atStart => exact ⟨0, _, _, by omega, rfl, rfl, Lib.hid (R.out.below (Joins.below_draws _ _ _)), Lib.hid (Joins.below_draws _ _ _)⟩
          case round =>
            obtain ⟨j, A', c', hj, rfl, rfl, RN, hB⟩ := hrel
            by_cases hlt : j < 0
            · exact absurd hlt (Nat.not_lt_zero _)
            · have hjk : j = 0 := by omega
              subst j
              go_wp2_with fail
              refine (a2Same_true A' AZ n c' cZ (itr t 0 xs) _ RN.out (RZ.out.below hB.out)).mono ?_
              rintro e wz ⟨rfl, hb⟩
              go_wp2_with fail
              go_ret
              exact ⟨rfl, below_then (below_then HB.out HB.out.size hB.out) (Nat.le_trans HB.out.size hB.out.size) hb⟩)
      · have z1n : ¬ m = 0 := by omega
        have z1nb : ((m : Int) == 0) = false := by simp; omega
        go_wp2_with fail
        go_big_quiet (fail)
        all_goals go_wp2_with fail
        all_goals (
          go_loopw [33, 34] (fun s v wr => ∃ (j : Nat) (A' : Option Addr) (c' : Nat), j ≤ 0 ∧ v = .int .i64 j ∧ s = .slice A' n c' ∧ Hid (Rds wr A' n 1 (fun x : Int => [.int .i64 x]) (itr t j xs)) ∧ Hid (Below wV.heap.size wV wr)) (fun _ v _ => 0 - (intOf v).toNat)
          case atStart => exact ⟨0, _, _, by omega, rfl, rfl, Lib.hid (R.out.below (Joins.below_draws _ _ _)), Lib.hid (Joins.below_draws _ _ _)⟩
          case round =>
            obtain ⟨j, A', c', hj, rfl, rfl, RN, hB⟩ := hrel
            by_cases hlt : j < 0
            · exact absurd hlt (Nat.not_lt_zero _)
            · have hjk : j = 0 := by omega
              subst j
              go_wp2_with fail
              refine (a2Same_true A' AZ n c' cZ (itr t 0 xs) _ RN.out (RZ.out.below hB.out)).mono ?_
              rintro e wz ⟨rfl, hb⟩
              go_wp2_with fail
              go_ret
              exact ⟨rfl, below_then (below_then HB.out HB.out.size hB.out) (Nat.le_trans HB.out.size hB.out.size) hb⟩)
      · have z1n : ¬ k = 0 := by omega
        have z1nb : ((k : Int) == 0) = false := by simp; omega
        have z2n : ¬ m = 0 := by omega
        have z2nb : ((m : Int) == 0) = false := by simp; omega
        have z3n : ¬ q2 = 0 := by omega
        have z3nb : ((q2 : Int) == 0) = false := by simp; omega
        go_wp2_with fail
        go_big_quiet (fail)
        all_goals go_wp2_with fail
        all_goals (
          go_loopw [33, 34] (fun s v wr => ∃ (j : Nat) (A' : Option Addr) (c' : Nat), j ≤ k ∧ v = .int .i64 j ∧ s = .slice A' n c' ∧ Hid (Rds wr A' n 1 (fun x : Int => [.int .i64 x]) (itr t j xs)) ∧ Hid (Below wV.heap.size wV wr)) (fun _ v _ => k - (intOf v).toNat)
          case atStart => exact ⟨0, _, _, by omega, rfl, rfl, Lib.hid (R.out.below (Joins.below_draws _ _ _)), Lib.hid (Joins.below_draws _ _ _)⟩
          case round =>
            obtain ⟨j, A', c', hj, rfl, rfl, RN, hB⟩ := hrel
            by_cases hlt : j < k
            · have hgi := good_itr (t := t) j HG.out
              have hne := HPA.out.2.2.2.2 j hlt
              rcases lumps_cases (itr t j xs) t with h0 | ⟨k0, l, hk0, hl⟩
              · exact absurd h0 hne
              rw [hgi.2.1, HN.out] at hk0
              obtain ⟨q4, hq4⟩ : ∃ q, (lumpsL (itr t j xs) t).length = q := ⟨_, rfl⟩
              have hq41 : 1 ≤ q4 := by rw [← hq4, hl]; simp
              have hq42 : q4 ≤ 1000 := by have h1 := lumpsTo_len (itr t j xs) t (itr t j xs).length; have h2 := hgi.2.1; have h3 := HN.out; rw [← hq4]; unfold lumpsL; omega
              have HI := Lib.hid hgi; have HQ4 := Lib.hid hq4; have HL := Lib.hid hl
              clear hgi hq4 hl hne
              go_wp2_with fail
              refine (gLumpsI A' n c' (itr t j xs) t _ RN.out HI.out.1 ht HQ4.out).mono ?_
              rintro e wa ⟨Aa, ca, rfl, Oa, hb⟩
              obtain ⟨ada, y, rfl, hy, ea⟩ := (own_rds1 Oa (by omega)).at1 (k := 0) (by omega)
              have hy0 : y = (k0 : Int) := by rw [HL.out] at hy; simpa using hy.symm
              subst hy0
              have ea0 : wa.cell? ada = some (.int .i64 (k0 : Int)) := by simpa [Addr.add] using ea
              have RN1 := Lib.hid (RN.out.below hb)
              have hBa := Lib.hid (below_then hB.out hB.out.size hb)
              clear hy ea Oa hb
              go_wp2_with fail
              refine (gPartS A' n c' (itr t j xs) k0 _ RN1.out HI.out.1 hk0).mono ?_
              rintro e wb ⟨Ab, cb, rfl, Ob, hb⟩
              have RB := Lib.hid (own_rds1 Ob (by omega))
              have hBb := Lib.hid (below_then hBa.out hBa.out.size hb)
              clear Ob hb ea0
              go_wp2_with fail
              go_roundw
              case rel => exact ⟨j + 1, Ab, cb, by omega, by go_num, rfl, Lib.hid (by rw [itr_succ, stp_at HL.out]; exact RB.out), hBb⟩
              case measure => simp [intOf]; omega
            · have hjk : j = k := by omega
              subst j
              go_wp2_with fail
              refine (a2Same_true A' AZ n c' cZ (itr t k xs) _ RN.out (RZ.out.below hB.out)).mono ?_
              rintro e wz ⟨rfl, hb⟩
              go_wp2_with fail
              go_ret
              exact ⟨rfl, below_then (below_then HB.out HB.out.size hB.out) (Nat.le_trans HB.out.size hB.out.size) hb⟩)
      · have z1n : 0 < q3 := by omega
        go_wp2_with fail
        go_big_quiet (fail)
        all_goals go_wp2_with fail
        all_goals (
          go_loopw [33, 34] (fun s v wr => ∃ (j : Nat) (A' : Option Addr) (c' : Nat), j ≤ 0 ∧ v = .int .i64 j ∧ s = .slice A' n c' ∧ Hid (Rds wr A' n 1 (fun x : Int => [.int .i64 x]) (itr t j xs)) ∧ Hid (Below wV.heap.size wV wr)) (fun _ v _ => 0 - (intOf v).toNat)
          case atStart => exact ⟨0, _, _, by omega, rfl, rfl, Lib.hid (R.out.below (Joins.below_draws _ _ _)), Lib.hid (Joins.below_draws _ _ _)⟩
          case round =>
            obtain ⟨j, A', c', hj, rfl, rfl, RN, hB⟩ := hrel
            by_cases hlt : j < 0
            · exact absurd hlt (Nat.not_lt_zero _)
            · have hjk : j = 0 := by omega
              subst j
              go_wp2_with fail
              refine (a2Same_true A' AZ n c' cZ (itr t 0 xs) _ RN.out (RZ.out.below hB.out)).mono ?_
              rintro e wz ⟨rfl, hb⟩
              go_wp2_with fail
              go_ret
              exact ⟨rfl, below_then (below_then HB.out HB.out.size hB.out) (Nat.le_trans HB.out.size hB.out.size) hb⟩)
      · have z1n : 0 < q3 := by omega
        have z2n : ¬ k = 0 := by omega
        have z2nb : ((k : Int) == 0) = false := by simp; omega
        have z3n : ¬ q2 = 0 := by omega
        have z3nb : ((q2 : Int) == 0) = false := by simp; omega
        go_wp2_with fail
        go_big_quiet (fail)
        all_goals go_wp2_with fail
        all_goals (
          go_loopw [33, 34] (fun s v wr => ∃ (j : Nat) (A' : Option Addr) (c' : Nat), j ≤ k ∧ v = .int .i64 j ∧ s = .slice A' n c' ∧ Hid (Rds wr A' n 1 (fun x : Int => [.int .i64 x]) (itr t j xs)) ∧ Hid (Below wV.heap.size wV wr)) (fun _ v _ => k - (intOf v).toNat)
          case atStart => exact ⟨0, _, _, by omega, rfl, rfl, Lib.hid (R.out.below (Joins.below_draws _ _ _)), Lib.hid (Joins.below_draws _ _ _)⟩
          case round =>
            obtain ⟨j, A', c', hj, rfl, rfl, RN, hB⟩ := hrel
            by_cases hlt : j < k
            · have hgi := good_itr (t := t) j HG.out
              have hne := HPA.out.2.2.2.2 j hlt
              rcases lumps_cases (itr t j xs) t with h0 | ⟨k0, l, hk0, hl⟩
              · exact absurd h0 hne
              rw [hgi.2.1, HN.out] at hk0
              obtain ⟨q4, hq4⟩ : ∃ q, (lumpsL (itr t j xs) t).length = q := ⟨_, rfl⟩
              have hq41 : 1 ≤ q4 := by rw [← hq4, hl]; simp
              have hq42 : q4 ≤ 1000 := by have h1 := lumpsTo_len (itr t j xs) t (itr t j xs).length; have h2 := hgi.2.1; have h3 := HN.out; rw [← hq4]; unfold lumpsL; omega
              have HI := Lib.hid hgi; have HQ4 := Lib.hid hq4; have HL := Lib.hid hl
              clear hgi hq4 hl hne
              go_wp2_with fail
              refine (gLumpsI A' n c' (itr t j xs) t _ RN.out HI.out.1 ht HQ4.out).mono ?_
              rintro e wa ⟨Aa, ca, rfl, Oa, hb⟩
              obtain ⟨ada, y, rfl, hy, ea⟩ := (own_rds1 Oa (by omega)).at1 (k := 0) (by omega)
              have hy0 : y = (k0 : Int) := by rw [HL.out] at hy; simpa using hy.symm
              subst hy0
              have ea0 : wa.cell? ada = some (.int .i64 (k0 : Int)) := by simpa [Addr.add] using ea
              have RN1 := Lib.hid (RN.out.below hb)
              have hBa := Lib.hid (below_then hB.out hB.out.size hb)
              clear hy ea Oa hb
              go_wp2_with fail
              refine (gPartS A' n c' (itr t j xs) k0 _ RN1.out HI.out.1 hk0).mono ?_
              rintro e wb ⟨Ab, cb, rfl, Ob, hb⟩
              have RB := Lib.hid (own_rds1 Ob (by omega))
              have hBb := Lib.hid (below_then hBa.out hBa.out.size hb)
              clear Ob hb ea0
              go_wp2_with fail
              go_roundw
              case rel => exact ⟨j + 1, Ab, cb, by omega, by go_num, rfl, Lib.hid (by rw [itr_succ, stp_at HL.out]; exact RB.out), hBb⟩
              case measure => simp [intOf]; omega
            · have hjk : j = k := by omega
              subst j
              go_wp2_with fail
              refine (a2Same_true A' AZ n c' cZ (itr t k xs) _ RN.out (RZ.out.below hB.out)).mono ?_
              rintro e wz ⟨rfl, hb⟩
              go_wp2_with fail
              go_ret
              exact ⟨rfl, below_then (below_then HB.out HB.out.size hB.out) (Nat.le_trans HB.out.size hB.out.size) hb⟩)
end Go.Proofs.Ytkdkdnjhhdpbmaa
