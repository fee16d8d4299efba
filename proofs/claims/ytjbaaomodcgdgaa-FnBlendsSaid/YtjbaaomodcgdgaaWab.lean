/- The walk of FnBlends, from the nearest blend on; The walk of FnBlends, from its first test on; The walk of FnBlends, from the shares on; The walk of FnBlends, from its beginning. -/
import Derived.Test.YtjbaaomodcgdgaaW9
import Derived.BigQuiet
import Derived.Deep.QuietTactic
import Derived.Deep.DeepCutAuto
import Derived.IntWalk
import Derived.Test.YtjbaaomodcgdgaaS2
import Derived.Test.YtjbaaomodcgdgaaP7
import Derived.Test.YtjbaaomodcgdgaaP8
namespace Go.Proofs.Ytjbaaomodcgdgaa
open Go.RowKit
set_option linter.unusedVariables false
set_option linter.unusedSimpArgs false
set_option maxRecDepth 100000 in
set_option maxHeartbeats 8000000 in
theorem bl19 (w0 w : World) {gx n c bt bl : Nat} {xs : List (Int × List Int)} {b0 b1 b2 b3 b4 b5 b6 b7 P N D : Int} (HL : Hid (Lst xs)) (HW : Hid (Wan [b0, b1, b2, b3, b4, b5, b6, b7])) (hP : 1 ≤ P ∧ P ≤ 5) (eN : Hid (nbN xs [b0, b1, b2, b3, b4, b5, b6, b7] P = N)) (eD : Hid (nbD xs [b0, b1, b2, b3, b4, b5, b6, b7] P = D)) (hn : 1 ≤ n ∧ n ≤ 4)
    {XC : List Value} (X5 : Hid (Row w gx 48 XC)) (hXC : Hid (∀ wx, Row wx gx 48 XC → Rds wx (some ⟨gx, 0, none⟩) n 9 FlC xs)) (X6 : Hid (Row w bt 27 [.int .i32 b0, .int .i32 b1, .int .i32 b2, .int .i32 b3, .int .i32 b4, .int .i32 b5, .int .i32 b6, .int .i32 b7])) (X18 : Hid (Row w bl 34 [.int .i64 N, .int .i64 D])) (HB : Hid (Below w0.heap.size w0 w))
    {Ap : Option Addr} {cp : Nat} {ps : List Int} (eR : Hid (nbR xs [b0, b1, b2, b3, b4, b5, b6, b7] P = ps)) (RP : Hid (Rds w Ap n 1 (fun x : Int => [.int .i64 x]) ps))
    (t : Array Value) (ht : t.size = 356) (h5 : t[5]! = .slice (some ⟨gx, 0, none⟩) n c) (h6 : t[6]! = .pointer (some ⟨bt, 0, none⟩)) (h7 : t[7]! = .int .i64 P) (h17 : t[17]! = .slice Ap n cp) (h18 : t[18]! = .pointer (some ⟨bl, 0, none⟩))
    (Kk : Act → World → Prop) (hK : ∀ a w, (rs (cd 15 blCode)).wp Try.prog (bodyPost Try.prog Try.f3 fun e w' => e = .returned (.bool true) ∧ Below w0.heap.size w0 w') a w → Kk a w)
    (K1 : Act → World → Prop) (hK1 : ∀ a w, (rs (hd (cd 15 blCode))).wp Try.prog (Exit.then Kk (bodyPost Try.prog Try.f3 fun e w' => e = .returned (.bool true) ∧ Below w0.heap.size w0 w')) a w → K1 a w) :
    (hd (hd (cd 15 blCode))).wp Try.prog (Exit.then K1 (Exit.then Kk (bodyPost Try.prog Try.f3 fun e w' => e = .returned (.bool true) ∧ Below w0.heap.size w0 w'))) ⟨t, []⟩ w := by
  rw [(slots356 t ht).choose_spec.1] at h5 h6 h7 h17 h18
  obtain ⟨z, hz⟩ : ∃ z, (slots356 t ht).choose = z := ⟨_, rfl⟩
  have e := (slots356 t ht).choose_spec.2
  rw [hz] at h5 h6 h7 h17 h18 e
  rw [e, h5, h6, h7, h17, h18]
  clear e hz h5 h6 h7 h17 h18 ht t
  conv => arg 2; whnf
  conv at hK => enter [a, w, 1, 2]; whnf
  conv at hK1 => enter [a, w, 1, 2]; whnf
  have HXL := Lib.hid (hXC.out _ X5.out).1
  have hF := Lib.hid (fl_facts HL.out.fl).1
  obtain ⟨n1, n2, n3, n4, -⟩ := nb_all HL.out HW.out hP (by rw [HXL.out]; omega)
  rw [eR.out] at n2 n3 n4
  have hbc := HL.out.bl n2 n4 (by rw [n3]; omega)
  have hwh := blR_whole HL.out n2 n4 (by rw [n3]; omega)
  have HTB := Lib.hid (take_bd n4 (by rw [n2, HXL.out]; omega))
  have HS3 := Lib.hid n3
  obtain ⟨S, hS⟩ : ∃ S, blR xs ps = S := ⟨_, rfl⟩
  rw [hS] at hwh
  have HWH := Lib.hid hwh
  have hS8 := hwh.len
  obtain ⟨E, hE⟩ : ∃ E, denTo S 8 = E := ⟨_, rfl⟩
  have HSU : Hid (∀ wx, Rds wx Ap n 1 (fun x : Int => [.int .i64 x]) ps → Calls Try.prog 17 #[.slice Ap n cp] wx fun e w' => e = .returned (.int .i64 P) ∧ w' = wx) := Lib.hid (fun wx r => by have h := sumOf_any Ap n cp ps wx r (Lib.hid (fun k _ => HTB.out k)); rw [HS3.out] at h; exact h)
  have HBI : Hid (∀ wx, Rds wx (some ⟨gx, 0, none⟩) n 9 FlC xs → Rds wx Ap n 1 (fun x : Int => [.int .i64 x]) ps → Calls Try.prog 18 #[.slice (some ⟨gx, 0, none⟩) n c, .slice Ap n cp] wx (RetOwnT 34 2 8 (S.flatMap FrC) [.int .i64 0] wx)) := Lib.hid (fun wx r1 r2 => by have h := iBlendOf (some ⟨gx, 0, none⟩) n c xs Ap n cp ps wx r1 hF (by omega) r2 (by omega); rw [hbc, hS, hS8] at h; exact h)
  have HBS : Hid (∀ wx, Rds wx (some ⟨gx, 0, none⟩) n 9 FlC xs → Rds wx Ap n 1 (fun x : Int => [.int .i64 x]) ps → Calls Try.prog 19 #[.slice (some ⟨gx, 0, none⟩) n c, .slice Ap n cp] wx (RetOwnT 34 2 8 (S.flatMap FrC) [.int .i64 0] wx)) := Lib.hid (fun wx r1 r2 => by have h := sBlendOf (some ⟨gx, 0, none⟩) n c xs Ap n cp ps wx r1 hF (by omega) r2 (by omega); rw [hbc, hS, hS8] at h; exact h)
  have HDE : Hid (∀ wx A d, Rds wx A 8 2 FrC S → Calls Try.prog 15 #[.slice A 8 d] wx fun e w' => e = .returned (.int .i64 E) ∧ Below wx.heap.size wx w') := Lib.hid (fun wx A d r => by have h := denOf_any A 8 d S wx r (Lib.hid (fun k hk => by have := HWH.out.den k hk; omega)) (Lib.hid (fun k hk => by have := HWH.out.ds k hk; omega)); rw [hE] at h; exact h)
  have HSF : Hid (∀ wx A d, Rds wx A 8 2 FrC S → Calls Try.prog 16 #[.slice A 8 d, .int .i64 E] wx fun e w' => e = .returned (.int .i64 E) ∧ Below wx.heap.size wx w') := Lib.hid (fun wx A d r => by have h := sfs_any A 8 d S E wx r (by have := HWH.out.den 8 (by omega); omega) (Lib.hid (fun k hk => by have := HWH.out.sf k hk; rw [hE] at this; omega)) (Lib.hid (fun k hk => by have := HWH.out.ds k hk; have := HWH.out.tm k hk; rw [hE] at this; omega)); rw [← hE, HWH.out.all, hE] at h; exact h)
  clear n1 n2 n3 n4 hbc hwh HTB HS3 hS8 hE HWH hS
  go_wp2_with fail
  refine (HSU.out _ RP.out).mono ?_
  rintro e w1 ⟨rfl, rfl⟩
  clear HSU
  go_wp2_with fail
  refine (HBI.out _ (hXC.out _ X5.out) RP.out).mono ?_
  rintro e w2 ⟨A1, c1, rfl, O, hb⟩
  replace HB := Lib.hid (below_then HB.out HB.out.size hb)
  replace X5 := Lib.hid (X5.out.below hb)
  replace X6 := Lib.hid (X6.out.below hb)
  replace X18 := Lib.hid (X18.out.below hb)
  replace RP := Lib.hid (RP.out.below hb)
  have R1 := Lib.hid (own_rdsF O (by omega))
  clear O hb HBI
  go_wp2_with fail
  refine (HBS.out _ (hXC.out _ X5.out) RP.out).mono ?_
  rintro e w3 ⟨A2, c2, rfl, O, hb⟩
  replace HB := Lib.hid (below_then HB.out HB.out.size hb)
  replace X5 := Lib.hid (X5.out.below hb)
  replace X6 := Lib.hid (X6.out.below hb)
  replace X18 := Lib.hid (X18.out.below hb)
  replace R1 := Lib.hid (R1.out.below hb)
  have R2 := Lib.hid (own_rdsF O (by omega))
  clear O hb HBS RP
  go_wp2_with fail
  refine (sameFractions_true A1 A2 8 c1 c2 S _ R1.out R2.out).mono ?_
  rintro e w4 ⟨rfl, hb⟩
  replace HB := Lib.hid (below_then HB.out HB.out.size hb)
  replace X5 := Lib.hid (X5.out.below hb)
  replace X6 := Lib.hid (X6.out.below hb)
  replace X18 := Lib.hid (X18.out.below hb)
  replace R2 := Lib.hid (R2.out.below hb)
  clear hb R1
  go_wp2_with fail
  refine (HDE.out _ _ _ R2.out).mono ?_
  rintro e w5 ⟨rfl, hb⟩
  replace HB := Lib.hid (below_then HB.out HB.out.size hb)
  replace X5 := Lib.hid (X5.out.below hb)
  replace X6 := Lib.hid (X6.out.below hb)
  replace X18 := Lib.hid (X18.out.below hb)
  replace R2 := Lib.hid (R2.out.below hb)
  clear hb HDE
  go_wp2_with fail
  refine (HSF.out _ _ _ R2.out).mono ?_
  rintro e w6 ⟨rfl, hb⟩
  replace HB := Lib.hid (below_then HB.out HB.out.size hb)
  replace X5 := Lib.hid (X5.out.below hb)
  replace X6 := Lib.hid (X6.out.below hb)
  replace X18 := Lib.hid (X18.out.below hb)
  clear hb HSF R2
  go_upto_region 28 with fail
  exact bl28 w0 _ HL HW hP eN eD hn X5 hXC X6 X18 HB _ rfl rfl rfl rfl rfl _ (by assumption) _ (by assumption)
end Go.Proofs.Ytjbaaomodcgdgaa
namespace Go.Proofs.Ytjbaaomodcgdgaa
open Go.RowKit
set_option linter.unusedVariables false
set_option linter.unusedSimpArgs false
set_option maxRecDepth 100000 in
set_option maxHeartbeats 8000000 in
theorem bl12 (w0 w : World) {n cx bt : Nat} {Ax : Option Addr} {xs : List (Int × List Int)} {b0 b1 b2 b3 b4 b5 b6 b7 P : Int} (HL : Hid (Lst xs)) (HN : Hid (xs.length = n)) (HW : Hid (Wan [b0, b1, b2, b3, b4, b5, b6, b7])) (hP : 1 ≤ P ∧ P ≤ 5) (hn : n ≤ 4)
    (O5 : Hid (w.ownsRow w0.heap.size 48 9 (.slice Ax n cx) n (xs.flatMap FlC))) (X6 : Hid (Row w bt 27 [.int .i32 b0, .int .i32 b1, .int .i32 b2, .int .i32 b3, .int .i32 b4, .int .i32 b5, .int .i32 b6, .int .i32 b7])) (HB : Hid (Below w0.heap.size w0 w))
    {N D C : Int} (eN : Hid (nbN xs [b0, b1, b2, b3, b4, b5, b6, b7] P = N)) (eD : Hid (nbD xs [b0, b1, b2, b3, b4, b5, b6, b7] P = D)) (hC : (C = 0 ∧ 0 < n) ∨ (C = 6 ∧ n = 0)) {m : Nat} {ps : List Int} (eR : Hid (nbR xs [b0, b1, b2, b3, b4, b5, b6, b7] P = ps)) (hm : m ≤ 8) (hmn : 0 < n → m = n)
    {S : List (Int × Int)} (HS : Hid (Whole S)) {A8 A10 A14 A17 : Option Addr} {c8 c10 c14 c17 b12 b15 b18 : Nat} (R8 : Hid (Rds w A8 8 2 FrC S)) (R10 : Hid (Rds w A10 8 2 FrC S)) (R14 : Hid (Rds w A14 m 1 (fun x : Int => [.int .i64 x]) ps)) (R17 : Hid (Rds w A17 m 1 (fun x : Int => [.int .i64 x]) ps))
    (X12 : Hid (Row w b12 34 [.int .i64 0, .int .i64 1])) (X15 : Hid (Row w b15 34 [.int .i64 N, .int .i64 D])) (X18 : Hid (Row w b18 34 [.int .i64 N, .int .i64 D]))
    (t : Array Value) (ht : t.size = 356) (h5 : t[5]! = .slice Ax n cx) (h6 : t[6]! = .pointer (some ⟨bt, 0, none⟩)) (h7 : t[7]! = .int .i64 P) (h8 : t[8]! = .slice A8 8 c8) (h9 : t[9]! = .int .i64 0) (h10 : t[10]! = .slice A10 8 c10) (h11 : t[11]! = .int .i64 0) (h12 : t[12]! = .pointer (some ⟨b12, 0, none⟩)) (h13 : t[13]! = .int .i64 0) (h14 : t[14]! = .slice A14 m c14) (h15 : t[15]! = .pointer (some ⟨b15, 0, none⟩)) (h16 : t[16]! = .int .i64 C) (h17 : t[17]! = .slice A17 m c17) (h18 : t[18]! = .pointer (some ⟨b18, 0, none⟩)) (h19 : t[19]! = .int .i64 C)
    (Kk : Act → World → Prop) (hK : ∀ a w, (rs (cd 11 blCode)).wp Try.prog (bodyPost Try.prog Try.f3 fun e w' => e = .returned (.bool true) ∧ Below w0.heap.size w0 w') a w → Kk a w)
    (K1 : Act → World → Prop) (hK1 : ∀ a w, (rs (hd (cd 11 blCode))).wp Try.prog (Exit.then Kk (bodyPost Try.prog Try.f3 fun e w' => e = .returned (.bool true) ∧ Below w0.heap.size w0 w')) a w → K1 a w) :
    (hd (hd (cd 11 blCode))).wp Try.prog (Exit.then K1 (Exit.then Kk (bodyPost Try.prog Try.f3 fun e w' => e = .returned (.bool true) ∧ Below w0.heap.size w0 w'))) ⟨t, []⟩ w := by
  rw [(slots356 t ht).choose_spec.1] at h5 h6 h7 h8 h9 h10 h11 h12 h13 h14 h15 h16 h17 h18 h19
  obtain ⟨z, hz⟩ : ∃ z, (slots356 t ht).choose = z := ⟨_, rfl⟩
  have e := (slots356 t ht).choose_spec.2
  rw [hz] at h5 h6 h7 h8 h9 h10 h11 h12 h13 h14 h15 h16 h17 h18 h19 e
  rw [e, h5, h6, h7, h8, h9, h10, h11, h12, h13, h14, h15, h16, h17, h18, h19]
  clear e hz h5 h6 h7 h8 h9 h10 h11 h12 h13 h14 h15 h16 h17 h18 h19 ht t
  conv => arg 2; whnf
  conv at hK => enter [a, w, 1, 2]; whnf
  conv at hK1 => enter [a, w, 1, 2]; whnf
  obtain ⟨E, hE⟩ : ∃ E, denTo S 8 = E := ⟨_, rfl⟩
  have HE := Lib.hid hE; clear hE
  have HDE : Hid (∀ wx A d, Rds wx A 8 2 FrC S → Calls Try.prog 15 #[.slice A 8 d] wx fun e w' => e = .returned (.int .i64 E) ∧ Below wx.heap.size wx w') := Lib.hid (fun wx A d r => by have h := denOf_any A 8 d S wx r (Lib.hid (fun k hk => by have := HS.out.den k hk; omega)) (Lib.hid (fun k hk => by have := HS.out.ds k hk; omega)); rw [HE.out] at h; exact h)
  have HSF : Hid (∀ wx A d, Rds wx A 8 2 FrC S → Calls Try.prog 16 #[.slice A 8 d, .int .i64 E] wx fun e w' => e = .returned (.int .i64 E) ∧ Below wx.heap.size wx w') := Lib.hid (fun wx A d r => by have h := sfs_any A 8 d S E wx r (by have := HS.out.den 8 (by omega); rw [HE.out] at this; omega) (Lib.hid (fun k hk => by have := HS.out.sf k hk; rw [HE.out] at this; omega)) (Lib.hid (fun k hk => by have := HS.out.ds k hk; have := HS.out.tm k hk; rw [HE.out] at this; omega)); rw [← HE.out, HS.out.all, HE.out] at h; exact h)
  clear HS HE
  rcases hC with ⟨rfl, hpos⟩ | ⟨rfl, rfl⟩
  · as_aux_lemma =>
    obtain rfl := hmn hpos
    have hnpos : (0 : Int) < (m : Int) := by omega
    clear hmn
    go_wp2_with fail
    refine (sameFractions_true A8 A10 8 c8 c10 S _ R8.out R10.out).mono ?_
    rintro e w1 ⟨rfl, hb⟩
    replace HB := Lib.hid (below_then HB.out HB.out.size hb)
    replace O5 := Lib.hid (own_below O5.out hb)
    replace X6 := Lib.hid (X6.out.below hb)
    replace R10 := Lib.hid (R10.out.below hb)
    replace R14 := Lib.hid (R14.out.below hb)
    replace R17 := Lib.hid (R17.out.below hb)
    replace X12 := Lib.hid (X12.out.below hb)
    replace X15 := Lib.hid (X15.out.below hb)
    replace X18 := Lib.hid (X18.out.below hb)
    clear hb R8
    obtain ⟨p0, p1⟩ := X12.out.cells2
    go_wp2_with fail
    refine (sameNumbers_true A14 A17 m c14 c17 ps _ R14.out R17.out).mono ?_
    rintro e w2 ⟨rfl, hb⟩
    clear p0 p1
    replace HB := Lib.hid (below_then HB.out HB.out.size hb)
    replace O5 := Lib.hid (own_below O5.out hb)
    replace X6 := Lib.hid (X6.out.below hb)
    replace R10 := Lib.hid (R10.out.below hb)
    replace R17 := Lib.hid (R17.out.below hb)
    replace X15 := Lib.hid (X15.out.below hb)
    replace X18 := Lib.hid (X18.out.below hb)
    clear hb R14 X12
    obtain ⟨p0, p1⟩ := X15.out.cells2; obtain ⟨p2, p3⟩ := X18.out.cells2
    go_wp2_with fail
    refine (HDE.out _ _ _ R10.out).mono ?_
    rintro e w3 ⟨rfl, hb⟩
    clear p0 p1 p2 p3
    replace HB := Lib.hid (below_then HB.out HB.out.size hb)
    replace O5 := Lib.hid (own_below O5.out hb)
    replace X6 := Lib.hid (X6.out.below hb)
    replace R10 := Lib.hid (R10.out.below hb)
    replace R17 := Lib.hid (R17.out.below hb)
    replace X18 := Lib.hid (X18.out.below hb)
    clear hb X15 HDE
    go_wp2_with fail
    refine (HSF.out _ _ _ R10.out).mono ?_
    rintro e w4 ⟨rfl, hb⟩
    replace HB := Lib.hid (below_then HB.out HB.out.size hb)
    replace O5 := Lib.hid (own_below O5.out hb)
    replace X6 := Lib.hid (X6.out.below hb)
    replace R17 := Lib.hid (R17.out.below hb)
    replace X18 := Lib.hid (X18.out.below hb)
    clear hb R10 HSF
    obtain ⟨gx, XL, rfl, hgx, X5, hc1, hc2, hc3⟩ := own_row O5.out hpos (by omega)
    have h8 : ∀ x ∈ xs, x.2.length = 8 := fun x hx => (HL.out.fl x hx).2.1
    have h9 := O5.out.1
    have hXC : Hid (∀ wx, Row wx gx 48 (xs.flatMap FlC ++ XL) → Rds wx (some ⟨gx, 0, none⟩) m 9 FlC xs) := Lib.hid (fun wx r => own_rdsFl (own_of_row r (Nat.le_refl _) hc1 hc2 h9 hc3) h8 (by omega))
    replace X5 := Lib.hid X5
    clear hc1 hc2 hc3 h9 h8 O5 hgx
    go_upto_region 19 with fail
    exact bl19 w0 _ HL HW hP eN eD ⟨hpos, hn⟩ X5 hXC X6 X18 HB eR R17 _ rfl rfl rfl rfl rfl rfl _ (by assumption) _ (by assumption)
  · as_aux_lemma =>
    clear hmn
    go_wp2_with fail
    refine (sameFractions_true A8 A10 8 c8 c10 S _ R8.out R10.out).mono ?_
    rintro e w1 ⟨rfl, hb⟩
    replace HB := Lib.hid (below_then HB.out HB.out.size hb)
    replace O5 := Lib.hid (own_below O5.out hb)
    replace X6 := Lib.hid (X6.out.below hb)
    replace R10 := Lib.hid (R10.out.below hb)
    replace R14 := Lib.hid (R14.out.below hb)
    replace R17 := Lib.hid (R17.out.below hb)
    replace X12 := Lib.hid (X12.out.below hb)
    replace X15 := Lib.hid (X15.out.below hb)
    replace X18 := Lib.hid (X18.out.below hb)
    clear hb R8
    obtain ⟨p0, p1⟩ := X12.out.cells2
    go_wp2_with fail
    refine (sameNumbers_true A14 A17 m c14 c17 ps _ R14.out R17.out).mono ?_
    rintro e w2 ⟨rfl, hb⟩
    clear p0 p1
    replace HB := Lib.hid (below_then HB.out HB.out.size hb)
    replace O5 := Lib.hid (own_below O5.out hb)
    replace X6 := Lib.hid (X6.out.below hb)
    replace R10 := Lib.hid (R10.out.below hb)
    replace R17 := Lib.hid (R17.out.below hb)
    replace X15 := Lib.hid (X15.out.below hb)
    replace X18 := Lib.hid (X18.out.below hb)
    clear hb R14 X12
    obtain ⟨p0, p1⟩ := X15.out.cells2; obtain ⟨p2, p3⟩ := X18.out.cells2
    go_wp2_with fail
    refine (HDE.out _ _ _ R10.out).mono ?_
    rintro e w3 ⟨rfl, hb⟩
    clear p0 p1 p2 p3
    replace HB := Lib.hid (below_then HB.out HB.out.size hb)
    replace O5 := Lib.hid (own_below O5.out hb)
    replace X6 := Lib.hid (X6.out.below hb)
    replace R10 := Lib.hid (R10.out.below hb)
    replace R17 := Lib.hid (R17.out.below hb)
    replace X18 := Lib.hid (X18.out.below hb)
    clear hb X15 HDE
    go_wp2_with fail
    refine (HSF.out _ _ _ R10.out).mono ?_
    rintro e w4 ⟨rfl, hb⟩
    replace HB := Lib.hid (below_then HB.out HB.out.size hb)
    replace O5 := Lib.hid (own_below O5.out hb)
    replace X6 := Lib.hid (X6.out.below hb)
    replace R17 := Lib.hid (R17.out.below hb)
    replace X18 := Lib.hid (X18.out.below hb)
    clear hb R10 HSF
    go_wp2_with fail
    go_ret
    exact ⟨rfl, HB.out⟩
end Go.Proofs.Ytjbaaomodcgdgaa
namespace Go.Proofs.Ytjbaaomodcgdgaa
open Go.RowKit
set_option linter.unusedVariables false
set_option linter.unusedSimpArgs false
set_option maxRecDepth 100000 in
set_option maxHeartbeats 8000000 in
theorem bl7 (w0 w : World) {n cx bt : Nat} {Ax : Option Addr} {xs : List (Int × List Int)} {b0 b1 b2 b3 b4 b5 b6 b7 P : Int} (HL : Hid (Lst xs)) (HN : Hid (xs.length = n)) (HW : Hid (Wan [b0, b1, b2, b3, b4, b5, b6, b7])) (hP : 1 ≤ P ∧ P ≤ 5) (hn : n ≤ 4)
    (O5 : Hid (w.ownsRow w0.heap.size 48 9 (.slice Ax n cx) n (xs.flatMap FlC))) (X6 : Hid (Row w bt 27 [.int .i32 b0, .int .i32 b1, .int .i32 b2, .int .i32 b3, .int .i32 b4, .int .i32 b5, .int .i32 b6, .int .i32 b7])) (HB : Hid (Below w0.heap.size w0 w))
    (t : Array Value) (ht : t.size = 356) (h5 : t[5]! = .slice Ax n cx) (h6 : t[6]! = .pointer (some ⟨bt, 0, none⟩)) (h7 : t[7]! = .int .i64 P)
    (Kk : Act → World → Prop) (hK : ∀ a w, (rs (cd 6 blCode)).wp Try.prog (bodyPost Try.prog Try.f3 fun e w' => e = .returned (.bool true) ∧ Below w0.heap.size w0 w') a w → Kk a w) :
    (hd (cd 6 blCode)).wp Try.prog (Exit.then Kk (bodyPost Try.prog Try.f3 fun e w' => e = .returned (.bool true) ∧ Below w0.heap.size w0 w')) ⟨t, []⟩ w := by
  rw [(slots356 t ht).choose_spec.1] at h5 h6 h7
  obtain ⟨z, hz⟩ : ∃ z, (slots356 t ht).choose = z := ⟨_, rfl⟩
  have e := (slots356 t ht).choose_spec.2
  rw [hz] at h5 h6 h7 e
  rw [e, h5, h6, h7]
  clear e hz h5 h6 h7 ht t
  conv => arg 2; whnf
  conv at hK => enter [a, w, 1, 2]; whnf
  have hF := Lib.hid (fl_facts HL.out.fl).1
  have h8 : Hid (∀ x ∈ xs, x.2.length = 8) := Lib.hid (fun x hx => (HL.out.fl x hx).2.1)
  have wfB : Hid (∀ x ∈ [b0, b1, b2, b3, b4, b5, b6, b7], (Lit.int .i32 x).wf = true) := Lib.hid (fun y hy => by have := HW.out.bd y hy; simp [Lit.wf, IntKind.min, IntKind.max, IntKind.signed, IntKind.bits]; omega)
  obtain ⟨S, hS⟩ : ∃ S, shR [b0, b1, b2, b3, b4, b5, b6, b7] = S := ⟨_, rfl⟩
  have hwh := shR_whole HW.out
  rw [hS] at hwh
  have hS8 := hwh.len
  obtain ⟨s1, s2, s3, s4⟩ := HW.out.hs
  obtain ⟨f1, f2, f3⟩ := off_self HW.out
  obtain ⟨N, hN⟩ : ∃ N, nbN xs [b0, b1, b2, b3, b4, b5, b6, b7] P = N := ⟨_, rfl⟩
  obtain ⟨D, hD⟩ : ∃ D, nbD xs [b0, b1, b2, b3, b4, b5, b6, b7] P = D := ⟨_, rfl⟩
  obtain ⟨C, hC⟩ : ∃ C, nbC xs [b0, b1, b2, b3, b4, b5, b6, b7] P = C := ⟨_, rfl⟩
  obtain ⟨ps, hps⟩ : ∃ ps, nbR xs [b0, b1, b2, b3, b4, b5, b6, b7] P = ps := ⟨_, rfl⟩
  obtain ⟨m, hm⟩ : ∃ m, ps.length = m := ⟨_, rfl⟩
  have hCC : (C = 0 ∧ 0 < n) ∨ (C = 6 ∧ n = 0) := by
    have h := nbC_is HL.out.fl HL.out.n4 HW.out hP
    rw [hC, HN.out] at h
    by_cases hz : n = 0
    · exact .inr ⟨by rw [h, if_pos hz], hz⟩
    · exact .inl ⟨by rw [h, if_neg hz], by omega⟩
  have hmn : 0 < n → m = n := fun h0 => by have h := (nb_all HL.out HW.out hP (by rw [HN.out]; omega)).2.1; rw [hps, hm, HN.out] at h; exact h
  have hm8 : m ≤ 8 := by have h := nbR_len xs [b0, b1, b2, b3, b4, b5, b6, b7] P hF.out rfl; rw [hps, hm] at h; omega
  have HSH := Lib.hid hwh
  have HSI : Hid (∀ wx, Calls Try.prog 8 #[.agg #[.int .i32 b0, .int .i32 b1, .int .i32 b2, .int .i32 b3, .int .i32 b4, .int .i32 b5, .int .i32 b6, .int .i32 b7]] wx (RetOwnT 34 2 8 (S.flatMap FrC) [.int .i64 0] wx)) := Lib.hid (fun wx => by have h := iSharesOf b0 b1 b2 b3 b4 b5 b6 b7 wx wfB; rw [s4, hS, hS8] at h; exact h)
  have HSS : Hid (∀ wx, Calls Try.prog 9 #[.agg #[.int .i32 b0, .int .i32 b1, .int .i32 b2, .int .i32 b3, .int .i32 b4, .int .i32 b5, .int .i32 b6, .int .i32 b7]] wx (RetOwnT 34 2 8 (S.flatMap FrC) [.int .i64 0] wx)) := Lib.hid (fun wx => by have h := sSharesOf b0 b1 b2 b3 b4 b5 b6 b7 wx wfB; rw [s4, hS, hS8] at h; exact h)
  have HOF : Hid (∀ wx, Calls Try.prog 10 #[.agg #[.int .i32 b0, .int .i32 b1, .int .i32 b2, .int .i32 b3, .int .i32 b4, .int .i32 b5, .int .i32 b6, .int .i32 b7], .agg #[.int .i32 b0, .int .i32 b1, .int .i32 b2, .int .i32 b3, .int .i32 b4, .int .i32 b5, .int .i32 b6, .int .i32 b7]] wx fun e w' => e = .returned (.tuple #[Fr 0 1, .int .i64 0]) ∧ Below wx.heap.size wx w') := Lib.hid (fun wx => by have h := iOffBy b0 b1 b2 b3 b4 b5 b6 b7 b0 b1 b2 b3 b4 b5 b6 b7 wx wfB wfB; rw [f1, f2, f3] at h; exact h)
  have HNI : Hid (∀ wx, Rds wx Ax n 9 FlC xs → Calls Try.prog 11 #[.slice Ax n cx, .agg #[.int .i32 b0, .int .i32 b1, .int .i32 b2, .int .i32 b3, .int .i32 b4, .int .i32 b5, .int .i32 b6, .int .i32 b7], .int .i64 P] wx (RetOwnT 2 1 m (nums .i64 ps) [.agg #[.int .i64 N, .int .i64 D], .int .i64 C] wx)) := Lib.hid (fun wx r => by have h := iNearestBlend Ax n cx xs b0 b1 b2 b3 b4 b5 b6 b7 P wx r hF (by omega) wfB; rw [hN, hD, hC, hps, hm] at h; exact h)
  have HNS : Hid (∀ wx, Rds wx Ax n 9 FlC xs → Calls Try.prog 12 #[.slice Ax n cx, .agg #[.int .i32 b0, .int .i32 b1, .int .i32 b2, .int .i32 b3, .int .i32 b4, .int .i32 b5, .int .i32 b6, .int .i32 b7], .int .i64 P] wx (RetOwnT 2 1 m (nums .i64 ps) [.agg #[.int .i64 N, .int .i64 D], .int .i64 C] wx)) := Lib.hid (fun wx r => by have h := sNearestBlend Ax n cx xs b0 b1 b2 b3 b4 b5 b6 b7 P wx r hF (by omega) wfB; rw [hN, hD, hC, hps, hm] at h; exact h)
  have eN := Lib.hid hN; have eD := Lib.hid hD; have eR := Lib.hid hps
  clear hwh s1 s2 s3 s4 f1 f2 f3 hN hD hC hps hm hS hS8
  obtain ⟨e0, e1, e2, e3, e4, e5, e6, e7⟩ := X6.out.cells8
  go_wp2_with fail
  refine (HSI.out _).mono ?_
  rintro e w1 ⟨A8, c8, rfl, O, hb⟩
  clear e0 e1 e2 e3 e4 e5 e6 e7
  replace HB := Lib.hid (below_then HB.out HB.out.size hb)
  replace O5 := Lib.hid (own_below O5.out hb)
  replace X6 := Lib.hid (X6.out.below hb)
  have R8 := Lib.hid (own_rdsF O (by omega))
  clear O hb HSI
  obtain ⟨e0, e1, e2, e3, e4, e5, e6, e7⟩ := X6.out.cells8
  go_wp2_with fail
  refine (HSS.out _).mono ?_
  rintro e w2 ⟨A10, c10, rfl, O, hb⟩
  clear e0 e1 e2 e3 e4 e5 e6 e7
  replace HB := Lib.hid (below_then HB.out HB.out.size hb)
  replace O5 := Lib.hid (own_below O5.out hb)
  replace X6 := Lib.hid (X6.out.below hb)
  replace R8 := Lib.hid (R8.out.below hb)
  have R10 := Lib.hid (own_rdsF O (by omega))
  clear O hb HSS
  obtain ⟨e0, e1, e2, e3, e4, e5, e6, e7⟩ := X6.out.cells8
  go_wp2_with fail
  refine (HOF.out _).mono ?_
  rintro e w3 ⟨rfl, hb⟩
  clear e0 e1 e2 e3 e4 e5 e6 e7
  replace HB := Lib.hid (below_then HB.out HB.out.size hb)
  replace O5 := Lib.hid (own_below O5.out hb)
  replace X6 := Lib.hid (X6.out.below hb)
  replace R8 := Lib.hid (R8.out.below hb)
  replace R10 := Lib.hid (R10.out.below hb)
  clear hb HOF
  go_upto_region 10 with fail
  have hb := below_alloc1 w3 (.cells #[.int .i64 0, .int .i64 1] 34)
  have X12 := Lib.hid (Row.alloc w3 [.int .i64 0, .int .i64 1] 34)
  replace HB := Lib.hid (below_then HB.out HB.out.size hb)
  replace O5 := Lib.hid (own_below O5.out hb)
  replace X6 := Lib.hid (X6.out.below hb)
  replace R8 := Lib.hid (R8.out.below hb)
  replace R10 := Lib.hid (R10.out.below hb)
  clear hb
  obtain ⟨wz, hwz⟩ : ∃ x, x = World.alloc w3 (.cells #[.int .i64 0, .int .i64 1] 34) := ⟨_, rfl⟩
  obtain ⟨bX12, hbX12⟩ : ∃ x, x = w3.heap.size := ⟨_, rfl⟩
  rw [← hwz] at HB O5 X6 R8 R10 X12 ⊢
  rw [← hbX12] at X12 ⊢
  clear hwz hbX12 w3
  obtain ⟨w3, hw3⟩ : ∃ x, x = wz := ⟨_, rfl⟩
  subst hw3
  obtain ⟨e0, e1, e2, e3, e4, e5, e6, e7⟩ := X6.out.cells8
  go_wp2_with fail
  refine (HNI.out _ (own_rdsFl O5.out h8.out (by omega))).mono ?_
  rintro e w4 ⟨A14, c14, rfl, O, hb⟩
  clear e0 e1 e2 e3 e4 e5 e6 e7
  replace HB := Lib.hid (below_then HB.out HB.out.size hb)
  replace O5 := Lib.hid (own_below O5.out hb)
  replace X6 := Lib.hid (X6.out.below hb)
  replace R8 := Lib.hid (R8.out.below hb)
  replace R10 := Lib.hid (R10.out.below hb)
  replace X12 := Lib.hid (X12.out.below hb)
  have R14 := Lib.hid (own_rds1 O (by omega))
  clear O hb HNI
  go_upto_region 11 with fail
  have hb := below_alloc1 w4 (.cells #[.int .i64 N, .int .i64 D] 34)
  have X15 := Lib.hid (Row.alloc w4 [.int .i64 N, .int .i64 D] 34)
  replace HB := Lib.hid (below_then HB.out HB.out.size hb)
  replace O5 := Lib.hid (own_below O5.out hb)
  replace X6 := Lib.hid (X6.out.below hb)
  replace R8 := Lib.hid (R8.out.below hb)
  replace R10 := Lib.hid (R10.out.below hb)
  replace X12 := Lib.hid (X12.out.below hb)
  replace R14 := Lib.hid (R14.out.below hb)
  clear hb
  obtain ⟨wz, hwz⟩ : ∃ x, x = World.alloc w4 (.cells #[.int .i64 N, .int .i64 D] 34) := ⟨_, rfl⟩
  obtain ⟨bX15, hbX15⟩ : ∃ x, x = w4.heap.size := ⟨_, rfl⟩
  rw [← hwz] at HB O5 X6 R8 R10 X12 R14 X15 ⊢
  rw [← hbX15] at X15 ⊢
  clear hwz hbX15 w4
  obtain ⟨w4, hw4⟩ : ∃ x, x = wz := ⟨_, rfl⟩
  subst hw4
  obtain ⟨e0, e1, e2, e3, e4, e5, e6, e7⟩ := X6.out.cells8
  go_wp2_with fail
  refine (HNS.out _ (own_rdsFl O5.out h8.out (by omega))).mono ?_
  rintro e w5 ⟨A17, c17, rfl, O, hb⟩
  clear e0 e1 e2 e3 e4 e5 e6 e7
  replace HB := Lib.hid (below_then HB.out HB.out.size hb)
  replace O5 := Lib.hid (own_below O5.out hb)
  replace X6 := Lib.hid (X6.out.below hb)
  replace R8 := Lib.hid (R8.out.below hb)
  replace R10 := Lib.hid (R10.out.below hb)
  replace X12 := Lib.hid (X12.out.below hb)
  replace R14 := Lib.hid (R14.out.below hb)
  replace X15 := Lib.hid (X15.out.below hb)
  have R17 := Lib.hid (own_rds1 O (by omega))
  clear O hb HNS
  go_upto_region 12 with fail
  have hb := below_alloc1 w5 (.cells #[.int .i64 N, .int .i64 D] 34)
  have X18 := Lib.hid (Row.alloc w5 [.int .i64 N, .int .i64 D] 34)
  replace HB := Lib.hid (below_then HB.out HB.out.size hb)
  replace O5 := Lib.hid (own_below O5.out hb)
  replace X6 := Lib.hid (X6.out.below hb)
  replace R8 := Lib.hid (R8.out.below hb)
  replace R10 := Lib.hid (R10.out.below hb)
  replace X12 := Lib.hid (X12.out.below hb)
  replace R14 := Lib.hid (R14.out.below hb)
  replace X15 := Lib.hid (X15.out.below hb)
  replace R17 := Lib.hid (R17.out.below hb)
  clear hb
  obtain ⟨wz, hwz⟩ : ∃ x, x = World.alloc w5 (.cells #[.int .i64 N, .int .i64 D] 34) := ⟨_, rfl⟩
  obtain ⟨bX18, hbX18⟩ : ∃ x, x = w5.heap.size := ⟨_, rfl⟩
  rw [← hwz] at HB O5 X6 R8 R10 X12 R14 X15 R17 X18 ⊢
  rw [← hbX18] at X18 ⊢
  clear hwz hbX18 w5
  exact bl12 w0 _ HL HN HW hP hn O5 X6 HB eN eD hCC eR hm8 hmn HSH R8 R10 R14 R17 X12 X15 X18 _ rfl rfl rfl rfl rfl rfl rfl rfl rfl rfl rfl rfl rfl rfl rfl rfl _ (by assumption) _ (by assumption)
end Go.Proofs.Ytjbaaomodcgdgaa
namespace Go.Proofs.Ytjbaaomodcgdgaa
open Go.RowKit
set_option linter.unusedVariables false
set_option linter.unusedSimpArgs false
set_option maxRecDepth 100000 in
set_option maxHeartbeats 8000000 in
theorem walk_FnBlends (w : World) (A0 : Option Addr) (n0 c0 : Nat) (x0 : List Int) (hc0 : n0 ≤ c0) (R0 : Rds w A0 n0 1 (fun x : Int => [.int .u8 x]) x0) (g0 : ∀ x ∈ x0, (Lit.int .u8 x).wf = true) (b0 : n0 * 1 ≤ 140737488351232)
    (A1 : Option Addr) (n1 c1 : Nat) (x1 : List Int) (hc1 : n1 ≤ c1) (R1 : Rds w A1 n1 1 (fun x : Int => [.int .u8 x]) x1) (g1 : ∀ x ∈ x1, (Lit.int .u8 x).wf = true) (b1 : n1 * 1 ≤ 140737488351232) :
    Calls Try.prog 3 #[.slice A0 n0 c0, .slice A1 n1 c1] w fun e w' => e = .returned (.bool true) ∧ Below w.heap.size w w' := by
  have G0 := Lib.hid g0; have G1 := Lib.hid g1
  clear g0 g1 hc0 hc1 b0 b1
  by_cases hl0 : 4096 < n0
  · have e0 : decide (4096 < n0) = true := decide_eq_true hl0
    go_enter Try.func3, Try.ntmps3
    go_wp2_with fail
    refine (f6big_any A0 n0 c0 _).mono ?_
    rintro e w1 ⟨rfl, rfl⟩
    rw [e0]
    go_wp2_with fail
    go_ret
    exact ⟨rfl, Below.refl _ _⟩
  have e0 : decide (4096 < n0) = false := decide_eq_false hl0
  by_cases hl1 : 4096 < n1
  · have e1 : decide (4096 < n1) = true := decide_eq_true hl1
    go_enter Try.func3, Try.ntmps3
    go_wp2_with fail
    refine (f6big_any A0 n0 c0 _).mono ?_
    rintro e w1 ⟨rfl, rfl⟩
    rw [e0]
    go_wp2_with fail
    refine (f6big_any A1 n1 c1 _).mono ?_
    rintro e w2 ⟨rfl, rfl⟩
    rw [e1]
    go_wp2_with fail
    go_ret
    exact ⟨rfl, Below.refl _ _⟩
  have e1 : decide (4096 < n1) = false := decide_eq_false hl1
  clear hl0 hl1
  have HB := Lib.hid (Below.refl w.heap.size w)
  obtain ⟨w0, hw0⟩ : ∃ x, x = w := ⟨_, rfl⟩
  rw [← hw0]
  rw [← hw0] at HB
  have HR0 := Lib.hid R0; have HR1 := Lib.hid R1; clear R0 R1
  rw [← hw0] at HR0 HR1
  clear hw0 w
  go_enter Try.func3, Try.ntmps3
  go_wp2_with fail
  refine (f6big_any A0 n0 c0 _).mono ?_
  rintro e w1 ⟨rfl, hw⟩
  rw [e0, hw]
  clear hw w1
  go_wp2_with fail
  refine (f6big_any A1 n1 c1 _).mono ?_
  rintro e w2 ⟨rfl, hw⟩
  rw [e1, hw]
  clear hw w2
  clear e0 e1
  go_wp2_with fail
  refine (p6Fleeces_any A0 n0 c0 x0 _ HR0.out G0.out).mono ?_
  rintro e w1 ⟨Ax, cx, xs, rfl, hx4, hfl, O, hb⟩
  have HL : Hid (Lst xs) := Lib.hid ⟨hfl, hx4⟩
  have O5 := Lib.hid O
  clear O hfl
  replace HB := Lib.hid (below_then HB.out HB.out.size hb)
  clear hb
  go_wp2_with fail
  refine (p6Heap_any A1 n1 c1 x1 _ (HR1.out.below HB.out) G1.out).mono ?_
  rintro e w2 ⟨a0, a1, a2, a3, a4, a5, a6, a7, rfl, hbd, hb⟩
  replace O5 := Lib.hid (own_below O5.out hb)
  replace HB := Lib.hid (below_then HB.out HB.out.size hb)
  clear hb
  have HOB := Lib.hid (fun kk h => (own_base O5.out kk h).2)
  have hbw : w0.heap.size ≤ w2.heap.size := HB.out.size
  go_upto_region 5 with fail
  have hb := below_alloc1 w2 (.cells #[.int .i32 a0, .int .i32 a1, .int .i32 a2, .int .i32 a3, .int .i32 a4, .int .i32 a5, .int .i32 a6, .int .i32 a7] 27)
  have X6 := Lib.hid (Row.alloc w2 [.int .i32 a0, .int .i32 a1, .int .i32 a2, .int .i32 a3, .int .i32 a4, .int .i32 a5, .int .i32 a6, .int .i32 a7] 27)
  replace O5 := Lib.hid (own_below O5.out hb)
  replace HB := Lib.hid (below_then HB.out HB.out.size hb)
  clear hb
  obtain ⟨wz, hwz⟩ : ∃ x, x = World.alloc w2 (.cells #[.int .i32 a0, .int .i32 a1, .int .i32 a2, .int .i32 a3, .int .i32 a4, .int .i32 a5, .int .i32 a6, .int .i32 a7] 27) := ⟨_, rfl⟩
  obtain ⟨bt, hbt⟩ : ∃ x, x = w2.heap.size := ⟨_, rfl⟩
  rw [← hwz] at HB O5 X6 ⊢
  rw [← hbt] at X6 hbw HOB ⊢
  clear hwz hbt w2
  go_wp2_with fail
  refine (p6Pick_any A0 n0 c0 x0 8 _ (HR0.out.below HB.out) G0.out (by omega)).mono ?_
  rintro e w3 ⟨at_, rfl, ha0, ha1, -, hb⟩
  replace O5 := Lib.hid (own_below O5.out hb)
  replace X6 := Lib.hid (X6.out.below hb)
  replace HB := Lib.hid (below_then HB.out HB.out.size hb)
  clear hb
  have ha7 : at_ < 8 := ha1 (by omega)
  obtain ⟨q, rfl⟩ : ∃ q : Nat, at_ = (q : Int) := ⟨at_.toNat, by omega⟩
  have hq : q < 8 := by omega
  clear ha0 ha1
  obtain ⟨L, hL⟩ : ∃ L, L = [a0, a1, a2, a3, a4, a5, a6, a7] := ⟨_, rfl⟩
  rw [← hL] at hbd
  have hL8 : L.length = 8 := by rw [hL]; rfl
  have X6L : Row w3 bt 27 (nums .i32 L) := by rw [hL]; exact X6.out
  clear hL X6
  obtain ⟨y, hy⟩ : ∃ y, L[q]? = some y := ⟨_, List.getElem?_eq_getElem (by omega)⟩
  have hyb := hbd y (List.mem_of_getElem? hy)
  have hc : w3.cell? ⟨bt, q, none⟩ = some (.int .i32 y) := by rw [X6L.cell, nums_get, hy]; rfl
  have hf := X6L.frozen q
  have v1 : IntKind.i32.wrap (y + 1) = y + 1 := IntWalk.i32_in _ (by omega)
  have HWL := Lib.hid (FlD.wan (fl_more (f := 0) (by omega) hL8 hbd hy))
  have X6S : Hid (Row (w3.setCell ⟨bt, q, none⟩ (.int .i32 (y + 1))) bt 27 (nums .i32 (L.set q (y + 1)))) := Lib.hid (by rw [← set_i32]; exact X6L.set q _)
  have HBS : Hid (Below w0.heap.size w0 (w3.setCell ⟨bt, q, none⟩ (.int .i32 (y + 1)))) := Lib.hid (HB.out.setCell (p := ⟨bt, q, none⟩) (by simp; omega) _)
  have G6 := grown_own1 w3 bt q (.int .i32 (y + 1))
  have O5S := Lib.hid (own_apart (v' := .slice (some ⟨bt, 0, none⟩) 0 0) O5.out G6 (fun k1 k2 h1 h2 => by have h4 := HOB.out k1 h1; have h3 : bt = k2 := (by simpa [Value.ownBlock] using h2); omega))
  have hL28 : (L.set q (y + 1)).length = 8 := by rw [List.length_set]; exact hL8
  obtain ⟨L2, hL2⟩ : ∃ L2, L2 = L.set q (y + 1) := ⟨_, rfl⟩
  rw [← hL2] at HWL X6S hL28
  have hLs : Hid (L2 = L.set q (y + 1)) := Lib.hid hL2
  clear HB O5 G6 HOB hbd hyb hy hL8 X6L hL2
  go_upto_region 6 with fail
  obtain ⟨w5, hw5⟩ : ∃ x, x = w3.setCell ⟨bt, q, none⟩ (.int .i32 (y + 1)) := ⟨_, rfl⟩
  have HB := HBS; have O5 := O5S; have X6 := X6S; clear HBS O5S X6S
  rw [← hw5] at HB O5 X6 ⊢
  clear hw5 hc hf v1 hq ha7 hLs
  obtain ⟨b0, b1, b2, b3, b4, b5, b6, b7, rfl⟩ := eight_of hL28
  replace X6 : Hid (Row w5 bt 27 [.int .i32 b0, .int .i32 b1, .int .i32 b2, .int .i32 b3, .int .i32 b4, .int .i32 b5, .int .i32 b6, .int .i32 b7]) := X6
  replace HWL : Hid (Wan [b0, b1, b2, b3, b4, b5, b6, b7]) := HWL
  clear hL28
  go_wp2_with fail
  refine (p6Pick_any A1 n1 c1 x1 5 _ (HR1.out.below HB.out) G1.out (by omega)).mono ?_
  rintro e w6 ⟨p, rfl, hp0, hp1, -, hb⟩
  replace O5 := Lib.hid (own_below O5.out hb)
  replace X6 := Lib.hid (X6.out.below hb)
  replace HB := Lib.hid (below_then HB.out HB.out.size hb)
  clear hb
  have hp5 : p < 5 := hp1 (by omega)
  clear hp1
  have v2 : IntKind.i64.wrap (1 + p) = 1 + p := IntWalk.i64_in _ (by omega)
  go_upto_region 7 with fail
  obtain ⟨P, hP⟩ : ∃ P, 1 + p = P := ⟨_, rfl⟩
  rw [hP]
  have hP5 : 1 ≤ P ∧ P ≤ 5 := by omega
  obtain ⟨n, hn⟩ : ∃ n, xs.length = n := ⟨_, rfl⟩
  rw [hn] at O5 hx4 ⊢
  exact bl7 w0 _ HL (Lib.hid hn) HWL hP5 hx4 O5 X6 HB _ rfl rfl rfl rfl _ (by assumption)
end Go.Proofs.Ytjbaaomodcgdgaa
