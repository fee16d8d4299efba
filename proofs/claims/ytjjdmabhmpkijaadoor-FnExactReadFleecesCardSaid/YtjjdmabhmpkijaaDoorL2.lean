/- Contracts: the text of fleeces: spec.l01Text; impl.FleecesText and spec.FleecesText. -/
import Derived.Test.YtjjdmabhmpkijaaDoorL1
namespace Go.Proofs.YtjjdmabhmpkijaaDoor
open Go.RowKit
set_option linter.unusedVariables false
set_option linter.unusedSimpArgs false
theorem inB_bd {x a b : Int} (h : inB x a b = true) : a ≤ x ∧ x ≤ b := by simpa [inB] using h
theorem fl_bd {f : Int} {L : List Int} (h : fleeceOk f L = true) : (0 ≤ f ∧ f ≤ 9) ∧ ∀ y ∈ L, 0 ≤ y ∧ y ≤ 1000 := by
  simp only [fleeceOk, heapOk, Bool.and_eq_true, List.all_eq_true] at h
  exact ⟨inB_bd h.1, fun y hy => inB_bd (h.2 y hy)⟩
set_option maxHeartbeats 4000000 in
theorem sl01Text (A : Option Addr) (n c : Nat) (xs : List (Int × List Int)) (w : World) (R : Rds w A n 9 FlC xs) (hF : Hid (FlOk xs)) (hV : Hid (flB xs = true)) (h6 : n ≤ 6) :
    Calls Tryd.prog 15 #[.slice A n c] w fun e w' => e = .returned (.string (bt (flT xs))) ∧ Below w.heap.size w w' := by
  have HXL := Lib.hid R.1
  go_enter Tryd.func15, Tryd.ntmps15
  go_wp2_with fail
  go_loopw [3, 4] (fun s v wr => ∃ k : Nat, k ≤ n ∧ v = .int .i64 k ∧ s = .string (bt (flT (xs.take k))) ∧ Hid (Below w.heap.size w wr)) (fun _ v _ => n - (intOf v).toNat)
  case atStart => exact ⟨0, by omega, rfl, rfl, Lib.hid (Below.refl _ _)⟩
  case round =>
    obtain ⟨k, hk, rfl, rfl, hB⟩ := hrel
    by_cases hlt : k < n
    · obtain ⟨ad, x, rfl, hx, hm, hc0, hc⟩ := (R.below hB.out).cells hlt
      obtain ⟨g1, g2, g3⟩ := hF.out x hm
      have hok : fleeceOk x.1 x.2 = true := List.all_eq_true.1 hV.out x hm
      obtain ⟨hf, hG⟩ := fl_bd hok
      have c0 := hc0 _ rfl
      have HRD := Lib.hid (R.below hB.out)
      have HS : Hid (flT (xs.take (k + 1)) = flT (xs.take k) ++ (Lib.itoa x.1 ++ 58 :: gs x.2 ++ [10])) := Lib.hid (flT_succ hx)
      have hTl := flT_take_le hF.out k
      obtain ⟨P, hP⟩ : ∃ P, flT (xs.take k) = P := ⟨_, rfl⟩
      rw [hP] at hTl HS
      rw [hP]
      clear hP hok hc0 hc hm
      obtain ⟨f, L⟩ := x
      have HX := Lib.hid hx; have HG := Lib.hid hG; have G2 := Lib.hid g2
      clear hx hG g2
      obtain ⟨m, rfl⟩ : ∃ m : Nat, f = (m : Int) := ⟨f.toNat, by have := hf.1; change 0 ≤ f at this; omega⟩
      have hm9 : m ≤ 9 := by have := hf.2; change (m : Int) ≤ 9 at this; omega
      have HD := Lib.hid (fun w : World => Decimal_any m w (by omega))
      have hd := dec_len (m : Int) (by omega) (by omega)
      obtain ⟨D, hD⟩ : ∃ D, dec (m : Int) = D := ⟨_, rfl⟩
      rw [hD] at hd HD
      have HDD := Lib.hid hD
      have hdl : D.size = (Lib.itoa (m : Int)).length := by rw [← hD, dec_bt, bt_size]
      obtain ⟨T, hTt⟩ : ∃ T, bt P = T := ⟨_, rfl⟩
      have hts : T.size = P.length := by rw [← hTt, bt_size]
      have HTT := Lib.hid hTt
      rw [hTt]
      clear hD hTt g1 g3 hf
      have hc0 : ¬ 9223372036854775807 < D.size + 1 := by omega
      have hc1 : ¬ 9223372036854775807 < T.size + (D.size + 1) := by omega
      have v5 : IntKind.i64.wrap (m : Int) = (m : Int) := IntWalk.i64_in _ (by omega)
      have HP1 : Hid (T ++ (D ++ ⟨#[58]⟩) = bt (P ++ Lib.itoa (m : Int) ++ [58])) := Lib.hid (by rw [← HTT.out, ← HDD.out, dec_bt, show (⟨#[58]⟩ : ByteArray) = bt [58] from rfl, bt_add, bt_add, List.append_assoc])
      have hpl : (P ++ Lib.itoa (m : Int) ++ [58]).length = P.length + D.size + 1 := by rw [List.length_append, List.length_append, hdl]; rfl
      clear HDD HTT hdl hts
      go_wp2_with fail
      refine (HD.out _).mono ?_
      rintro e w4 ⟨rfl, hb4⟩
      have hB1 := Lib.hid (below_then hB.out hB.out.size hb4)
      clear hb4 HD hB c0
      go_wp2_with fail
      rw [HP1.out]
      clear HP1 hc0 hc1 v5
      obtain ⟨U, hU⟩ : ∃ U, P ++ Lib.itoa (m : Int) ++ [58] = U := ⟨_, rfl⟩
      rw [hU] at hpl
      rw [hU]
      have HU := Lib.hid hU
      clear hU
      go_loopw [3, 5] (fun s v wr => ∃ j : Nat, j ≤ 8 ∧ v = .int .i64 j ∧ s = .string (bt (U ++ gs (L.take j))) ∧ Hid (Below w.heap.size w wr)) (fun _ v _ => 8 - (intOf v).toNat)
      case atStart => exact ⟨0, by omega, rfl, by rw [List.take_zero, show gs [] = [] from rfl, List.append_nil], hB1⟩
      case round =>
        obtain ⟨j, hj, rfl, rfl, hB⟩ := hrel
        clear hB1
        by_cases hjt : j < 8
        · have hj1 : (j : Int) < 8 := by omega
          have hg := getD8 (L := L) (k := j) (by have := G2.out; change L.length = 8 at this; omega)
          obtain ⟨v, hv⟩ : ∃ v, L.getD j 0 = v := ⟨_, rfl⟩
          rw [hv] at hg
          obtain ⟨ad2, x2, he2, hx2, hm2, hc02, hc2⟩ := (R.below hB.out).cells hlt
          obtain rfl : ad = ad2 := by injection he2
          obtain rfl : ((m : Int), L) = x2 := Option.some.inj (HX.out.symm.trans hx2)
          have e1 : wr.cell? ⟨(ad.add (k * 9)).block, (ad.add (k * 9)).off + 1 + j, none⟩ = some (.int .i32 v) := by
            have := hc2 j (.int .i32 v) (by show (nums .i32 L)[j]? = _; rw [nums_get, hg]; rfl)
            rw [show (ad.add (k * 9)).off + 1 + j = (ad.add (k * 9)).off + (j + 1) by omega]
            exact this
          have hgb := HG.out v (List.mem_of_getElem? hg)
          have hgw : ∀ y ∈ L, (Lit.int .i32 y).wf = true := (hF.out _ hm2).2.2
          have HGS := Lib.hid (gs_succ hg)
          have hGl := gs_take_le hgw j
          clear hg hv he2 hx2 hm2 hc02 hc2 hgw
          obtain ⟨G, hG⟩ : ∃ G, U ++ gs (L.take j) = G := ⟨_, rfl⟩
          have hgl : G.length = U.length + (gs (L.take j)).length := by rw [← hG, List.length_append]
          have HGG := Lib.hid hG
          rw [hG]
          clear hG
          obtain ⟨y, rfl⟩ : ∃ y : Nat, v = (y : Int) := ⟨v.toNat, by omega⟩
          have HD := Lib.hid (fun w : World => Decimal_any y w (by omega))
          have hd2 := dec_len (y : Int) (by omega) (by omega)
          obtain ⟨D2, hD⟩ : ∃ D, dec (y : Int) = D := ⟨_, rfl⟩
          rw [hD] at hd2 HD
          obtain ⟨T2, hT2⟩ : ∃ T, bt G = T := ⟨_, rfl⟩
          have hts : T2.size = G.length := by rw [← hT2, bt_size]
          have hc0 : ¬ 9223372036854775807 < 1 + D2.size := by omega
          have hc1 : ¬ 9223372036854775807 < T2.size + (1 + D2.size) := by omega
          have v5 : IntKind.i64.wrap (y : Int) = (y : Int) := IntWalk.i64_in _ (by omega)
          have HP1 : Hid (T2 ++ (⟨#[32]⟩ ++ D2) = bt (U ++ gs (L.take (j + 1)))) := Lib.hid (by rw [HGS.out, ← hT2, ← hD, dec_bt, show (⟨#[32]⟩ : ByteArray) = bt [32] from rfl, bt_add, bt_add, ← HGG.out]; simp)
          rw [hT2]
          clear hD hT2 hts hgl HGG HGS hGl
          go_wp2_with fail
          refine (HD.out _).mono ?_
          rintro e w4 ⟨rfl, hb4⟩
          have hB1 := Lib.hid (below_then hB.out hB.out.size hb4)
          clear hb4 HD e1
          go_wp2_with fail
          go_roundw
          case rel => exact ⟨j + 1, by omega, by go_num, by rw [HP1.out], hB1⟩
          case measure => simp [intOf]; omega
        · obtain rfl : j = 8 := by omega
          have HL8 : Hid (L.take 8 = L) := Lib.hid (by rw [List.take_of_length_le]; rw [G2.out]; exact Nat.le_refl _)
          have hgw : ∀ y ∈ L, (Lit.int .i32 y).wf = true := (hF.out _ (List.mem_of_getElem? HX.out)).2.2
          have hGl := gs_take_le hgw 8
          clear hgw
          obtain ⟨G, hG⟩ : ∃ G, U ++ gs (L.take 8) = G := ⟨_, rfl⟩
          have hgl : G.length = U.length + (gs (L.take 8)).length := by rw [← hG, List.length_append]
          have HGG := Lib.hid hG
          rw [hG]
          clear hG
          obtain ⟨T2, hT2⟩ : ∃ T, bt G = T := ⟨_, rfl⟩
          have hts : T2.size = G.length := by rw [← hT2, bt_size]
          have hc0 : ¬ 9223372036854775807 < T2.size + 1 := by omega
          have HP1 : Hid (T2 ++ ⟨#[10]⟩ = bt (flT (xs.take (k + 1)))) := Lib.hid (by rw [HS.out, ← hT2, show (⟨#[10]⟩ : ByteArray) = bt [10] from rfl, bt_add, ← HGG.out, ← HU.out, HL8.out]; simp)
          rw [hT2]
          clear hT2 hts hgl HGG hGl
          go_wp2_with fail
          go_roundw
          case rel => exact ⟨k + 1, by omega, by go_num, by rw [HP1.out], hB⟩
          case measure => simp [intOf]; omega
    · obtain rfl : k = n := by omega
      have HW : Hid (xs.take k = xs) := Lib.hid (by rw [List.take_of_length_le]; rw [HXL.out]; exact Nat.le_refl _)
      have hni : ¬ (k : Int) < (k : Int) := by omega
      go_wp2_with fail
      go_ret
      exact ⟨by rw [HW.out]; rfl, hB.out⟩
def flTxt (xs : List (Int × List Int)) : ByteArray := if flC xs true = 0 then bt (flT xs) else ByteArray.empty
theorem flC_zero {xs : List (Int × List Int)} : flC xs true = 0 ↔ flB xs = true ∧ xs.length ≤ 6 := by
  unfold flC
  cases flB xs
  · simp
  · by_cases h : xs.length ≤ 6 <;> simp [h]
theorem iareFleeces (A : Option Addr) (n c : Nat) (xs : List (Int × List Int)) (w : World) (R : Rds w A n 9 FlC xs) (hF : Hid (FlOk xs)) :
    Calls Tryd.prog 17 #[.slice A n c] w fun e w' => e = .returned (.bool (decide (flC xs true = 0))) ∧ Below w.heap.size w w' := by
  have hl := R.1
  have hall := areAll_F (p := fun x => fleeceOk x.1 x.2) (xs := xs) (k := 28) (enters_of Tryd.func28 rfl (by decide)) (Lib.hid fun f a0 a1 a2 a3 a4 a5 a6 a7 w' hm => iValidFleece f a0 a1 a2 a3 a4 a5 a6 a7 w' (i8_rng (hF.out _ hm).1) (Lib.hid (hF.out _ hm).2.2)) (Lib.hid hF.out.len) A n c w R
  have HALL := Lib.hid hall; clear hall
  by_cases h6 : n ≤ 6
  · have h6i : (n : Int) ≤ 6 := by omega
    have E : Hid (decide (flC xs true = 0) = flB xs) := Lib.hid (by
      cases h : flB xs
      · exact decide_eq_false (fun e => by rw [flC_zero, h] at e; exact Bool.noConfusion e.1)
      · exact decide_eq_true (flC_zero.2 ⟨h, by omega⟩))
    clear hl
    go_enter Tryd.func17, Tryd.ntmps17
    go_wp2_with fail
    refine HALL.out.mono ?_
    rintro e w1 ⟨rfl, hb⟩
    go_wp2_with fail
    go_ret
    exact ⟨by rw [E.out]; rfl, hb⟩
  · have h6i : ¬ (n : Int) ≤ 6 := by omega
    have E : Hid (decide (flC xs true = 0) = false) := Lib.hid (decide_eq_false (fun e => by rw [flC_zero] at e; omega))
    clear hl
    go_enter Tryd.func17, Tryd.ntmps17
    go_wp2_with fail
    go_ret
    exact ⟨by rw [E.out]; rfl, Below.refl _ _⟩
theorem iFleecesText (B0 : Nat) (A : Option Addr) (n c : Nat) (xs : List (Int × List Int)) (w : World) (R : Rds w A n 9 FlC xs) (hF : Hid (FlOk xs)) (hT : Tb B0 w) (hB0 : B0 ≤ w.heap.size) :
    Calls Tryd.prog 8 #[.slice A n c] w fun e w' => e = .returned (.string (flTxt xs)) ∧ Below w.heap.size w w' := by
  have hl := R.1
  by_cases h : flC xs true = 0
  · have E : Hid (flTxt xs = bt (flT xs)) := Lib.hid (by unfold flTxt; rw [if_pos h])
    have h6 : n ≤ 6 := by have := (flC_zero.1 h).2; omega
    have H : Hid (decide (flC xs true = 0) = true) := Lib.hid (decide_eq_true h)
    clear hl h
    go_enter Tryd.func8, Tryd.ntmps8
    go_wp2_with fail
    refine (iareFleeces A n c xs _ R hF).mono ?_
    rintro e w1 ⟨rfl, hb⟩
    rw [H.out]
    go_wp2_with fail
    refine (ifleecesText B0 A n c xs _ (R.below hb) hF h6 (hT.on (hb.mono hB0)) (Nat.le_trans hB0 hb.size)).mono ?_
    rintro e w2 ⟨rfl, hb2⟩
    go_wp2_with fail
    go_ret
    exact ⟨by rw [E.out]; rfl, below_then hb hb.size hb2⟩
  · have E : Hid (flTxt xs = ByteArray.empty) := Lib.hid (by unfold flTxt; rw [if_neg h])
    have H : Hid (decide (flC xs true = 0) = false) := Lib.hid (decide_eq_false h)
    clear hl h
    go_enter Tryd.func8, Tryd.ntmps8
    go_wp2_with fail
    refine (iareFleeces A n c xs _ R hF).mono ?_
    rintro e w1 ⟨rfl, hb⟩
    rw [H.out]
    go_wp2_with fail
    go_ret
    exact ⟨by rw [E.out]; rfl, hb⟩
theorem sFleecesText (A : Option Addr) (n c : Nat) (xs : List (Int × List Int)) (w : World) (R : Rds w A n 9 FlC xs) (hF : Hid (FlOk xs)) :
    Calls Tryd.prog 6 #[.slice A n c] w fun e w' => e = .returned (.string (flTxt xs)) ∧ Below w.heap.size w w' := by
  have hl := R.1
  by_cases h : flC xs true = 0
  · have E : Hid (flTxt xs = bt (flT xs)) := Lib.hid (by unfold flTxt; rw [if_pos h])
    have h6 : n ≤ 6 := by have := (flC_zero.1 h).2; omega
    have HV := Lib.hid (flC_zero.1 h).1
    have H := Lib.hid h
    clear hl h
    go_enter Tryd.func6, Tryd.ntmps6
    go_wp2_with fail
    refine (l01Fleeces_any A n c xs true _ R hF).mono ?_
    rintro e w1 ⟨rfl, rfl⟩
    rw [H.out]
    go_wp2_with fail
    refine (sl01Text A n c xs _ R hF HV h6).mono ?_
    rintro e w2 ⟨rfl, hb2⟩
    go_wp2_with fail
    go_ret
    exact ⟨by rw [E.out]; rfl, hb2⟩
  · have E : Hid (flTxt xs = ByteArray.empty) := Lib.hid (by unfold flTxt; rw [if_neg h])
    have H := Lib.hid h
    clear hl h
    obtain ⟨C, hC⟩ : ∃ C, flC xs true = C := ⟨_, rfl⟩
    have h0 : (C == 0) = false := by have := H.out; rw [hC] at this; simpa using this
    go_enter Tryd.func6, Tryd.ntmps6
    go_wp2_with fail
    refine (l01Fleeces_any A n c xs true _ R hF).mono ?_
    rintro e w1 ⟨rfl, rfl⟩
    rw [hC]
    go_wp2_with fail
    go_ret
    exact ⟨by rw [E.out]; rfl, Below.refl _ _⟩
end Go.Proofs.YtjjdmabhmpkijaaDoor
