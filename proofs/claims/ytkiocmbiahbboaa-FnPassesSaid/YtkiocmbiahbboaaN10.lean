/- The walk of the law FnPasses: its calls by their contracts, its tests by the plain law. -/
import Derived.Test.YtkiocmbiahbboaaN9
import Derived.Test.YtkiocmbiahbboaaN4
import Derived.Test.YtkiocmbiahbboaaN7
import Derived.Test.YtkiocmbiahbboaaV3
import Derived.Test.YtkiocmbiahbboaaC16
import Derived.BigQuiet
import Derived.Deep.QuietTactic
import Derived.IntWalk
namespace Go.Proofs.Ytkiocmbiahbboaa
open Go.RowKit
set_option linter.unusedVariables false
set_option linter.unusedSimpArgs false
theorem drawn_web {xs : List Int} (h : drawnWeb xs) : Web xs xs.length ∧ webOk xs = true := by
  have hw : Web xs xs.length := ⟨rfl, by have := h.1; omega, by have := h.1; omega, by have := h.1; omega, fun x hx => by have := h.2 x hx; omega⟩
  exact ⟨hw, webOk_of hw⟩
theorem fw3 {xs : List Int} {s : Int} (hw : webOk xs = true) (hs : 0 ≤ s) : fwC xs s 3 = (match fwFind xs s 3 with | some _ => 0 | none => 6) ∧ fwT xs s 3 = (match fwFind xs s 3 with | some r => rkS r | none => ByteArray.empty) := by
  have e1 : fwK xs s 3 = 0 := by unfold fwK; rw [hw, if_pos rfl, if_pos ⟨hs, rfl⟩]
  exact ⟨by unfold fwC; rw [if_pos e1]; rfl, by unfold fwT; rw [if_pos e1]; rfl⟩
theorem ev3 {xs : List Int} (hw : webOk xs = true) : evK xs 3 = 0 ∧ evT xs 3 = rkS (evR xs 3) ∧ evL xs 3 = spreadL (rkV xs (evR xs 3)) := by
  have e1 : evK xs 3 = 0 := by unfold evK; rw [hw, if_pos rfl]; rfl
  exact ⟨e1, by unfold evT; rw [if_pos e1]; rfl, by unfold evL; rw [if_pos e1]; rfl⟩
theorem pc_rank (A : Option Addr) (n c : Nat) (xs : List Int) (r : Nat) (w : World) (R : Rds w A n 1 (fun x : Int => [.int .i64 x]) xs) (hw : webOk xs = true) (hr : r < 1093) :
    Calls Try.prog 16 #[.slice A n c, .string (rkS r), .int .i64 0] w (RetOwnT 2 1 n (nums .i64 (rkV xs r)) [.int .i64 (caF xs (rkS r) 0), .int .i64 0] w) := by
  have hs : (rkS r).size ≤ 20 := by have := (rkD_le 6 r).2 (by have : tot 6 = 1093 := rfl; omega); rw [rkS_size]; omega
  have c1 := iCardAll A n c xs (rkS r) 0 w R (by omega) (by rfl)
  obtain ⟨e1, e2⟩ := ca_rank hw hr
  have hl : (rkV xs r).length = n := (rkV_web (webOk_web hw R.1) r).1
  rw [e1, e2, hl] at c1
  exact c1
theorem sc_rank (A : Option Addr) (n c : Nat) (xs : List Int) (r : Nat) (w : World) (R : Rds w A n 1 (fun x : Int => [.int .i64 x]) xs) (hw : webOk xs = true) (hr : r < 1093) :
    Calls Try.prog 17 #[.slice A n c, .string (rkS r), .int .i64 0] w (RetOwnT 2 1 n (nums .i64 (rkV xs r)) [.int .i64 (caF xs (rkS r) 0), .int .i64 0] w) := by
  have hs : (rkS r).size ≤ 20 := by have := (rkD_le 6 r).2 (by have : tot 6 = 1093 := rfl; omega); rw [rkS_size]; omega
  have c1 := sCardAll A n c xs (rkS r) 0 w R (by omega) (by rfl)
  obtain ⟨e1, e2⟩ := ca_rank hw hr
  have hl : (rkV xs r).length = n := (rkV_web (webOk_web hw R.1) r).1
  rw [e1, e2, hl] at c1
  exact c1
theorem sp_rank {S : Int} (A : Option Addr) (n c : Nat) (xs : List Int) (r : Nat) (w : World) (R : Rds w A n 1 (fun x : Int => [.int .i64 x]) (rkV xs r)) (hw : Web xs n) (hS : spreadL (rkV xs r) = S) :
    Calls Try.prog 19 #[.slice A n c] w fun e w' => e = .returned (.tuple #[.int .i64 S, .int .i64 0]) ∧ Below w.heap.size w w' := by
  have c1 := iSpreadOf A n c (rkV xs r) w R
  obtain ⟨e1, e2⟩ := spV_rank hw r
  rw [e1, e2, hS] at c1
  exact c1
/-- What is known of the passes that are found (PT, PC), of the evenest ones (MT, rank b, spread L) and of the drawn ones (rank q, spread S). -/
structure PFacts (xs : List Int) (s : Int) (q b : Nat) (L S : Int) (MT PT : ByteArray) (PC : Int) (yes : Bool) : Prop where
  e1 : evK xs 3 = 0
  e2 : evT xs 3 = MT
  e3 : evL xs 3 = L
  f1 : fwC xs s 3 = PC
  f2 : fwT xs s 3 = PT
  hb : b < 40
  hM : rkS b = MT
  hL : spreadL (rkV xs b) = L
  hS : spreadL (rkV xs q) = S
  hSL : L ≤ S
  hble : ∀ x, x < 40 → L ≤ spreadL (rkV xs x)
  hbq : S = L → b ≤ q
  hMs : MT.size ≤ 3
  hPs : PT.size ≤ 3
  n6 : yes = false → PC = 6
  nL : yes = false → ¬ L ≤ s
  nS : yes = false → ¬ S ≤ s
  y0 : yes = true → PC = 0
  yL : yes = true → L ≤ s
  yr : yes = true → ∃ r, r < 40 ∧ rkS r = PT ∧ spreadL (rkV xs r) ≤ s ∧ (S ≤ s → r ≤ q)
theorem passes_facts {xs : List Int} {s : Int} {q : Nat} (hok : webOk xs = true) (hs : 0 ≤ s) (hq : q < 40) : ∃ b L S MT PT PC yes, PFacts xs s q b L S MT PT PC yes := by
  obtain ⟨f1, f2⟩ := fw3 hok hs
  obtain ⟨e1, e2, e3⟩ := ev3 hok
  have hbT : evR xs 3 < 40 := bestOf_lt spreadL (rkV xs) (by omega) _ (fun x hx => List.mem_range.1 hx)
  have hble : ∀ x, x < 40 → spreadL (rkV xs (evR xs 3)) ≤ spreadL (rkV xs x) := fun x hx => bestOf_le spreadL (rkV xs) 40 x hx
  have hbfi : ∀ x, x < 40 → spreadL (rkV xs x) ≤ spreadL (rkV xs (evR xs 3)) → evR xs 3 ≤ x := fun x hx h => bestOf_first spreadL (rkV xs) 40 x hx h
  have hMs : (rkS (evR xs 3)).size ≤ 3 := by rw [rkS_size]; exact (rkD_le 3 _).2 hbT
  rcases fw_cases xs s 3 with ⟨hf, hno⟩ | ⟨r, hr, hf, hrs, hno⟩
  · rw [hf] at f1 f2
    change fwC xs s 3 = 6 at f1
    change fwT xs s 3 = ByteArray.empty at f2
    exact ⟨evR xs 3, _, _, _, _, _, false, e1, e2, e3, f1, f2, hbT, rfl, rfl, rfl, hble q hq, hble, fun h => hbfi q hq (by omega), hMs, (by show 0 ≤ 3; omega), fun _ => rfl, fun _ => (by have := hno _ hbT; omega), fun _ => (by have := hno q hq; omega), fun h => Bool.noConfusion h, fun h => Bool.noConfusion h, fun h => Bool.noConfusion h⟩
  · have hr40 : r < 40 := hr
    rw [hf] at f1 f2
    change fwC xs s 3 = 0 at f1
    change fwT xs s 3 = rkS r at f2
    exact ⟨evR xs 3, _, _, _, _, _, true, e1, e2, e3, f1, f2, hbT, rfl, rfl, rfl, hble q hq, hble, fun h => hbfi q hq (by omega), hMs, (by rw [rkS_size]; exact (rkD_le 3 r).2 hr40), fun h => Bool.noConfusion h, fun h => Bool.noConfusion h, fun h => Bool.noConfusion h, fun _ => rfl, fun _ => (by have := hble r hr40; omega), fun _ => ⟨r, hr40, rfl, hrs, fun h => by
      rcases Nat.lt_or_ge q r with h1 | h1
      · have := hno q h1; omega
      · exact h1⟩⟩
set_option maxRecDepth 100000 in
set_option maxHeartbeats 8000000 in
theorem walk_FnPasses (w : World) (A0 : Option Addr) (n0 c0 : Nat) (x0 : List Int) (hc0 : n0 ≤ c0) (R0 : Rds w A0 n0 1 (fun x : Int => [.int .u8 x]) x0) (g0 : ∀ x ∈ x0, (Lit.int .u8 x).wf = true) (b0 : n0 * 1 ≤ 140737488351232)
    (A1 : Option Addr) (n1 c1 : Nat) (x1 : List Int) (hc1 : n1 ≤ c1) (R1 : Rds w A1 n1 1 (fun x : Int => [.int .u8 x]) x1) (g1 : ∀ x ∈ x1, (Lit.int .u8 x).wf = true) (b1 : n1 * 1 ≤ 140737488351232) :
    Calls Try.prog 5 #[.slice A0 n0 c0, .slice A1 n1 c1] w fun e w' => e = .returned (.bool true) ∧ Below w.heap.size w w' := by
  have G0 := Lib.hid g0; have G1 := Lib.hid g1
  clear g0 g1 hc0 hc1
  cases hlong : decide (3000 < n0 ∨ 3000 < n1)
  rotate_left
  · go_enter Try.func5, Try.ntmps5
    go_wp2_with fail
    refine (a2Long_any A0 A1 n0 c0 n1 c1 _ R0.2.1 R1.2.1).mono ?_
    rintro e w1 ⟨rfl, rfl⟩
    rw [hlong]
    go_wp2_with fail
    go_ret
    exact ⟨rfl, Below.refl _ _⟩
  have HLG := Lib.hid hlong; clear hlong b0 b1
  have HB := Lib.hid (Below.refl w.heap.size w)
  go_enter Try.func5, Try.ntmps5
  go_wp2_with fail
  refine (a2Long_any A0 A1 n0 c0 n1 c1 _ R0.2.1 R1.2.1).mono ?_
  rintro e w1 ⟨rfl, rfl⟩
  rw [HLG.out]
  go_wp2_with fail
  refine (a2Web_any A0 n0 c0 x0 _ R0 G0.out).mono ?_
  rintro e w1 ⟨A, c, xs, rfl, hd, O, hb⟩
  obtain ⟨hW, hok⟩ := drawn_web hd
  obtain ⟨n, hn⟩ : ∃ n, xs.length = n := ⟨_, rfl⟩
  have hnb : 2 ≤ n ∧ n ≤ 8 := by have := hd.1; omega
  rw [hn] at O hW
  rw [hn]
  have HW := Lib.hid hW
  have HOK := Lib.hid hok; clear hd hn hW hok
  have R := Lib.hid (own_rds1 O (by omega))
  replace HB := Lib.hid (below_then HB.out HB.out.size hb)
  replace R1 := Lib.hid (R1.below hb)
  clear R0 G0 O hb HLG
  go_wp2_with fail
  refine (a2Passes_any A1 n1 c1 x1 _ R1.out G1.out).mono ?_
  rintro e w2 ⟨o0, rfl, ho, ho5, hb⟩
  replace HB := Lib.hid (below_then HB.out HB.out.size hb)
  replace R1 := Lib.hid (R1.out.below hb)
  replace R := Lib.hid (R.out.below hb)
  have HO := Lib.hid ho
  clear hb ho
  go_upto_if 45 with (fail)
  go_cut [6] (fun o wx => ∃ q : Nat, q < 40 ∧ o = .string (rkS q) ∧ wx = w2)
  case first =>
    by_cases h3 : (3 : Int) < (o0.size : Int)
    · obtain ⟨q, hq, he⟩ := (HO.out.take 3).rank (by rw [ByteArray.size_extract]; omega)
      have HQ := Lib.hid he
      go_wp2_with fail
      go_meet
      exact ⟨q, hq, by rw [HQ.out], rfl⟩
    · obtain ⟨q, hq, he⟩ := HO.out.rank (by omega)
      have HQ := Lib.hid he
      go_wp2_with fail
      go_meet
      exact ⟨q, hq, by rw [HQ.out], rfl⟩
  case rest => as_aux_lemma =>
    obtain ⟨q, hq, rfl, rfl⟩ := hcut
    obtain ⟨w3, hw3⟩ : ∃ x, x = wc := ⟨_, rfl⟩
    subst hw3
    clear HO ho5
    obtain ⟨OW, hOW⟩ : ∃ x, rkS q = x := ⟨_, rfl⟩
    rw [hOW]
    have HOW := Lib.hid hOW; clear hOW
    go_wp2_with fail
    refine (a2At_any A1 n1 c1 x1 7 20 _ R1.out G1.out (by omega) (by omega) (by omega)).mono ?_
    rintro e w4 ⟨s, rfl, hs0, hs20, rfl⟩
    clear R1 G1
    obtain ⟨b, L, S, MT, PT, PC, yes, f⟩ := passes_facts (s := s) (q := q) HOK.out hs0 hq
    have HF := Lib.hid f
    clear f hs0 hs20
    have HEI : Hid (∀ wx, Rds wx A n 1 (fun x : Int => [.int .i64 x]) xs → Calls Try.prog 8 #[.slice A n c, .int .i64 3] wx fun e w' => e = .returned (.tuple #[.string MT, .int .i64 L, .int .i64 0]) ∧ Below wx.heap.size wx w') := Lib.hid (fun wx Rx => by have h := iEvenestPasses A n c xs 3 wx Rx; rw [HF.out.e1, HF.out.e2, HF.out.e3] at h; exact h)
    have HES : Hid (∀ wx, Rds wx A n 1 (fun x : Int => [.int .i64 x]) xs → Calls Try.prog 6 #[.slice A n c, .int .i64 3] wx fun e w' => e = .returned (.tuple #[.string MT, .int .i64 L, .int .i64 0]) ∧ Below wx.heap.size wx w') := Lib.hid (fun wx Rx => by have h := sEvenestPasses A n c xs 3 wx Rx; rw [HF.out.e1, HF.out.e2, HF.out.e3] at h; exact h)
    have HFI : Hid (∀ wx, Rds wx A n 1 (fun x : Int => [.int .i64 x]) xs → Calls Try.prog 11 #[.slice A n c, .int .i64 s, .int .i64 3] wx fun e w' => e = .returned (.tuple #[.string PT, .int .i64 PC]) ∧ Below wx.heap.size wx w') := Lib.hid (fun wx Rx => by have h := iFewestPasses A n c xs s 3 wx Rx; rw [HF.out.f1, HF.out.f2] at h; exact h)
    have HFS : Hid (∀ wx, Rds wx A n 1 (fun x : Int => [.int .i64 x]) xs → Calls Try.prog 10 #[.slice A n c, .int .i64 s, .int .i64 3] wx fun e w' => e = .returned (.tuple #[.string PT, .int .i64 PC]) ∧ Below wx.heap.size wx w') := Lib.hid (fun wx Rx => by have h := sFewestPasses A n c xs s 3 wx Rx; rw [HF.out.f1, HF.out.f2] at h; exact h)
    have HCI : Hid (∀ wx, Rds wx A n 1 (fun x : Int => [.int .i64 x]) xs → Calls Try.prog 16 #[.slice A n c, .string OW, .int .i64 0] wx (RetOwnT 2 1 n (nums .i64 (rkV xs q)) [.int .i64 (caF xs OW 0), .int .i64 0] wx)) := Lib.hid (fun wx Rx => by have h := pc_rank A n c xs q wx Rx HOK.out (by omega); rw [HOW.out] at h; exact h)
    have HCS : Hid (∀ wx, Rds wx A n 1 (fun x : Int => [.int .i64 x]) xs → Calls Try.prog 17 #[.slice A n c, .string OW, .int .i64 0] wx (RetOwnT 2 1 n (nums .i64 (rkV xs q)) [.int .i64 (caF xs OW 0), .int .i64 0] wx)) := Lib.hid (fun wx Rx => by have h := sc_rank A n c xs q wx Rx HOK.out (by omega); rw [HOW.out] at h; exact h)
    have HCM : Hid (∀ wx, Rds wx A n 1 (fun x : Int => [.int .i64 x]) xs → Calls Try.prog 17 #[.slice A n c, .string MT, .int .i64 0] wx (RetOwnT 2 1 n (nums .i64 (rkV xs b)) [.int .i64 (caF xs MT 0), .int .i64 0] wx)) := Lib.hid (fun wx Rx => by have h := sc_rank A n c xs b wx Rx HOK.out (by have := HF.out.hb; omega); rw [HF.out.hM] at h; exact h)
    go_wp2_with fail
    refine (HFI.out _ R.out).mono ?_
    rintro e w5 ⟨rfl, hb⟩
    replace HB := Lib.hid (below_then HB.out HB.out.size hb)
    replace R := Lib.hid (R.out.below hb)
    clear hb HFI
    go_wp2_with fail
    refine (HFS.out _ R.out).mono ?_
    rintro e w6 ⟨rfl, hb⟩
    replace HB := Lib.hid (below_then HB.out HB.out.size hb)
    replace R := Lib.hid (R.out.below hb)
    clear hb HFS
    go_wp2_with fail
    refine (HEI.out _ R.out).mono ?_
    rintro e w7 ⟨rfl, hb⟩
    replace HB := Lib.hid (below_then HB.out HB.out.size hb)
    replace R := Lib.hid (R.out.below hb)
    clear hb HEI
    go_wp2_with fail
    refine (HES.out _ R.out).mono ?_
    rintro e w8 ⟨rfl, hb⟩
    replace HB := Lib.hid (below_then HB.out HB.out.size hb)
    replace R := Lib.hid (R.out.below hb)
    clear hb HES
    go_wp2_with fail
    refine (HCI.out _ R.out).mono ?_
    rintro e w9 ⟨AI, cI, rfl, O, hb⟩
    replace HB := Lib.hid (below_then HB.out HB.out.size hb)
    replace R := Lib.hid (R.out.below hb)
    have RI := Lib.hid (own_rds1 O (by omega))
    clear O hb
    go_wp2_with fail
    refine (HCS.out _ R.out).mono ?_
    rintro e w10 ⟨AK, cK, rfl, O, hb⟩
    replace HB := Lib.hid (below_then HB.out HB.out.size hb)
    replace R := Lib.hid (R.out.below hb)
    replace RI := Lib.hid (RI.out.below hb)
    have RK := Lib.hid (own_rds1 O (by omega))
    clear O hb
    clear HCI HCS
    go_upto_region 14 with (fail)
    go_cut [162] (fun t wx => t = .bool false ∧ Hid (Below w10.heap.size w10 wx))
    case first => as_aux_lemma =>
      have hM3 : ¬ (3 : Int) < (MT.size : Int) := by have := HF.out.hMs; omega
      have hP3 : ¬ (3 : Int) < (PT.size : Int) := by have := HF.out.hPs; omega
      cases yes
      · obtain rfl : PC = 6 := by have := HF.out.n6 rfl; exact this
        have hLs : ¬ L ≤ s := HF.out.nL rfl
        go_wp2_with fail
        refine (a2Same_true AI AK n cI cK (rkV xs q) _ RI.out RK.out).mono ?_
        rintro e wS ⟨rfl, hb⟩
        go_wp2_with fail
        go_meet
        exact ⟨by simp [hLs, hM3, hP3], Lib.hid hb⟩
      · obtain rfl : PC = 0 := by have := HF.out.y0 rfl; exact this
        have hLs : L ≤ s := HF.out.yL rfl
        go_wp2_with fail
        refine (a2Same_true AI AK n cI cK (rkV xs q) _ RI.out RK.out).mono ?_
        rintro e wS ⟨rfl, hb⟩
        go_wp2_with fail
        go_meet
        exact ⟨by simp [hLs, hM3, hP3], Lib.hid hb⟩
    case rest => as_aux_lemma =>
      obtain ⟨rfl, HBc⟩ := hcut
      obtain ⟨wz, hwz⟩ : ∃ x, x = wc := ⟨_, rfl⟩
      subst hwz
      have hb := HBc.out
      replace HB := Lib.hid (below_then HB.out HB.out.size hb)
      replace R := Lib.hid (R.out.below hb)
      replace RI := Lib.hid (RI.out.below hb)
      replace RK := Lib.hid (RK.out.below hb)
      clear hb HBc RI
      go_wp2_with fail
      refine (sp_rank AK n cK xs q _ RK.out HW.out HF.out.hS).mono ?_
      rintro e w11 ⟨rfl, hb⟩
      replace HB := Lib.hid (below_then HB.out HB.out.size hb)
      replace R := Lib.hid (R.out.below hb)
      replace RK := Lib.hid (RK.out.below hb)
      clear hb RK
      go_wp2_with fail
      refine (HCM.out _ R.out).mono ?_
      rintro e w12 ⟨AM, cM, rfl, O, hb⟩
      replace HB := Lib.hid (below_then HB.out HB.out.size hb)
      replace R := Lib.hid (R.out.below hb)
      have RM := Lib.hid (own_rds1 O (by omega))
      clear O hb
      go_wp2_with fail
      refine (sp_rank AM n cM xs b _ RM.out HW.out HF.out.hL).mono ?_
      rintro e w13 ⟨rfl, hb⟩
      replace HB := Lib.hid (below_then HB.out HB.out.size hb)
      replace R := Lib.hid (R.out.below hb)
      replace RM := Lib.hid (RM.out.below hb)
      clear hb RM HCM
      go_upto_region 19 with (fail)
      go_cut [223] (fun t wx => t = .bool false ∧ wx = w13)
      case first => as_aux_lemma =>
        have hnL : ¬ S < L := by have := HF.out.hSL; omega
        by_cases hap : S = L
        · have hbf := rk_before (HF.out.hbq hap)
          rw [HOW.out, HF.out.hM] at hbf
          subst hap
          have hz1 : ¬ (OW.size : Int) < (MT.size : Int) := by have := hbf.1; omega
          by_cases hzz : OW.size = MT.size
          · have hz2 := hbf.2 hzz
            have hz3 : ((OW.size : Int) == (MT.size : Int)) = true := by rw [hzz]; simp
            clear hbf
            have HZZ := Lib.hid hzz; clear hzz
            go_wp2_with fail
            go_meet
            exact ⟨rfl, rfl⟩
          · have hz3 : ((OW.size : Int) == (MT.size : Int)) = false := by simp; omega
            clear hbf
            go_wp2_with fail
            go_meet
            exact ⟨rfl, rfl⟩
        · have hz3 : (S == L) = false := by simpa using hap
          go_wp2_with fail
          go_meet
          exact ⟨by first | rfl | (congr 1; exact decide_eq_false hnL), rfl⟩
      case rest => as_aux_lemma =>
        obtain ⟨rfl, rfl⟩ := hcut
        obtain ⟨wy, hwy⟩ : ∃ x, x = wc := ⟨_, rfl⟩
        subst hwy
        cases hyes : yes
        · obtain rfl : PC = 6 := HF.out.n6 hyes
          have hSs : ¬ S ≤ s := HF.out.nS hyes
          go_wp2_with fail
          go_ret
          exact ⟨rfl, HB.out⟩
        · obtain rfl : PC = 0 := HF.out.y0 hyes
          obtain ⟨r, hr, hrP, hrs, hrq⟩ := HF.out.yr hyes
          obtain ⟨N, hN⟩ : ∃ x, spreadL (rkV xs r) = x := ⟨_, rfl⟩
          rw [hN] at hrs
          have hNL : L ≤ N := by have := HF.out.hble r hr; rw [hN] at this; exact this
          have HN := Lib.hid hN; have HRQ := Lib.hid hrq; have HRP := Lib.hid hrP; clear hN hrq hrP
          go_upto_region 21 with (fail)
          go_cut [249] (fun t wx => t = .bool false ∧ wx = wy)
          case first => as_aux_lemma =>
            by_cases hap : S ≤ s
            · have hbf := rk_before (HRQ.out hap)
              rw [HOW.out, HRP.out] at hbf
              have hz1 : ¬ (OW.size : Int) < (PT.size : Int) := by have := hbf.1; omega
              by_cases hzz : OW.size = PT.size
              · have hz2 := hbf.2 hzz
                have hz3 : ((OW.size : Int) == (PT.size : Int)) = true := by rw [hzz]; simp
                clear hbf
                have HZZ := Lib.hid hzz; clear hzz
                go_wp2_with fail
                go_meet
                exact ⟨rfl, rfl⟩
              · have hz3 : ((OW.size : Int) == (PT.size : Int)) = false := by simp; omega
                clear hbf
                go_wp2_with fail
                go_meet
                exact ⟨rfl, rfl⟩
            · go_wp2_with fail
              go_meet
              exact ⟨by first | rfl | (congr 1; exact decide_eq_false hap), rfl⟩
          case rest => as_aux_lemma =>
            obtain ⟨rfl, rfl⟩ := hcut
            obtain ⟨wx, hwx⟩ : ∃ x, x = wc := ⟨_, rfl⟩
            subst hwx
            have HCP : Hid (∀ wx, Rds wx A n 1 (fun x : Int => [.int .i64 x]) xs → Calls Try.prog 17 #[.slice A n c, .string PT, .int .i64 0] wx (RetOwnT 2 1 n (nums .i64 (rkV xs r)) [.int .i64 (caF xs PT 0), .int .i64 0] wx)) := Lib.hid (fun wx Rx => by have h := sc_rank A n c xs r wx Rx HOK.out (by omega); rw [HRP.out] at h; exact h)
            go_wp2_with fail
            refine (HCP.out _ R.out).mono ?_
            rintro e wp ⟨AP, cP, rfl, O, hb⟩
            replace HB := Lib.hid (below_then HB.out HB.out.size hb)
            have RP := Lib.hid (own_rds1 O (by omega)); clear O hb
            go_wp2_with fail
            refine (sp_rank AP n cP xs r _ RP.out HW.out HN.out).mono ?_
            rintro e wq ⟨rfl, hb⟩
            replace HB := Lib.hid (below_then HB.out HB.out.size hb); clear hb
            go_wp2_with fail
            go_ret
            exact ⟨rfl, HB.out⟩
end Go.Proofs.Ytkiocmbiahbboaa
