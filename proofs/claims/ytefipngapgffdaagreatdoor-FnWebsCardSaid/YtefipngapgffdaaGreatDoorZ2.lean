/- The walk of the law FnWebs: its calls by their contracts, its tests by the plain law. -/
import Derived.Test.YtefipngapgffdaaGreatDoorZ7
import Derived.Test.YtefipngapgffdaaGreatDoorO4
import Derived.Test.YtefipngapgffdaaGreatDoorV3
import Derived.Test.YtefipngapgffdaaGreatDoorV6
import Derived.Test.YtefipngapgffdaaGreatDoorC16
import Derived.Test.YtefipngapgffdaaGreatDoorC11
import Derived.BigQuiet
import Derived.Deep.QuietTactic
import Derived.IntWalk
namespace Go.Proofs.YtefipngapgffdaaGreatDoor
open Go.RowKit
set_option linter.unusedVariables false
set_option linter.unusedSimpArgs false
abbrev WX : Int → List Value := fun x : Int => [.int .i64 x]
set_option maxRecDepth 100000 in
set_option maxHeartbeats 16000000 in
theorem walk_FnWebs (w : World) (A0 : Option Addr) (n0 c0 : Nat) (x0 : List Int) (hc0 : n0 ≤ c0) (R0 : Rds w A0 n0 1 (fun x : Int => [.int .u8 x]) x0) (g0 : ∀ x ∈ x0, (Lit.int .u8 x).wf = true) (b0 : n0 * 1 ≤ 140737488351232)
    (A1 : Option Addr) (n1 c1 : Nat) (x1 : List Int) (hc1 : n1 ≤ c1) (R1 : Rds w A1 n1 1 (fun x : Int => [.int .u8 x]) x1) (g1 : ∀ x ∈ x1, (Lit.int .u8 x).wf = true) (b1 : n1 * 1 ≤ 140737488351232) (E : Env w.heap.size w) :
    Calls Tryz.prog 3 #[.slice A0 n0 c0, .slice A1 n1 c1] w fun e w' => e = .returned (.bool true) ∧ Below w.heap.size w w' := by
  have G0 := Lib.hid g0; have G1 := Lib.hid g1
  have HE := Lib.hid E
  clear g0 g1 hc0 hc1 E
  cases hlong : decide (3000 < n0 ∨ 3000 < n1)
  rotate_left
  · go_enter Tryz.func3, Tryz.ntmps3
    go_wp2_with fail
    refine (a2Long_any A0 A1 n0 c0 n1 c1 _ R0.2.1 R1.2.1).mono ?_
    rintro e w1 ⟨rfl, rfl⟩
    rw [hlong]
    go_wp2_with fail
    go_ret
    exact ⟨rfl, Below.refl _ _⟩
  have HLG := Lib.hid hlong; clear hlong b0 b1
  have HB := Lib.hid (Below.refl w.heap.size w)
  go_enter Tryz.func3, Tryz.ntmps3
  go_wp2_with fail
  refine (a2Long_any A0 A1 n0 c0 n1 c1 _ R0.2.1 R1.2.1).mono ?_
  rintro e w1 ⟨rfl, rfl⟩
  rw [HLG.out]
  go_wp2_with fail
  refine (a2Web_any A0 n0 c0 x0 _ R0 G0.out).mono ?_
  rintro e w1 ⟨A, c, xs, rfl, hd, O, hb⟩
  obtain ⟨n, hn⟩ : ∃ n, xs.length = n := ⟨_, rfl⟩
  have hnb : 2 ≤ n ∧ n ≤ 8 := by have := hd.1; omega
  have hWEB : Web xs n := ⟨hn, by have := hd.1; omega, by omega, by omega, fun x hx => by have := hd.2 x hx; omega⟩
  rw [hn] at O
  rw [hn]
  have HW := Lib.hid hWEB; clear hd hn hWEB
  have HCP := Lib.hid (own_cap O)
  have R := Lib.hid (own_rds1 O (by omega))
  replace HB := Lib.hid (below_then HB.out HB.out.size hb)
  replace R1 := Lib.hid (R1.below hb)
  clear R0 G0 O hb HLG
  go_wp2_with fail
  refine (a2Passes_any A1 n1 c1 x1 _ R1.out G1.out).mono ?_
  rintro e w2 ⟨s, rfl, hps, hs5, hb⟩
  replace HB := Lib.hid (below_then HB.out HB.out.size hb)
  replace R1 := Lib.hid (R1.out.below hb)
  replace R := Lib.hid (R.out.below hb)
  have HPS := Lib.hid hps
  clear hb hps
  go_wp2_with fail
  refine (a2At_any A1 n1 c1 x1 7 30 _ R1.out G1.out (by omega) (by omega) (by omega)).mono ?_
  rintro e w3 ⟨p, rfl, hp0, hp30, rfl⟩
  go_wp2_with fail
  refine (iWebText w.heap.size A n c xs _ R.out (HE.out.on HB.out).tb HB.out.size).mono ?_
  rintro e w4 ⟨rfl, hb⟩
  replace HB := Lib.hid (below_then HB.out HB.out.size hb)
  replace R := Lib.hid (R.out.below hb)
  replace R1 := Lib.hid (R1.out.below hb)
  clear hb
  obtain ⟨S, hS⟩ : ∃ S, webB xs = S := ⟨_, rfl⟩
  rw [hS]
  have HS := Lib.hid hS; clear hS
  have HRD : Hid (∀ wx, Env w.heap.size wx → w.heap.size ≤ wx.heap.size → Calls Tryz.prog 8 #[.string S] wx (RetOwnT 2 1 n (nums .i64 xs) [.int .i64 0] wx)) := Lib.hid (fun wx Ex hx => by have h := iReadWeb w.heap.size S wx Ex hx (by rw [← HS.out]; exact webB_size HW.out); rw [← HS.out, (web_rw (webOk_of2 HW.out)).1, (web_rw (webOk_of2 HW.out)).2, HW.out.1] at h; rw [← HS.out]; exact h)
  go_wp2_with fail
  refine (HRD.out _ (HE.out.on HB.out) HB.out.size).mono ?_
  rintro e w5 ⟨Aa, ca, rfl, O, hb⟩
  replace HB := Lib.hid (below_then HB.out HB.out.size hb)
  replace R := Lib.hid (R.out.below hb)
  replace R1 := Lib.hid (R1.out.below hb)
  have Ra := Lib.hid (own_rds1 O (by omega))
  clear O hb
  clear HRD HS
  go_wp2_with fail
  refine (iTotalOf A n c xs _ R.out).mono ?_
  rintro e w6 ⟨rfl, hb⟩
  replace HB := Lib.hid (below_then HB.out HB.out.size hb)
  replace R := Lib.hid (R.out.below hb)
  replace R1 := Lib.hid (R1.out.below hb)
  replace Ra := Lib.hid (Ra.out.below hb)
  clear hb
  rw [show okC xs = 0 by unfold okC; rw [if_pos (webOk_of2 HW.out)]]
  obtain ⟨T, hT⟩ : ∃ T, totV xs = T := ⟨_, rfl⟩
  rw [hT]
  have HTT := Lib.hid hT; clear hT
  obtain ⟨D, hD⟩ : ∃ D, caL xs s p = D := ⟨_, rfl⟩
  obtain ⟨O, hO⟩ : ∃ O, caF xs s p = O := ⟨_, rfl⟩
  have hca := ca_web HW.out (psOk_pss HPS.out) (show s.size ≤ 20 by omega) (show 0 ≤ p ∧ p ≤ 100 by omega)
  have hgp : (Lit.int .i64 p).wf = true := by simp [Lit.wf, IntKind.min, IntKind.max, IntKind.signed, IntKind.bits]; omega
  rw [hD, hO] at hca
  have HD := Lib.hid hD; have HO := Lib.hid hO; have HCA := Lib.hid hca; have HGP := Lib.hid hgp; clear hD hO hca hgp
  have HCI : Hid (∀ wx, Rds wx A n 1 WX xs → Calls Tryz.prog 11 #[.slice A n c, .string s, .int .i64 p] wx (RetOwnT 2 1 n (nums .i64 D) [.int .i64 O, .int .i64 0] wx)) := Lib.hid (fun wx Rx => by have h := iCardAll A n c xs s p wx Rx (by omega) HGP.out; rw [HD.out, HO.out, HCA.out.1, HCA.out.2.1] at h; exact h)
  have HCS : Hid (∀ wx, Rds wx A n 1 WX xs → Calls Tryz.prog 12 #[.slice A n c, .string s, .int .i64 p] wx (RetOwnT 2 1 n (nums .i64 D) [.int .i64 O, .int .i64 0] wx)) := Lib.hid (fun wx Rx => by have h := sCardAll A n c xs s p wx Rx (by omega) HGP.out; rw [HD.out, HO.out, HCA.out.1, HCA.out.2.1] at h; exact h)
  go_wp2_with fail
  refine (HCI.out _ R.out).mono ?_
  rintro e w7 ⟨Ab, cb, rfl, O, hb⟩
  replace HB := Lib.hid (below_then HB.out HB.out.size hb)
  replace R := Lib.hid (R.out.below hb)
  replace R1 := Lib.hid (R1.out.below hb)
  replace Ra := Lib.hid (Ra.out.below hb)
  have Rb := Lib.hid (own_rds1 O (by omega))
  clear O hb
  go_wp2_with fail
  refine (HCS.out _ R.out).mono ?_
  rintro e w8 ⟨Ad, cd, rfl, O, hb⟩
  replace HB := Lib.hid (below_then HB.out HB.out.size hb)
  replace R := Lib.hid (R.out.below hb)
  replace R1 := Lib.hid (R1.out.below hb)
  replace Ra := Lib.hid (Ra.out.below hb)
  replace Rb := Lib.hid (Rb.out.below hb)
  have Rd := Lib.hid (own_rds1 O (by omega))
  clear O hb
  clear HCI HCS HGP
  go_wp2_with fail
  refine (a2At_any A1 n1 c1 x1 8 40 _ R1.out G1.out (by omega) (by omega) (by omega)).mono ?_
  rintro e w10 ⟨y, rfl, hy0, hy40, rfl⟩
  obtain ⟨b, rfl⟩ : ∃ b, y = b + 20 := ⟨y - 20, by omega⟩
  clear R1 G1
  obtain ⟨m, S, D2, M, V, H, C, K, O2, T2, P, uN, uD, uC, f⟩ := wfacts (s := s) (p := p) HW.out (psOk_pss HPS.out) (show s.size ≤ 20 by omega) (show 0 ≤ p ∧ p ≤ 100 by omega) b
  obtain rfl := HD.out.symm.trans f.cL
  obtain rfl := HO.out.symm.trans f.cF
  obtain rfl := HTT.out.symm.trans f.tV
  have HF := Lib.hid f
  clear f HD HO HTT HCA HPS hs5
  have hgb : (Lit.int .i64 b).wf = true := by simp [Lit.wf, IntKind.min, IntKind.max, IntKind.signed, IntKind.bits]; omega
  have hgn : (Lit.int .i64 (-b)).wf = true := by simp [Lit.wf, IntKind.min, IntKind.max, IntKind.signed, IntKind.bits]; omega
  have HGB := Lib.hid hgb; have HGN := Lib.hid hgn; clear hgb hgn
  have HRI : Hid (∀ wx, Rds wx A n 1 WX xs → Calls Tryz.prog 13 #[.slice A n c, .int .i64 b] wx (RetOwnT 2 1 n (nums .i64 M) [.int .i64 0] wx)) := Lib.hid (fun wx Rx => by have h := iRollWeb A n c xs b wx Rx HCP.out HGB.out; rw [HF.out.rM, HF.out.oC, HF.out.wM.1] at h; exact h)
  have HRS : Hid (∀ wx, Rds wx A n 1 WX xs → Calls Tryz.prog 14 #[.slice A n c, .int .i64 b] wx (RetOwnT 2 1 n (nums .i64 M) [.int .i64 0] wx)) := Lib.hid (fun wx Rx => by have h := sRollWeb A n c xs b wx Rx HCP.out HGB.out; rw [HF.out.rM, HF.out.oC, HF.out.wM.1] at h; exact h)
  have HRB : Hid (∀ wx A2 c2, Rds wx A2 n 1 WX M → (n ≤ c2 ∧ c2 ≤ 9223372036854775807) → Calls Tryz.prog 13 #[.slice A2 n c2, .int .i64 (-b)] wx (RetOwnT 2 1 n (nums .i64 xs) [.int .i64 0] wx)) := Lib.hid (fun wx A2 c2 Rx hc => by have h := iRollWeb A2 n c2 M (-b) wx Rx hc HGN.out; rw [HF.out.bM, HF.out.oM, HW.out.1] at h; exact h)
  have HMI : Hid (∀ wx, Rds wx A n 1 WX xs → Calls Tryz.prog 15 #[.slice A n c] wx (RetOwnT 2 1 n (nums .i64 V) [.int .i64 0] wx)) := Lib.hid (fun wx Rx => by have h := iMirrorWeb A n c xs wx Rx; rw [HF.out.mV, HF.out.oC, HF.out.wV.1] at h; exact h)
  have HMS : Hid (∀ wx, Rds wx A n 1 WX xs → Calls Tryz.prog 16 #[.slice A n c] wx (RetOwnT 2 1 n (nums .i64 V) [.int .i64 0] wx)) := Lib.hid (fun wx Rx => by have h := sMirrorWeb A n c xs wx Rx; rw [HF.out.mV, HF.out.oC, HF.out.wV.1] at h; exact h)
  have HMB : Hid (∀ wx A2 c2, Rds wx A2 n 1 WX V → Calls Tryz.prog 15 #[.slice A2 n c2] wx (RetOwnT 2 1 n (nums .i64 xs) [.int .i64 0] wx)) := Lib.hid (fun wx A2 c2 Rx => by have h := iMirrorWeb A2 n c2 V wx Rx; rw [HF.out.bV, HF.out.oV, HW.out.1] at h; exact h)
  have HSP : Hid (∀ wx, Rds wx A n 1 WX xs → Calls Tryz.prog 17 #[.slice A n c] wx fun e w2 => e = .returned (.tuple #[.int .i64 P, .int .i64 0]) ∧ Below wx.heap.size wx w2) := Lib.hid (fun wx Rx => by have h := iSpreadOf A n c xs wx Rx; rw [HF.out.sp, HF.out.oC] at h; exact h)
  have v1 : IntKind.i64.wrap (b + 20 - 20) = b := by rw [show b + 20 - 20 = b by omega]; exact IntWalk.i64_in _ (by omega)
  have v2 : IntKind.i64.wrap b = b := IntWalk.i64_in _ (by omega)
  have v3 : IntKind.i64.wrap (-b) = -b := IntWalk.i64_in _ (by omega)
  go_wp2_with fail
  refine (HRI.out _ R.out).mono ?_
  rintro e w11 ⟨Af, cf, rfl, O, hb⟩
  replace HB := Lib.hid (below_then HB.out HB.out.size hb)
  replace R := Lib.hid (R.out.below hb)
  replace Ra := Lib.hid (Ra.out.below hb)
  replace Rb := Lib.hid (Rb.out.below hb)
  replace Rd := Lib.hid (Rd.out.below hb)
  have Rf := Lib.hid (own_rds1 O (by omega))
  clear O hb
  go_wp2_with fail
  refine (HRS.out _ R.out).mono ?_
  rintro e w12 ⟨Ag, cg, rfl, O, hb⟩
  replace HB := Lib.hid (below_then HB.out HB.out.size hb)
  replace R := Lib.hid (R.out.below hb)
  replace Ra := Lib.hid (Ra.out.below hb)
  replace Rb := Lib.hid (Rb.out.below hb)
  replace Rd := Lib.hid (Rd.out.below hb)
  replace Rf := Lib.hid (Rf.out.below hb)
  have HCg := Lib.hid (own_cap O)
  have Rg := Lib.hid (own_rds1 O (by omega))
  clear O hb
  go_wp2_with fail
  refine (HRB.out _ _ _ Rg.out HCg.out).mono ?_
  rintro e w13 ⟨Ah, ch, rfl, O, hb⟩
  replace HB := Lib.hid (below_then HB.out HB.out.size hb)
  replace R := Lib.hid (R.out.below hb)
  replace Ra := Lib.hid (Ra.out.below hb)
  replace Rb := Lib.hid (Rb.out.below hb)
  replace Rd := Lib.hid (Rd.out.below hb)
  replace Rf := Lib.hid (Rf.out.below hb)
  replace Rg := Lib.hid (Rg.out.below hb)
  have Rh := Lib.hid (own_rds1 O (by omega))
  clear O hb
  clear HRI HRS HRB HCg HGB HGN v1 v2 v3 hy0 hy40
  go_wp2_with fail
  refine (HMI.out _ R.out).mono ?_
  rintro e w14 ⟨Ai, ci, rfl, O, hb⟩
  replace HB := Lib.hid (below_then HB.out HB.out.size hb)
  replace R := Lib.hid (R.out.below hb)
  replace Ra := Lib.hid (Ra.out.below hb)
  replace Rb := Lib.hid (Rb.out.below hb)
  replace Rd := Lib.hid (Rd.out.below hb)
  replace Rf := Lib.hid (Rf.out.below hb)
  replace Rg := Lib.hid (Rg.out.below hb)
  replace Rh := Lib.hid (Rh.out.below hb)
  have Ri := Lib.hid (own_rds1 O (by omega))
  clear O hb
  go_wp2_with fail
  refine (HMS.out _ R.out).mono ?_
  rintro e w15 ⟨Aj, cj, rfl, O, hb⟩
  replace HB := Lib.hid (below_then HB.out HB.out.size hb)
  replace R := Lib.hid (R.out.below hb)
  replace Ra := Lib.hid (Ra.out.below hb)
  replace Rb := Lib.hid (Rb.out.below hb)
  replace Rd := Lib.hid (Rd.out.below hb)
  replace Rf := Lib.hid (Rf.out.below hb)
  replace Rg := Lib.hid (Rg.out.below hb)
  replace Rh := Lib.hid (Rh.out.below hb)
  replace Ri := Lib.hid (Ri.out.below hb)
  have Rj := Lib.hid (own_rds1 O (by omega))
  clear O hb
  go_wp2_with fail
  refine (HMB.out _ _ _ Rj.out).mono ?_
  rintro e w16 ⟨Ak, ck, rfl, O, hb⟩
  replace HB := Lib.hid (below_then HB.out HB.out.size hb)
  replace R := Lib.hid (R.out.below hb)
  replace Ra := Lib.hid (Ra.out.below hb)
  replace Rb := Lib.hid (Rb.out.below hb)
  replace Rd := Lib.hid (Rd.out.below hb)
  replace Rf := Lib.hid (Rf.out.below hb)
  replace Rg := Lib.hid (Rg.out.below hb)
  replace Rh := Lib.hid (Rh.out.below hb)
  replace Ri := Lib.hid (Ri.out.below hb)
  replace Rj := Lib.hid (Rj.out.below hb)
  have Rk := Lib.hid (own_rds1 O (by omega))
  clear O hb
  clear HMI HMS HMB
  go_wp2_with fail
  refine (HSP.out _ R.out).mono ?_
  rintro e w17 ⟨rfl, hb⟩
  replace HB := Lib.hid (below_then HB.out HB.out.size hb)
  replace R := Lib.hid (R.out.below hb)
  replace Ra := Lib.hid (Ra.out.below hb)
  replace Rb := Lib.hid (Rb.out.below hb)
  replace Rd := Lib.hid (Rd.out.below hb)
  replace Rf := Lib.hid (Rf.out.below hb)
  replace Rg := Lib.hid (Rg.out.below hb)
  replace Rh := Lib.hid (Rh.out.below hb)
  replace Ri := Lib.hid (Ri.out.below hb)
  replace Rj := Lib.hid (Rj.out.below hb)
  replace Rk := Lib.hid (Rk.out.below hb)
  clear hb HSP
  have hP : ¬ P < 0 := by have := HF.out.P0; omega
  as_aux_lemma =>
    go_wp2_with fail
    refine (a2Same_true Aa A n ca c xs _ Ra.out R.out).mono ?_
    rintro e w18 ⟨rfl, hb⟩
    replace HB := Lib.hid (below_then HB.out HB.out.size hb)
    replace R := Lib.hid (R.out.below hb)
    replace Ra := Lib.hid (Ra.out.below hb)
    replace Rb := Lib.hid (Rb.out.below hb)
    replace Rd := Lib.hid (Rd.out.below hb)
    replace Rf := Lib.hid (Rf.out.below hb)
    replace Rg := Lib.hid (Rg.out.below hb)
    replace Rh := Lib.hid (Rh.out.below hb)
    replace Ri := Lib.hid (Ri.out.below hb)
    replace Rj := Lib.hid (Rj.out.below hb)
    replace Rk := Lib.hid (Rk.out.below hb)
    clear hb
    clear Ra
    go_wp2_with fail
    refine (validWeb_any A n c xs _ R.out).mono ?_
    rintro e w19 ⟨rfl, hb⟩
    replace HB := Lib.hid (below_then HB.out HB.out.size hb)
    replace R := Lib.hid (R.out.below hb)
    replace Rb := Lib.hid (Rb.out.below hb)
    replace Rd := Lib.hid (Rd.out.below hb)
    replace Rf := Lib.hid (Rf.out.below hb)
    replace Rg := Lib.hid (Rg.out.below hb)
    replace Rh := Lib.hid (Rh.out.below hb)
    replace Ri := Lib.hid (Ri.out.below hb)
    replace Rj := Lib.hid (Rj.out.below hb)
    replace Rk := Lib.hid (Rk.out.below hb)
    clear hb
    rw [HF.out.ok]
    go_wp2_with fail
    refine (a2Same_true Ab Ad n cb cd D _ Rb.out Rd.out).mono ?_
    rintro e w20 ⟨rfl, hb⟩
    replace HB := Lib.hid (below_then HB.out HB.out.size hb)
    replace R := Lib.hid (R.out.below hb)
    replace Rb := Lib.hid (Rb.out.below hb)
    replace Rd := Lib.hid (Rd.out.below hb)
    replace Rf := Lib.hid (Rf.out.below hb)
    replace Rg := Lib.hid (Rg.out.below hb)
    replace Rh := Lib.hid (Rh.out.below hb)
    replace Ri := Lib.hid (Ri.out.below hb)
    replace Rj := Lib.hid (Rj.out.below hb)
    replace Rk := Lib.hid (Rk.out.below hb)
    clear hb
    clear Rb
    go_wp2_with fail
    refine (a2Same_true Af Ag n cf cg M _ Rf.out Rg.out).mono ?_
    rintro e w21 ⟨rfl, hb⟩
    replace HB := Lib.hid (below_then HB.out HB.out.size hb)
    replace R := Lib.hid (R.out.below hb)
    replace Rd := Lib.hid (Rd.out.below hb)
    replace Rf := Lib.hid (Rf.out.below hb)
    replace Rg := Lib.hid (Rg.out.below hb)
    replace Rh := Lib.hid (Rh.out.below hb)
    replace Ri := Lib.hid (Ri.out.below hb)
    replace Rj := Lib.hid (Rj.out.below hb)
    replace Rk := Lib.hid (Rk.out.below hb)
    clear hb
    clear Rf Rg
    go_wp2_with fail
    refine (a2Same_true Ah A n ch c xs _ Rh.out R.out).mono ?_
    rintro e w22 ⟨rfl, hb⟩
    replace HB := Lib.hid (below_then HB.out HB.out.size hb)
    replace R := Lib.hid (R.out.below hb)
    replace Rd := Lib.hid (Rd.out.below hb)
    replace Rh := Lib.hid (Rh.out.below hb)
    replace Ri := Lib.hid (Ri.out.below hb)
    replace Rj := Lib.hid (Rj.out.below hb)
    replace Rk := Lib.hid (Rk.out.below hb)
    clear hb
    clear Rh
    go_wp2_with fail
    refine (a2Same_true Ai Aj n ci cj V _ Ri.out Rj.out).mono ?_
    rintro e w23 ⟨rfl, hb⟩
    replace HB := Lib.hid (below_then HB.out HB.out.size hb)
    replace R := Lib.hid (R.out.below hb)
    replace Rd := Lib.hid (Rd.out.below hb)
    replace Ri := Lib.hid (Ri.out.below hb)
    replace Rj := Lib.hid (Rj.out.below hb)
    replace Rk := Lib.hid (Rk.out.below hb)
    clear hb
    clear Ri Rj
    go_wp2_with fail
    refine (a2Same_true Ak A n ck c xs _ Rk.out R.out).mono ?_
    rintro e w24 ⟨rfl, hb⟩
    replace HB := Lib.hid (below_then HB.out HB.out.size hb)
    replace R := Lib.hid (R.out.below hb)
    replace Rd := Lib.hid (Rd.out.below hb)
    replace Rk := Lib.hid (Rk.out.below hb)
    clear hb
    clear Rk
    clear HE
    go_upto_region 20 with fail
    exact web20 w _ HF HCP hnb R Rd HB _ rfl rfl rfl rfl rfl rfl rfl _ (by assumption)
end Go.Proofs.YtefipngapgffdaaGreatDoor
