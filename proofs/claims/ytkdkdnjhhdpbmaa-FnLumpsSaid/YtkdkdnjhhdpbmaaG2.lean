/- Contracts: PartAll on both sides. -/
import Derived.Test.YtkdkdnjhhdpbmaaG1
namespace Go.Proofs.Ytkdkdnjhhdpbmaa
open Go.RowKit
set_option linter.unusedVariables false
set_option linter.unusedSimpArgs false
theorem iPartAll (A : Option Addr) (n c : Nat) (xs : List Int) (t m : Int) (w : World) (R : Rds w A n 1 (fun x : Int => [.int .i64 x]) xs) :
    Calls Try.prog 11 #[.slice A n c, .int .i64 t, .int .i64 m] w (RetOwnT 2 1 (paR xs t m).length (nums .i64 (paR xs t m)) [.int .i64 (paM xs t m), .int .i64 (paC xs t m)] w) := by
  have HXL := Lib.hid R.1
  cases h : webOk xs
  · have e1 : paR xs t m = [] := by simp [paR, h]
    rw [e1]
    clear e1
    go_enter Try.func11, Try.ntmps11
    go_wp2_with (go_at_call 18; (refine (validWeb_any A n c xs _ R).mono ?_); rintro e w1 ⟨rfl, hb⟩)
    go_ret3
    exact ⟨none, 0, by simp [paC, paM, h], own_nil _ _ _ _, hb⟩
  · have hbd := webOk_bd h
    rw [HXL.out] at hbd
    obtain ⟨hn2, hn12, _, _⟩ := hbd
    cases h2 : inB t 1 12 && inB m 0 100
    · have e1 : paR xs t m = [] := by simp [paR, h, h2]
      have e2 : paM xs t m = 0 := by simp [paM, h, h2]
      have e3 : paC xs t m = 2 := by simp [paC, h, h2]
      rw [e1, e2, e3]
      clear e1 e2 e3
      cases h3 : inB t 1 12
      · go_enter Try.func11, Try.ntmps11
        go_wp2_with (first
          | (go_at_call 18; (refine (validWeb_any A n c xs _ R).mono ?_); rintro e w1 ⟨rfl, hb⟩)
          | (go_at_call 19; (refine (iTimes t _).mono ?_); rintro e w2 ⟨rfl, rfl⟩)
          | (go_at_call 24; (refine (within_any _ _ _ _).mono ?_); rintro e w' ⟨rfl, rfl⟩))
        go_ret3
        exact ⟨none, 0, by simp, own_nil _ _ _ _, hb⟩
      · have h4 : inB m 0 100 = false := by simpa [h3] using h2
        go_enter Try.func11, Try.ntmps11
        go_wp2_with (first
          | (go_at_call 18; (refine (validWeb_any A n c xs _ R).mono ?_); rintro e w1 ⟨rfl, hb⟩)
          | (go_at_call 19; (refine (iTimes t _).mono ?_); rintro e w2 ⟨rfl, rfl⟩)
          | (go_at_call 24; (refine (within_any _ _ _ _).mono ?_); rintro e w' ⟨rfl, rfl⟩))
        go_ret3
        exact ⟨none, 0, by simp, own_nil _ _ _ _, hb⟩
    · simp only [Bool.and_eq_true] at h2
      obtain ⟨h3, h4⟩ := h2
      have b3 := inB_iff.1 h3
      have b4 := inB_iff.1 h4
      obtain ⟨M, rfl⟩ : ∃ M : Nat, m = (M : Int) := ⟨m.toNat, by omega⟩
      go_enter Try.func11, Try.ntmps11
      go_wp2_with (first
        | (go_at_call 18; (refine (validWeb_any A n c xs _ R).mono ?_); rintro e w1 ⟨rfl, hb⟩)
        | (go_at_call 19; (refine (iTimes t _).mono ?_); rintro e w2 ⟨rfl, rfl⟩)
        | (go_at_call 24; (refine (within_any _ _ _ _).mono ?_); rintro e w' ⟨rfl, rfl⟩)
        | (go_at_call 29; (refine (clone_i64 A n c xs _ (R.below (by assumption)) (by omega) (by omega)).mono ?_); rintro e w3 ⟨A1, c1, rfl, O1, hb1⟩)
        | (go_at_call 20; (refine (lumps_any A1 n c1 xs t _ (own_rds1 O1 (by omega)) (webOk_small h) (by omega) (by omega)).mono ?_); rintro e w4 ⟨A2, c2, rfl, O2, hb2⟩))
      have hB3 := below_then (below_then hb hb.size hb1) (Nat.le_trans hb.size hb1.size) hb2
      have hsz : w.heap.size ≤ w1.heap.size := hb.size
      have hsz1 : w1.heap.size ≤ w3.heap.size := hb1.size
      replace O1 := own_lower (own_below O1 hb2) hsz
      replace O2 := own_lower O2 (Nat.le_trans hsz hsz1)
      have P0 := Lib.hid (PaAt.zero (t := t) (m := M) h)
      have OH1 := Lib.hid O1; have OH2 := Lib.hid O2; have HB3 := Lib.hid hB3
      clear O1 O2 hB3 hb hb1 hb2
      go_loopw [9, 10, 11] (fun o v l wr => ∃ (j : Nat) (ys : List Int) (A' : Option Addr) (c' : Nat) (B : Option Addr) (d : Nat), Hid (PaAt xs t M j ys) ∧ v = .int .i64 j ∧ o = .slice A' n c' ∧ l = .slice B (lumpsL ys t).length d ∧ Hid (wr.ownsRow w.heap.size 2 1 (.slice A' n c') n (nums .i64 ys)) ∧ Hid (wr.ownsRow w.heap.size 2 1 (.slice B (lumpsL ys t).length d) (lumpsL ys t).length (nums .i64 (lumpsL ys t))) ∧ Hid (Below w.heap.size w wr)) (fun _ v _ _ => M - (intOf v).toNat)
      case atStart => exact ⟨0, xs, _, _, _, _, P0, rfl, rfl, rfl, OH1, OH2, HB3⟩
      case round =>
        obtain ⟨j, ys, A', c', B, d, HP, rfl, rfl, rfl, HO1, HO2, HBn⟩ := hrel
        have hjM := HP.out.1
        have hyl : ys.length = n := by rw [HP.out.2.2.1, HXL.out]
        have hll : (lumpsL ys t).length ≤ n := by have := lumpsTo_len ys t ys.length; rw [hyl] at this; rw [lumpsL, hyl]; exact this
        have HY := Lib.hid hyl; clear hyl
        rcases lumps_cases ys t with hl | ⟨k, l, hk, hl⟩
        · have e := HP.out.fin h h3 h4 (.inr hl)
          have E := Lib.hid e; clear e
          have hl0 : (lumpsL ys t).length = 0 := by rw [hl]; rfl
          rw [hl0]
          clear hl
          go_wp2_with fail
          go_ret3
          rw [E.out.1, E.out.2.1, E.out.2.2, HY.out]
          exact ⟨A', c', rfl, HO1.out, HBn.out⟩
        · have hl0 : 0 < (lumpsL ys t).length := by rw [hl]; simp
          by_cases hj : j < M
          · obtain ⟨ad, x, rfl, hx, hc⟩ := (own_rds1 HO2.out (by omega)).at1 hl0
            have hxk : x = (k : Int) := by rw [hl] at hx; simpa using hx.symm
            subst hxk
            have hc0 : wr.cell? ad = some (.int .i64 (k : Int)) := by simpa [Addr.add] using hc
            clear hx hc
            have hkn : k < n := by rw [← HY.out]; exact hk
            have hw := HP.out.2.1
            cases hok : partOk ys k
            · have e := HP.out.bad h h3 h4 hl hok hj
              have E := Lib.hid e; clear e
              clear hl
              generalize (lumpsL ys t).length = q at *
              go_wp2_with fail
              refine (parted_any A' n c' ys k _ (own_rds1 HO1.out (by omega)) hw hkn).mono ?_
              rw [hok]
              rintro e w5 ⟨A5, c5, rfl, O5, hb5⟩
              go_wp2_with fail
              go_ret3
              rw [E.out.1, E.out.2.1, E.out.2.2]
              exact ⟨none, 0, rfl, own_nil _ _ _ _, below_then HBn.out HBn.out.size hb5⟩
            · have HP2 := Lib.hid (HP.out.next hl hk hok hj)
              have hw2 := HP2.out.2.1
              clear hl
              generalize (lumpsL ys t).length = q at *
              have hsz2 : w.heap.size ≤ wr.heap.size := HBn.out.size
              go_wp2_with fail
              refine (parted_any A' n c' ys k _ (own_rds1 HO1.out (by omega)) hw hkn).mono ?_
              rw [hok]
              rintro e w5 ⟨A5, c5, rfl, O5, hb5⟩
              have hsz3 := hb5.size
              go_wp2_with fail
              refine (lumps_any A5 n c5 (partL ys k) t _ (own_rds1 O5 (by omega)) (webOk_small hw2) (by omega) (by omega)).mono ?_
              rintro e w6 ⟨A6, c6, rfl, O6, hb6⟩
              go_wp2_with fail
              go_roundw
              case rel => exact ⟨j + 1, partL ys k, A5, c5, A6, c6, HP2, by go_num, rfl, rfl, Lib.hid (own_lower (own_below O5 hb6) hsz2), Lib.hid (own_lower O6 (Nat.le_trans hsz2 hsz3)), Lib.hid (below_then (below_then HBn.out hsz2 hb5) (Nat.le_trans hsz2 hsz3) hb6)⟩
              case measure => simp [intOf]; omega
          · have e := HP.out.fin h h3 h4 (.inl (by omega))
            have E := Lib.hid e; clear e
            clear hl
            generalize (lumpsL ys t).length = q at *
            go_wp2_with fail
            go_ret3
            rw [E.out.1, E.out.2.1, E.out.2.2, HY.out]
            exact ⟨A', c', rfl, HO1.out, HBn.out⟩
theorem sPartAll (A : Option Addr) (n c : Nat) (xs : List Int) (t m : Int) (w : World) (R : Rds w A n 1 (fun x : Int => [.int .i64 x]) xs) :
    Calls Try.prog 12 #[.slice A n c, .int .i64 t, .int .i64 m] w (RetOwnT 2 1 (paR xs t m).length (nums .i64 (paR xs t m)) [.int .i64 (paM xs t m), .int .i64 (paC xs t m)] w) := by
  have HXL := Lib.hid R.1
  cases h : webOk xs
  · have e1 : paR xs t m = [] := by simp [paR, h]
    rw [e1]
    clear e1
    go_enter Try.func12, Try.ntmps12
    go_wp2_with (go_at_call 21; (refine (l02Ok_any A n c xs _ R).mono ?_); rintro e w1 ⟨rfl, rfl⟩)
    go_ret3
    exact ⟨some ⟨w.heap.size, 0, none⟩, 0, by simp [paC, paM, h], own_empty _ _ _, by go_grown⟩
  · have hbd := webOk_bd h
    rw [HXL.out] at hbd
    obtain ⟨hn2, hn12, _, _⟩ := hbd
    cases h2 : inB t 1 12 && inB m 0 100
    · have e1 : paR xs t m = [] := by simp [paR, h, h2]
      have e2 : paM xs t m = 0 := by simp [paM, h, h2]
      have e3 : paC xs t m = 2 := by simp [paC, h, h2]
      rw [e1, e2, e3]
      clear e1 e2 e3
      cases h3 : inB t 1 12
      · go_enter Try.func12, Try.ntmps12
        go_wp2_with (first
          | (go_at_call 21; (refine (l02Ok_any A n c xs _ R).mono ?_); rintro e w1 ⟨rfl, rfl⟩)
          | (go_at_call 22; (refine (sTimes t _).mono ?_); rintro e w2 ⟨rfl, rfl⟩)
          | (go_at_call 27; (refine (l00In_any _ _ _ _).mono ?_); rintro e w' ⟨rfl, rfl⟩))
        go_ret3
        exact ⟨some ⟨w.heap.size, 0, none⟩, 0, by simp, own_empty _ _ _, by go_grown⟩
      · have h4 : inB m 0 100 = false := by simpa [h3] using h2
        go_enter Try.func12, Try.ntmps12
        go_wp2_with (first
          | (go_at_call 21; (refine (l02Ok_any A n c xs _ R).mono ?_); rintro e w1 ⟨rfl, rfl⟩)
          | (go_at_call 22; (refine (sTimes t _).mono ?_); rintro e w2 ⟨rfl, rfl⟩)
          | (go_at_call 27; (refine (l00In_any _ _ _ _).mono ?_); rintro e w' ⟨rfl, rfl⟩))
        go_ret3
        exact ⟨some ⟨w.heap.size, 0, none⟩, 0, by simp, own_empty _ _ _, by go_grown⟩
    · simp only [Bool.and_eq_true] at h2
      obtain ⟨h3, h4⟩ := h2
      have b3 := inB_iff.1 h3
      have b4 := inB_iff.1 h4
      obtain ⟨M, rfl⟩ : ∃ M : Nat, m = (M : Int) := ⟨m.toNat, by omega⟩
      go_enter Try.func12, Try.ntmps12
      go_wp2_with (first
        | (go_at_call 21; (refine (l02Ok_any A n c xs _ R).mono ?_); rintro e w1 ⟨rfl, rfl⟩)
        | (go_at_call 22; (refine (sTimes t _).mono ?_); rintro e w2 ⟨rfl, rfl⟩)
        | (go_at_call 27; (refine (l00In_any _ _ _ _).mono ?_); rintro e w' ⟨rfl, rfl⟩)
        | (go_at_call 30; (refine (l00Own_any A n c xs _ R (by omega) (by omega)).mono ?_); rintro e w3 ⟨A1, c1, rfl, O1, hb1⟩))
      have P0 := Lib.hid (PaAt.zero (t := t) (m := M) h)
      have OH1 := Lib.hid O1; have HB3 := Lib.hid hb1
      clear O1 hb1
      go_loopw [9, 10] (fun o v wr => ∃ (j : Nat) (ys : List Int) (A' : Option Addr) (c' : Nat), Hid (PaAt xs t M j ys) ∧ v = .int .i64 j ∧ o = .slice A' n c' ∧ Hid (wr.ownsRow w.heap.size 2 1 (.slice A' n c') n (nums .i64 ys)) ∧ Hid (Below w.heap.size w wr)) (fun _ v _ => M - (intOf v).toNat)
      case atStart => exact ⟨0, xs, _, _, P0, rfl, rfl, OH1, HB3⟩
      case round =>
        obtain ⟨j, ys, A', c', HP, rfl, rfl, HO1, HBn⟩ := hrel
        have hjM := HP.out.1
        have hyl : ys.length = n := by rw [HP.out.2.2.1, HXL.out]
        have hll : (lumpsL ys t).length ≤ n := by have := lumpsTo_len ys t ys.length; rw [hyl] at this; rw [lumpsL, hyl]; exact this
        have HY := Lib.hid hyl; clear hyl
        have hw := HP.out.2.1
        have hsz2 : w.heap.size ≤ wr.heap.size := HBn.out.size
        by_cases hj : j < M
        · rcases lumps_cases ys t with hl | ⟨k, l, hk, hl⟩
          · have e := HP.out.fin h h3 h4 (.inr hl)
            have E := Lib.hid e; clear e
            have hl0 : (lumpsL ys t).length = 0 := by rw [hl]; rfl
            clear hl
            go_wp2_with fail
            refine (l02Lumps_any A' n c' ys t _ (own_rds1 HO1.out (by omega)) (webOk_small hw) (by omega) (by omega)).mono ?_
            rintro e w5 ⟨B, d, rfl, O2, hb5⟩
            rw [hl0]
            replace HO1 := Lib.hid (own_below HO1.out hb5)
            replace HBn := Lib.hid (below_then HBn.out hsz2 hb5)
            clear O2 hb5
            go_wp2_with fail
            go_ret3
            rw [E.out.1, E.out.2.1, E.out.2.2, HY.out]
            exact ⟨A', c', rfl, HO1.out, HBn.out⟩
          · have hl0 : 0 < (lumpsL ys t).length := by rw [hl]; simp
            have hkn : k < n := by rw [← HY.out]; exact hk
            go_wp2_with fail
            refine (l02Lumps_any A' n c' ys t _ (own_rds1 HO1.out (by omega)) (webOk_small hw) (by omega) (by omega)).mono ?_
            rintro e w5 ⟨B, d, rfl, O2, hb5⟩
            obtain ⟨ad, x, rfl, hx, hc⟩ := (own_rds1 O2 (by omega)).at1 hl0
            have hxk : x = (k : Int) := by rw [hl] at hx; simpa using hx.symm
            subst hxk
            have hc0 : w5.cell? ad = some (.int .i64 (k : Int)) := by simpa [Addr.add] using hc
            clear hx hc
            have hsz3 := hb5.size
            replace HO1 := Lib.hid (own_below HO1.out hb5)
            replace HBn := Lib.hid (below_then HBn.out hsz2 hb5)
            clear O2 hb5
            cases hok : partOk ys k
            · have e := HP.out.bad h h3 h4 hl hok hj
              have E := Lib.hid e; clear e
              clear hl
              generalize (lumpsL ys t).length = q at *
              go_wp2_with fail
              refine (l02Part_any A' n c' ys k _ (own_rds1 HO1.out (by omega)) hw hkn).mono ?_
              rw [hok]
              rintro e w6 ⟨A5, c5, rfl, O5, hb6⟩
              go_wp2_with fail
              go_ret3
              rw [E.out.1, E.out.2.1, E.out.2.2]
              exact ⟨some ⟨_, 0, none⟩, 0, rfl, own_lower (own_empty _ _ _) (Nat.le_trans (Nat.le_trans hsz2 hsz3) hb6.size), below_then (below_then HBn.out (Nat.le_trans hsz2 hsz3) hb6) (Nat.le_trans (Nat.le_trans hsz2 hsz3) hb6.size) (below_alloc1 _ _)⟩
            · have HP2 := Lib.hid (HP.out.next hl hk hok hj)
              clear hl
              generalize (lumpsL ys t).length = q at *
              go_wp2_with fail
              refine (l02Part_any A' n c' ys k _ (own_rds1 HO1.out (by omega)) hw hkn).mono ?_
              rw [hok]
              rintro e w6 ⟨A5, c5, rfl, O5, hb6⟩
              have hsz4 := hb6.size
              go_wp2_with fail
              go_roundw
              case rel => exact ⟨j + 1, partL ys k, A5, c5, HP2, by go_num, rfl, Lib.hid (own_lower O5 (Nat.le_trans hsz2 hsz3)), Lib.hid (below_then HBn.out (Nat.le_trans hsz2 hsz3) hb6)⟩
              case measure => simp [intOf]; omega
        · have e := HP.out.fin h h3 h4 (.inl (by omega))
          have E := Lib.hid e; clear e
          go_wp2_with fail
          go_ret3
          rw [E.out.1, E.out.2.1, E.out.2.2, HY.out]
          exact ⟨A', c', rfl, HO1.out, HBn.out⟩
end Go.Proofs.Ytkdkdnjhhdpbmaa
