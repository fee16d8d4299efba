/- Contracts: spec.CardAll. -/
import Derived.Test.YtefipngapgffdaaGreatDoorC14
namespace Go.Proofs.YtefipngapgffdaaGreatDoor
open Go.RowKit
set_option linter.unusedVariables false
set_option linter.unusedSimpArgs false
def isP (q : Int) : Bool := decide (q = 114 ∨ q = 102 ∨ q = 99)
def psOk (s : ByteArray) : Bool := (List.range s.size).all fun k => isP (bq s k)
def lpC (xs : List Int) (p : Int) : Int := if webOk xs = false then 1 else if inB p 0 100 = false then 2 else 0
def caC (xs : List Int) (s : ByteArray) (p : Int) : Int := if lpC xs p = 0 then (if 20 < s.size then 3 else if psOk s = false then 5 else 0) else lpC xs p
def caL (xs : List Int) (s : ByteArray) (p : Int) : List Int := if caC xs s p = 0 then crL xs s p s.size else []
def caF (xs : List Int) (s : ByteArray) (p : Int) : Int := if caC xs s p = 0 then crF xs s p s.size else 0
theorem lpC_0 {xs : List Int} {p : Int} (h : lpC xs p = 0) : webOk xs = true ∧ (0 ≤ p ∧ p ≤ 100) := by
  unfold lpC at h
  cases h1 : webOk xs
  · simp [h1] at h
  · cases h2 : inB p 0 100
    · simp [h1, h2] at h
    · exact ⟨rfl, by simpa [inB] using h2⟩
theorem caL_len (xs : List Int) (s : ByteArray) (p : Int) : (caL xs s p).length ≤ 1048576 := by
  unfold caL
  split
  · rename_i h
    have h0 : lpC xs p = 0 := by
      unfold caC at h
      split at h
      · assumption
      · rename_i h2; exact absurd h h2
    obtain ⟨h1, h2⟩ := lpC_0 h0
    have := crL_web (webOk_web h1 rfl) s h2 s.size
    have h3 := this.1
    have h4 := this.2.2.2.1
    omega
  · simp
theorem l02Percent_any (A : Option Addr) (n c : Nat) (xs : List Int) (p : Int) (w : World) (R : Rds w A n 1 (fun x : Int => [.int .i64 x]) xs) :
    Calls Tryz.prog 40 #[.slice A n c, .int .i64 p] w fun e w' => e = .returned (.int .i64 (lpC xs p)) ∧ w = w' := by
  cases h1 : webOk xs
  · have HC := Lib.hid (show lpC xs p = 1 by simp [lpC, h1])
    go_enter Tryz.func40, Tryz.ntmps40
    go_wp2_with (go_at_call 44; (refine (l02Ok_any A n c xs _ R).mono ?_); rintro e w1 ⟨rfl, rfl⟩; try rw [h1])
    go_ret
    exact ⟨by rw [HC.out]; rfl, rfl⟩
  · cases h2 : inB p 0 100
    all_goals
      have HC : Hid (lpC xs p = _) := Lib.hid (by unfold lpC; rw [h1, h2])
      simp only [Bool.true_eq_false, if_false, if_true] at HC
      go_enter Tryz.func40, Tryz.ntmps40
      go_wp2_with (first
        | (go_at_call 44; (refine (l02Ok_any A n c xs _ R).mono ?_); rintro e w1 ⟨rfl, rfl⟩; try rw [h1])
        | (go_at_call 74; (refine (l00In_any _ _ _ _).mono ?_); rintro e w1 ⟨rfl, rfl⟩; rw [h2]))
      go_ret
      exact ⟨by rw [HC.out]; rfl, rfl⟩
theorem l02Pass_bad (A : Option Addr) (n c : Nat) (q p : Int) (w : World) (h : ¬ (q = 114 ∨ q = 102 ∨ q = 99)) :
    Calls Tryz.prog 42 #[.slice A n c, .int .u8 q, .int .i64 p] w (RetOwnT 2 1 0 [] [.int .i64 0, .bool false] w) := by
  have f1 : (q == 114) = false := by simp; omega
  have f2 : (q == 102) = false := by simp; omega
  have f3 : (q == 99) = false := by simp; omega
  clear h
  go_enter Tryz.func42, Tryz.ntmps42
  go_wp2_with fail
  go_ret3
  exact ⟨_, _, rfl, own_empty w _ _, by go_grown⟩
theorem l00Own_any (A : Option Addr) (n c : Nat) (xs : List Int) (w : World) (R : Rds w A n 1 (fun x : Int => [.int .i64 x]) xs) (h0 : 0 < n) (hn : n ≤ 1000) :
    Calls Tryz.prog 41 #[.slice A n c] w (RetOwn 2 1 n (nums .i64 xs) w) := by
  obtain ⟨ad, rfl, _⟩ := R.2.2 h0
  obtain ⟨i0, hi, hzz⟩ := Option.map_eq_some_iff.1 info_i64
  simp only [Prod.mk.injEq] at hzz
  obtain ⟨hz0, hz1, hz2⟩ := hzz
  have HXL := Lib.hid R.1
  have O0 := own_empty w 2 1
  have hB := below_alloc1 w (.cells #[] 2)
  go_enter Tryz.func41, Tryz.ntmps41
  go_wp2_with ((at_builtin; refine wpList_append_own _ (by rfl) _ _ 24 (by rfl) w.heap.size 2 i0 (.int .i64 0) 1 8 Tryz.underlying24 hi hz0 hz1 hz2 rfl (by omega) _ 0 [] (by rfl) O0 ad n c (nums .i64 xs) (by rfl) (by rw [nums_length, HXL.out, Nat.mul_one]) (rds_news (R.below hB)) (one_nums xs) (by simp only [maxLen]; omega) (by omega) (by simp) ?_; intro v2 w2 O2 hg2 _))
  rw [Nat.zero_add, List.nil_append] at O2
  obtain ⟨A2, c2, rfl⟩ := own_slice O2
  go_wp2_with fail
  go_ret
  exact ⟨A2, c2, rfl, O2, hB.grown hg2 hB.size (fun k hk => (own_base O0 k hk).1)⟩
set_option maxHeartbeats 2000000 in
theorem sCardAll (A : Option Addr) (n c : Nat) (xs : List Int) (s : ByteArray) (p : Int) (w : World) (R : Rds w A n 1 (fun x : Int => [.int .i64 x]) xs) (hs0 : s.size ≤ 140737488351232) (g : (Lit.int .i64 p).wf = true) :
    Calls Tryz.prog 12 #[.slice A n c, .string s, .int .i64 p] w (RetOwnT 2 1 (caL xs s p).length (nums .i64 (caL xs s p)) [.int .i64 (caF xs s p), .int .i64 (caC xs s p)] w) := by
  have hl := R.1
  clear g
  obtain ⟨q, hq⟩ : ∃ q, lpC xs p = q := ⟨_, rfl⟩
  by_cases h0 : q = 0
  rotate_left
  · have e1 : caC xs s p = q := by unfold caC; rw [hq, if_neg h0]
    have e2 : caL xs s p = [] := by unfold caL; rw [e1, if_neg h0]
    have e3 : caF xs s p = 0 := by unfold caF; rw [e1, if_neg h0]
    rw [e1, e2, e3]
    have f1 : (q == 0) = false := by simpa using h0
    have f2 : (q != 0) = true := by simpa using h0
    have HQ := Lib.hid hq; clear hq e1 e2 e3 hl
    go_enter Tryz.func12, Tryz.ntmps12
    go_wp2_with fail
    refine (l02Percent_any A n c xs p _ R).mono ?_
    rintro e w1 ⟨rfl, rfl⟩
    rw [HQ.out]
    go_wp2_with fail
    go_ret3
    exact ⟨_, _, rfl, own_empty w _ _, by go_grown⟩
  subst h0
  obtain ⟨hw, hp⟩ := lpC_0 hq
  have HQ := Lib.hid hq
  by_cases h20 : 20 < s.size
  · have e1 : caC xs s p = 3 := by unfold caC; rw [hq, if_pos rfl, if_pos h20]
    have e2 : caL xs s p = [] := by unfold caL; rw [e1]; rfl
    have e3 : caF xs s p = 0 := by unfold caF; rw [e1]; rfl
    rw [e1, e2, e3]
    have h20' : (20 : Int) < (s.size : Int) := by omega
    clear hq e1 e2 e3 hl hw
    go_enter Tryz.func12, Tryz.ntmps12
    go_wp2_with fail
    refine (l02Percent_any A n c xs p _ R).mono ?_
    rintro e w1 ⟨rfl, rfl⟩
    rw [HQ.out]
    go_wp2_with fail
    go_ret3
    exact ⟨_, _, rfl, own_empty w _ _, by go_grown⟩
  have W := Lib.hid (webOk_web hw hl)
  obtain ⟨b1, b2, b3, b4, b5⟩ := W.out
  have hc5 : psOk s = false → caC xs s p = 5 := fun h => by unfold caC; rw [hq, if_pos rfl, if_neg h20, if_pos h]
  have hc0 : psOk s = true → caC xs s p = 0 := fun h => by unfold caC; rw [hq, if_pos rfl, if_neg h20, h]; rfl
  have HC5 := Lib.hid hc5; have HC0 := Lib.hid hc0
  have h20' : ¬ (20 : Int) < (s.size : Int) := by omega
  clear hq b1 b5 hc5 hc0 hw hl
  go_enter Tryz.func12, Tryz.ntmps12
  go_wp2_with fail
  refine (l02Percent_any A n c xs p _ R).mono ?_
  rintro e w1 ⟨rfl, rfl⟩
  rw [HQ.out]
  go_wp2_with fail
  refine (l00Own_any A n c xs _ R (by omega) (by omega)).mono ?_
  rintro e w1 ⟨A1, c1, rfl, O1, hb1⟩
  have HB1 := Lib.hid hb1; have HO1 := Lib.hid O1; clear hb1 O1
  go_wp2_with fail
  go_loopw [10, 11, 12] (fun o f v wr => ∃ (k : Nat) (A' : Option Addr) (c' : Nat), k ≤ s.size ∧ v = .int .i64 k ∧ o = .slice A' n c' ∧ f = .int .i64 (crF xs s p k) ∧ Hid (∀ j, j < k → isP (bq s j) = true) ∧ Hid (wr.ownsRow w.heap.size 2 1 (.slice A' n c') n (nums .i64 (crL xs s p k))) ∧ Hid (Below w.heap.size w wr)) (fun _ _ v _ => s.size - (intOf v).toNat)
  case atStart => exact ⟨0, _, _, by omega, rfl, rfl, rfl, Lib.hid (by intro j h; omega), HO1, HB1⟩
  case round =>
    obtain ⟨k, A', c', hk, rfl, rfl, rfl, HJ, O, HB⟩ := hrel
    clear HO1 HB1
    by_cases hlt : k < s.size
    · have HW := Lib.hid (crL_web W.out s hp k)
      have hF := crF_rng W.out s hp k
      have hF2 := (card_web HW.out (c := bq s k) hp).2
      have hqb : bq s k = ((s[k]'hlt).toNat : Int) := by unfold bq; rw [dif_pos hlt]
      have HQB := Lib.hid hqb; clear hqb
      have hk1 : (k : Int) < (s.size : Int) := by omega
      by_cases hgood : (bq s k = 114 ∨ bq s k = 102 ∨ bq s k = 99)
      · have HGd := Lib.hid hgood; clear hgood
        obtain ⟨T, hT⟩ : ∃ T, crF xs s p k = T := ⟨_, rfl⟩
        rw [hT] at hF ⊢
        have HT := Lib.hid hT; clear hT
        go_wp2_with fail
        rw [← HQB.out]
        refine (l02Pass_any A' n c' (crL xs s p k) (bq s k) p _ (own_rds1 O.out (by omega)) (own_cap O.out) HW hp HGd.out).mono ?_
        rintro e w2 ⟨A2, c2, rfl, O2, hb2⟩
        have HB2 := Lib.hid (below_then HB.out HB.out.size hb2)
        have HO2 := Lib.hid (own_lower O2 HB.out.size)
        clear O2 hb2
        obtain ⟨U, hU⟩ : ∃ U, cardF (crL xs s p k) (bq s k) p = U := ⟨_, rfl⟩
        rw [hU] at hF2 ⊢
        have HU := Lib.hid hU; clear hU
        go_wp2_with fail
        go_roundw
        case rel =>
          refine ⟨k + 1, A2, c2, by omega, by go_num, rfl, by simp only [crF]; rw [HT.out, HU.out], Lib.hid ?_, Lib.hid (by simp only [crL]; exact HO2.out), HB2⟩
          intro j hj
          by_cases hjk : j = k
          · subst hjk; unfold isP; exact decide_eq_true HGd.out
          · exact HJ.out j (by omega)
        case measure => simp [intOf]; omega
      · have hps : psOk s = false := by
          unfold psOk
          rw [List.all_eq_false]
          exact ⟨k, List.mem_range.2 hlt, by unfold isP; simpa using hgood⟩
        have e1 := HC5.out hps
        have e2 : caL xs s p = [] := by unfold caL; rw [e1]; rfl
        have e3 : caF xs s p = 0 := by unfold caF; rw [e1]; rfl
        rw [e1, e2, e3]
        clear e1 e2 e3 hps
        have HBad := Lib.hid hgood; clear hgood
        go_wp2_with fail
        rw [← HQB.out]
        refine (l02Pass_bad A' n c' (bq s k) p _ HBad.out).mono ?_
        rintro e w2 ⟨A2, c2, rfl, O2, hb2⟩
        have hB2 := below_then HB.out HB.out.size hb2
        clear O2 hb2
        go_wp2_with fail
        go_ret3
        exact ⟨_, _, rfl, own_lower (own_empty w2 _ _) hB2.size, hB2.alloc hB2.size _⟩
    · obtain rfl : k = s.size := by omega
      have hps : psOk s = true := by
        unfold psOk
        rw [List.all_eq_true]
        intro j hj
        exact HJ.out j (List.mem_range.1 hj)
      have e1 := HC0.out hps
      have e2 : caL xs s p = crL xs s p s.size := by unfold caL; rw [if_pos e1]
      have e3 : caF xs s p = crF xs s p s.size := by unfold caF; rw [if_pos e1]
      have E1 := Lib.hid e1; have E2 := Lib.hid e2; have E3 := Lib.hid e3; have E4 := Lib.hid (crL_web W.out s hp s.size).1
      clear e1 e2 e3 hps
      go_wp2_with fail
      go_ret3
      refine ⟨A', c', ?_, ?_, HB.out⟩
      · rw [E1.out, E2.out, E3.out, E4.out]; rfl
      · rw [E2.out, E4.out]; exact O.out
end Go.Proofs.YtefipngapgffdaaGreatDoor
