/- Contracts: spec.CardOnce and impl.CardOnce. -/
import Derived.Test.YtefipngapgffdaaGreatDoorC16
namespace Go.Proofs.YtefipngapgffdaaGreatDoor
open Go.RowKit
set_option linter.unusedVariables false
set_option linter.unusedSimpArgs false
set_option maxRecDepth 20000
def oneB (q : Int) : ByteArray := ⟨#[UInt8.ofNat q.toNat]⟩
theorem oneB_size (q : Int) : (oneB q).size = 1 := rfl
theorem oneB_at {q : Int} (g : (Lit.int .u8 q).wf = true) : bq (oneB q) 0 = q ∧ 0 ≤ q ∧ q < 256 := by
  have hr : 0 ≤ q ∧ q < 256 := by
    simp [Lit.wf, IntKind.min, IntKind.max, IntKind.signed, IntKind.bits] at g
    omega
  refine ⟨?_, hr⟩
  unfold bq
  rw [dif_pos (by rw [oneB_size]; omega)]
  show ((UInt8.ofNat q.toNat).toNat : Int) = q
  simp
  omega
theorem oneB_ok {q : Int} (g : (Lit.int .u8 q).wf = true) : psOk (oneB q) = isP q := by
  unfold psOk
  rw [oneB_size]
  simp [List.range_succ, (oneB_at g).1]
def coL (xs : List Int) (q p : Int) : List Int := caL xs (oneB q) p
def coF (xs : List Int) (q p : Int) : Int := caF xs (oneB q) p
def coC (xs : List Int) (q p : Int) : Int := caC xs (oneB q) p
theorem coL_len (xs : List Int) (q p : Int) : (coL xs q p).length ≤ 1048576 := caL_len _ _ _
set_option maxHeartbeats 2000000 in
theorem sCardOnce (A : Option Addr) (n c : Nat) (xs : List Int) (q p : Int) (w : World) (R : Rds w A n 1 (fun x : Int => [.int .i64 x]) xs) (hc : n ≤ c ∧ c ≤ 9223372036854775807) (gq : (Lit.int .u8 q).wf = true) (g : (Lit.int .i64 p).wf = true) :
    Calls Tryz.prog 26 #[.slice A n c, .int .u8 q, .int .i64 p] w (RetOwnT 2 1 (coL xs q p).length (nums .i64 (coL xs q p)) [.int .i64 (coF xs q p), .int .i64 (coC xs q p)] w) := by
  have hl := R.1
  clear g
  obtain ⟨r, hr⟩ : ∃ r, lpC xs p = r := ⟨_, rfl⟩
  by_cases h0 : r = 0
  rotate_left
  · have e1 : coC xs q p = r := by unfold coC caC; rw [hr, if_neg h0]
    have e2 : coL xs q p = [] := by unfold coL caL; rw [← coC, e1, if_neg h0]
    have e3 : coF xs q p = 0 := by unfold coF caF; rw [← coC, e1, if_neg h0]
    rw [e1, e2, e3]
    have f1 : (r == 0) = false := by simpa using h0
    have f2 : (r != 0) = true := by simpa using h0
    have HQ := Lib.hid hr; clear hr e1 e2 e3 hl
    go_enter Tryz.func26, Tryz.ntmps26
    go_wp2_with fail
    refine (l02Percent_any A n c xs p _ R).mono ?_
    rintro e w1 ⟨rfl, rfl⟩
    rw [HQ.out]
    go_wp2_with fail
    go_ret3
    exact ⟨_, _, rfl, own_empty w _ _, by go_grown⟩
  subst h0
  obtain ⟨hw, hp⟩ := lpC_0 hr
  have HQ := Lib.hid hr
  have W := Lib.hid (webOk_web hw hl)
  by_cases hgood : (q = 114 ∨ q = 102 ∨ q = 99)
  · have hiq : isP q = true := by unfold isP; exact decide_eq_true hgood
    have e1 : coC xs q p = 0 := by unfold coC caC; rw [hr, if_pos rfl, oneB_size, if_neg (by omega), oneB_ok gq, hiq]; rfl
    have e2 : coL xs q p = cardL xs q p := by unfold coL caL; rw [← coC, e1, if_pos rfl, oneB_size]; simp only [crL, (oneB_at gq).1]
    have e3 : coF xs q p = cardF xs q p := by unfold coF caF; rw [← coC, e1, if_pos rfl, oneB_size]; simp only [crF, crL, (oneB_at gq).1, Int.zero_add]
    have e4 : (cardL xs q p).length = n := (card_web W.out hp).1.1
    rw [e1, e2, e3, e4]
    clear hr e1 e2 e3 e4 hl hiq gq
    have HGd := Lib.hid hgood; clear hgood
    go_enter Tryz.func26, Tryz.ntmps26
    go_wp2_with fail
    refine (l02Percent_any A n c xs p _ R).mono ?_
    rintro e w1 ⟨rfl, rfl⟩
    rw [HQ.out]
    go_wp2_with fail
    refine (l02Pass_any A n c xs q p _ R hc W hp HGd.out).mono ?_
    rintro e w2 ⟨A2, c2, rfl, O2, hb2⟩
    go_wp2_with fail
    go_ret3
    exact ⟨_, _, rfl, O2, hb2⟩
  · have hiq : isP q = false := by unfold isP; exact decide_eq_false hgood
    have e1 : coC xs q p = 5 := by unfold coC caC; rw [hr, if_pos rfl, oneB_size, if_neg (by omega), oneB_ok gq, hiq]; rfl
    have e2 : coL xs q p = [] := by unfold coL caL; rw [← coC, e1]; rfl
    have e3 : coF xs q p = 0 := by unfold coF caF; rw [← coC, e1]; rfl
    rw [e1, e2, e3]
    clear hr e1 e2 e3 hl hiq gq
    have HBad := Lib.hid hgood; clear hgood
    go_enter Tryz.func26, Tryz.ntmps26
    go_wp2_with fail
    refine (l02Percent_any A n c xs p _ R).mono ?_
    rintro e w1 ⟨rfl, rfl⟩
    rw [HQ.out]
    go_wp2_with fail
    refine (l02Pass_bad A n c q p _ HBad.out).mono ?_
    rintro e w2 ⟨A2, c2, rfl, O2, hb2⟩
    go_wp2_with fail
    go_ret3
    exact ⟨_, _, rfl, own_lower (own_empty w2 _ _) hb2.size, hb2.alloc hb2.size _⟩
set_option maxHeartbeats 2000000 in
theorem iCardOnce (A : Option Addr) (n c : Nat) (xs : List Int) (q p : Int) (w : World) (R : Rds w A n 1 (fun x : Int => [.int .i64 x]) xs) (hc : n ≤ c ∧ c ≤ 9223372036854775807) (gq : (Lit.int .u8 q).wf = true) (g : (Lit.int .i64 p).wf = true) :
    Calls Tryz.prog 25 #[.slice A n c, .int .u8 q, .int .i64 p] w (RetOwnT 2 1 (coL xs q p).length (nums .i64 (coL xs q p)) [.int .i64 (coF xs q p), .int .i64 (coC xs q p)] w) := by
  obtain ⟨_, hq1, hq2⟩ := oneB_at gq
  have hqb : ((UInt8.ofNat q.toNat).toNat : Int) = q := by simp; omega
  have G := Lib.hid g; have GQ := Lib.hid gq
  clear g gq
  go_enter Tryz.func25, Tryz.ntmps25
  go_wp2_with fail
  have hcv := run_convert_bytes_back (P := Tryz.prog) (w.alloc (.cells #[.int .u8 q] 5)) 22 9 5 ⟨w.heap.size, 0, none⟩ 1 [UInt8.ofNat q.toNat] Tryz.underlying22 Tryz.underlying5 Tryz.underlying9 (by
    intro j hj
    obtain rfl : j = 0 := by simp at hj; omega
    have ha : (⟨w.heap.size, 0, none⟩ : Addr).add 0 = ⟨w.heap.size, 0, none⟩ := rfl
    rw [ha, cell_of_row _ w.heap.size 0 #[.int .u8 q] 5 _ (by show (w.heap.push _)[w.heap.size]? = _; rw [Array.getElem?_push_size])]
    show some (Value.int .u8 q) = some (Value.int .u8 ((UInt8.ofNat q.toNat).toNat : Int))
    rw [hqb])
  rw [show (⟨[UInt8.ofNat q.toNat].toArray⟩ : ByteArray) = oneB q from rfl] at hcv
  simp only [List.length_cons, List.length_nil, Nat.zero_add] at hcv
  rw [hcv]
  have hB := (Below.refl w.heap.size w).alloc (Nat.le_refl _) (.cells #[.int .u8 q] 5)
  go_wp2_with fail
  refine (iCardAll A n c xs (oneB q) p _ (R.below hB) (by rw [oneB_size]; omega) G.out).mono ?_
  rintro e w2 ⟨A2, c2, rfl, O2, hb2⟩
  go_wp2_with fail
  go_ret3
  exact ⟨A2, c2, rfl, own_lower O2 hB.size, below_then hB hB.size hb2⟩
end Go.Proofs.YtefipngapgffdaaGreatDoor
