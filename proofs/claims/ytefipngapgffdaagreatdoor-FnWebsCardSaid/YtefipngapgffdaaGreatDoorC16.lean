/- Contracts: impl.CardAll. -/
import Derived.Test.YtefipngapgffdaaGreatDoorC15
import Derived.Test.YtefipngapgffdaaGreatDoorB1
import Derived.Laws.IdiomStrings
namespace Go.Proofs.YtefipngapgffdaaGreatDoor
open Go.RowKit
set_option linter.unusedVariables false
set_option linter.unusedSimpArgs false
def bqL (s : ByteArray) : List Int := (List.range s.size).map (bq s)
theorem bqL_all (s : ByteArray) : (bqL s).all isP = psOk s := by simp [bqL, psOk, List.all_map]; rfl
theorem rds_bytes (w : World) (s : ByteArray) (G : Nat) (e : TypeId) (fr : Nat × Nat) (hs : s.size ≤ 1000) :
    Rds (w.drew.alloc (.cells (bytesRow s G) e fr)) (some ⟨w.heap.size, 0, none⟩) s.size 1 (fun x : Int => [.int .u8 x]) (bqL s) := by
  refine ⟨by simp [bqL], by omega, fun _ => ⟨_, rfl, fun i x hx j v hv => ?_⟩⟩
  have hi : i < s.size := by
    have := (List.getElem?_eq_some_iff.1 hx).1
    simpa [bqL] using this
  have hj : j = 0 := by
    have := (List.getElem?_eq_some_iff.1 hv).1
    simp at this
    exact this
  subst hj
  simp only [List.getElem?_cons_zero, Option.some.injEq] at hv
  subst hv
  have ha : (⟨w.heap.size, 0, none⟩ : Addr).add (i * 1 + 0) = ⟨w.heap.size, i, none⟩ := by unfold Addr.add; split <;> simp_all
  rw [ha]
  have hh : (w.drew.alloc (.cells (bytesRow s G) e fr)).heap[w.heap.size]? = some (.cells (bytesRow s G) e fr) := by
    show (w.heap.push (.cells (bytesRow s G) e fr))[w.heap.size]? = _
    simp
  rw [cell_of_row _ w.heap.size i _ e fr hh]
  have hx' : x = bq s i := by
    simp [bqL, hi] at hx
    exact hx.symm
  subst hx'
  have hd : i < s.data.size := hi
  unfold bytesRow bq
  rw [Array.getElem?_append_left (by simpa using hd), dif_pos hi]
  simp [hd]
  exact ⟨s.data[i]'hd, Array.getElem?_eq_getElem hd, rfl⟩
theorem isPass_any (x : Int) (w : World) : Calls Tryz.prog 38 #[.int .u8 x] w fun e w' => e = .returned (.bool (isP x)) ∧ Below w.heap.size w w' := by
  by_cases h1 : x = 102
  · subst h1
    go_enter Tryz.func38, Tryz.ntmps38
    go_wp2
    go_ret
    exact ⟨by simp [isP], Below.refl _ _⟩
  by_cases h2 : x = 99
  · subst h2
    go_enter Tryz.func38, Tryz.ntmps38
    go_wp2
    go_ret
    exact ⟨by simp [isP], Below.refl _ _⟩
  by_cases h3 : x = 114
  · subst h3
    go_enter Tryz.func38, Tryz.ntmps38
    go_wp2
    go_ret
    exact ⟨by simp [isP], Below.refl _ _⟩
  have HI := Lib.hid (show isP x = false by simp [isP, h1, h2, h3])
  have f1 : (x == 102) = false := by simpa using h1
  have f2 : (x == 99) = false := by simpa using h2
  have f3 : (x == 114) = false := by simpa using h3
  go_enter Tryz.func38, Tryz.ntmps38
  go_wp2
  go_ret
  exact ⟨by rw [HI.out]; rfl, Below.refl _ _⟩
theorem isPercent2_any (n : Int) (w : World) : Calls Tryz.prog 36 #[.int .i64 n] w fun e w' => e = .returned (.bool (inB n 0 100)) ∧ w = w' := by
  go_enter Tryz.func36, Tryz.ntmps36
  go_wp2_with (go_at_call 50; (refine (within_any _ _ _ _).mono ?_); rintro e w' ⟨rfl, rfl⟩)
  go_ret
  exact ⟨rfl, rfl⟩
set_option maxHeartbeats 2000000 in
theorem iCardAll (A : Option Addr) (n c : Nat) (xs : List Int) (s : ByteArray) (p : Int) (w : World) (R : Rds w A n 1 (fun x : Int => [.int .i64 x]) xs) (hs0 : s.size ≤ 140737488351232) (g : (Lit.int .i64 p).wf = true) :
    Calls Tryz.prog 11 #[.slice A n c, .string s, .int .i64 p] w (RetOwnT 2 1 (caL xs s p).length (nums .i64 (caL xs s p)) [.int .i64 (caF xs s p), .int .i64 (caC xs s p)] w) := by
  have hl := R.1
  clear g
  cases h1 : webOk xs
  · have e1 : caC xs s p = 1 := by simp [caC, lpC, h1]
    have e2 : caL xs s p = [] := by unfold caL; rw [e1]; rfl
    have e3 : caF xs s p = 0 := by unfold caF; rw [e1]; rfl
    rw [e1, e2, e3]
    clear e1 e2 e3 hl
    go_enter Tryz.func11, Tryz.ntmps11
    go_wp2_with (go_at_call 19; (refine (validWeb_any A n c xs _ R).mono ?_); rintro e w1 ⟨rfl, hb1⟩; try rw [h1])
    go_ret3
    exact ⟨none, 0, rfl, own_nil _ _ _ _, by assumption⟩
  cases h2 : inB p 0 100
  · have e1 : caC xs s p = 2 := by simp [caC, lpC, h1, h2]
    have e2 : caL xs s p = [] := by unfold caL; rw [e1]; rfl
    have e3 : caF xs s p = 0 := by unfold caF; rw [e1]; rfl
    rw [e1, e2, e3]
    clear e1 e2 e3 hl
    go_enter Tryz.func11, Tryz.ntmps11
    go_wp2_with (first
      | (go_at_call 19; (refine (validWeb_any A n c xs _ R).mono ?_); rintro e w1 ⟨rfl, hb1⟩; try rw [h1])
      | (go_at_call 36; (refine (isPercent2_any _ _).mono ?_); rintro e w' ⟨rfl, rfl⟩; rw [h2]))
    go_ret3
    exact ⟨none, 0, rfl, own_nil _ _ _ _, by assumption⟩
  by_cases h20 : 20 < s.size
  · have e1 : caC xs s p = 3 := by simp [caC, lpC, h1, h2, h20]
    have e2 : caL xs s p = [] := by unfold caL; rw [e1]; rfl
    have e3 : caF xs s p = 0 := by unfold caF; rw [e1]; rfl
    rw [e1, e2, e3]
    have h20' : (20 : Int) < (s.size : Int) := by omega
    clear e1 e2 e3 hl
    go_enter Tryz.func11, Tryz.ntmps11
    go_wp2_with (first
      | (go_at_call 19; (refine (validWeb_any A n c xs _ R).mono ?_); rintro e w1 ⟨rfl, hb1⟩; try rw [h1])
      | (go_at_call 36; (refine (isPercent2_any _ _).mono ?_); rintro e w' ⟨rfl, rfl⟩; rw [h2]))
    go_ret3
    exact ⟨none, 0, rfl, own_nil _ _ _ _, by assumption⟩
  have hp : 0 ≤ p ∧ p ≤ 100 := by simpa [inB] using h2
  have W := Lib.hid (webOk_web h1 hl)
  have h20' : ¬ (20 : Int) < (s.size : Int) := by omega
  have hcv := fun w : World => run_bytes_of_string (P := Tryz.prog) w 9 22 5 s Tryz.underlying9 Tryz.underlying22 Tryz.underlying5
  cases h5 : psOk s
  all_goals
    have HC : Hid (caC xs s p = _) := Lib.hid (by unfold caC lpC; rw [h1, h2, h5])
    simp only [Bool.true_eq_false, if_false, if_true, h20] at HC
    have HP := Lib.hid h5; have H1 := Lib.hid h1; have H2 := Lib.hid h2
    clear h5 h1 h2
    go_enter Tryz.func11, Tryz.ntmps11
    go_wp2_with fail
    refine (validWeb_any A n c xs _ R).mono ?_
    rintro e w1 ⟨rfl, hb1⟩
    rw [H1.out]
    go_wp2_with (go_at_call 36; (refine (isPercent2_any _ _).mono ?_); rintro e w' ⟨rfl, rfl⟩; rw [H2.out])
    refine (areAll_u8 (p := isP) (xs := bqL s) (enters_of Tryz.func38 rfl (by decide)) (Lib.hid fun x w _ => isPass_any x w) _ s.size _ _ (rds_bytes w1 s _ _ _ (by omega))).mono ?_
    rintro e w2 ⟨rfl, hb2⟩
    rw [bqL_all, HP.out]
    have hBa := Lib.hid (below_then hb1 hb1.size (below_then ((Below.refl w1.heap.size w1).drew.alloc (Nat.le_refl _) _) (by simp) hb2))
    clear hb1 hb2
  · have e2 : caL xs s p = [] := by unfold caL; rw [HC.out]; rfl
    have e3 : caF xs s p = 0 := by unfold caF; rw [HC.out]; rfl
    have E2 := Lib.hid e2; have E3 := Lib.hid e3; clear e2 e3 hl hcv
    go_wp2_with fail
    go_ret3
    refine ⟨none, 0, by rw [E2.out, E3.out, HC.out]; rfl, by rw [E2.out]; exact own_nil _ _ _ _, hBa.out⟩
  · have e2 : caL xs s p = crL xs s p s.size := by unfold caL; rw [if_pos HC.out]
    have e3 : caF xs s p = crF xs s p s.size := by unfold caF; rw [if_pos HC.out]
    have E2 := Lib.hid e2; have E3 := Lib.hid e3; have E4 := Lib.hid (crL_web W.out s hp s.size).1; clear e2 e3 hl hcv
    go_wp2_with fail
    refine (cardedAll_any A n c xs s p _ (R.below hBa.out) W hp (by omega)).mono ?_
    rintro e w3 ⟨A3, c3, rfl, O3, hb3⟩
    go_wp2_with fail
    go_ret3
    refine ⟨A3, c3, by rw [E2.out, E3.out, HC.out, E4.out]; rfl, by rw [E2.out, E4.out]; exact own_lower O3 hBa.out.size, below_then hBa.out hBa.out.size hb3⟩
end Go.Proofs.YtefipngapgffdaaGreatDoor
