/- Contracts: PartLump on both sides. -/
import Derived.Test.YtkdkdnjhhdpbmaaF2
namespace Go.Proofs.Ytkdkdnjhhdpbmaa
open Go.RowKit
set_option linter.unusedVariables false
set_option linter.unusedSimpArgs false
theorem iPartLump (A : Option Addr) (n c : Nat) (xs : List Int) (t : Int) (w : World) (R : Rds w A n 1 (fun x : Int => [.int .i64 x]) xs) :
    Calls Try.prog 9 #[.slice A n c, .int .i64 t] w (RetOwnT 2 1 (plR xs t).length (nums .i64 (plR xs t)) [.int .i64 (plC xs t)] w) := by
  have HXL := Lib.hid R.1
  cases h : webOk xs
  · have e1 : plR xs t = [] := by simp [plR, h]
    rw [e1]
    clear e1
    go_enter Try.func9, Try.ntmps9
    go_wp2_with (go_at_call 18; (refine (validWeb_any A n c xs _ R).mono ?_); rintro e w1 ⟨rfl, hb⟩)
    go_ret2
    exact ⟨none, 0, by simp [plC, h], own_nil _ _ _ _, hb⟩
  · have hbd := webOk_bd h
    rw [HXL.out] at hbd
    obtain ⟨hn2, hn12, _, _⟩ := hbd
    cases h2 : inB t 0 ((n : Int) - 1)
    · have h2' : inB t 0 ((xs.length : Int) - 1) = false := by rw [HXL.out]; exact h2
      have e1 : plR xs t = [] := by simp [plR, h, h2']
      have e2 : plC xs t = 2 := by simp [plC, h, h2']
      have E2 := Lib.hid e2
      rw [e1]
      clear e1 e2 h2'
      go_enter Try.func9, Try.ntmps9
      go_wp2_with (first
          | (go_at_call 18; (refine (validWeb_any A n c xs _ R).mono ?_); rintro e w1 ⟨rfl, hb⟩)
          | (go_at_call 25; (refine (length_any _ _ _ _ (by omega)).mono ?_); rintro e w' ⟨rfl, rfl⟩)
          | (go_at_call 24; (refine (within_any _ _ _ _).mono ?_); rintro e w' ⟨rfl, rfl⟩))
      go_ret2
      exact ⟨none, 0, by simp [E2.out], own_nil _ _ _ _, hb⟩
    · have h2' : inB t 0 ((xs.length : Int) - 1) = true := by rw [HXL.out]; exact h2
      have h3 := inB_iff.1 h2
      obtain ⟨k, rfl⟩ : ∃ k : Nat, t = (k : Int) := ⟨t.toNat, by omega⟩
      cases h4 : partOk xs k
      · have e1 : plR xs k = [] := by simp [plR, h, h2', h4]
        have e2 : plC xs k = 3 := by simp [plC, h, h2', h4]
        have E2 := Lib.hid e2
        rw [e1]
        clear e1 e2 h2'
        go_enter Try.func9, Try.ntmps9
        go_wp2_with (first
          | (go_at_call 18; (refine (validWeb_any A n c xs _ R).mono ?_); rintro e w1 ⟨rfl, hb⟩)
          | (go_at_call 25; (refine (length_any _ _ _ _ (by omega)).mono ?_); rintro e w' ⟨rfl, rfl⟩)
          | (go_at_call 24; (refine (within_any _ _ _ _).mono ?_); rintro e w' ⟨rfl, rfl⟩)
          | (go_at_call 26; (refine (parted_any A n c xs k _ (R.below (by assumption)) h (by omega)).mono ?_); rintro e w2 ⟨A2, c2, rfl, O2, hb2⟩))
        go_ret2
        exact ⟨none, 0, by simp [E2.out], own_nil _ _ _ _, below_then hb hb.size hb2⟩
      · have e1 : plR xs k = partL xs k := by simp [plR, h, h2', h4]
        have e2 : plC xs k = 0 := by simp [plC, h, h2', h4]
        have E2 := Lib.hid e2
        rw [e1, partL_len, HXL.out]
        clear e1 e2 h2'
        go_enter Try.func9, Try.ntmps9
        go_wp2_with (first
          | (go_at_call 18; (refine (validWeb_any A n c xs _ R).mono ?_); rintro e w1 ⟨rfl, hb⟩)
          | (go_at_call 25; (refine (length_any _ _ _ _ (by omega)).mono ?_); rintro e w' ⟨rfl, rfl⟩)
          | (go_at_call 24; (refine (within_any _ _ _ _).mono ?_); rintro e w' ⟨rfl, rfl⟩)
          | (go_at_call 26; (refine (parted_any A n c xs k _ (R.below (by assumption)) h (by omega)).mono ?_); rintro e w2 ⟨A2, c2, rfl, O2, hb2⟩))
        go_ret2
        exact ⟨A2, c2, by simp [E2.out], own_lower O2 hb.size, below_then hb hb.size hb2⟩
theorem sPartLump (A : Option Addr) (n c : Nat) (xs : List Int) (t : Int) (w : World) (R : Rds w A n 1 (fun x : Int => [.int .i64 x]) xs) :
    Calls Try.prog 10 #[.slice A n c, .int .i64 t] w (RetOwnT 2 1 (plR xs t).length (nums .i64 (plR xs t)) [.int .i64 (plC xs t)] w) := by
  have HXL := Lib.hid R.1
  cases h : webOk xs
  · have e1 : plR xs t = [] := by simp [plR, h]
    rw [e1]
    clear e1
    go_enter Try.func10, Try.ntmps10
    go_wp2_with (go_at_call 21; (refine (l02Ok_any A n c xs _ R).mono ?_); rintro e w1 ⟨rfl, rfl⟩)
    go_ret2
    exact ⟨some ⟨_, 0, none⟩, 0, by simp [plC, h], own_empty _ _ _, by go_grown⟩
  · have hbd := webOk_bd h
    rw [HXL.out] at hbd
    obtain ⟨hn2, hn12, _, _⟩ := hbd
    cases h2 : inB t 0 ((n : Int) - 1)
    · have h2' : inB t 0 ((xs.length : Int) - 1) = false := by rw [HXL.out]; exact h2
      have e1 : plR xs t = [] := by simp [plR, h, h2']
      have e2 : plC xs t = 2 := by simp [plC, h, h2']
      have E2 := Lib.hid e2
      rw [e1]
      clear e1 e2 h2'
      go_enter Try.func10, Try.ntmps10
      go_wp2_with (first
          | (go_at_call 21; (refine (l02Ok_any A n c xs _ R).mono ?_); rintro e w1 ⟨rfl, rfl⟩)
          | (go_at_call 27; (refine (l00In_any _ _ _ _).mono ?_); rintro e w' ⟨rfl, rfl⟩))
      go_ret2
      exact ⟨some ⟨_, 0, none⟩, 0, by simp [E2.out], own_empty _ _ _, by go_grown⟩
    · have h2' : inB t 0 ((xs.length : Int) - 1) = true := by rw [HXL.out]; exact h2
      have h3 := inB_iff.1 h2
      obtain ⟨k, rfl⟩ : ∃ k : Nat, t = (k : Int) := ⟨t.toNat, by omega⟩
      cases h4 : partOk xs k
      · have e1 : plR xs k = [] := by simp [plR, h, h2', h4]
        have e2 : plC xs k = 3 := by simp [plC, h, h2', h4]
        have E2 := Lib.hid e2
        rw [e1]
        clear e1 e2 h2'
        go_enter Try.func10, Try.ntmps10
        go_wp2_with (first
          | (go_at_call 21; (refine (l02Ok_any A n c xs _ R).mono ?_); rintro e w1 ⟨rfl, rfl⟩)
          | (go_at_call 27; (refine (l00In_any _ _ _ _).mono ?_); rintro e w' ⟨rfl, rfl⟩)
          | (go_at_call 28; (refine (l02Part_any A n c xs k _ R h (by omega)).mono ?_); rintro e w2 ⟨A2, c2, rfl, O2, hb2⟩))
        go_ret2
        exact ⟨some ⟨_, 0, none⟩, 0, by simp [E2.out], own_lower (own_empty _ _ _) hb2.size, below_then hb2 hb2.size (below_alloc1 w2 _)⟩
      · have e1 : plR xs k = partL xs k := by simp [plR, h, h2', h4]
        have e2 : plC xs k = 0 := by simp [plC, h, h2', h4]
        have E2 := Lib.hid e2
        rw [e1, partL_len, HXL.out]
        clear e1 e2 h2'
        go_enter Try.func10, Try.ntmps10
        go_wp2_with (first
          | (go_at_call 21; (refine (l02Ok_any A n c xs _ R).mono ?_); rintro e w1 ⟨rfl, rfl⟩)
          | (go_at_call 27; (refine (l00In_any _ _ _ _).mono ?_); rintro e w' ⟨rfl, rfl⟩)
          | (go_at_call 28; (refine (l02Part_any A n c xs k _ R h (by omega)).mono ?_); rintro e w2 ⟨A2, c2, rfl, O2, hb2⟩))
        go_ret2
        exact ⟨A2, c2, by simp [E2.out], O2, hb2⟩
end Go.Proofs.Ytkdkdnjhhdpbmaa
