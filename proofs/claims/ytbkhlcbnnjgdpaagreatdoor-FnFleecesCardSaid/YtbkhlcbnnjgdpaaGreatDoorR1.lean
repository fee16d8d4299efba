/- Contracts: woolCode, l01Some. -/
import Derived.Test.YtbkhlcbnnjgdpaaGreatDoorH5
import Derived.Test.YtbkhlcbnnjgdpaaGreatDoorBh
import Derived.Test.YtbkhlcbnnjgdpaaGreatDoorBa
import Derived.Test.YtbkhlcbnnjgdpaaGreatDoorE1
namespace Go.Proofs.YtbkhlcbnnjgdpaaGreatDoor
open Go.RowKit
set_option linter.unusedVariables false
set_option linter.unusedSimpArgs false
def hsL (L : List Int) : Int := hS (L.getD 0 0) (L.getD 1 0) (L.getD 2 0) (L.getD 3 0) (L.getD 4 0) (L.getD 5 0) (L.getD 6 0) (L.getD 7 0)
def smC (L : List Int) : Int := if heapOk L = false then 1 else if 0 < hsL L then 0 else 6
def woC (xs : List (List Int)) : Int := if xs.all heapOk = false then 1 else if xs.all (fun L => decide (0 < hsL L)) = false then 6 else 0
theorem woC_one (L : List Int) : woC [L] = smC L := by
  cases h : heapOk L <;> by_cases h2 : 0 < hsL L <;> simp [woC, smC, h, h2]
theorem hS_rng {a0 a1 a2 a3 a4 a5 a6 a7 : Int} (h : heapOk [a0, a1, a2, a3, a4, a5, a6, a7] = true) : 0 ≤ hS a0 a1 a2 a3 a4 a5 a6 a7 ∧ hS a0 a1 a2 a3 a4 a5 a6 a7 ≤ 8000 := by
  obtain ⟨h0, h1, h2, h3, h4, h5, h6, h7⟩ := heapOk_bounds h
  unfold hS
  omega
theorem rds_row {w : World} {g E n sz : Nat} {C : List Int → List Value} {xs : List (List Int)} (r : Row w g E (xs.flatMap C)) (hl : (xs.flatMap C).length = n * sz) (hC : ∀ x ∈ xs, (C x).length = sz) (hs : 0 < sz) (hn : n ≤ 1048576) : Rds w (some ⟨g, 0, none⟩) n sz C xs :=
  own_rds (r.own (base := 0) (Nat.zero_le _) (by simp only [maxLen]; omega) hl) hC hs (by omega)
theorem wool1 (a0 a1 a2 a3 a4 a5 a6 a7 : Int) (w : World) (ha : Hid (∀ x ∈ [a0, a1, a2, a3, a4, a5, a6, a7], (Lit.int .i32 x).wf = true)) : Calls Tryz.prog 77 #[.agg #[.int .i32 a0, .int .i32 a1, .int .i32 a2, .int .i32 a3, .int .i32 a4, .int .i32 a5, .int .i32 a6, .int .i32 a7]] w fun e w' => e = .returned (.bool (decide (0 < hsL [a0, a1, a2, a3, a4, a5, a6, a7]))) ∧ Below w.heap.size w w' := by
  change Calls Tryz.prog 77 #[.agg #[.int .i32 a0, .int .i32 a1, .int .i32 a2, .int .i32 a3, .int .i32 a4, .int .i32 a5, .int .i32 a6, .int .i32 a7]] w fun e w' => e = .returned (.bool (decide (0 < hS a0 a1 a2 a3 a4 a5 a6 a7))) ∧ Below w.heap.size w w'
  have X0 : Hid (Row (w.alloc (.cells #[.int .i32 a0, .int .i32 a1, .int .i32 a2, .int .i32 a3, .int .i32 a4, .int .i32 a5, .int .i32 a6, .int .i32 a7] 25)) (w.heap.size) 25 [.int .i32 a0, .int .i32 a1, .int .i32 a2, .int .i32 a3, .int .i32 a4, .int .i32 a5, .int .i32 a6, .int .i32 a7]) := Lib.hid (by have := (Row.alloc w [.int .i32 a0, .int .i32 a1, .int .i32 a2, .int .i32 a3, .int .i32 a4, .int .i32 a5, .int .i32 a6, .int .i32 a7] 25); (try simp only [World.size_alloc] at this); exact this)
  have HB : Hid (Below w.heap.size w (w.alloc (.cells #[.int .i32 a0, .int .i32 a1, .int .i32 a2, .int .i32 a3, .int .i32 a4, .int .i32 a5, .int .i32 a6, .int .i32 a7] 25))) := Lib.hid (by go_grown)
  go_enter Tryz.func77, Tryz.ntmps77
  obtain ⟨cX0_0, cX0_1, cX0_2, cX0_3, cX0_4, cX0_5, cX0_6, cX0_7⟩ := X0.out.cells8
  go_wp2_with fail
  refine (all_any a0 a1 a2 a3 a4 a5 a6 a7 _ ha).mono ?_
  rintro e w1 ⟨rfl, hb⟩
  clear cX0_0 cX0_1 cX0_2 cX0_3 cX0_4 cX0_5 cX0_6 cX0_7
  replace HB := Lib.hid (below_then HB.out HB.out.size hb)
  have hz1 := hb.size
  (try simp only [World.size_alloc] at hz1)
  clear hb
  go_wp2_with fail
  have hB := HB.out
  go_ret
  exact ⟨by simp, hB⟩
theorem woolCode_any (xs : List (List Int)) (h8 : Hid (∀ x ∈ xs, x.length = 8)) (hw : Hid (∀ x ∈ xs, ∀ y ∈ x, (Lit.int .i32 y).wf = true)) (A : Option Addr) (n c : Nat) (w : World) (R : Rds w A n 8 HC xs) :
    Calls Tryz.prog 52 #[.slice A n c] w fun e w' => e = .returned (.int .i64 (woC xs)) ∧ Below w.heap.size w w' := by
  cases h1 : xs.all heapOk
  · have hc : woC xs = 1 := by simp [woC, h1]
    have HC_ := Lib.hid hc; have H1 := Lib.hid h1; clear hc h1
    go_enter Tryz.func52, Tryz.ntmps52
    go_wp2_with fail
    refine (areAll_H (p := heapOk) (enters_of Tryz.func18 rfl (by decide)) (Lib.hid fun a0 a1 a2 a3 a4 a5 a6 a7 w hx => iValidHeap a0 a1 a2 a3 a4 a5 a6 a7 w (Lib.hid (hw.out _ hx))) h8 _ n c _ R).mono ?_
    rintro e w1 ⟨rfl, hb⟩
    rw [H1.out]
    go_wp2_with fail
    go_ret
    exact ⟨by rw [HC_.out]; rfl, hb⟩
  · cases h2 : xs.all (fun L => decide (0 < hsL L))
    all_goals
      have HC_ : Hid (woC xs = _) := Lib.hid (by unfold woC; rw [h1, h2])
      simp only [if_true, Bool.false_eq_true, Bool.true_eq_false, if_false] at HC_
      have H1 := Lib.hid h1; have H2 := Lib.hid h2; clear h1 h2
      go_enter Tryz.func52, Tryz.ntmps52
      go_wp2_with fail
      refine (areAll_H (p := heapOk) (enters_of Tryz.func18 rfl (by decide)) (Lib.hid fun a0 a1 a2 a3 a4 a5 a6 a7 w hx => iValidHeap a0 a1 a2 a3 a4 a5 a6 a7 w (Lib.hid (hw.out _ hx))) h8 _ n c _ R).mono ?_
      rintro e w1 ⟨rfl, hb⟩
      rw [H1.out]
      have R1 := R.below hb
      go_wp2_with fail
      refine (areAll_H (p := fun L => decide (0 < hsL L)) (enters_of Tryz.func77 rfl (by decide)) (Lib.hid fun a0 a1 a2 a3 a4 a5 a6 a7 w hx => wool1 a0 a1 a2 a3 a4 a5 a6 a7 w (Lib.hid (hw.out _ hx))) h8 _ n c _ R1).mono ?_
      rintro e w2 ⟨rfl, hb2⟩
      rw [H2.out]
      have hB := below_then hb hb.size hb2
      clear hb hb2
      go_wp2_with fail
      go_ret
      exact ⟨by rw [HC_.out]; rfl, hB⟩
theorem rds_one {w : World} {g E : Nat} {a0 a1 a2 a3 a4 a5 a6 a7 : Int} (r : Row w g E [.int .i32 a0, .int .i32 a1, .int .i32 a2, .int .i32 a3, .int .i32 a4, .int .i32 a5, .int .i32 a6, .int .i32 a7]) : Rds w (some ⟨g, 0, none⟩) 1 8 HC [[a0, a1, a2, a3, a4, a5, a6, a7]] :=
  rds_row (C := HC) (xs := [[a0, a1, a2, a3, a4, a5, a6, a7]]) (n := 1) (sz := 8) (g := g) (E := E) (by rw [show [[a0, a1, a2, a3, a4, a5, a6, a7]].flatMap HC = [.int .i32 a0, .int .i32 a1, .int .i32 a2, .int .i32 a3, .int .i32 a4, .int .i32 a5, .int .i32 a6, .int .i32 a7] from rfl]; exact r) rfl (by intro x hx; simp only [List.mem_singleton] at hx; subst hx; rfl) (by omega) (by omega)
theorem rds_two {w : World} {g E : Nat} {a0 a1 a2 a3 a4 a5 a6 a7 b0 b1 b2 b3 b4 b5 b6 b7 : Int} (r : Row w g E [.int .i32 a0, .int .i32 a1, .int .i32 a2, .int .i32 a3, .int .i32 a4, .int .i32 a5, .int .i32 a6, .int .i32 a7, .int .i32 b0, .int .i32 b1, .int .i32 b2, .int .i32 b3, .int .i32 b4, .int .i32 b5, .int .i32 b6, .int .i32 b7]) : Rds w (some ⟨g, 0, none⟩) 2 8 HC [[a0, a1, a2, a3, a4, a5, a6, a7], [b0, b1, b2, b3, b4, b5, b6, b7]] :=
  rds_row (C := HC) (xs := [[a0, a1, a2, a3, a4, a5, a6, a7], [b0, b1, b2, b3, b4, b5, b6, b7]]) (n := 2) (sz := 8) (g := g) (E := E) (by rw [show [[a0, a1, a2, a3, a4, a5, a6, a7], [b0, b1, b2, b3, b4, b5, b6, b7]].flatMap HC = [.int .i32 a0, .int .i32 a1, .int .i32 a2, .int .i32 a3, .int .i32 a4, .int .i32 a5, .int .i32 a6, .int .i32 a7, .int .i32 b0, .int .i32 b1, .int .i32 b2, .int .i32 b3, .int .i32 b4, .int .i32 b5, .int .i32 b6, .int .i32 b7] from rfl]; exact r) rfl (by intro x hx; simp only [List.mem_cons, List.not_mem_nil, or_false] at hx; rcases hx with rfl | rfl <;> rfl) (by omega) (by omega)
theorem hid8_one {a0 a1 a2 a3 a4 a5 a6 a7 : Int} : Hid (∀ x ∈ [[a0, a1, a2, a3, a4, a5, a6, a7]], x.length = 8) := Lib.hid (by intro x hx; simp only [List.mem_singleton] at hx; subst hx; rfl)
theorem hidw_one {a0 a1 a2 a3 a4 a5 a6 a7 : Int} (ha : Hid (∀ x ∈ [a0, a1, a2, a3, a4, a5, a6, a7], (Lit.int .i32 x).wf = true)) : Hid (∀ x ∈ [[a0, a1, a2, a3, a4, a5, a6, a7]], ∀ y ∈ x, (Lit.int .i32 y).wf = true) := Lib.hid (by intro x hx; simp only [List.mem_singleton] at hx; subst hx; exact ha.out)
theorem hid8_two {a0 a1 a2 a3 a4 a5 a6 a7 b0 b1 b2 b3 b4 b5 b6 b7 : Int} : Hid (∀ x ∈ [[a0, a1, a2, a3, a4, a5, a6, a7], [b0, b1, b2, b3, b4, b5, b6, b7]], x.length = 8) := Lib.hid (by intro x hx; simp only [List.mem_cons, List.not_mem_nil, or_false] at hx; rcases hx with rfl | rfl <;> rfl)
theorem hidw_two {a0 a1 a2 a3 a4 a5 a6 a7 b0 b1 b2 b3 b4 b5 b6 b7 : Int} (ha : Hid (∀ x ∈ [a0, a1, a2, a3, a4, a5, a6, a7], (Lit.int .i32 x).wf = true)) (hb : Hid (∀ x ∈ [b0, b1, b2, b3, b4, b5, b6, b7], (Lit.int .i32 x).wf = true)) : Hid (∀ x ∈ [[a0, a1, a2, a3, a4, a5, a6, a7], [b0, b1, b2, b3, b4, b5, b6, b7]], ∀ y ∈ x, (Lit.int .i32 y).wf = true) := Lib.hid (by intro x hx; simp only [List.mem_cons, List.not_mem_nil, or_false] at hx; rcases hx with rfl | rfl <;> first | exact ha.out | exact hb.out)
theorem l01Some_any (g E : Nat) (a0 a1 a2 a3 a4 a5 a6 a7 : Int) (w : World) (r : Row w g E (nums .i32 [a0, a1, a2, a3, a4, a5, a6, a7])) (hw : Hid (∀ x ∈ [a0, a1, a2, a3, a4, a5, a6, a7], (Lit.int .i32 x).wf = true)) :
    Calls Tryz.prog 54 #[.pointer (some ⟨g, 0, none⟩)] w fun e w' => e = .returned (.int .i64 (smC [a0, a1, a2, a3, a4, a5, a6, a7])) ∧ w = w' := by
  have RR := Lib.hid r; clear r
  have hsl : hsL [a0, a1, a2, a3, a4, a5, a6, a7] = hS a0 a1 a2 a3 a4 a5 a6 a7 := rfl
  cases h1 : heapOk [a0, a1, a2, a3, a4, a5, a6, a7]
  · have hc : smC [a0, a1, a2, a3, a4, a5, a6, a7] = 1 := by simp [smC, h1]
    have HC_ := Lib.hid hc; have H1 := Lib.hid h1; clear hc h1 hsl
    go_enter Tryz.func54, Tryz.ntmps54
    go_wp2_with fail
    refine (l01Heap_any _ _ [a0, a1, a2, a3, a4, a5, a6, a7] _ RR.out rfl hw).mono ?_
    rintro e w1 ⟨rfl, rfl⟩
    rw [H1.out]
    go_wp2_with fail
    go_ret
    exact ⟨by rw [HC_.out]; rfl, rfl⟩
  · have hr := hS_rng h1
    obtain ⟨S, hS_⟩ : ∃ S, hS a0 a1 a2 a3 a4 a5 a6 a7 = S := ⟨_, rfl⟩
    rw [hS_] at hr hsl
    by_cases h2 : 0 < S
    all_goals
      have HC_ : Hid (smC [a0, a1, a2, a3, a4, a5, a6, a7] = _) := Lib.hid (by unfold smC; rw [h1, hsl])
      simp only [h2, if_true, Bool.false_eq_true, Bool.true_eq_false, if_false] at HC_
      have H1 := Lib.hid h1; have HS := Lib.hid hS_; clear h1 hS_ hsl
      go_enter Tryz.func54, Tryz.ntmps54
      go_wp2_with fail
      refine (l01Heap_any _ _ [a0, a1, a2, a3, a4, a5, a6, a7] _ RR.out rfl hw).mono ?_
      rintro e w1 ⟨rfl, rfl⟩
      rw [H1.out]
      go_wp2_with fail
      refine (l01Grams_any _ _ a0 a1 a2 a3 a4 a5 a6 a7 _ RR.out hw).mono ?_
      rintro e w1 ⟨rfl, rfl⟩
      rw [HS.out]
    · have q : (S == 0) = false := by simp; omega
      go_wp2_with fail
      go_ret
      exact ⟨by rw [HC_.out]; rfl, rfl⟩
    · obtain rfl : S = 0 := by omega
      go_wp2_with fail
      go_ret
      exact ⟨by rw [HC_.out]; rfl, rfl⟩
end Go.Proofs.YtbkhlcbnnjgdpaaGreatDoor
