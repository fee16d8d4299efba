/- Contracts: heaps; Contracts: sums of heaps; equal heaps; GramsOf; Rows that are written whole; the end of a function that returns two arrays; Contracts: fleeces; toFleece: DOES NOT BUILD YET (the walk behind the call of toHeap takes over 60 s); Contracts of areAll, slices.ContainsFunc and slices.IndexFunc over lists of heaps and of fleeces; Contracts: lists of fleeces: made anew, compared, marked. -/
import Derived.Test.YtbkhlcbnnjgdpaaGreatDoorBa
import Derived.Handy
import Derived.Deep.MidRow
import Derived.Deep.RegionHeld3
import Derived.Test.YtbkhlcbnnjgdpaaGreatDoorProg
import Derived.BigQuiet
import Derived.Deep.QuietTactic
import Derived.IntWalk
namespace Go.Proofs.YtbkhlcbnnjgdpaaGreatDoor
open Go.RowKit
set_option linter.unusedVariables false
set_option linter.unusedSimpArgs false
def heapOk (L : List Int) : Bool := L.all fun x => inB x 0 1000
theorem l01Heap_any (g E : Nat) (L : List Int) (w : World) (r : Row w g E (nums .i32 L)) (hl : L.length = 8) (hw : Hid (∀ x ∈ L, (Lit.int .i32 x).wf = true)) :
    Calls Tryz.prog 38 #[.pointer (some ⟨g, 0, none⟩)] w fun e w' => e = .returned (.bool (heapOk L)) ∧ w = w' := by
  have HL := Lib.hid hl; clear hl
  go_enter Tryz.func38, Tryz.ntmps38
  go_wp2_with fail
  go_loop [3] (fun v => ∃ k : Nat, k ≤ 8 ∧ v = .int .i64 k ∧ Hid (∀ j x, j < k → L[j]? = some x → inB x 0 1000 = true)) (fun v => 8 - (intOf v).toNat)
  case atStart => exact ⟨0, by omega, rfl, Lib.hid (by intro j x h; omega)⟩
  case round =>
    obtain ⟨k, hk, rfl, HA⟩ := hrel
    by_cases hlt : k < 8
    · obtain ⟨x, hx⟩ : ∃ x, L[k]? = some x := ⟨_, List.getElem?_eq_getElem (by rw [HL.out]; exact hlt)⟩
      have hc : w.cell? ⟨g, k, none⟩ = some (.int .i32 x) := by rw [r.cell, nums_get, hx]; rfl
      have hb := bounds_i32 (hw.out x (List.mem_of_getElem? hx))
      have HX := Lib.hid hx; clear hx
      cases hin : inB x 0 1000
      · have e1 : heapOk L = false := by
          unfold heapOk
          rw [List.all_eq_false]
          exact ⟨x, List.mem_of_getElem? HX.out, by simp [hin]⟩
        have E1 := Lib.hid e1; clear e1
        go_wp2_with (go_at_call 41; (refine (l00In_any _ _ _ _).mono ?_); rintro e w' ⟨rfl, rfl⟩)
        go_ret
        exact ⟨by rw [E1.out]; rfl, rfl⟩
      · go_wp2_with (go_at_call 41; (refine (l00In_any _ _ _ _).mono ?_); rintro e w' ⟨rfl, rfl⟩)
        go_round
        case rel =>
          refine ⟨k + 1, by omega, by go_num, Lib.hid ?_⟩
          intro j y hj hy
          by_cases hjk : j = k
          · subst hjk
            rw [HX.out] at hy
            cases hy
            exact hin
          · exact HA.out j y (by omega) hy
        case measure => simp [intOf]; omega
    · have q1 : ¬ (k : Int) < 8 := by omega
      have e1 : heapOk L = true := by
        unfold heapOk
        rw [List.all_eq_true]
        intro x hx
        obtain ⟨j, hj, he⟩ := List.mem_iff_getElem.1 hx
        exact HA.out j x (by have := HL.out; omega) (by rw [List.getElem?_eq_getElem hj, he])
      have E1 := Lib.hid e1; clear e1
      go_wp2_with fail
      go_ret
      exact ⟨by rw [E1.out]; rfl, rfl⟩
theorem validHeap1 (x : Int) (w : World) (hb : -2147483648 ≤ x ∧ x ≤ 2147483647) : Calls Tryz.prog 50 #[.int .i32 x] w fun e w' => e = .returned (.bool (inB x 0 1000)) ∧ Below w.heap.size w w' := by
  go_enter Tryz.func50, Tryz.ntmps50
  go_wp2_with (go_at_call 40; (refine (within_any _ _ _ _).mono ?_); rintro e w' ⟨rfl, rfl⟩)
  go_ret
  exact ⟨rfl, Below.refl _ _⟩
theorem iValidHeap (a0 a1 a2 a3 a4 a5 a6 a7 : Int) (w : World) (hw : Hid (∀ x ∈ [a0, a1, a2, a3, a4, a5, a6, a7], (Lit.int .i32 x).wf = true)) :
    Calls Tryz.prog 18 #[.agg #[.int .i32 a0, .int .i32 a1, .int .i32 a2, .int .i32 a3, .int .i32 a4, .int .i32 a5, .int .i32 a6, .int .i32 a7]] w fun e w' => e = .returned (.bool (heapOk [a0, a1, a2, a3, a4, a5, a6, a7])) ∧ Below w.heap.size w w' := by
  have r : Row (w.alloc (.cells #[.int .i32 a0, .int .i32 a1, .int .i32 a2, .int .i32 a3, .int .i32 a4, .int .i32 a5, .int .i32 a6, .int .i32 a7] 25)) w.heap.size 25 (nums .i32 [a0, a1, a2, a3, a4, a5, a6, a7]) := Row.alloc w [.int .i32 a0, .int .i32 a1, .int .i32 a2, .int .i32 a3, .int .i32 a4, .int .i32 a5, .int .i32 a6, .int .i32 a7] 25
  have O := r.own (sz := 1) (n := 8) (Nat.le_refl _) (by decide) (by simp [nums])
  have RR := Lib.hid (own_rds1 O (by omega))
  clear O r
  go_enter Tryz.func18, Tryz.ntmps18
  go_wp2_with fail
  refine (areAll_i32 (p := fun x => inB x 0 1000) (enters_of Tryz.func50 rfl (by decide)) (Lib.hid fun x w hx => validHeap1 x w (bounds_i32 (hw.out x hx))) _ 8 8 _ RR.out).mono ?_
  rintro e w1 ⟨rfl, hb⟩
  go_wp2_with fail
  go_ret
  exact ⟨by unfold heapOk; simp, below_then (below_alloc1 w _) (below_alloc1 w _).size hb⟩
end Go.Proofs.YtbkhlcbnnjgdpaaGreatDoor
namespace Go.Proofs.YtbkhlcbnnjgdpaaGreatDoor
open Go.RowKit
set_option linter.unusedVariables false
set_option linter.unusedSimpArgs false
def hS (a0 a1 a2 a3 a4 a5 a6 a7 : Int) : Int := a0 + a1 + a2 + a3 + a4 + a5 + a6 + a7
def grC (a0 a1 a2 a3 a4 a5 a6 a7 : Int) : Int := if heapOk [a0, a1, a2, a3, a4, a5, a6, a7] then 0 else 1
def grV (a0 a1 a2 a3 a4 a5 a6 a7 : Int) : Int := if heapOk [a0, a1, a2, a3, a4, a5, a6, a7] then hS a0 a1 a2 a3 a4 a5 a6 a7 else 0
theorem heap8 {L : List Int} (h : L.length = 8) : ∃ a0 a1 a2 a3 a4 a5 a6 a7, L = [a0, a1, a2, a3, a4, a5, a6, a7] := by
  match L, h with
  | [a0, a1, a2, a3, a4, a5, a6, a7], _ => exact ⟨a0, a1, a2, a3, a4, a5, a6, a7, rfl⟩
theorem heap_bounds {a0 a1 a2 a3 a4 a5 a6 a7 : Int} (hw : Hid (∀ x ∈ [a0, a1, a2, a3, a4, a5, a6, a7], (Lit.int .i32 x).wf = true)) :
    (-2147483648 ≤ a0 ∧ a0 ≤ 2147483647) ∧ (-2147483648 ≤ a1 ∧ a1 ≤ 2147483647) ∧ (-2147483648 ≤ a2 ∧ a2 ≤ 2147483647) ∧ (-2147483648 ≤ a3 ∧ a3 ≤ 2147483647) ∧ (-2147483648 ≤ a4 ∧ a4 ≤ 2147483647) ∧ (-2147483648 ≤ a5 ∧ a5 ≤ 2147483647) ∧ (-2147483648 ≤ a6 ∧ a6 ≤ 2147483647) ∧ (-2147483648 ≤ a7 ∧ a7 ≤ 2147483647) := by
  have h := hw.out
  exact ⟨bounds_i32 (h a0 (by simp)), bounds_i32 (h a1 (by simp)), bounds_i32 (h a2 (by simp)), bounds_i32 (h a3 (by simp)), bounds_i32 (h a4 (by simp)), bounds_i32 (h a5 (by simp)), bounds_i32 (h a6 (by simp)), bounds_i32 (h a7 (by simp))⟩
/-- Element k of a heap by value. -/
theorem idxH (a0 a1 a2 a3 a4 a5 a6 a7 : Int) :
    (∀ w : World, (Instr.index 25 (.agg #[.int .i32 a0, .int .i32 a1, .int .i32 a2, .int .i32 a3, .int .i32 a4, .int .i32 a5, .int .i32 a6, .int .i32 a7]) (.int .i64 0)).run Tryz.prog w = .ok (.int .i32 a0) w) ∧ (∀ w : World, (Instr.index 25 (.agg #[.int .i32 a0, .int .i32 a1, .int .i32 a2, .int .i32 a3, .int .i32 a4, .int .i32 a5, .int .i32 a6, .int .i32 a7]) (.int .i64 1)).run Tryz.prog w = .ok (.int .i32 a1) w) ∧ (∀ w : World, (Instr.index 25 (.agg #[.int .i32 a0, .int .i32 a1, .int .i32 a2, .int .i32 a3, .int .i32 a4, .int .i32 a5, .int .i32 a6, .int .i32 a7]) (.int .i64 2)).run Tryz.prog w = .ok (.int .i32 a2) w) ∧ (∀ w : World, (Instr.index 25 (.agg #[.int .i32 a0, .int .i32 a1, .int .i32 a2, .int .i32 a3, .int .i32 a4, .int .i32 a5, .int .i32 a6, .int .i32 a7]) (.int .i64 3)).run Tryz.prog w = .ok (.int .i32 a3) w) ∧ (∀ w : World, (Instr.index 25 (.agg #[.int .i32 a0, .int .i32 a1, .int .i32 a2, .int .i32 a3, .int .i32 a4, .int .i32 a5, .int .i32 a6, .int .i32 a7]) (.int .i64 4)).run Tryz.prog w = .ok (.int .i32 a4) w) ∧ (∀ w : World, (Instr.index 25 (.agg #[.int .i32 a0, .int .i32 a1, .int .i32 a2, .int .i32 a3, .int .i32 a4, .int .i32 a5, .int .i32 a6, .int .i32 a7]) (.int .i64 5)).run Tryz.prog w = .ok (.int .i32 a5) w) ∧ (∀ w : World, (Instr.index 25 (.agg #[.int .i32 a0, .int .i32 a1, .int .i32 a2, .int .i32 a3, .int .i32 a4, .int .i32 a5, .int .i32 a6, .int .i32 a7]) (.int .i64 6)).run Tryz.prog w = .ok (.int .i32 a6) w) ∧ (∀ w : World, (Instr.index 25 (.agg #[.int .i32 a0, .int .i32 a1, .int .i32 a2, .int .i32 a3, .int .i32 a4, .int .i32 a5, .int .i32 a6, .int .i32 a7]) (.int .i64 7)).run Tryz.prog w = .ok (.int .i32 a7) w) :=
  ⟨fun _ => by kernel_rfl, fun _ => by kernel_rfl, fun _ => by kernel_rfl, fun _ => by kernel_rfl, fun _ => by kernel_rfl, fun _ => by kernel_rfl, fun _ => by kernel_rfl, fun _ => by kernel_rfl⟩
set_option maxHeartbeats 2000000 in
theorem l01Grams_any (g E : Nat) (a0 a1 a2 a3 a4 a5 a6 a7 : Int) (w : World) (r : Row w g E (nums .i32 [a0, a1, a2, a3, a4, a5, a6, a7])) (hw : Hid (∀ x ∈ [a0, a1, a2, a3, a4, a5, a6, a7], (Lit.int .i32 x).wf = true)) :
    Calls Tryz.prog 39 #[.pointer (some ⟨g, 0, none⟩)] w fun e w' => e = .returned (.int .i64 (hS a0 a1 a2 a3 a4 a5 a6 a7)) ∧ w = w' := by
  obtain ⟨b0, b1, b2, b3, b4, b5, b6, b7⟩ := heap_bounds hw
  clear hw
  have e0 := r.cell 0
  have e1 := r.cell 1
  have e2 := r.cell 2
  have e3 := r.cell 3
  have e4 := r.cell 4
  have e5 := r.cell 5
  have e6 := r.cell 6
  have e7 := r.cell 7
  simp only [nums, List.map_cons, List.getElem?_cons_zero, List.getElem?_cons_succ] at e0 e1 e2 e3 e4 e5 e6 e7
  clear r
  go_enter Tryz.func39, Tryz.ntmps39
  go_wp2_with fail
  go_rounds 9
  go_ret
  exact ⟨ret_int (by unfold hS; omega), rfl⟩
set_option maxHeartbeats 2000000 in
theorem all_any (a0 a1 a2 a3 a4 a5 a6 a7 : Int) (w : World) (hw : Hid (∀ x ∈ [a0, a1, a2, a3, a4, a5, a6, a7], (Lit.int .i32 x).wf = true)) :
    Calls Tryz.prog 37 #[.agg #[.int .i32 a0, .int .i32 a1, .int .i32 a2, .int .i32 a3, .int .i32 a4, .int .i32 a5, .int .i32 a6, .int .i32 a7]] w fun e w' => e = .returned (.int .i64 (hS a0 a1 a2 a3 a4 a5 a6 a7)) ∧ Below w.heap.size w w' := by
  obtain ⟨b0, b1, b2, b3, b4, b5, b6, b7⟩ := heap_bounds hw
  clear hw
  obtain ⟨i0, i1, i2, i3, i4, i5, i6, i7⟩ := idxH a0 a1 a2 a3 a4 a5 a6 a7
  go_enter Tryz.func37, Tryz.ntmps37
  go_wp2_with fail
  go_rounds 9
  go_ret
  exact ⟨ret_int (by unfold hS; omega), by go_grown⟩
set_option maxHeartbeats 1000000 in
theorem sGramsOf (a0 a1 a2 a3 a4 a5 a6 a7 : Int) (w : World) (hw : Hid (∀ x ∈ [a0, a1, a2, a3, a4, a5, a6, a7], (Lit.int .i32 x).wf = true)) :
    Calls Tryz.prog 9 #[.agg #[.int .i32 a0, .int .i32 a1, .int .i32 a2, .int .i32 a3, .int .i32 a4, .int .i32 a5, .int .i32 a6, .int .i32 a7]] w fun e w' => e = .returned (.tuple #[.int .i64 (grV a0 a1 a2 a3 a4 a5 a6 a7), .int .i64 (grC a0 a1 a2 a3 a4 a5 a6 a7)]) ∧ Below w.heap.size w w' := by
  have r : Row (w.alloc (.cells #[.int .i32 a0, .int .i32 a1, .int .i32 a2, .int .i32 a3, .int .i32 a4, .int .i32 a5, .int .i32 a6, .int .i32 a7] 25)) w.heap.size 25 (nums .i32 [a0, a1, a2, a3, a4, a5, a6, a7]) := Row.alloc w [.int .i32 a0, .int .i32 a1, .int .i32 a2, .int .i32 a3, .int .i32 a4, .int .i32 a5, .int .i32 a6, .int .i32 a7] 25
  have RR := Lib.hid r; clear r
  cases hk : heapOk [a0, a1, a2, a3, a4, a5, a6, a7]
  all_goals
    have HK := Lib.hid hk
    clear hk
    go_enter Tryz.func9, Tryz.ntmps9
    go_wp2_with fail
    refine (l01Heap_any _ _ [a0, a1, a2, a3, a4, a5, a6, a7] _ RR.out rfl hw).mono ?_
    rintro e w1 ⟨rfl, rfl⟩
    rw [HK.out]
    go_wp2_with fail
  · go_ret2
    exact ⟨by simp [grV, grC, HK.out], below_alloc1 w _⟩
  · refine (l01Grams_any _ _ a0 a1 a2 a3 a4 a5 a6 a7 _ RR.out hw).mono ?_
    rintro e w1 ⟨rfl, rfl⟩
    go_wp2_with fail
    go_ret2
    exact ⟨by simp [grV, grC, HK.out], below_alloc1 w _⟩
set_option maxHeartbeats 1000000 in
theorem iGramsOf (a0 a1 a2 a3 a4 a5 a6 a7 : Int) (w : World) (hw : Hid (∀ x ∈ [a0, a1, a2, a3, a4, a5, a6, a7], (Lit.int .i32 x).wf = true)) :
    Calls Tryz.prog 8 #[.agg #[.int .i32 a0, .int .i32 a1, .int .i32 a2, .int .i32 a3, .int .i32 a4, .int .i32 a5, .int .i32 a6, .int .i32 a7]] w fun e w' => e = .returned (.tuple #[.int .i64 (grV a0 a1 a2 a3 a4 a5 a6 a7), .int .i64 (grC a0 a1 a2 a3 a4 a5 a6 a7)]) ∧ Below w.heap.size w w' := by
  have X0 := Row.alloc w [.int .i32 a0, .int .i32 a1, .int .i32 a2, .int .i32 a3, .int .i32 a4, .int .i32 a5, .int .i32 a6, .int .i32 a7] 25
  cases hk : heapOk [a0, a1, a2, a3, a4, a5, a6, a7]
  all_goals
    have HK := Lib.hid hk
    clear hk
    go_enter Tryz.func8, Tryz.ntmps8
    go_wp2_with fail
    refine (iValidHeap a0 a1 a2 a3 a4 a5 a6 a7 _ hw).mono ?_
    rintro e w1 ⟨rfl, hb⟩
    rw [HK.out]
    replace X0 := X0.below hb
    have e0 := X0.cell 0
    have e1 := X0.cell 1
    have e2 := X0.cell 2
    have e3 := X0.cell 3
    have e4 := X0.cell 4
    have e5 := X0.cell 5
    have e6 := X0.cell 6
    have e7 := X0.cell 7
    simp only [List.getElem?_cons_zero, List.getElem?_cons_succ] at e0 e1 e2 e3 e4 e5 e6 e7
    have h1 := below_then (by go_grown : Below w.heap.size w _) (by go_size) hb
    clear hb
    go_wp2_with fail
  · go_ret2
    exact ⟨by simp [grV, grC, HK.out], h1⟩
  · refine (all_any a0 a1 a2 a3 a4 a5 a6 a7 _ hw).mono ?_
    rintro e w2 ⟨rfl, hb2⟩
    have h2 := below_then h1 h1.size hb2
    clear h1 hb2
    go_wp2_with fail
    go_ret2
    exact ⟨by simp [grV, grC, HK.out], h2⟩
end Go.Proofs.YtbkhlcbnnjgdpaaGreatDoor
namespace Go.Proofs.YtbkhlcbnnjgdpaaGreatDoor
open Go.RowKit
set_option linter.unusedVariables false
set_option linter.unusedSimpArgs false
theorem Row.rangeAt {w : World} {B : Nat} {E : TypeId} {L : List Value} (h : Row w B E L) : w.rangeAt B 0 L := fun j v hv => by
  rw [Nat.zero_add, h.cell]; exact hv
theorem Row.there {w : World} {B : Nat} {E : TypeId} {L : List Value} {n : Nat} (h : Row w B E L) (hl : L.length = n) : w.there B 0 n := fun j hj => by
  rw [Nat.zero_add]
  refine ⟨?_, h.frozen j⟩
  rw [h.cell, List.getElem?_eq_getElem (by omega)]
  rfl
theorem Row.setFrom {B : Nat} {E : TypeId} : ∀ (M : List Value) {w : World} {P L : List Value}, Row w B E (P ++ L) → M.length = L.length → Row (w.setCells B P.length M) B E (P ++ M)
  | [], w, P, L, h, hl => by
    have : L = [] := List.length_eq_zero_iff.1 hl.symm
    subst this
    exact h
  | v :: M, w, P, [], h, hl => by simp at hl
  | v :: M, w, P, x :: L, h, hl => by
    have h1 := h.set P.length v
    rw [set_app _ _ _ _ _ rfl] at h1
    have h2 : Row (w.setCell ⟨B, P.length, none⟩ v) B E ((P ++ [v]) ++ L) := by simpa using h1
    have h3 := Row.setFrom M h2 (by simpa using hl)
    simp only [List.length_append, List.length_cons, List.length_nil, List.append_assoc, List.cons_append, List.nil_append] at h3
    exact h3
theorem Row.setAll {w : World} {B : Nat} {E : TypeId} {L : List Value} (h : Row w B E L) (M : List Value) (hm : M.length = L.length) : Row (w.setCells B 0 M) B E M :=
  Row.setFrom (P := []) M h hm
theorem Row.setAway {B C : Nat} {E : TypeId} {L : List Value} (hne : B ≠ C) : ∀ (M : List Value) (o : Nat) {w : World}, Row w B E L → Row (w.setCells C o M) B E L
  | [], _, _, h => h
  | v :: M, o, _, h => Row.setAway hne M (o + 1) (h.apart hne o v)
theorem below_setCells {b C : Nat} {w : World} (hC : b ≤ C) : ∀ (M : List Value) (o : Nat) {w1 : World}, Below b w w1 → Below b w (w1.setCells C o M)
  | [], _, _, h => h
  | v :: M, o, _, h => below_setCells hC M (o + 1) (h.setCell hC v)
theorem one8 (a0 a1 a2 a3 a4 a5 a6 a7 : Int) : (List.toArray [Value.int .i32 a0, .int .i32 a1, .int .i32 a2, .int .i32 a3, .int .i32 a4, .int .i32 a5, .int .i32 a6, .int .i32 a7]).all (·.oneCell') = true := by
  simp [Value.oneCell']
theorem heap_type : Tryz.prog.underlying 25 = some (.array 8 21) := Tryz.underlying25
theorem heap_size : (Tryz.prog.info? 25).map (·.size) = some 8 := by kernel_rfl
theorem heapA_type : Tryz.prog.underlying 24 = some (.array 8 21) := Tryz.underlying24
theorem heapA_size : (Tryz.prog.info? 24).map (·.size) = some 8 := by kernel_rfl
theorem frac_size : (Tryz.prog.info? 48).map (·.size) = some 2 := by kernel_rfl
theorem one2 (a0 a1 : Int) : (List.toArray [Value.int .i64 a0, .int .i64 a1]).all (·.oneCell') = true := by
  simp [Value.oneCell']
end Go.Proofs.YtbkhlcbnnjgdpaaGreatDoor
namespace Go.Proofs.YtbkhlcbnnjgdpaaGreatDoor
open Go.RowKit
set_option linter.unusedVariables false
set_option linter.unusedSimpArgs false
def fleeceOk (f : Int) (L : List Int) : Bool := inB f 0 9 && heapOk L
theorem l01Heap_at (g o : Nat) (L : List Int) (w : World) (r : Hid (∀ k x, L[k]? = some x → w.cell? ⟨g, o + k, none⟩ = some (.int .i32 x))) (hl : L.length = 8) (hw : Hid (∀ x ∈ L, (Lit.int .i32 x).wf = true)) :
    Calls Tryz.prog 38 #[.pointer (some ⟨g, o, none⟩)] w fun e w' => e = .returned (.bool (heapOk L)) ∧ w = w' := by
  have HL := Lib.hid hl; clear hl
  go_enter Tryz.func38, Tryz.ntmps38
  go_wp2_with fail
  go_loop [3] (fun v => ∃ k : Nat, k ≤ 8 ∧ v = .int .i64 k ∧ Hid (∀ j x, j < k → L[j]? = some x → inB x 0 1000 = true)) (fun v => 8 - (intOf v).toNat)
  case atStart => exact ⟨0, by omega, rfl, Lib.hid (by intro j x h; omega)⟩
  case round =>
    obtain ⟨k, hk, rfl, HA⟩ := hrel
    by_cases hlt : k < 8
    · obtain ⟨x, hx⟩ : ∃ x, L[k]? = some x := ⟨_, List.getElem?_eq_getElem (by rw [HL.out]; exact hlt)⟩
      have hc := r.out k x hx
      have hb := bounds_i32 (hw.out x (List.mem_of_getElem? hx))
      have HX := Lib.hid hx; clear hx
      cases hin : inB x 0 1000
      · have e1 : heapOk L = false := by
          unfold heapOk
          rw [List.all_eq_false]
          exact ⟨x, List.mem_of_getElem? HX.out, by simp [hin]⟩
        have E1 := Lib.hid e1; clear e1
        go_wp2_with (go_at_call 41; (refine (l00In_any _ _ _ _).mono ?_); rintro e w' ⟨rfl, rfl⟩)
        go_ret
        exact ⟨by rw [E1.out]; rfl, rfl⟩
      · go_wp2_with (go_at_call 41; (refine (l00In_any _ _ _ _).mono ?_); rintro e w' ⟨rfl, rfl⟩)
        go_round
        case rel =>
          refine ⟨k + 1, by omega, by go_num, Lib.hid ?_⟩
          intro j y hj hy
          by_cases hjk : j = k
          · subst hjk
            rw [HX.out] at hy
            cases hy
            exact hin
          · exact HA.out j y (by omega) hy
        case measure => simp [intOf]; omega
    · have q1 : ¬ (k : Int) < 8 := by omega
      have e1 : heapOk L = true := by
        unfold heapOk
        rw [List.all_eq_true]
        intro x hx
        obtain ⟨j, hj, he⟩ := List.mem_iff_getElem.1 hx
        exact HA.out j x (by have := HL.out; omega) (by rw [List.getElem?_eq_getElem hj, he])
      have E1 := Lib.hid e1; clear e1
      go_wp2_with fail
      go_ret
      exact ⟨by rw [E1.out]; rfl, rfl⟩
theorem iValidFleece (f a0 a1 a2 a3 a4 a5 a6 a7 : Int) (w : World) (hf : -128 ≤ f ∧ f ≤ 127) (hw : Hid (∀ x ∈ [a0, a1, a2, a3, a4, a5, a6, a7], (Lit.int .i32 x).wf = true)) :
    Calls Tryz.prog 71 #[.agg #[.int .i8 f, .int .i32 a0, .int .i32 a1, .int .i32 a2, .int .i32 a3, .int .i32 a4, .int .i32 a5, .int .i32 a6, .int .i32 a7]] w fun e w' => e = .returned (.bool (fleeceOk f [a0, a1, a2, a3, a4, a5, a6, a7])) ∧ Below w.heap.size w w' := by
  cases h : inB f 0 9
  all_goals
    go_enter Tryz.func71, Tryz.ntmps71
    go_wp2_with (first
      | (go_at_call 40; (refine (within_any _ _ _ _).mono ?_); rintro e w' ⟨rfl, rfl⟩)
      | (go_at_call 18; (refine (iValidHeap a0 a1 a2 a3 a4 a5 a6 a7 _ hw).mono ?_); rintro e w1 ⟨rfl, hb⟩))
    go_ret
  · exact ⟨by simp [fleeceOk, h], by go_grown⟩
  · exact ⟨by simp [fleeceOk, h], below_then (below_alloc1 w _) (below_alloc1 w _).size hb⟩
end Go.Proofs.YtbkhlcbnnjgdpaaGreatDoor
namespace Go.Proofs.YtbkhlcbnnjgdpaaGreatDoor
open Go.RowKit
set_option linter.unusedVariables false
set_option linter.unusedSimpArgs false
end Go.Proofs.YtbkhlcbnnjgdpaaGreatDoor
namespace Go.Proofs.YtbkhlcbnnjgdpaaGreatDoor
open Go.RowKit
set_option linter.unusedVariables false
set_option linter.unusedSimpArgs false
theorem Rds.cells {α : Type} {w : World} {A : Option Addr} {n sz : Nat} {C : α → List Value} {xs : List α} (R : Rds w A n sz C xs) {k : Nat} (hk : k < n) :
    ∃ ad x, A = some ad ∧ xs[k]? = some x ∧ x ∈ xs ∧ (∀ v, (C x)[0]? = some v → w.cell? (ad.add (k * sz)) = some v) ∧ ∀ j v, (C x)[j + 1]? = some v → w.cell? ⟨(ad.add (k * sz)).block, (ad.add (k * sz)).off + (j + 1), none⟩ = some v := by
  obtain ⟨ad, h1, h2⟩ := R.2.2 (by omega)
  have hx : xs[k]? = some (xs[k]'(by rw [R.1]; exact hk)) := List.getElem?_eq_getElem _
  refine ⟨ad, _, h1, hx, List.mem_of_getElem? hx, fun v hv => h2 k _ hx 0 v hv, fun j v hv => ?_⟩
  have h := h2 k _ hx (j + 1) v hv
  rw [← Addr.add_add] at h
  exact h
/-- A heap as a list of cells, a fleece likewise. -/
def HC (x : List Int) : List Value := nums .i32 x
set_option maxHeartbeats 1000000 in
theorem indexFunc_H {k : FuncId} {cap : Array Value} {p : List Int → Bool} {I : World → Prop} {xs : List (List Int)} (hI : ∀ w w', I w → Below w.heap.size w w' → I w')
    (hk : Enters Tryz.prog k) (hf : Hid (∀ a0 a1 a2 a3 a4 a5 a6 a7 w, [a0, a1, a2, a3, a4, a5, a6, a7] ∈ xs → I w → Calls Tryz.prog k (#[.agg #[.int .i32 a0, .int .i32 a1, .int .i32 a2, .int .i32 a3, .int .i32 a4, .int .i32 a5, .int .i32 a6, .int .i32 a7]] ++ cap) w fun e w' => e = .returned (.bool (p [a0, a1, a2, a3, a4, a5, a6, a7])) ∧ Below w.heap.size w w')) (h8 : Hid (∀ x ∈ xs, x.length = 8))
    (A : Option Addr) (n c : Nat) (w : World) (R : Rds w A n 8 HC xs) (hw : I w) :
    Calls Tryz.prog 96 #[.slice A n c, .func (.func k) #[] cap] w fun e w' => e = .returned (.int .i64 (idxF p xs)) ∧ Below w.heap.size w w' := by
  have hl := R.1
  have hn := R.2.1
  have HL := Lib.hid hl; clear hl
  have HI := Lib.hid hI; clear hI
  have hk' : ∀ args w, (callFunc k args).run Tryz.prog w = .ok (.enter k args) w := hk
  clear hk
  go_enter Tryz.func96, Tryz.ntmps96
  go_wp2_with fail
  go_loopw [4, 8] (fun r v wr => ∃ k : Nat, k ≤ n ∧ v = .int .i64 k ∧ r = .int .i64 0 ∧ NotYet p xs k ∧ Below w.heap.size w wr ∧ I wr) (fun _ v _ => n - (intOf v).toNat)
  case atStart => exact ⟨0, by omega, rfl, rfl, NotYet.zero _ _, Below.refl _ _, hw⟩
  case round =>
    obtain ⟨j, hj, rfl, rfl, hny, hB, hIr⟩ := hrel
    by_cases hlt : j < n
    · obtain ⟨ad, x, rfl, hx, hm, hc0, hc⟩ := (R.below hB).cells hlt
      obtain ⟨a0, a1, a2, a3, a4, a5, a6, a7, rfl⟩ := heap8 (h8.out x hm)
      have e0 : wr.cell? (ad.add (j * 8)) = some (.int .i32 a0) := hc0 _ rfl
      have e1 : wr.cell? ⟨(ad.add (j * 8)).block, (ad.add (j * 8)).off + 1, none⟩ = some (.int .i32 a1) := hc 0 _ rfl
      have e2 : wr.cell? ⟨(ad.add (j * 8)).block, (ad.add (j * 8)).off + 2, none⟩ = some (.int .i32 a2) := hc 1 _ rfl
      have e3 : wr.cell? ⟨(ad.add (j * 8)).block, (ad.add (j * 8)).off + 3, none⟩ = some (.int .i32 a3) := hc 2 _ rfl
      have e4 : wr.cell? ⟨(ad.add (j * 8)).block, (ad.add (j * 8)).off + 4, none⟩ = some (.int .i32 a4) := hc 3 _ rfl
      have e5 : wr.cell? ⟨(ad.add (j * 8)).block, (ad.add (j * 8)).off + 5, none⟩ = some (.int .i32 a5) := hc 4 _ rfl
      have e6 : wr.cell? ⟨(ad.add (j * 8)).block, (ad.add (j * 8)).off + 6, none⟩ = some (.int .i32 a6) := hc 5 _ rfl
      have e7 : wr.cell? ⟨(ad.add (j * 8)).block, (ad.add (j * 8)).off + 7, none⟩ = some (.int .i32 a7) := hc 6 _ rfl
      clear hc hc0
      have HX := Lib.hid hx; clear hx
      have HM := Lib.hid hm; clear hm
      have HNY := Lib.hid hny; clear hny
      go_wp2_with ((with_reducible refine (hf.out _ _ _ _ _ _ _ _ _ HM.out hIr).mono ?_); rintro e w1 ⟨rfl, hb1⟩)
      · go_ret
        exact ⟨by rw [idxF_at HNY.out HX.out (by assumption)]; rfl, below_then hB hB.size hb1⟩
      · go_roundw
        case rel => exact ⟨j + 1, by omega, by go_num, rfl, HNY.out.step HX.out (by simp_all), below_then hB hB.size hb1, HI.out _ _ hIr hb1⟩
        case measure => simp [intOf]; omega
    · go_wp2_with fail
      go_ret
      have hjn : j = xs.length := by rw [HL.out]; omega
      exact ⟨by rw [idxF_none (hjn ▸ hny)]; rfl, hB⟩
theorem containsFunc_H {k : FuncId} {cap : Array Value} {p : List Int → Bool} {I : World → Prop} {xs : List (List Int)} (hI : ∀ w w', I w → Below w.heap.size w w' → I w')
    (hk : Enters Tryz.prog k) (hf : Hid (∀ a0 a1 a2 a3 a4 a5 a6 a7 w, [a0, a1, a2, a3, a4, a5, a6, a7] ∈ xs → I w → Calls Tryz.prog k (#[.agg #[.int .i32 a0, .int .i32 a1, .int .i32 a2, .int .i32 a3, .int .i32 a4, .int .i32 a5, .int .i32 a6, .int .i32 a7]] ++ cap) w fun e w' => e = .returned (.bool (p [a0, a1, a2, a3, a4, a5, a6, a7])) ∧ Below w.heap.size w w')) (h8 : Hid (∀ x ∈ xs, x.length = 8))
    (A : Option Addr) (n c : Nat) (w : World) (R : Rds w A n 8 HC xs) (hw : I w) :
    Calls Tryz.prog 83 #[.slice A n c, .func (.func k) #[] cap] w fun e w' => e = .returned (.bool (xs.any p)) ∧ Below w.heap.size w w' := by
  have HI := Lib.hid hI; clear hI
  have HK := Lib.hid hk; clear hk
  go_enter Tryz.func83, Tryz.ntmps83
  go_wp2_with (go_at_call 96; (with_reducible refine (indexFunc_H HI.out HK.out hf h8 A n c _ R hw).mono ?_); rintro e w1 ⟨rfl, hb⟩)
  go_ret
  exact ⟨by rw [← idxF_any]; rfl, hb⟩
theorem areAll1_H {k : FuncId} {p : List Int → Bool} (hk : Enters Tryz.prog k) (a0 a1 a2 a3 a4 a5 a6 a7 : Int) (b : Nat) (w : World) (hc : w.cell? ⟨b, 0, none⟩ = some (.func (.func k) #[] #[]))
    (hf : Hid (∀ w1, Below w.heap.size w w1 → Calls Tryz.prog k #[.agg #[.int .i32 a0, .int .i32 a1, .int .i32 a2, .int .i32 a3, .int .i32 a4, .int .i32 a5, .int .i32 a6, .int .i32 a7]] w1 fun e w' => e = .returned (.bool (p [a0, a1, a2, a3, a4, a5, a6, a7])) ∧ Below w1.heap.size w1 w')) :
    Calls Tryz.prog 84 #[.agg #[.int .i32 a0, .int .i32 a1, .int .i32 a2, .int .i32 a3, .int .i32 a4, .int .i32 a5, .int .i32 a6, .int .i32 a7], .pointer (some ⟨b, 0, none⟩)] w fun e w' => e = .returned (.bool (!p [a0, a1, a2, a3, a4, a5, a6, a7])) ∧ Below w.heap.size w w' := by
  have hk' : ∀ args w, (callFunc k args).run Tryz.prog w = .ok (.enter k args) w := hk
  clear hk
  have hlt := World.block_lt_of_cell? _ _ hc
  have hB := below_alloc1 w (.cells #[.int .i32 a0, .int .i32 a1, .int .i32 a2, .int .i32 a3, .int .i32 a4, .int .i32 a5, .int .i32 a6, .int .i32 a7] 25)
  go_enter Tryz.func84, Tryz.ntmps84
  go_wp2_with ((with_reducible refine (hf.out _ hB).mono ?_); rintro e w1 ⟨rfl, hb⟩)
  go_ret
  exact ⟨rfl, below_then hB hB.size hb⟩
/-- areAll: whether all elements are as the function k says. -/
theorem areAll_H {k : FuncId} {p : List Int → Bool} {xs : List (List Int)} (hk : Enters Tryz.prog k) (hf : Hid (∀ a0 a1 a2 a3 a4 a5 a6 a7 w, [a0, a1, a2, a3, a4, a5, a6, a7] ∈ xs → Calls Tryz.prog k #[.agg #[.int .i32 a0, .int .i32 a1, .int .i32 a2, .int .i32 a3, .int .i32 a4, .int .i32 a5, .int .i32 a6, .int .i32 a7]] w fun e w' => e = .returned (.bool (p [a0, a1, a2, a3, a4, a5, a6, a7])) ∧ Below w.heap.size w w')) (h8 : Hid (∀ x ∈ xs, x.length = 8))
    (A : Option Addr) (n c : Nat) (w : World) (R : Rds w A n 8 HC xs) :
    Calls Tryz.prog 61 #[.slice A n c, .func (.func k) #[] #[]] w fun e w' => e = .returned (.bool (xs.all p)) ∧ Below w.heap.size w w' := by
  have HK := Lib.hid hk; clear hk
  have R1 := R.below (below_alloc1 w (.cells #[.func (.func k) #[] #[]] 41))
  clear R
  go_enter Tryz.func61, Tryz.ntmps61
  go_wp2_with (go_at_call 83; (refine (containsFunc_H (k := 84) (cap := #[.pointer (some ⟨w.heap.size, 0, none⟩)]) (p := fun x => !p x) (I := fun w' => w'.cell? ⟨w.heap.size, 0, none⟩ = some (.func (.func k) #[] #[])) (xs := xs) ?_ (enters_of Tryz.func84 rfl (by decide)) ?_ h8 A n c _ R1 ?_).mono ?_); rotate_left 3; rintro e w1 ⟨rfl, hb⟩)
  case refine_1 => exact fun w1 w2 h hb => (hb.cell (World.block_lt_of_cell? _ _ h)).trans h
  case refine_2 => exact fun a0 a1 a2 a3 a4 a5 a6 a7 w1 hx hc => areAll1_H HK.out a0 a1 a2 a3 a4 a5 a6 a7 _ w1 hc (Lib.hid fun w2 _ => hf.out a0 a1 a2 a3 a4 a5 a6 a7 w2 hx)
  case refine_3 => simp [go_sem]
  go_ret
  exact ⟨by simp [any_not], below_then (below_alloc1 w _) (by go_size) hb⟩
end Go.Proofs.YtbkhlcbnnjgdpaaGreatDoor
namespace Go.Proofs.YtbkhlcbnnjgdpaaGreatDoor
open Go.RowKit
set_option linter.unusedVariables false
set_option linter.unusedSimpArgs false
abbrev FlC (y : Int × List Int) : List Value := .int .i8 y.1 :: nums .i32 y.2
theorem flat_len {xs : List (Int × List Int)} (h : ∀ x ∈ xs, x.2.length = 8) : (xs.flatMap FlC).length = xs.length * 9 := by
  induction xs with
  | nil => rfl
  | cons x xs ih =>
    have h1 := h x (List.mem_cons_self ..)
    simp only [List.flatMap_cons, List.length_append, ih (fun y hy => h y (List.mem_cons_of_mem _ hy)), List.length_cons, nums_length, h1]
    omega
theorem flat_at {xs : List (Int × List Int)} : ∀ {k d : Nat} {x : Int × List Int}, (∀ x ∈ xs, x.2.length = 8) → xs[k]? = some x → d < 9 → (xs.flatMap FlC)[k * 9 + d]? = (FlC x)[d]? := by
  induction xs with
  | nil => intro k d x _ h; simp at h
  | cons y xs ih =>
    intro k d x h hx hd
    have h1 := h y (List.mem_cons_self ..)
    have hl : (FlC y).length = 9 := by simp [FlC, nums_length, h1]
    rw [List.flatMap_cons]
    cases k with
    | zero =>
      simp at hx
      subst hx
      rw [List.getElem?_append_left (by omega)]
      congr 1
      omega
    | succ k =>
      rw [List.getElem?_append_right (by omega), show (k + 1) * 9 + d - (FlC y).length = k * 9 + d by omega]
      exact ih (fun z hz => h z (List.mem_cons_of_mem _ hz)) (by simpa using hx) hd
theorem Rds.fleece {w : World} {A : Option Addr} {n : Nat} {xs : List (Int × List Int)} (R : Rds w A n 9 FlC xs) (h8 : ∀ x ∈ xs, x.2.length = 8) {k : Nat} (hk : k < n) :
    ∃ ad f a0 a1 a2 a3 a4 a5 a6 a7, A = some ad ∧ xs[k]? = some (f, [a0, a1, a2, a3, a4, a5, a6, a7]) ∧ w.cell? (ad.add (k * 9)) = some (.int .i8 f) ∧ w.cell? ⟨(ad.add (k * 9)).block, (ad.add (k * 9)).off + 1, none⟩ = some (.int .i32 a0) ∧ w.cell? ⟨(ad.add (k * 9)).block, (ad.add (k * 9)).off + 2, none⟩ = some (.int .i32 a1) ∧ w.cell? ⟨(ad.add (k * 9)).block, (ad.add (k * 9)).off + 3, none⟩ = some (.int .i32 a2) ∧ w.cell? ⟨(ad.add (k * 9)).block, (ad.add (k * 9)).off + 4, none⟩ = some (.int .i32 a3) ∧ w.cell? ⟨(ad.add (k * 9)).block, (ad.add (k * 9)).off + 5, none⟩ = some (.int .i32 a4) ∧ w.cell? ⟨(ad.add (k * 9)).block, (ad.add (k * 9)).off + 6, none⟩ = some (.int .i32 a5) ∧ w.cell? ⟨(ad.add (k * 9)).block, (ad.add (k * 9)).off + 7, none⟩ = some (.int .i32 a6) ∧ w.cell? ⟨(ad.add (k * 9)).block, (ad.add (k * 9)).off + 8, none⟩ = some (.int .i32 a7) := by
  obtain ⟨ad, x, h1, hx, hm, hc0, hc⟩ := R.cells hk
  obtain ⟨f, L⟩ := x
  obtain ⟨a0, a1, a2, a3, a4, a5, a6, a7, rfl⟩ := heap8 (h8 _ hm)
  exact ⟨ad, f, a0, a1, a2, a3, a4, a5, a6, a7, h1, hx, hc0 _ rfl, hc 0 _ rfl, hc 1 _ rfl, hc 2 _ rfl, hc 3 _ rfl, hc 4 _ rfl, hc 5 _ rfl, hc 6 _ rfl, hc 7 _ rfl⟩
theorem own_rdsFl {w : World} {base n c : Nat} {E : TypeId} {A : Option Addr} {xs : List (Int × List Int)} (O : w.ownsRow base E 9 (.slice A n c) n (xs.flatMap FlC)) (h8 : ∀ x ∈ xs, x.2.length = 8) (hn : n ≤ 1048576) : Rds w A n 9 FlC xs :=
  own_rds O (fun x hx => by simp [FlC, nums_length, h8 x hx]) (by omega) (by omega)
/-! Cells by a rule. -/
def vgen (n : Nat) (f : Nat → Value) : List Value := (List.range n).map f
theorem vgen_len (n : Nat) (f : Nat → Value) : (vgen n f).length = n := by simp [vgen]
theorem vgen_at {n : Nat} (f : Nat → Value) {k : Nat} (h : k < n) : (vgen n f)[k]? = some (f k) := by simp [vgen, h]
theorem vgen_set {n : Nat} {f g : Nat → Value} {k : Nat} {v : Value} (hv : g k = v) (hg : ∀ j, j < n → j ≠ k → g j = f j) (h : k < n) : (vgen n f).set k v = vgen n g := by
  apply List.ext_getElem?
  intro i
  rw [List.getElem?_set]
  by_cases hk : k = i
  · subst hk
    simp [vgen, h, hv]
  · rw [if_neg hk]
    by_cases hi : i < n
    · simp [vgen, hi, hg i hi (fun e => hk e.symm)]
    · simp [vgen, hi]
def zfl (j : Nat) : Value := if j % 9 = 0 then .int .i8 0 else .int .i32 0
def fst (xs : List (Int × List Int)) (c j : Nat) : Value := if j < c then ((xs.flatMap FlC)[j]?).getD undef else zfl j
theorem fst_set {xs : List (Int × List Int)} {n k d : Nat} {x : Int × List Int} {v : Value} (h8 : ∀ x ∈ xs, x.2.length = 8) (hx : xs[k]? = some x) (hk : k < n) (hd : d < 9) (hv : (FlC x)[d]? = some v) :
    (vgen (n * 9) (fst xs (k * 9 + d))).set (k * 9 + d) v = vgen (n * 9) (fst xs (k * 9 + d + 1)) := by
  apply vgen_set
  · unfold fst
    rw [if_pos (by omega), flat_at h8 hx hd, hv]
    rfl
  · intro j hj hne
    unfold fst
    have h2 : (j < k * 9 + d + 1) ↔ (j < k * 9 + d) := by omega
    simp only [h2]
  · omega
theorem fst_end {xs : List (Int × List Int)} {n : Nat} (h8 : ∀ x ∈ xs, x.2.length = 8) (hl : xs.length = n) : vgen (n * 9) (fst xs (n * 9)) = xs.flatMap FlC := by
  apply List.ext_getElem?
  intro i
  by_cases hi : i < n * 9
  · rw [vgen_at _ hi]
    unfold fst
    rw [if_pos hi, List.getElem?_eq_getElem (by rw [flat_len h8, hl]; exact hi)]
    rfl
  · rw [List.getElem?_eq_none (by rw [vgen_len]; omega), List.getElem?_eq_none (by rw [flat_len h8, hl]; omega)]
theorem fst_at {xs : List (Int × List Int)} {n k d : Nat} (hk : k < n) (hd : d < 9) : (vgen (n * 9) (fst xs (k * 9)))[k * 9 + d]? = some (if d = 0 then .int .i8 0 else .int .i32 0) := by
  rw [vgen_at _ (by omega)]
  unfold fst zfl
  rw [if_neg (by omega)]
  have h2 : ((k * 9 + d) % 9 = 0) ↔ d = 0 := by omega
  simp only [h2]
theorem madeCells_fleece (m : Nat) : madeCells (Value.cells (.agg #[.int .i8 0, .int .i32 0, .int .i32 0, .int .i32 0, .int .i32 0, .int .i32 0, .int .i32 0, .int .i32 0, .int .i32 0])) (m * 9) = (vgen (m * 9) (fst [] 0)).toArray := by
  apply Array.ext
  · simp [madeCells, vgen]
  · intro i h1 h2
    have h3 : i % 9 = 0 ∨ i % 9 = 1 ∨ i % 9 = 2 ∨ i % 9 = 3 ∨ i % 9 = 4 ∨ i % 9 = 5 ∨ i % 9 = 6 ∨ i % 9 = 7 ∨ i % 9 = 8 := by omega
    rcases h3 with h3 | h3 | h3 | h3 | h3 | h3 | h3 | h3 | h3 <;> simp [madeCells, Value.cells, vgen, fst, zfl, h3]
theorem fst_zero (xs : List (Int × List Int)) (n : Nat) : vgen n (fst xs 0) = vgen n (fst [] 0) := rfl
theorem grown_set9 {w wr : World} {g : Nat} (h : w.grownBy wr (some g)) (i : Nat) (v : Value) : w.grownBy (wr.setCell ⟨g, i, none⟩ v) (some g) :=
  ⟨h.os, h.tape, h.output, by simpa [World.setCell] using h.size, fun k hk hne => by
    rw [heap_setCell_other _ _ _ _ (by intro e; exact hne (by rw [e]))]; exact h.block k hk hne⟩
end Go.Proofs.YtbkhlcbnnjgdpaaGreatDoor
