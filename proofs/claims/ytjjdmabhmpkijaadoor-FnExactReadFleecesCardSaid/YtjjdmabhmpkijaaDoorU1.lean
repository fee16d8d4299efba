/- Contracts: lists of fleeces: made anew, compared, marked. -/
import Derived.Test.YtjjdmabhmpkijaaDoorH3
import Derived.Test.YtjjdmabhmpkijaaDoorB2
import Derived.BigQuiet
import Derived.Deep.QuietTactic
import Derived.Deep.RegionHeld3
import Derived.IntWalk
namespace Go.Proofs.YtjjdmabhmpkijaaDoor
open Go.RowKit
set_option linter.unusedVariables false
set_option linter.unusedSimpArgs false
abbrev FlC (y : Int × List Int) : List Value := .int .i8 y.1 :: nums .i32 y.2
theorem flat_len {xs : List (Int × List Int)} (h : ∀ x ∈ xs, x.2.length = 8) : (xs.flatMap FlC).length = xs.length * 9 := by
  induction xs with
  | nil => rfl
  | cons x xs ih =>
    have h1 := h x (List.mem_cons_self ..)
    simp only [List.flatMap_cons, List.length_append, ih (fun y hy => h y (List.mem_cons_of_mem _ hy)), List.length_cons, nums_length, h1]
    omega
theorem flat_at {xs : List (Int × List Int)} : ∀ {k d : Nat} {x : Int × List Int}, (∀ x ∈ xs, x.2.length = 8) → xs[k]? = some x → d < 9 → (xs.flatMap FlC)[k * 9 + d]? = (FlC x)[d]? := by
  induction xs with
  | nil => intro k d x _ h; simp at h
  | cons y xs ih =>
    intro k d x h hx hd
    have h1 := h y (List.mem_cons_self ..)
    have hl : (FlC y).length = 9 := by simp [FlC, nums_length, h1]
    rw [List.flatMap_cons]
    cases k with
    | zero =>
      simp at hx
      subst hx
      rw [List.getElem?_append_left (by omega)]
      congr 1
      omega
    | succ k =>
      rw [List.getElem?_append_right (by omega), show (k + 1) * 9 + d - (FlC y).length = k * 9 + d by omega]
      exact ih (fun z hz => h z (List.mem_cons_of_mem _ hz)) (by simpa using hx) hd
theorem Rds.fleece {w : World} {A : Option Addr} {n : Nat} {xs : List (Int × List Int)} (R : Rds w A n 9 FlC xs) (h8 : ∀ x ∈ xs, x.2.length = 8) {k : Nat} (hk : k < n) :
    ∃ ad f a0 a1 a2 a3 a4 a5 a6 a7, A = some ad ∧ xs[k]? = some (f, [a0, a1, a2, a3, a4, a5, a6, a7]) ∧ w.cell? (ad.add (k * 9)) = some (.int .i8 f) ∧ w.cell? ⟨(ad.add (k * 9)).block, (ad.add (k * 9)).off + 1, none⟩ = some (.int .i32 a0) ∧ w.cell? ⟨(ad.add (k * 9)).block, (ad.add (k * 9)).off + 2, none⟩ = some (.int .i32 a1) ∧ w.cell? ⟨(ad.add (k * 9)).block, (ad.add (k * 9)).off + 3, none⟩ = some (.int .i32 a2) ∧ w.cell? ⟨(ad.add (k * 9)).block, (ad.add (k * 9)).off + 4, none⟩ = some (.int .i32 a3) ∧ w.cell? ⟨(ad.add (k * 9)).block, (ad.add (k * 9)).off + 5, none⟩ = some (.int .i32 a4) ∧ w.cell? ⟨(ad.add (k * 9)).block, (ad.add (k * 9)).off + 6, none⟩ = some (.int .i32 a5) ∧ w.cell? ⟨(ad.add (k * 9)).block, (ad.add (k * 9)).off + 7, none⟩ = some (.int .i32 a6) ∧ w.cell? ⟨(ad.add (k * 9)).block, (ad.add (k * 9)).off + 8, none⟩ = some (.int .i32 a7) := by
  obtain ⟨ad, x, h1, hx, hm, hc0, hc⟩ := R.cells hk
  obtain ⟨f, L⟩ := x
  obtain ⟨a0, a1, a2, a3, a4, a5, a6, a7, rfl⟩ := heap8 (h8 _ hm)
  exact ⟨ad, f, a0, a1, a2, a3, a4, a5, a6, a7, h1, hx, hc0 _ rfl, hc 0 _ rfl, hc 1 _ rfl, hc 2 _ rfl, hc 3 _ rfl, hc 4 _ rfl, hc 5 _ rfl, hc 6 _ rfl, hc 7 _ rfl⟩
theorem own_rdsFl {w : World} {base n c : Nat} {E : TypeId} {A : Option Addr} {xs : List (Int × List Int)} (O : w.ownsRow base E 9 (.slice A n c) n (xs.flatMap FlC)) (h8 : ∀ x ∈ xs, x.2.length = 8) (hn : n ≤ 1048576) : Rds w A n 9 FlC xs :=
  own_rds O (fun x hx => by simp [FlC, nums_length, h8 x hx]) (by omega) (by omega)
/-! Cells by a rule. -/
def vgen (n : Nat) (f : Nat → Value) : List Value := (List.range n).map f
theorem vgen_len (n : Nat) (f : Nat → Value) : (vgen n f).length = n := by simp [vgen]
theorem vgen_at {n : Nat} (f : Nat → Value) {k : Nat} (h : k < n) : (vgen n f)[k]? = some (f k) := by simp [vgen, h]
theorem vgen_set {n : Nat} {f g : Nat → Value} {k : Nat} {v : Value} (hv : g k = v) (hg : ∀ j, j < n → j ≠ k → g j = f j) (h : k < n) : (vgen n f).set k v = vgen n g := by
  apply List.ext_getElem?
  intro i
  rw [List.getElem?_set]
  by_cases hk : k = i
  · subst hk
    simp [vgen, h, hv]
  · rw [if_neg hk]
    by_cases hi : i < n
    · simp [vgen, hi, hg i hi (fun e => hk e.symm)]
    · simp [vgen, hi]
def zfl (j : Nat) : Value := if j % 9 = 0 then .int .i8 0 else .int .i32 0
def fst (xs : List (Int × List Int)) (c j : Nat) : Value := if j < c then ((xs.flatMap FlC)[j]?).getD undef else zfl j
theorem fst_set {xs : List (Int × List Int)} {n k d : Nat} {x : Int × List Int} {v : Value} (h8 : ∀ x ∈ xs, x.2.length = 8) (hx : xs[k]? = some x) (hk : k < n) (hd : d < 9) (hv : (FlC x)[d]? = some v) :
    (vgen (n * 9) (fst xs (k * 9 + d))).set (k * 9 + d) v = vgen (n * 9) (fst xs (k * 9 + d + 1)) := by
  apply vgen_set
  · unfold fst
    rw [if_pos (by omega), flat_at h8 hx hd, hv]
    rfl
  · intro j hj hne
    unfold fst
    have h2 : (j < k * 9 + d + 1) ↔ (j < k * 9 + d) := by omega
    simp only [h2]
  · omega
theorem fst_end {xs : List (Int × List Int)} {n : Nat} (h8 : ∀ x ∈ xs, x.2.length = 8) (hl : xs.length = n) : vgen (n * 9) (fst xs (n * 9)) = xs.flatMap FlC := by
  apply List.ext_getElem?
  intro i
  by_cases hi : i < n * 9
  · rw [vgen_at _ hi]
    unfold fst
    rw [if_pos hi, List.getElem?_eq_getElem (by rw [flat_len h8, hl]; exact hi)]
    rfl
  · rw [List.getElem?_eq_none (by rw [vgen_len]; omega), List.getElem?_eq_none (by rw [flat_len h8, hl]; omega)]
theorem fst_at {xs : List (Int × List Int)} {n k d : Nat} (hk : k < n) (hd : d < 9) : (vgen (n * 9) (fst xs (k * 9)))[k * 9 + d]? = some (if d = 0 then .int .i8 0 else .int .i32 0) := by
  rw [vgen_at _ (by omega)]
  unfold fst zfl
  rw [if_neg (by omega)]
  have h2 : ((k * 9 + d) % 9 = 0) ↔ d = 0 := by omega
  simp only [h2]
theorem madeCells_fleece (m : Nat) : madeCells (Value.cells (.agg #[.int .i8 0, .int .i32 0, .int .i32 0, .int .i32 0, .int .i32 0, .int .i32 0, .int .i32 0, .int .i32 0, .int .i32 0])) (m * 9) = (vgen (m * 9) (fst [] 0)).toArray := by
  apply Array.ext
  · simp [madeCells, vgen]
  · intro i h1 h2
    have h3 : i % 9 = 0 ∨ i % 9 = 1 ∨ i % 9 = 2 ∨ i % 9 = 3 ∨ i % 9 = 4 ∨ i % 9 = 5 ∨ i % 9 = 6 ∨ i % 9 = 7 ∨ i % 9 = 8 := by omega
    rcases h3 with h3 | h3 | h3 | h3 | h3 | h3 | h3 | h3 | h3 <;> simp [madeCells, Value.cells, vgen, fst, zfl, h3]
theorem fst_zero (xs : List (Int × List Int)) (n : Nat) : vgen n (fst xs 0) = vgen n (fst [] 0) := rfl
theorem grown_set9 {w wr : World} {g : Nat} (h : w.grownBy wr (some g)) (i : Nat) (v : Value) : w.grownBy (wr.setCell ⟨g, i, none⟩ v) (some g) :=
  ⟨h.os, h.tape, h.output, by simpa [World.setCell] using h.size, fun k hk hne => by
    rw [heap_setCell_other _ _ _ _ (by intro e; exact hne (by rw [e]))]; exact h.block k hk hne⟩
theorem szFleeceS_le (A : Option Addr) (n c : Nat) (l : Int) (w : World) (h : (n : Int) ≤ l) (hl : l ≤ 1048576) : Calls Tryd.prog 5 #[.slice A n c, .int .i64 l] w fun e w' => e = .returned (.int .i64 (l - n)) ∧ w = w' := by
  go_enter Tryd.func5, Tryd.ntmps5
  go_wp2_with fail
  go_ret
  exact ⟨rfl, rfl⟩
theorem szFleeceS_gt (A : Option Addr) (n c : Nat) (l : Int) (w : World) (h : l < (n : Int)) (hn : n ≤ 140737488351232) (h0 : 0 ≤ l) : Calls Tryd.prog 5 #[.slice A n c, .int .i64 l] w fun e w' => e = .returned (.int .i64 (-1)) ∧ w = w' := by
  go_enter Tryd.func5, Tryd.ntmps5
  go_wp2_with fail
  go_ret
  exact ⟨rfl, rfl⟩
set_option maxHeartbeats 2000000 in
theorem toFleeceS_any (A : Option Addr) (n c : Nat) (xs : List (Int × List Int)) (w : World) (R : Rds w A n 9 FlC xs) (h8 : Hid (∀ x ∈ xs, x.2.length = 8)) (hn : n ≤ 1048576) :
    Calls Tryd.prog 7 #[.slice A n c] w (RetOwn 38 9 n (xs.flatMap FlC) w) := by
  have hxl := R.1
  have hmk := run_make_n (P := Tryd.prog) 25 38 (z := .agg #[.int .i8 0, .int .i32 0, .int .i32 0, .int .i32 0, .int .i32 0, .int .i32 0, .int .i32 0, .int .i32 0, .int .i32 0]) (sz := 9) (by_ := 36) Tryd.underlying25 (by kernel_rfl) n (by omega) (by omega)
  rw [madeCells_fleece] at hmk
  obtain ⟨Z, hZ⟩ : ∃ Z : Array Value, (vgen (n * 9) (fst [] 0)).toArray = Z := ⟨_, rfl⟩
  have h0 : Row (w.alloc (.cells Z 38)) w.heap.size 38 (vgen (n * 9) (fst xs (0 * 9))) := by
    rw [← hZ]
    exact Row.alloc w (vgen (n * 9) (fst [] 0)) 38
  rw [hZ] at hmk
  have hb0 := below_alloc1 w (.cells Z 38)
  have H0 := Lib.hid h0; clear h0 hZ
  have HXL := Lib.hid hxl; clear hxl
  go_enter Tryd.func7, Tryd.ntmps7
  go_wp2_with fail
  go_loopw [4] (fun v wr => ∃ k : Nat, k ≤ n ∧ v = .int .i64 k ∧ Hid (Row wr w.heap.size 38 (vgen (n * 9) (fst xs (k * 9)))) ∧ Below w.heap.size w wr) (fun v _ => n - (intOf v).toNat)
  case atStart => exact ⟨0, by omega, rfl, H0, hb0⟩
  case round =>
    obtain ⟨j, hj, rfl, hr, hB⟩ := hrel
    clear hmk H0 hb0
    by_cases hlt : j < n
    · obtain ⟨ad, f, a0, a1, a2, a3, a4, a5, a6, a7, rfl, hx, e0, e1, e2, e3, e4, e5, e6, e7, e8⟩ := (R.below hB).fleece h8.out hlt
      have HX := Lib.hid hx; clear hx
      go_wp2_with fail
      refine (toFleece_any f a0 a1 a2 a3 a4 a5 a6 a7 _).mono ?_
      rintro e w1 ⟨rfl, hb⟩
      have hr1 := Lib.hid (hr.out.below hb)
      have c0 : w1.cell? ⟨w.heap.size, j * 9, none⟩ = some (.int .i8 0) := by rw [hr1.out.cell]; exact fst_at (d := 0) hlt (by omega)
      have c1 : w1.cell? ⟨w.heap.size, j * 9 + 1, none⟩ = some (.int .i32 0) := by rw [hr1.out.cell]; exact fst_at hlt (by omega)
      have c2 : w1.cell? ⟨w.heap.size, j * 9 + 2, none⟩ = some (.int .i32 0) := by rw [hr1.out.cell]; exact fst_at hlt (by omega)
      have c3 : w1.cell? ⟨w.heap.size, j * 9 + 3, none⟩ = some (.int .i32 0) := by rw [hr1.out.cell]; exact fst_at hlt (by omega)
      have c4 : w1.cell? ⟨w.heap.size, j * 9 + 4, none⟩ = some (.int .i32 0) := by rw [hr1.out.cell]; exact fst_at hlt (by omega)
      have c5 : w1.cell? ⟨w.heap.size, j * 9 + 5, none⟩ = some (.int .i32 0) := by rw [hr1.out.cell]; exact fst_at hlt (by omega)
      have c6 : w1.cell? ⟨w.heap.size, j * 9 + 6, none⟩ = some (.int .i32 0) := by rw [hr1.out.cell]; exact fst_at hlt (by omega)
      have c7 : w1.cell? ⟨w.heap.size, j * 9 + 7, none⟩ = some (.int .i32 0) := by rw [hr1.out.cell]; exact fst_at hlt (by omega)
      have c8 : w1.cell? ⟨w.heap.size, j * 9 + 8, none⟩ = some (.int .i32 0) := by rw [hr1.out.cell]; exact fst_at hlt (by omega)
      have f0 := hr1.out.frozen (j * 9)
      have f1 := hr1.out.frozen (j * 9 + 1)
      have f2 := hr1.out.frozen (j * 9 + 2)
      have f3 := hr1.out.frozen (j * 9 + 3)
      have f4 := hr1.out.frozen (j * 9 + 4)
      have f5 := hr1.out.frozen (j * 9 + 5)
      have f6 := hr1.out.frozen (j * 9 + 6)
      have f7 := hr1.out.frozen (j * 9 + 7)
      have f8 := hr1.out.frozen (j * 9 + 8)
      clear e0 e1 e2 e3 e4 e5 e6 e7 e8
      have hB1 := below_then hB hB.size hb
      clear hb
      go_wp2_with fail
      clear c0 c1 c2 c3 c4 c5 c6 c7 c8 f0 f1 f2 f3 f4 f5 f6 f7 f8
      go_roundw
      case rel =>
        refine ⟨j + 1, by omega, by go_num, Lib.hid ?_, by go_grown⟩
        have s0 := hr1.out.set (j * 9) (.int .i8 f)
        rw [show (vgen (n * 9) (fst xs (j * 9))).set (j * 9) (.int .i8 f) = vgen (n * 9) (fst xs (j * 9 + 1)) from fst_set (d := 0) h8.out HX.out hlt (by omega) rfl] at s0
        have s1 := s0.set (j * 9 + 1) (.int .i32 a0)
        rw [show (vgen (n * 9) (fst xs (j * 9 + 1))).set (j * 9 + 1) (.int .i32 a0) = vgen (n * 9) (fst xs (j * 9 + 2)) from fst_set (d := 1) h8.out HX.out hlt (by omega) rfl] at s1
        have s2 := s1.set (j * 9 + 2) (.int .i32 a1)
        rw [show (vgen (n * 9) (fst xs (j * 9 + 2))).set (j * 9 + 2) (.int .i32 a1) = vgen (n * 9) (fst xs (j * 9 + 3)) from fst_set (d := 2) h8.out HX.out hlt (by omega) rfl] at s2
        have s3 := s2.set (j * 9 + 3) (.int .i32 a2)
        rw [show (vgen (n * 9) (fst xs (j * 9 + 3))).set (j * 9 + 3) (.int .i32 a2) = vgen (n * 9) (fst xs (j * 9 + 4)) from fst_set (d := 3) h8.out HX.out hlt (by omega) rfl] at s3
        have s4 := s3.set (j * 9 + 4) (.int .i32 a3)
        rw [show (vgen (n * 9) (fst xs (j * 9 + 4))).set (j * 9 + 4) (.int .i32 a3) = vgen (n * 9) (fst xs (j * 9 + 5)) from fst_set (d := 4) h8.out HX.out hlt (by omega) rfl] at s4
        have s5 := s4.set (j * 9 + 5) (.int .i32 a4)
        rw [show (vgen (n * 9) (fst xs (j * 9 + 5))).set (j * 9 + 5) (.int .i32 a4) = vgen (n * 9) (fst xs (j * 9 + 6)) from fst_set (d := 5) h8.out HX.out hlt (by omega) rfl] at s5
        have s6 := s5.set (j * 9 + 6) (.int .i32 a5)
        rw [show (vgen (n * 9) (fst xs (j * 9 + 6))).set (j * 9 + 6) (.int .i32 a5) = vgen (n * 9) (fst xs (j * 9 + 7)) from fst_set (d := 6) h8.out HX.out hlt (by omega) rfl] at s6
        have s7 := s6.set (j * 9 + 7) (.int .i32 a6)
        rw [show (vgen (n * 9) (fst xs (j * 9 + 7))).set (j * 9 + 7) (.int .i32 a6) = vgen (n * 9) (fst xs (j * 9 + 8)) from fst_set (d := 7) h8.out HX.out hlt (by omega) rfl] at s7
        have s8 := s7.set (j * 9 + 8) (.int .i32 a7)
        rw [show (vgen (n * 9) (fst xs (j * 9 + 8))).set (j * 9 + 8) (.int .i32 a7) = vgen (n * 9) (fst xs (j * 9 + 9)) from fst_set (d := 8) h8.out HX.out hlt (by omega) rfl] at s8
        rw [show (j + 1) * 9 = j * 9 + 9 by omega]
        exact s8
      case measure => simp [intOf]; omega
    · go_wp2_with fail
      go_ret
      obtain rfl : j = n := by omega
      have hr' := hr.out
      rw [fst_end h8.out HXL.out] at hr'
      exact ⟨_, _, rfl, hr'.own (Nat.le_refl _) (by unfold maxLen; omega) (by rw [flat_len h8.out, HXL.out]), hB⟩
set_option maxHeartbeats 2000000 in
theorem eqFleece_true (f a0 a1 a2 a3 a4 a5 a6 a7 : Int) (w : World) :
    Calls Tryd.prog 19 #[.agg #[.int .i8 f, .int .i32 a0, .int .i32 a1, .int .i32 a2, .int .i32 a3, .int .i32 a4, .int .i32 a5, .int .i32 a6, .int .i32 a7], .agg #[.int .i8 f, .int .i32 a0, .int .i32 a1, .int .i32 a2, .int .i32 a3, .int .i32 a4, .int .i32 a5, .int .i32 a6, .int .i32 a7]] w fun e w' => e = .returned (.bool true) ∧ Below w.heap.size w w' := by
  go_enter Tryd.func19, Tryd.ntmps19
  go_wp2_with fail
  refine (eqHeap_true a0 a1 a2 a3 a4 a5 a6 a7 _).mono ?_
  rintro e w1 ⟨rfl, hb⟩
  go_wp2_with fail
  go_ret
  exact ⟨rfl, below_then ((below_alloc1 w _).alloc (by simp) _) (by simp only [World.size_alloc]; omega) hb⟩
set_option maxHeartbeats 4000000 in
theorem eqFleeceS_true (A A' : Option Addr) (n c c' : Nat) (xs : List (Int × List Int)) (w : World) (R : Rds w A n 9 FlC xs) (R' : Rds w A' n 9 FlC xs) (h8 : Hid (∀ x ∈ xs, x.2.length = 8)) :
    Calls Tryd.prog 9 #[.slice A n c, .slice A' n c'] w fun e w' => e = .returned (.bool true) ∧ Below w.heap.size w w' := by
  have hn := R.2.1
  go_enter Tryd.func9, Tryd.ntmps9
  go_wp2_with fail
  go_loopw [5] (fun v wr => ∃ k : Nat, k ≤ n ∧ v = .int .i64 k ∧ Below w.heap.size w wr) (fun v _ => n - (intOf v).toNat)
  case atStart => exact ⟨0, by omega, rfl, Below.refl _ _⟩
  case round =>
    obtain ⟨j, hj, rfl, hB⟩ := hrel
    by_cases hlt : j < n
    · obtain ⟨ad, f, a0, a1, a2, a3, a4, a5, a6, a7, rfl, hx, e0, e1, e2, e3, e4, e5, e6, e7, e8⟩ := (R.below hB).fleece h8.out hlt
      obtain ⟨ad_, g, b0, b1, b2, b3, b4, b5, b6, b7, rfl, hy, d0, d1, d2, d3, d4, d5, d6, d7, d8⟩ := (R'.below hB).fleece h8.out hlt
      rw [hx] at hy; cases hy
      clear hx
      go_wp2_with fail
      go_region_held3 (fun w' => w'.cell? (ad.add (j * 9)) = some (.int .i8 f) ∧ w'.cell? ⟨(ad.add (j * 9)).block, (ad.add (j * 9)).off + 1, none⟩ = some (.int .i32 a0) ∧ w'.cell? ⟨(ad.add (j * 9)).block, (ad.add (j * 9)).off + 2, none⟩ = some (.int .i32 a1) ∧ w'.cell? ⟨(ad.add (j * 9)).block, (ad.add (j * 9)).off + 3, none⟩ = some (.int .i32 a2) ∧ w'.cell? ⟨(ad.add (j * 9)).block, (ad.add (j * 9)).off + 4, none⟩ = some (.int .i32 a3) ∧ w'.cell? ⟨(ad.add (j * 9)).block, (ad.add (j * 9)).off + 5, none⟩ = some (.int .i32 a4) ∧ w'.cell? ⟨(ad.add (j * 9)).block, (ad.add (j * 9)).off + 6, none⟩ = some (.int .i32 a5) ∧ w'.cell? ⟨(ad.add (j * 9)).block, (ad.add (j * 9)).off + 7, none⟩ = some (.int .i32 a6) ∧ w'.cell? ⟨(ad.add (j * 9)).block, (ad.add (j * 9)).off + 8, none⟩ = some (.int .i32 a7) ∧ w'.cell? (ad_.add (j * 9)) = some (.int .i8 f) ∧ w'.cell? ⟨(ad_.add (j * 9)).block, (ad_.add (j * 9)).off + 1, none⟩ = some (.int .i32 a0) ∧ w'.cell? ⟨(ad_.add (j * 9)).block, (ad_.add (j * 9)).off + 2, none⟩ = some (.int .i32 a1) ∧ w'.cell? ⟨(ad_.add (j * 9)).block, (ad_.add (j * 9)).off + 3, none⟩ = some (.int .i32 a2) ∧ w'.cell? ⟨(ad_.add (j * 9)).block, (ad_.add (j * 9)).off + 4, none⟩ = some (.int .i32 a3) ∧ w'.cell? ⟨(ad_.add (j * 9)).block, (ad_.add (j * 9)).off + 5, none⟩ = some (.int .i32 a4) ∧ w'.cell? ⟨(ad_.add (j * 9)).block, (ad_.add (j * 9)).off + 6, none⟩ = some (.int .i32 a5) ∧ w'.cell? ⟨(ad_.add (j * 9)).block, (ad_.add (j * 9)).off + 7, none⟩ = some (.int .i32 a6) ∧ w'.cell? ⟨(ad_.add (j * 9)).block, (ad_.add (j * 9)).off + 8, none⟩ = some (.int .i32 a7))
        (first | exact ⟨e0, e1, e2, e3, e4, e5, e6, e7, e8, d0, d1, d2, d3, d4, d5, d6, d7, d8⟩ | exact ⟨h0, h1, h2, h3, h4, h5, h6, h7, h8, h9, h10, h11, h12, h13, h14, h15, h16, h17⟩ | (refine ⟨?_, ?_, ?_, ?_, ?_, ?_, ?_, ?_, ?_, ?_, ?_, ?_, ?_, ?_, ?_, ?_, ?_, ?_⟩ <;> first | assumption | go_keep))
        ((go_at_call 19; refine (eqFleece_true _ _ _ _ _ _ _ _ _ _).mono ?_; rintro e w1 ⟨rfl, hb⟩; have h0 := (hb.cell (World.block_lt_of_cell? _ _ e0)).trans e0; have h1 := (hb.cell (World.block_lt_of_cell? _ _ e1)).trans e1; have h2 := (hb.cell (World.block_lt_of_cell? _ _ e2)).trans e2; have h3 := (hb.cell (World.block_lt_of_cell? _ _ e3)).trans e3; have h4 := (hb.cell (World.block_lt_of_cell? _ _ e4)).trans e4; have h5 := (hb.cell (World.block_lt_of_cell? _ _ e5)).trans e5; have h6 := (hb.cell (World.block_lt_of_cell? _ _ e6)).trans e6; have h7 := (hb.cell (World.block_lt_of_cell? _ _ e7)).trans e7; have h8 := (hb.cell (World.block_lt_of_cell? _ _ e8)).trans e8; have h9 := (hb.cell (World.block_lt_of_cell? _ _ d0)).trans d0; have h10 := (hb.cell (World.block_lt_of_cell? _ _ d1)).trans d1; have h11 := (hb.cell (World.block_lt_of_cell? _ _ d2)).trans d2; have h12 := (hb.cell (World.block_lt_of_cell? _ _ d3)).trans d3; have h13 := (hb.cell (World.block_lt_of_cell? _ _ d4)).trans d4; have h14 := (hb.cell (World.block_lt_of_cell? _ _ d5)).trans d5; have h15 := (hb.cell (World.block_lt_of_cell? _ _ d6)).trans d6; have h16 := (hb.cell (World.block_lt_of_cell? _ _ d7)).trans d7; have h17 := (hb.cell (World.block_lt_of_cell? _ _ d8)).trans d8; have hB1 := below_then hB.drew hB.drew.size hb))
      go_wp2_with fail
      go_roundw
      case rel => exact ⟨j + 1, by omega, by go_num, by first | exact hB1 | exact hB1.drew⟩
      case measure => simp [intOf]; omega
    · go_wp2_with fail
      go_ret
      exact ⟨rfl, hB⟩
set_option maxHeartbeats 1000000 in
theorem markFleeceS_any (b E : Nat) (A : Option Addr) (n c : Nat) (xs : List Value) (k0 : Int) (w : World) (O : w.ownsRow b E 9 (.slice A n c) n xs) (hn : n ≤ 1048576) (h0 : 0 ≤ k0) (h1 : k0 ≤ 100000000) :
    Calls Tryd.prog 12 #[.slice A n c, .int .i64 k0] w fun e w' => e = .returned (.int .i64 (k0 + 9 * (n : Int))) ∧ w.grownBy w' (Value.ownBlock (.slice A n c)) := by
  rcases Nat.eq_zero_or_pos n with rfl | hpos
  · go_enter Tryd.func12, Tryd.ntmps12
    go_wp2_with fail
    go_loop [1, 5] (fun kk v => kk = .int .i64 k0 ∧ v = .int .i64 0) (fun _ _ => 0)
    case atStart => exact ⟨rfl, rfl⟩
    case round =>
      obtain ⟨rfl, rfl⟩ := hrel
      go_wp2_with fail
      go_ret
      exact ⟨by simp, ⟨rfl, rfl, rfl, Nat.le_refl _, fun _ _ _ => rfl⟩⟩
  · obtain ⟨g, L, rfl, hbg, hrow, hnc, hcm, hlen⟩ := own_row O hpos (by omega)
    obtain ⟨cs, hcs⟩ : ∃ cs, xs ++ L = cs := ⟨_, rfl⟩
    rw [hcs] at hrow
    have hcl : cs.length = c * 9 := by rw [← hcs, List.length_append]; exact hlen
    clear hcs hlen O
    have H0 : Hid (∃ cs : List Value, cs.length = c * 9 ∧ Row w g E cs) := Lib.hid ⟨cs, hcl, hrow⟩
    clear hcl hrow
    go_enter Tryd.func12, Tryd.ntmps12
    go_wp2_with fail
    go_loopw [1, 5] (fun kk v wr => ∃ k : Nat, k ≤ n ∧ v = .int .i64 k ∧ kk = .int .i64 (k0 + 9 * (k : Int)) ∧ Hid (∃ cs : List Value, cs.length = c * 9 ∧ Row wr g E cs) ∧ Hid (w.grownBy wr (some g))) (fun _ v _ => n - (intOf v).toNat)
    case atStart => exact ⟨0, by omega, rfl, by simp, H0, Lib.hid ⟨rfl, rfl, rfl, Nat.le_refl _, fun _ _ _ => rfl⟩⟩
    case round =>
      obtain ⟨j, hj, rfl, rfl, hr, hg⟩ := hrel
      clear H0
      by_cases hlt : j < n
      · obtain ⟨cs, hcl, hrow⟩ := hr.out
        obtain ⟨u0, c0⟩ : ∃ u, wr.cell? ⟨g, j * 9, none⟩ = some u := by
          rw [hrow.cell]
          exact ⟨_, List.getElem?_eq_getElem (by rw [hcl]; omega)⟩
        have f0 := hrow.frozen (j * 9)
        have HR := Lib.hid hrow; have HCL := Lib.hid hcl; clear hrow hcl hr
        go_wp2_with fail
        have hr2 : Hid (∃ cs : List Value, cs.length = c * 9 ∧ Row (wr.setCell ⟨g, j * 9, none⟩ (.int .i8 (IntKind.i8.wrap (k0 + 9 * (j : Int))))) g E cs) := Lib.hid ⟨_, by rw [List.length_set]; exact HCL.out, HR.out.set (j * 9) _⟩
        have hg2 := Lib.hid (grown_set9 hg.out (j * 9) (.int .i8 (IntKind.i8.wrap (k0 + 9 * (j : Int)))))
        clear c0 f0 HR HCL hg
        rename World => W0
        go_loopw [1, 6] (fun kk v wr => ∃ i : Nat, i ≤ 8 ∧ v = .int .i64 i ∧ kk = .int .i64 (k0 + 9 * (j : Int) + 1 + (i : Int)) ∧ Hid (∃ cs : List Value, cs.length = c * 9 ∧ Row wr g E cs) ∧ Hid (w.grownBy wr (some g))) (fun _ v _ => 8 - (intOf v).toNat)
        case atStart => exact ⟨0, by omega, rfl, by simp, hr2, hg2⟩
        case round =>
          clear hr2 hg2
          obtain ⟨i, hi, rfl, rfl, hr, hg⟩ := hrel
          by_cases hit : i < 8
          · obtain ⟨cs, hcl, hrow⟩ := hr.out
            obtain ⟨u0, c0⟩ : ∃ u, wr.cell? ⟨g, j * 9 + 1 + i, none⟩ = some u := by
              rw [hrow.cell]
              exact ⟨_, List.getElem?_eq_getElem (by rw [hcl]; omega)⟩
            have f0 := hrow.frozen (j * 9 + 1 + i)
            have HR := Lib.hid hrow; have HCL := Lib.hid hcl; clear hrow hcl hr
            have hi1 : (i : Int) < 8 := by omega
            have v1 : IntKind.i32.wrap (k0 + 9 * (j : Int) + 1 + (i : Int)) = k0 + 9 * (j : Int) + 1 + (i : Int) := IntWalk.i32_in _ (by omega)
            go_wp2_with fail
            clear v1
            go_roundw
            case rel => exact ⟨i + 1, by omega, by go_num, by show Value.int .i64 _ = Value.int .i64 _; congr 1; omega, Lib.hid ⟨_, by rw [List.length_set]; exact HCL.out, HR.out.set (j * 9 + 1 + i) _⟩, Lib.hid (grown_set9 hg.out _ _)⟩
            case measure => simp [intOf]; omega
          · have hi1 : ¬ (i : Int) < 8 := by omega
            obtain rfl : i = 8 := by omega
            go_wp2_with fail
            go_roundw
            case rel => exact ⟨j + 1, by omega, by go_num, by show Value.int .i64 _ = Value.int .i64 _; congr 1; omega, hr, hg⟩
            case measure => simp [intOf]; omega
      · go_wp2_with fail
        go_ret
        obtain rfl : j = n := by omega
        exact ⟨rfl, by simpa [Value.ownBlock] using hg.out⟩
end Go.Proofs.YtjjdmabhmpkijaaDoor
