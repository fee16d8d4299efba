/- Contracts: impl.PartHeap. -/
import Derived.Test.YtbkhlcbnnjgdpaaGreatDoorT2
import Derived.Test.YtbkhlcbnnjgdpaaGreatDoorH6
import Derived.IntWalk
namespace Go.Proofs.YtbkhlcbnnjgdpaaGreatDoor
open Go.RowKit
set_option linter.unusedVariables false
set_option linter.unusedSimpArgs false
/-- The first cells by a rule, the others by another. -/
def tgen (n : Nat) (f : Nat → Int) : List Int := (List.range n).map f
theorem tgen_len (n : Nat) (f : Nat → Int) : (tgen n f).length = n := by simp [tgen]
theorem tgen_at {n : Nat} (f : Nat → Int) {k : Nat} (h : k < n) : (nums .i32 (tgen n f))[k]? = some (.int .i32 (f k)) := by simp [nums, tgen, h]
theorem tgen_set {n : Nat} {f g : Nat → Int} {k : Nat} {v : Int} (h : k < n) (hv : g k = v) (hg : ∀ j, j < n → j ≠ k → g j = f j) : (nums .i32 (tgen n f)).set k (.int .i32 v) = nums .i32 (tgen n g) := by
  apply List.ext_getElem?
  intro i
  rw [List.getElem?_set]
  by_cases hk : k = i
  · subst hk
    simp [nums, tgen, h, hv]
  · rw [if_neg hk]
    by_cases hi : i < n
    · simp [nums, tgen, hi, hg i hi (fun e => hk e.symm)]
    · simp [nums, tgen, hi]
theorem tgen_congr {n : Nat} {f g : Nat → Int} (h : ∀ j, j < n → f j = g j) : tgen n f = tgen n g := by
  unfold tgen
  apply List.map_congr_left
  intro j hj
  exact h j (List.mem_range.1 hj)
theorem tgen_zero (n : Nat) : nums .i32 (tgen n fun _ => 0) = List.replicate n (.int .i32 0) := by
  apply List.ext_getElem?
  intro i
  by_cases hi : i < n <;> simp [nums, tgen, hi]
/-- Cell j after k whole columns and i rows of column k. -/
def ph (LA : List Int) (M : Int) (k i j : Nat) : Int := if j % 8 < k ∨ (j % 8 = k ∧ j / 8 < i) then phv (LA.getD (j % 8) 0) M (j / 8) else 0
theorem ph_next (LA : List Int) (M : Int) (k n : Nat) : tgen (n * 8) (ph LA M k n) = tgen (n * 8) (ph LA M (k + 1) 0) := by
  apply tgen_congr
  intro j hj
  unfold ph
  have h1 : j / 8 < n := by omega
  have h2 : (j % 8 < k ∨ (j % 8 = k ∧ j / 8 < n)) ↔ (j % 8 < k + 1 ∨ (j % 8 = k + 1 ∧ j / 8 < 0)) := by omega
  simp only [h2]
theorem ph_set (LA : List Int) (M : Int) {k i n : Nat} {v : Int} (hk : k < 8) (hi : i < n) (hv : phv (LA.getD k 0) M i = v) :
    (nums .i32 (tgen (n * 8) (ph LA M k i))).set (i * 8 + k) (.int .i32 v) = nums .i32 (tgen (n * 8) (ph LA M k (i + 1))) := by
  apply tgen_set (by omega)
  · unfold ph
    have h1 : (i * 8 + k) % 8 = k := by omega
    have h2 : (i * 8 + k) / 8 = i := by omega
    rw [h1, h2, if_pos (by omega), hv]
  · intro j hj hne
    unfold ph
    have h2 : (j % 8 < k ∨ (j % 8 = k ∧ j / 8 < i)) ↔ (j % 8 < k ∨ (j % 8 = k ∧ j / 8 < i + 1)) := by omega
    simp only [h2]
theorem ph_at (LA : List Int) (M : Int) {k i n : Nat} (hk : k < 8) (hi : i < n) : (nums .i32 (tgen (n * 8) (ph LA M k i)))[i * 8 + k]? = some (.int .i32 0) := by
  rw [tgen_at _ (by omega)]
  unfold ph
  rw [if_neg (by omega)]
theorem tgen_snoc8 (n : Nat) (f : Nat → Int) : tgen ((n + 1) * 8) f = tgen (n * 8) f ++ [f (n * 8), f (n * 8 + 1), f (n * 8 + 2), f (n * 8 + 3), f (n * 8 + 4), f (n * 8 + 5), f (n * 8 + 6), f (n * 8 + 7)] := by
  rw [show (n + 1) * 8 = n * 8 + 1 + 1 + 1 + 1 + 1 + 1 + 1 + 1 by omega]
  simp only [tgen, List.range_succ, List.map_append, List.map_cons, List.map_nil, List.append_assoc, List.cons_append, List.nil_append]
theorem ph_end (LA : List Int) (M : Int) : ∀ n, nums .i32 (tgen (n * 8) (ph LA M 8 0)) = (phTo LA M n).flatMap HE
  | 0 => rfl
  | n + 1 => by
    rw [tgen_snoc8, ← part_snoc, ← ph_end LA M n]
    have h : ∀ d, d < 8 → ph LA M 8 0 (n * 8 + d) = phv (LA.getD d 0) M n := by
      intro d hd
      unfold ph
      have h1 : (n * 8 + d) % 8 = d := by omega
      have h2 : (n * 8 + d) / 8 = n := by omega
      rw [h1, h2, if_pos (by omega)]
    rw [show n * 8 = n * 8 + 0 from rfl, h 0 (by omega), h 1 (by omega), h 2 (by omega), h 3 (by omega), h 4 (by omega), h 5 (by omega), h 6 (by omega), h 7 (by omega)]
    simp [nums]
theorem tmadeCells_heap (m : Nat) : madeCells (Value.cells (.agg #[.int .i32 0, .int .i32 0, .int .i32 0, .int .i32 0, .int .i32 0, .int .i32 0, .int .i32 0, .int .i32 0])) (m * 8) = (List.replicate (m * 8) (.int .i32 0)).toArray := by
  apply Array.ext
  · simp [madeCells]
  · intro i h1 h2
    have h3 : i % 8 = 0 ∨ i % 8 = 1 ∨ i % 8 = 2 ∨ i % 8 = 3 ∨ i % 8 = 4 ∨ i % 8 = 5 ∨ i % 8 = 6 ∨ i % 8 = 7 := by omega
    rcases h3 with h3 | h3 | h3 | h3 | h3 | h3 | h3 | h3 <;> simp [madeCells, Value.cells, h3]
set_option maxHeartbeats 4000000 in
theorem iPartHeap (a0 a1 a2 a3 a4 a5 a6 a7 m : Int) (w : World) (ha : Hid (∀ x ∈ [a0, a1, a2, a3, a4, a5, a6, a7], (Lit.int .i32 x).wf = true)) (g : (Lit.int .i64 m).wf = true) :
    Calls Tryz.prog 19 #[.agg #[.int .i32 a0, .int .i32 a1, .int .i32 a2, .int .i32 a3, .int .i32 a4, .int .i32 a5, .int .i32 a6, .int .i32 a7], .int .i64 m] w (RetOwnT 25 8 (phR [a0, a1, a2, a3, a4, a5, a6, a7] m).length ((phR [a0, a1, a2, a3, a4, a5, a6, a7] m).flatMap HE) [.int .i64 (phC [a0, a1, a2, a3, a4, a5, a6, a7] m)] w) := by
  clear g
  obtain ⟨WX, hWX⟩ : ∃ x, x = w.alloc (.cells #[.int .i32 a0, .int .i32 a1, .int .i32 a2, .int .i32 a3, .int .i32 a4, .int .i32 a5, .int .i32 a6, .int .i32 a7] 25) := ⟨_, rfl⟩
  have X0 : Hid (Row WX w.heap.size 25 [.int .i32 a0, .int .i32 a1, .int .i32 a2, .int .i32 a3, .int .i32 a4, .int .i32 a5, .int .i32 a6, .int .i32 a7]) := Lib.hid (by rw [hWX]; exact Row.alloc w [.int .i32 a0, .int .i32 a1, .int .i32 a2, .int .i32 a3, .int .i32 a4, .int .i32 a5, .int .i32 a6, .int .i32 a7] 25)
  have HB0 : Hid (Below w.heap.size w WX) := Lib.hid (by rw [hWX]; exact below_alloc1 w _)
  have hsz : WX.heap.size = w.heap.size + 1 := by rw [hWX, World.size_alloc]
  have HSZ := Lib.hid hsz
  cases h1 : heapOk [a0, a1, a2, a3, a4, a5, a6, a7]
  · have hc : phC [a0, a1, a2, a3, a4, a5, a6, a7] m = 1 := by simp [phC, asC, h1]
    rw [phR_1 (by rw [hc]; omega), hc]
    have H1 := Lib.hid h1; clear h1 hc
    go_enter Tryz.func19, Tryz.ntmps19
    obtain ⟨c0, c1, c2, c3, c4, c5, c6, c7⟩ := X0.out.cells8
    go_wp2_with fail
    rw [← hWX]
    clear hWX
    go_wp2_with fail
    refine (iValidHeap a0 a1 a2 a3 a4 a5 a6 a7 _ ha).mono ?_
    rintro e w1 ⟨rfl, hb⟩
    rw [H1.out]
    clear c0 c1 c2 c3 c4 c5 c6 c7
    go_wp2_with fail
    go_ret2
    exact ⟨none, 0, rfl, own_nil _ _ _ _, below_then HB0.out HB0.out.size hb⟩
  cases h2 : inB m 1 20
  · have hc : phC [a0, a1, a2, a3, a4, a5, a6, a7] m = 2 := by simp [phC, asC, h1, h2]
    rw [phR_1 (by rw [hc]; omega), hc]
    have H1 := Lib.hid h1; clear h1 hc
    go_enter Tryz.func19, Tryz.ntmps19
    obtain ⟨c0, c1, c2, c3, c4, c5, c6, c7⟩ := X0.out.cells8
    go_wp2_with fail
    rw [← hWX]
    clear hWX
    go_wp2_with fail
    refine (iValidHeap a0 a1 a2 a3 a4 a5 a6 a7 _ ha).mono ?_
    rintro e w1 ⟨rfl, hb⟩
    rw [H1.out]
    clear c0 c1 c2 c3 c4 c5 c6 c7
    go_wp2_with (go_at_call 40; (refine (within_any _ _ _ _).mono ?_); rintro e w' ⟨rfl, rfl⟩; rw [h2])
    go_ret2
    exact ⟨none, 0, rfl, own_nil _ _ _ _, below_then HB0.out HB0.out.size hb⟩
  have hC : phC [a0, a1, a2, a3, a4, a5, a6, a7] m = 0 := by simp [phC, asC, h1, h2]
  obtain ⟨hk, hm1, hm2⟩ := phC_0 hC
  rw [phR_0 hC, phTo_len, hC]
  have HA := Lib.hid (fun k => heap_at hk k)
  have H1 := Lib.hid h1
  have H2 := Lib.hid h2
  obtain ⟨M, rfl⟩ : ∃ M : Nat, m = (M : Int) := ⟨m.toNat, by omega⟩
  have hM : (M : Int).toNat = M := rfl
  rw [hM]
  clear hk hC hM h1 h2
  have IX := Lib.hid (idxA a0 a1 a2 a3 a4 a5 a6 a7)
  have hmk := run_make_n (P := Tryz.prog) 42 25 (z := .agg #[.int .i32 0, .int .i32 0, .int .i32 0, .int .i32 0, .int .i32 0, .int .i32 0, .int .i32 0, .int .i32 0]) (sz := 8) (by_ := 32) Tryz.underlying42 (by kernel_rfl) M (by omega) (by omega)
  rw [tmadeCells_heap] at hmk
  have HM := Lib.hid hmk; clear hmk
  go_enter Tryz.func19, Tryz.ntmps19
  obtain ⟨c0, c1, c2, c3, c4, c5, c6, c7⟩ := X0.out.cells8
  go_wp2_with fail
  rw [← hWX]
  clear hWX
  go_wp2_with fail
  refine (iValidHeap a0 a1 a2 a3 a4 a5 a6 a7 _ ha).mono ?_
  rintro e w1 ⟨rfl, hb⟩
  rw [H1.out]
  clear c0 c1 c2 c3 c4 c5 c6 c7
  have hbs := hb.size
  have hb2 := hb.alloc hbs (.cells (List.replicate (M * 8) (.int .i32 0)).toArray 25)
  have R0 : Hid (Row (w1.alloc (.cells (List.replicate (M * 8) (.int .i32 0)).toArray 25)) w1.heap.size 25 (nums .i32 (tgen (M * 8) fun _ => 0))) := Lib.hid (by rw [tgen_zero]; exact Row.alloc w1 (List.replicate (M * 8) (.int .i32 0)) 25)
  rw [List.toArray_replicate] at hb2 R0
  have HB := Lib.hid hb2
  replace X0 := Lib.hid (X0.out.below hb2)
  obtain ⟨c0, c1, c2, c3, c4, c5, c6, c7⟩ := X0.out.cells8
  have hmk := HM.out
  rw [List.toArray_replicate] at hmk
  go_wp2_with (go_at_call 40; (refine (within_any _ _ _ _).mono ?_); rintro e w' ⟨rfl, rfl⟩; rw [H2.out])
  clear c0 c1 c2 c3 c4 c5 c6 c7 hb hmk hb2
  generalize w1.alloc (.cells (Array.replicate (M * 8) (.int .i32 0)) 25) = WM at X0 R0 HB ⊢
  obtain ⟨LA, hLA⟩ : ∃ L, L = [a0, a1, a2, a3, a4, a5, a6, a7] := ⟨_, rfl⟩
  rw [← hLA]
  have HL := Lib.hid hLA
  have hb0 := HB.out
  obtain ⟨B, hBB⟩ : ∃ B, w1.heap.size = B := ⟨_, rfl⟩
  rw [hBB] at R0
  rw [hBB]
  have hwB : WX.heap.size ≤ B := by omega
  clear hLA
  go_loopw [21] (fun v wr => ∃ k : Nat, k ≤ 8 ∧ v = .int .i64 k ∧ Hid (Row wr B 25 (nums .i32 (tgen (M * 8) (ph LA M k 0)))) ∧ Hid (Below WX.heap.size WX wr)) (fun v _ => 8 - (intOf v).toNat)
  case atStart => exact ⟨0, by omega, rfl, Lib.hid (by rw [tgen_congr (g := fun _ => 0) (by intro j _; unfold ph; rw [if_neg (by omega)])]; exact R0.out), HB⟩
  case round =>
    obtain ⟨k, hk, rfl, hr, hB⟩ := hrel
    clear R0 HB hb0
    by_cases hlt : k < 8
    · have hk1 : (k : Int) < 8 := by omega
      have ix := IX.out k hlt
      rw [← HL.out] at ix
      have hb := HA.out k
      rw [← HL.out] at hb
      obtain ⟨x, hx⟩ : ∃ x, LA.getD k 0 = x := ⟨_, rfl⟩
      rw [hx] at hb ix
      have HX := Lib.hid hx; clear hx
      go_wp2_with fail
      clear ix
      rename World => W0
      go_loopw [27] (fun v wr => ∃ i : Nat, i ≤ M ∧ v = .int .i64 i ∧ Hid (Row wr B 25 (nums .i32 (tgen (M * 8) (ph LA M k i)))) ∧ Hid (Below WX.heap.size WX wr)) (fun v _ => M - (intOf v).toNat)
      case atStart => exact ⟨0, by omega, rfl, hr, hB⟩
      case round =>
        clear hr hB
        obtain ⟨i, hi, rfl, hr, hB⟩ := hrel
        by_cases hit : i < M
        · have hi1 : (i : Int) < (M : Int) := by omega
          have c0 : wr.cell? ⟨B, i * 8 + k, none⟩ = some (.int .i32 0) := by rw [hr.out.cell]; exact ph_at _ _ hlt hit
          have f0 := hr.out.frozen (i * 8 + k)
          have hq := tq_rng hb ⟨hm1, hm2⟩
          have hM0 : ¬ (M : Int) = 0 := by omega
          have v0 : IntKind.i32.wrap (M : Int) = M := IntWalk.i32_in _ (by omega)
          have v1 : IntKind.i32.wrap (x.tdiv M) = x.tdiv M := IntWalk.i32_in _ (by omega)
          have v2 : IntKind.i64.wrap (x % M) = x % M := IntWalk.i64_in _ (by omega)
          have v3 : IntKind.i32.wrap (x.tdiv M + 1) = x.tdiv M + 1 := IntWalk.i32_in _ (by omega)
          have v4 : IntKind.i64.wrap x = x := IntWalk.i64_in _ (by omega)
          by_cases hkq : (i : Int) < x % M
          · have hst := Lib.hid (ph_set LA M hlt hit (v := x.tdiv M + 1) (by rw [HX.out]; unfold phv; rw [if_pos hkq]))
            go_wp2_with fail
            go_region
            all_goals go_wp2_with fail
            go_region
            all_goals clear v0 v1 v2 v3 v4
            all_goals go_wp2_with fail
            all_goals go_roundw
            case rel => exact ⟨i + 1, by omega, by go_num, Lib.hid (by have := (hr.out.set (i * 8 + k) (.int .i32 (x.tdiv M))).set (i * 8 + k) (.int .i32 (x.tdiv M + 1)); rw [List.set_set, hst.out] at this; exact this), Lib.hid (by have h1 : Below WX.heap.size WX (wr.setCell ⟨B, i * 8 + k, none⟩ (.int .i32 (x.tdiv M))) := hB.out.setCell hwB _; have h2 : Below WX.heap.size WX ((wr.setCell ⟨B, i * 8 + k, none⟩ (.int .i32 (x.tdiv M))).setCell ⟨B, i * 8 + k, none⟩ (.int .i32 (x.tdiv M + 1))) := h1.setCell hwB _; exact h2.drew.drew)⟩
            case measure => simp [intOf]; omega
          · have hkq2 : x % (M : Int) ≤ i := by omega
            have hst := Lib.hid (ph_set LA M hlt hit (v := x.tdiv M) (by rw [HX.out]; unfold phv; rw [if_neg hkq]))
            go_wp2_with fail
            go_region
            all_goals go_wp2_with fail
            all_goals clear v0 v1 v2 v3 v4
            all_goals go_wp2_with fail
            all_goals go_roundw
            case rel => exact ⟨i + 1, by omega, by go_num, Lib.hid (by have := hr.out.set (i * 8 + k) (.int .i32 (x.tdiv M)); rw [hst.out] at this; exact this), Lib.hid (by have h1 : Below WX.heap.size WX (wr.setCell ⟨B, i * 8 + k, none⟩ (.int .i32 (x.tdiv M))) := hB.out.setCell hwB _; exact h1.drew)⟩
            case measure => simp [intOf]; omega
        · have hi1 : ¬ (i : Int) < (M : Int) := by omega
          obtain rfl : i = M := by omega
          go_wp2_with fail
          go_roundw
          case rel => exact ⟨k + 1, by omega, by go_num, Lib.hid (by rw [← ph_next]; exact hr.out), hB⟩
          case measure => simp [intOf]; omega
    · obtain rfl : k = 8 := by omega
      have hk1 : ¬ ((8 : Nat) : Int) < 8 := by omega
      go_wp2_with fail
      go_ret2
      have hr' := hr.out
      rw [ph_end] at hr'
      exact ⟨some ⟨B, 0, none⟩, M, by rfl, by rw [← HL.out]; exact hr'.own (by have := HSZ.out; omega) (by unfold maxLen; omega) (by rw [HE_len, phTo_len]), below_then HB0.out HB0.out.size hB.out⟩
end Go.Proofs.YtbkhlcbnnjgdpaaGreatDoor
