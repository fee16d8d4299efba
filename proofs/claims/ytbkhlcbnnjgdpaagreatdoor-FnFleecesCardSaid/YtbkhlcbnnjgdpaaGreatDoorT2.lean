/- Contracts: spec.PartHeap. -/
import Derived.Test.YtbkhlcbnnjgdpaaGreatDoorBa
import Derived.Test.YtbkhlcbnnjgdpaaGreatDoorBu
import Derived.Test.YtbkhlcbnnjgdpaaGreatDoorH7
import Derived.Test.YtbkhlcbnnjgdpaaGreatDoorS2
import Derived.IntWalk
import Derived.Deep.AppendLies
namespace Go.Proofs.YtbkhlcbnnjgdpaaGreatDoor
open Go.RowKit
set_option linter.unusedVariables false
set_option linter.unusedSimpArgs false
def phv (a m : Int) (i : Nat) : Int := if (i : Int) < a % m then a.tdiv m + 1 else a.tdiv m
def phC (L : List Int) (m : Int) : Int := asC L (inB m 1 20)
def part (L : List Int) (m : Int) (i : Nat) : List Int := [phv (L.getD 0 0) m i, phv (L.getD 1 0) m i, phv (L.getD 2 0) m i, phv (L.getD 3 0) m i, phv (L.getD 4 0) m i, phv (L.getD 5 0) m i, phv (L.getD 6 0) m i, phv (L.getD 7 0) m i]
def phTo (L : List Int) (m : Int) (k : Nat) : List (List Int) := (List.range k).map (part L m)
def phR (L : List Int) (m : Int) : List (List Int) := if phC L m = 0 then phTo L m m.toNat else []
theorem phTo_len (L : List Int) (m : Int) (k : Nat) : (phTo L m k).length = k := by simp [phTo]
theorem phC_cases (L : List Int) (m : Int) : phC L m = 0 ∨ phC L m = 1 ∨ phC L m = 2 := by unfold phC asC; split <;> (try split) <;> simp
theorem phC_0 {L : List Int} {m : Int} (h : phC L m = 0) : heapOk L = true ∧ 1 ≤ m ∧ m ≤ 20 := by
  unfold phC asC at h
  cases h1 : heapOk L
  · simp [h1] at h
  · cases h2 : inB m 1 20
    · simp [h1, h2] at h
    · exact ⟨rfl, by simpa [inB] using h2⟩
theorem phR_len (L : List Int) (m : Int) : (phR L m).length ≤ 20 := by
  unfold phR
  split
  · rename_i h
    have := phC_0 h
    rw [phTo_len]; omega
  · simp
theorem phR_0 {L : List Int} {m : Int} (h : phC L m = 0) : phR L m = phTo L m m.toNat := by unfold phR; rw [if_pos h]
theorem phR_1 {L : List Int} {m : Int} (h : phC L m ≠ 0) : phR L m = [] := by unfold phR; rw [if_neg h]
theorem heap_at {L : List Int} (h : heapOk L = true) (k : Nat) : 0 ≤ L.getD k 0 ∧ L.getD k 0 ≤ 1000 := by
  rw [List.getD_eq_getElem?_getD]
  by_cases hk : k < L.length
  · have h2 : ∀ x ∈ L, 0 ≤ x ∧ x ≤ 1000 := by simpa [heapOk, inB] using h
    rw [List.getElem?_eq_getElem hk]
    exact h2 _ (List.getElem_mem hk)
  · rw [List.getElem?_eq_none (by omega)]; simp
theorem tq_rng {x m : Int} (hx : 0 ≤ x ∧ x ≤ 1000) (hm : 1 ≤ m ∧ m ≤ 20) : 0 ≤ x.tdiv m ∧ x.tdiv m ≤ 1000 ∧ 0 ≤ x % m ∧ x % m ≤ 20 := by
  rw [Int.tdiv_eq_ediv_of_nonneg hx.1]
  have h1 := Int.ediv_nonneg hx.1 (show (0 : Int) ≤ m by omega)
  have h2 := Int.ediv_le_self m hx.1
  have h3 := Int.emod_nonneg x (show m ≠ 0 by omega)
  have h4 := Int.emod_lt_of_pos x (show 0 < m by omega)
  omega
theorem part_snoc (L : List Int) (m : Int) (k : Nat) : (phTo L m k).flatMap HE ++ [.int .i32 (phv (L.getD 0 0) m k), .int .i32 (phv (L.getD 1 0) m k), .int .i32 (phv (L.getD 2 0) m k), .int .i32 (phv (L.getD 3 0) m k), .int .i32 (phv (L.getD 4 0) m k), .int .i32 (phv (L.getD 5 0) m k), .int .i32 (phv (L.getD 6 0) m k), .int .i32 (phv (L.getD 7 0) m k)] = (phTo L m (k + 1)).flatMap HE := by
  simp [phTo, List.range_succ, part]
theorem info_heap : (Tryz.prog.info? 25).map (fun i => (i.zero, i.size, i.bytes)) = some (some (.agg #[.int .i32 0, .int .i32 0, .int .i32 0, .int .i32 0, .int .i32 0, .int .i32 0, .int .i32 0, .int .i32 0]), 8, 32) := by kernel_rfl
set_option maxHeartbeats 2000000 in
theorem sPartHeap (a0 a1 a2 a3 a4 a5 a6 a7 m : Int) (w : World) (ha : Hid (∀ x ∈ [a0, a1, a2, a3, a4, a5, a6, a7], (Lit.int .i32 x).wf = true)) (g : (Lit.int .i64 m).wf = true) :
    Calls Tryz.prog 20 #[.agg #[.int .i32 a0, .int .i32 a1, .int .i32 a2, .int .i32 a3, .int .i32 a4, .int .i32 a5, .int .i32 a6, .int .i32 a7], .int .i64 m] w (RetOwnT 25 8 (phR [a0, a1, a2, a3, a4, a5, a6, a7] m).length ((phR [a0, a1, a2, a3, a4, a5, a6, a7] m).flatMap HE) [.int .i64 (phC [a0, a1, a2, a3, a4, a5, a6, a7] m)] w) := by
  clear g
  obtain ⟨WX, hWX⟩ : ∃ x, x = w.alloc (.cells #[.int .i32 a0, .int .i32 a1, .int .i32 a2, .int .i32 a3, .int .i32 a4, .int .i32 a5, .int .i32 a6, .int .i32 a7] 25) := ⟨_, rfl⟩
  have X0 : Hid (Row WX w.heap.size 25 [.int .i32 a0, .int .i32 a1, .int .i32 a2, .int .i32 a3, .int .i32 a4, .int .i32 a5, .int .i32 a6, .int .i32 a7]) := Lib.hid (by rw [hWX]; exact Row.alloc w [.int .i32 a0, .int .i32 a1, .int .i32 a2, .int .i32 a3, .int .i32 a4, .int .i32 a5, .int .i32 a6, .int .i32 a7] 25)
  have HB0 : Hid (Below w.heap.size w WX) := Lib.hid (by rw [hWX]; exact below_alloc1 w _)
  have hsz : WX.heap.size = w.heap.size + 1 := by rw [hWX, World.size_alloc]
  have HSZ := Lib.hid hsz
  obtain ⟨C, hC⟩ : ∃ C, phC [a0, a1, a2, a3, a4, a5, a6, a7] m = C := ⟨_, rfl⟩
  have hCA : asC [a0, a1, a2, a3, a4, a5, a6, a7] (inB m 1 20) = C := hC
  by_cases h0 : C = 0
  rotate_left
  · have hr := phR_1 (by rw [hC]; exact h0)
    rw [hr, hC]
    have f1 : (C == 0) = false := by simpa using h0
    have f2 : (C != 0) = true := by simpa using h0
    have HC_ := Lib.hid hCA; clear hC hr hCA
    go_enter Tryz.func20, Tryz.ntmps20
    go_wp2_with fail
    rw [← hWX]
    clear hWX
    have HB := Lib.hid (below_alloc1 WX (.cells #[] 25))
    refine (l00In_any _ _ _ _).mono ?_
    rintro e w1 ⟨rfl, rfl⟩
    go_wp2_with fail
    refine (l01Asked_any _ _ [a0, a1, a2, a3, a4, a5, a6, a7] _ _ (X0.out.below (below_alloc1 WX (.cells #[] 25))) rfl ha).mono ?_
    rintro e w1 ⟨rfl, rfl⟩
    rw [HC_.out]
    have hB := HB.out
    go_wp2_with fail
    go_ret2
    exact ⟨some ⟨w.heap.size + 1, 0, none⟩, 0, rfl, own_lower (b := w.heap.size + 1) (by have := own_empty WX 25 8; rw [hsz] at this; exact this) (by omega), below_then HB0.out HB0.out.size hB⟩
  subst h0
  obtain ⟨hk, hm1, hm2⟩ := phC_0 hC
  rw [phR_0 hC, phTo_len, hC]
  have HC_ := Lib.hid hCA
  have HA := Lib.hid (fun k => heap_at hk k)
  obtain ⟨M, rfl⟩ : ∃ M : Nat, m = (M : Int) := ⟨m.toNat, by omega⟩
  have hM : (M : Int).toNat = M := rfl
  rw [hM]
  clear hk hC hCA hM
  go_enter Tryz.func20, Tryz.ntmps20
  go_wp2_with fail
  rw [← hWX]
  clear hWX
  have HB := Lib.hid (below_alloc1 WX (.cells #[] 25))
  refine (l00In_any _ _ _ _).mono ?_
  rintro e w1 ⟨rfl, rfl⟩
  go_wp2_with fail
  refine (l01Asked_any _ _ [a0, a1, a2, a3, a4, a5, a6, a7] _ _ (X0.out.below (below_alloc1 WX (.cells #[] 25))) rfl ha).mono ?_
  rintro e w1 ⟨rfl, rfl⟩
  rw [HC_.out]
  go_wp2_with fail
  have hb0 := HB.out
  obtain ⟨LA, hLA⟩ : ∃ L, L = [a0, a1, a2, a3, a4, a5, a6, a7] := ⟨_, rfl⟩
  rw [← hLA]
  go_loopw [6, 8] (fun s v wr => ∃ (k : Nat) (A' : Option Addr) (c' : Nat), k ≤ M ∧ v = .int .i64 k ∧ s = .slice A' k c' ∧ wr.ownsRow WX.heap.size 25 8 (.slice A' k c') k ((phTo LA M k).flatMap HE) ∧ Below WX.heap.size WX wr) (fun _ v _ => M - (intOf v).toNat)
  case atStart => exact ⟨0, _, _, by omega, rfl, rfl, by have := own_empty WX 25 8; rw [hsz] at this ⊢; simpa [phTo] using this, hb0⟩
  case round =>
    obtain ⟨k, A', c', hkM, rfl, rfl, O, hB⟩ := hrel
    clear HB hb0
    by_cases hlt : k < M
    · have hk1 : (k : Int) < (M : Int) := by omega
      have hBsz := hB.size
      go_wp2_with fail
      rename World => W0
      have HO := Lib.hid O; clear O
      have hB1 := Lib.hid (below_alloc1 W0 (.cells #[.int .i32 0, .int .i32 0, .int .i32 0, .int .i32 0, .int .i32 0, .int .i32 0, .int .i32 0, .int .i32 0] 25))
      have R1 := Lib.hid (Row.alloc W0 [.int .i32 0, .int .i32 0, .int .i32 0, .int .i32 0, .int .i32 0, .int .i32 0, .int .i32 0, .int .i32 0] 25)
      generalize hW1 : W0.alloc (.cells #[.int .i32 0, .int .i32 0, .int .i32 0, .int .i32 0, .int .i32 0, .int .i32 0, .int .i32 0, .int .i32 0] 25) = W1
      rw [show ([.int .i32 0, .int .i32 0, .int .i32 0, .int .i32 0, .int .i32 0, .int .i32 0, .int .i32 0, .int .i32 0] : List Value).toArray = #[.int .i32 0, .int .i32 0, .int .i32 0, .int .i32 0, .int .i32 0, .int .i32 0, .int .i32 0, .int .i32 0] from rfl] at R1
      rw [hW1] at R1 hB1
      clear hW1
      obtain ⟨B, hBB⟩ : ∃ B, W0.heap.size = B := ⟨_, rfl⟩
      have HBB := Lib.hid hBB
      rw [hBB]
      have hwB : w.heap.size < B := by omega
      go_loopw [10] (fun v w2 => ∃ i : Nat, i ≤ 8 ∧ v = .int .i64 i ∧ Hid (Row w2 B 25 (nums .i32 (mixP (fun j => decide (j < i)) (fun j => phv (LA.getD j 0) M k) [0, 0, 0, 0, 0, 0, 0, 0]))) ∧ Hid (Below B W0 w2)) (fun v _ => 8 - (intOf v).toNat)
      case atStart => exact ⟨0, by omega, rfl, Lib.hid (by rw [mixP_none _ rfl (by intro j _; simp)]; have := R1.out; rw [hBB] at this; exact this), Lib.hid (by have := hB1.out; rw [hBB] at this; exact this)⟩
      case round =>
        obtain ⟨i, hi, rfl, hr, hb2⟩ := hrel
        clear R1 hB1
        by_cases hit : i < 8
        · have hi1 : (i : Int) < 8 := by omega
          have hb := HA.out i
          rw [← hLA] at hb
          have ca : wr.cell? ⟨w.heap.size, i, none⟩ = some (.int .i32 (LA.getD i 0)) := by
            rw [(hb2.out.cell (p := ⟨w.heap.size, i, none⟩) hwB), (X0.out.below hB).cell, show ([.int .i32 a0, .int .i32 a1, .int .i32 a2, .int .i32 a3, .int .i32 a4, .int .i32 a5, .int .i32 a6, .int .i32 a7] : List Value) = nums .i32 LA from by rw [hLA]; rfl, list_at2 (by rw [hLA]; rfl) hit]
          have c0 : wr.cell? ⟨B, i, none⟩ = some (.int .i32 0) := by
            rw [hr.out.cell, mixP_at _ _ hit (by simp), zeros_at]
          have f0 := hr.out.frozen i
          have hst := hr.out.set i (.int .i32 (phv (LA.getD i 0) M k))
          rw [mixP_set (Q := fun j => decide (j < i + 1)) (fun j => phv (LA.getD j 0) M k) _ hit (by intro j _; rw [Bool.eq_iff_iff]; simp; omega)] at hst
          obtain ⟨x, hx⟩ : ∃ x, LA.getD i 0 = x := ⟨_, rfl⟩
          rw [hx] at hb ca hst
          have hq := tq_rng hb ⟨hm1, hm2⟩
          have HST := Lib.hid hst
          have HL := Lib.hid hLA
          have hM0 : ¬ (M : Int) = 0 := by omega
          have v1 : IntKind.i64.wrap (x.tdiv M) = x.tdiv M := IntWalk.i64_in _ (by omega)
          have v2 : IntKind.i64.wrap (x % M) = x % M := IntWalk.i64_in _ (by omega)
          have v3 : IntKind.i64.wrap (x.tdiv M + 1) = x.tdiv M + 1 := IntWalk.i64_in _ (by omega)
          have v4 : IntKind.i32.wrap (x.tdiv M) = x.tdiv M := IntWalk.i32_in _ (by omega)
          have v5 : IntKind.i32.wrap (x.tdiv M + 1) = x.tdiv M + 1 := IntWalk.i32_in _ (by omega)
          have v6 : IntKind.i64.wrap x = x := IntWalk.i64_in _ (by omega)
          clear hst hx hLA
          by_cases hkq : (k : Int) < x % M
          · have hpv : phv x M k = x.tdiv M + 1 := by unfold phv; rw [if_pos hkq]
            rw [hpv] at HST
            go_wp2_with fail
            clear v1 v2 v3 v4 v5 v6
            go_roundw
            case rel => exact ⟨i + 1, by omega, by go_num, HST, Lib.hid (hb2.out.setCell (Nat.le_refl _) _)⟩
            case measure => simp [intOf]; omega
          · have hkq2 : x % (M : Int) ≤ k := by omega
            have hpv : phv x M k = x.tdiv M := by unfold phv; rw [if_neg hkq]
            rw [hpv] at HST
            go_wp2_with fail
            clear v1 v2 v3 v4 v5 v6
            go_roundw
            case rel => exact ⟨i + 1, by omega, by go_num, HST, Lib.hid (hb2.out.setCell (Nat.le_refl _) _)⟩
            case measure => simp [intOf]; omega
        · have hi1 : ¬ (i : Int) < 8 := by omega
          obtain rfl : i = 8 := by omega
          have R8 : Row wr B 25 [.int .i32 (phv (LA.getD 0 0) M k), .int .i32 (phv (LA.getD 1 0) M k), .int .i32 (phv (LA.getD 2 0) M k), .int .i32 (phv (LA.getD 3 0) M k), .int .i32 (phv (LA.getD 4 0) M k), .int .i32 (phv (LA.getD 5 0) M k), .int .i32 (phv (LA.getD 6 0) M k), .int .i32 (phv (LA.getD 7 0) M k)] := hr.out
          obtain ⟨p0, p1, p2, p3, p4, p5, p6, p7, hp⟩ : ∃ p0 p1 p2 p3 p4 p5 p6 p7 : Int, ([.int .i32 (phv (LA.getD 0 0) M k), .int .i32 (phv (LA.getD 1 0) M k), .int .i32 (phv (LA.getD 2 0) M k), .int .i32 (phv (LA.getD 3 0) M k), .int .i32 (phv (LA.getD 4 0) M k), .int .i32 (phv (LA.getD 5 0) M k), .int .i32 (phv (LA.getD 6 0) M k), .int .i32 (phv (LA.getD 7 0) M k)] : List Value) = [.int .i32 p0, .int .i32 p1, .int .i32 p2, .int .i32 p3, .int .i32 p4, .int .i32 p5, .int .i32 p6, .int .i32 p7] := ⟨_, _, _, _, _, _, _, _, rfl⟩
          rw [hp] at R8
          have HP := Lib.hid hp
          have HL := Lib.hid hLA
          clear hp hLA
          obtain ⟨c0, c1, c2, c3, c4, c5, c6, c7⟩ := R8.cells8
          have hB2 : Below WX.heap.size WX wr := below_then hB hBsz (by have := hb2.out; rw [← HBB.out] at this; exact this)
          have O2 : wr.ownsRow WX.heap.size 25 8 (.slice A' k c') k ((phTo LA M k).flatMap HE) := own_below HO.out (by have := hb2.out; rw [← HBB.out] at this; exact this)
          clear R8 hr
          go_wp2_with ((at_builtin; (refine app_any (w0 := WX) WX.heap.size (by rfl) _ _ 42 25 (.agg #[.int .i32 0, .int .i32 0, .int .i32 0, .int .i32 0, .int .i32 0, .int .i32 0, .int .i32 0, .int .i32 0]) 8 32 (by rfl) Tryz.underlying42 info_heap rfl (by omega) (by omega) _ (by rfl) 1 1 [.int .i32 p0, .int .i32 p1, .int .i32 p2, .int .i32 p3, .int .i32 p4, .int .i32 p5, .int .i32 p6, .int .i32 p7] (by rfl) (by rfl) (by simp [Value.oneCell']) O2 hB2 hB2.size (by omega) ?_); intro A2 c2 w2 O3 HBn hg2))
          rw [← HP.out, part_snoc] at O3
          go_wp2_with fail
          go_roundw
          case rel => exact ⟨k + 1, A2, c2, by omega, by go_num, rfl, O3, HBn⟩
          case measure => simp [intOf]; omega
    · obtain rfl : k = M := by omega
      have hk1 : ¬ (k : Int) < (k : Int) := by omega
      go_wp2_with fail
      go_ret2
      exact ⟨A', c', by rfl, own_lower (by rw [← hLA]; exact O) HB0.out.size, below_then HB0.out HB0.out.size hB⟩
end Go.Proofs.YtbkhlcbnnjgdpaaGreatDoor
