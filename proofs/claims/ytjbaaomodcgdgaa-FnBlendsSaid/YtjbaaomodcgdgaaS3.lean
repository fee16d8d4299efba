/- Contracts: spec.SharesOf. -/
import Derived.Test.YtjbaaomodcgdgaaS2
import Derived.Deep.RegionHeld3
import Derived.IntWalk
import Derived.Deep.AppendLies
namespace Go.Proofs.Ytjbaaomodcgdgaa
open Go.RowKit
set_option linter.unusedVariables false
set_option linter.unusedSimpArgs false
set_option maxHeartbeats 2000000 in
theorem sSharesOf (a0 a1 a2 a3 a4 a5 a6 a7 : Int) (w : World) (ha : Hid (∀ x ∈ [a0, a1, a2, a3, a4, a5, a6, a7], (Lit.int .i32 x).wf = true)) :
    Calls Try.prog 9 #[.agg #[.int .i32 a0, .int .i32 a1, .int .i32 a2, .int .i32 a3, .int .i32 a4, .int .i32 a5, .int .i32 a6, .int .i32 a7]] w (RetOwnT 34 2 (shR [a0, a1, a2, a3, a4, a5, a6, a7]).length ((shR [a0, a1, a2, a3, a4, a5, a6, a7]).flatMap FrC) [.int .i64 (smC [a0, a1, a2, a3, a4, a5, a6, a7])] w) := by
  obtain ⟨WX, hWX⟩ : ∃ x, x = w.alloc (.cells #[.int .i32 a0, .int .i32 a1, .int .i32 a2, .int .i32 a3, .int .i32 a4, .int .i32 a5, .int .i32 a6, .int .i32 a7] 27) := ⟨_, rfl⟩
  have X0 : Hid (Row WX w.heap.size 27 [.int .i32 a0, .int .i32 a1, .int .i32 a2, .int .i32 a3, .int .i32 a4, .int .i32 a5, .int .i32 a6, .int .i32 a7]) := Lib.hid (by rw [hWX]; exact Row.alloc w [.int .i32 a0, .int .i32 a1, .int .i32 a2, .int .i32 a3, .int .i32 a4, .int .i32 a5, .int .i32 a6, .int .i32 a7] 27)
  have HB0 : Hid (Below w.heap.size w WX) := Lib.hid (by rw [hWX]; exact below_alloc1 w _)
  have hsz : WX.heap.size = w.heap.size + 1 := by rw [hWX, World.size_alloc]
  have HSZ := Lib.hid hsz
  have hcs : smC [a0, a1, a2, a3, a4, a5, a6, a7] = 0 ∨ smC [a0, a1, a2, a3, a4, a5, a6, a7] = 1 ∨ smC [a0, a1, a2, a3, a4, a5, a6, a7] = 6 := by unfold smC; split <;> (try split) <;> simp
  rcases hcs with hc | hc | hc
  rotate_left
  · have hr := shR_1 (L := [a0, a1, a2, a3, a4, a5, a6, a7]) (by rw [hc]; omega)
    rw [hr, hc]
    have HC_ := Lib.hid hc; clear hc hr
    go_enter Try.func9, Try.ntmps9
    go_wp2_with fail
    rw [← hWX]
    clear hWX
    have HB := Lib.hid (below_alloc1 WX (.cells #[] 34))
    refine (l01Some_any _ _ a0 a1 a2 a3 a4 a5 a6 a7 _ (X0.out.below (below_alloc1 WX (.cells #[] 34))) ha).mono ?_
    rintro e w1 ⟨rfl, rfl⟩
    rw [HC_.out]
    have hB := HB.out
    go_wp2_with fail
    go_ret2
    exact ⟨some ⟨w.heap.size + 1, 0, none⟩, 0, rfl, own_lower (b := w.heap.size + 1) (by have := own_emptyF WX 34 2; rw [hsz] at this; exact this) (by omega), below_then HB0.out HB0.out.size hB⟩
  · have hr := shR_1 (L := [a0, a1, a2, a3, a4, a5, a6, a7]) (by rw [hc]; omega)
    rw [hr, hc]
    have HC_ := Lib.hid hc; clear hc hr
    go_enter Try.func9, Try.ntmps9
    go_wp2_with fail
    rw [← hWX]
    clear hWX
    have HB := Lib.hid (below_alloc1 WX (.cells #[] 34))
    refine (l01Some_any _ _ a0 a1 a2 a3 a4 a5 a6 a7 _ (X0.out.below (below_alloc1 WX (.cells #[] 34))) ha).mono ?_
    rintro e w1 ⟨rfl, rfl⟩
    rw [HC_.out]
    have hB := HB.out
    go_wp2_with fail
    go_ret2
    exact ⟨some ⟨w.heap.size + 1, 0, none⟩, 0, rfl, own_lower (b := w.heap.size + 1) (by have := own_emptyF WX 34 2; rw [hsz] at this; exact this) (by omega), below_then HB0.out HB0.out.size hB⟩
  have hk : heapOk [a0, a1, a2, a3, a4, a5, a6, a7] = true := by
    cases h : heapOk [a0, a1, a2, a3, a4, a5, a6, a7]
    · simp [smC, h] at hc
    · rfl
  have hp : 0 < hsL [a0, a1, a2, a3, a4, a5, a6, a7] := by
    by_cases h : 0 < hsL [a0, a1, a2, a3, a4, a5, a6, a7]
    · exact h
    · simp [smC, hk, h] at hc
  have hsl : hsL [a0, a1, a2, a3, a4, a5, a6, a7] = hS a0 a1 a2 a3 a4 a5 a6 a7 := rfl
  have hr := hS_rng hk
  rw [← hsl] at hr
  rw [shR_0 hc, shTo_len, hc]
  obtain ⟨S, hS_⟩ : ∃ S, hsL [a0, a1, a2, a3, a4, a5, a6, a7] = S := ⟨_, rfl⟩
  rw [hS_] at hr hp hsl ⊢
  have HS := Lib.hid hsl.symm
  have HC_ := Lib.hid hc
  have HA := Lib.hid (fun k => heapOk_at2 hk k)
  have IX := Lib.hid (idxB a0 a1 a2 a3 a4 a5 a6 a7)
  have mS : Mid S := by unfold Mid; omega
  clear hk hS_ hc hsl
  go_enter Try.func9, Try.ntmps9
  go_wp2_with fail
  rw [← hWX]
  clear hWX
  have HB := Lib.hid (below_alloc1 WX (.cells #[] 34))
  refine (l01Some_any _ _ a0 a1 a2 a3 a4 a5 a6 a7 _ (X0.out.below (below_alloc1 WX (.cells #[] 34))) ha).mono ?_
  rintro e w1 ⟨rfl, rfl⟩
  rw [HC_.out]
  go_wp2_with fail
  have hb0 := HB.out
  obtain ⟨LA, hLA⟩ : ∃ L, L = [a0, a1, a2, a3, a4, a5, a6, a7] := ⟨_, rfl⟩
  go_loopw [4, 6] (fun s v wr => ∃ (k : Nat) (A' : Option Addr) (c' : Nat), k ≤ 8 ∧ v = .int .i64 k ∧ s = .slice A' k c' ∧ wr.ownsRow WX.heap.size 34 2 (.slice A' k c') k ((shTo LA S k).flatMap FrC) ∧ Below WX.heap.size WX wr) (fun _ v _ => 8 - (intOf v).toNat)
  case atStart => exact ⟨0, _, _, by omega, rfl, rfl, by have := own_emptyF WX 34 2; rw [hsz] at this ⊢; simpa [shTo] using this, hb0⟩
  case round =>
    obtain ⟨j, A', c', hj, rfl, rfl, O, hB⟩ := hrel
    clear HB hb0
    by_cases hlt : j < 8
    · have hb := HA.out j
      rw [← hLA] at hb
      have ca : wr.cell? ⟨w.heap.size, j, none⟩ = some (.int .i32 (LA.getD j 0)) := by rw [(X0.out.below hB).cell, show ([.int .i32 a0, .int .i32 a1, .int .i32 a2, .int .i32 a3, .int .i32 a4, .int .i32 a5, .int .i32 a6, .int .i32 a7] : List Value) = nums .i32 LA from by rw [hLA]; rfl, list_at2 (by rw [hLA]; rfl) hlt]
      obtain ⟨x, hx⟩ : ∃ x, LA.getD j 0 = x := ⟨_, rfl⟩
      have HV := Lib.hid (sh_snoc LA S j hx)
      rw [hx] at hb ca
      have mx : Mid x := by unfold Mid; omega
      clear hx
      have HL := Lib.hid hLA; clear hLA
      have v5 : IntKind.i64.wrap x = x := IntWalk.i64_in _ (by omega)
      go_wp2_with fail
      have hXr := Lib.hid ((X0.out.below hB).drew)
      replace O := own_below O (Below.refl wr.heap.size wr).drew
      have hBd := hB.drew
      have HX := Lib.hid (fun (w2 : World) (h2 : Below WX.heap.size WX w2) => X0.out.below h2)
      have HCA := Lib.hid (fun (w2 : World) (h2 : Below WX.heap.size WX w2) => ((h2.cell (p := ⟨w.heap.size, j, none⟩) (by have := HSZ.out; show w.heap.size < WX.heap.size; omega)).trans ((hB.cell (p := ⟨w.heap.size, j, none⟩) (by have := HSZ.out; show w.heap.size < WX.heap.size; omega)).symm.trans ca)))
      go_region_held3 (fun w' => w'.cell? ⟨w.heap.size, j, none⟩ = some (.int .i32 x))
        (first | exact ca | exact HCA.out _ HBn | exact HCA.out _ hB3 | exact HCA.out _ (hB3.alloc hB3.size _) | go_keep)
        ((first | (go_at_call 32; refine (l01Grams_any _ _ a0 a1 a2 a3 a4 a5 a6 a7 _ hXr.out ha).mono ?_; rintro e w_ ⟨rfl, rfl⟩; rw [HS.out]) | (go_at_call 31; refine (l01Make_any _ _ _ mx mS (by omega)).mono ?_; rintro e w3 ⟨rfl, hb3⟩; replace O := own_below O hb3; have hB3 := below_then hBd hBd.size hb3; clear hb3) | (refine step_app (w0 := WX) (W := w3) WX.heap.size (by rfl) _ _ 30 34 (.agg #[.int .i64 0, .int .i64 0]) 2 16 (by rfl) Try.underlying30 info_frac rfl (by omega) (by omega) _ (by rfl) 1 1 [.int .i64 (frN x S), .int .i64 (frD x S)] (by rfl) (by rfl) (by simp [Value.oneCell']) ⟨Below.refl _ _, by simp⟩ O hB3 hB3.size (by omega) (by clear v5; omega) ?_; intro A2 c2 w4 O2 HBn)))
      clear v5
      rw [HV.out] at O2
      go_wp2_with fail
      go_roundw
      case rel => exact ⟨j + 1, A2, c2, by omega, by go_num, rfl, O2, HBn⟩
      case measure => simp [intOf]; omega
    · obtain rfl : j = 8 := by omega
      go_wp2_with fail
      go_ret2
      exact ⟨A', c', by rfl, own_lower (by rw [← hLA]; exact O) (by omega), below_then HB0.out HB0.out.size hB⟩
end Go.Proofs.Ytjbaaomodcgdgaa
