/- Contracts: impl.SharesOf. -/
import Derived.Test.YtjbaaomodcgdgaaS1
import Derived.Deep.RegionHeld3
import Derived.IntWalk
import Derived.Deep.AppendLies
namespace Go.Proofs.Ytjbaaomodcgdgaa
open Go.RowKit
set_option linter.unusedVariables false
set_option linter.unusedSimpArgs false
theorem own_emptyF (W : World) (e : TypeId) (size : Nat) : (W.alloc (.cells #[] e)).ownsRow W.heap.size e size (.slice (some ⟨W.heap.size, 0, none⟩) 0 0) 0 [] := (Row.alloc W [] e).own (Nat.le_refl _) (by simp [maxLen]) (by simp)
theorem own_nilF (W : World) (base : Nat) (e : TypeId) (size : Nat) : W.ownsRow base e size (.slice none 0 0) 0 [] := ⟨by simp, .inl ⟨rfl, rfl⟩⟩
def shTo (L : List Int) (S : Int) : Nat → List (Int × Int)
  | 0 => []
  | k + 1 => shTo L S k ++ [(frN (L.getD k 0) S, frD (L.getD k 0) S)]
theorem shTo_len (L : List Int) (S : Int) : ∀ k, (shTo L S k).length = k
  | 0 => rfl
  | k + 1 => by simp [shTo, shTo_len L S k]
def shR (L : List Int) : List (Int × Int) := if smC L = 0 then shTo L (hsL L) 8 else []
theorem shR_len (L : List Int) : (shR L).length ≤ 1048576 := by
  unfold shR
  split
  · rw [shTo_len]; omega
  · simp
theorem shR_0 {L : List Int} (h : smC L = 0) : shR L = shTo L (hsL L) 8 := by unfold shR; rw [if_pos h]
theorem shR_1 {L : List Int} (h : smC L ≠ 0) : shR L = [] := by unfold shR; rw [if_neg h]
theorem info_frac : (Try.prog.info? 34).map (fun i => (i.zero, i.size, i.bytes)) = some (some (.agg #[.int .i64 0, .int .i64 0]), 2, 16) := by kernel_rfl
theorem sh_snoc (L : List Int) (S : Int) (k : Nat) {x : Int} (h : L.getD k 0 = x) : (shTo L S k).flatMap FrC ++ [.int .i64 (frN x S), .int .i64 (frD x S)] = (shTo L S (k + 1)).flatMap FrC := by
  subst h
  simp [shTo]
set_option maxHeartbeats 2000000 in
theorem iSharesOf (a0 a1 a2 a3 a4 a5 a6 a7 : Int) (w : World) (ha : Hid (∀ x ∈ [a0, a1, a2, a3, a4, a5, a6, a7], (Lit.int .i32 x).wf = true)) :
    Calls Try.prog 8 #[.agg #[.int .i32 a0, .int .i32 a1, .int .i32 a2, .int .i32 a3, .int .i32 a4, .int .i32 a5, .int .i32 a6, .int .i32 a7]] w (RetOwnT 34 2 (shR [a0, a1, a2, a3, a4, a5, a6, a7]).length ((shR [a0, a1, a2, a3, a4, a5, a6, a7]).flatMap FrC) [.int .i64 (smC [a0, a1, a2, a3, a4, a5, a6, a7])] w) := by
  obtain ⟨WX, hWX⟩ : ∃ x, x = w.alloc (.cells #[.int .i32 a0, .int .i32 a1, .int .i32 a2, .int .i32 a3, .int .i32 a4, .int .i32 a5, .int .i32 a6, .int .i32 a7] 27) := ⟨_, rfl⟩
  have X0 : Hid (Row WX w.heap.size 27 [.int .i32 a0, .int .i32 a1, .int .i32 a2, .int .i32 a3, .int .i32 a4, .int .i32 a5, .int .i32 a6, .int .i32 a7]) := Lib.hid (by rw [hWX]; exact Row.alloc w [.int .i32 a0, .int .i32 a1, .int .i32 a2, .int .i32 a3, .int .i32 a4, .int .i32 a5, .int .i32 a6, .int .i32 a7] 27)
  have HB0 : Hid (Below w.heap.size w WX) := Lib.hid (by rw [hWX]; exact below_alloc1 w _)
  have hsz : WX.heap.size = w.heap.size + 1 := by rw [hWX, World.size_alloc]
  have HSZ := Lib.hid hsz
  have hcs : smC [a0, a1, a2, a3, a4, a5, a6, a7] = 0 ∨ smC [a0, a1, a2, a3, a4, a5, a6, a7] = 1 ∨ smC [a0, a1, a2, a3, a4, a5, a6, a7] = 6 := by unfold smC; split <;> (try split) <;> simp
  rcases hcs with hc | hc | hc
  rotate_left
  · have hr := shR_1 (L := [a0, a1, a2, a3, a4, a5, a6, a7]) (by rw [hc]; omega)
    rw [hr, hc]
    have HC_ := Lib.hid hc; clear hc hr
    go_enter Try.func8, Try.ntmps8
    obtain ⟨c0_, c1_, c2_, c3_, c4_, c5_, c6_, c7_⟩ := X0.out.cells8
    rw [hWX] at c0_ c1_ c2_ c3_ c4_ c5_ c6_ c7_
    go_wp2_with fail
    clear c0_ c1_ c2_ c3_ c4_ c5_ c6_ c7_
    rw [← hWX]
    have RS := Lib.hid (rds_one (Row.alloc WX [.int .i32 a0, .int .i32 a1, .int .i32 a2, .int .i32 a3, .int .i32 a4, .int .i32 a5, .int .i32 a6, .int .i32 a7] 27)); rw [hsz] at RS
    have HB := Lib.hid (below_alloc1 WX (.cells #[.int .i32 a0, .int .i32 a1, .int .i32 a2, .int .i32 a3, .int .i32 a4, .int .i32 a5, .int .i32 a6, .int .i32 a7] 27))
    skip
    refine (woolCode_any [[a0, a1, a2, a3, a4, a5, a6, a7]] hid8_one (hidw_one ha) _ 1 1 _ RS.out).mono ?_
    rintro e w1 ⟨rfl, hb⟩
    rw [woC_one, HC_.out]
    replace HB := Lib.hid (below_then HB.out HB.out.size hb)
    clear hb
    have hB := HB.out
    go_wp2_with fail
    go_ret2
    exact ⟨none, 0, rfl, own_nilF _ _ _ _, below_then HB0.out HB0.out.size hB⟩
  · have hr := shR_1 (L := [a0, a1, a2, a3, a4, a5, a6, a7]) (by rw [hc]; omega)
    rw [hr, hc]
    have HC_ := Lib.hid hc; clear hc hr
    go_enter Try.func8, Try.ntmps8
    obtain ⟨c0_, c1_, c2_, c3_, c4_, c5_, c6_, c7_⟩ := X0.out.cells8
    rw [hWX] at c0_ c1_ c2_ c3_ c4_ c5_ c6_ c7_
    go_wp2_with fail
    clear c0_ c1_ c2_ c3_ c4_ c5_ c6_ c7_
    rw [← hWX]
    have RS := Lib.hid (rds_one (Row.alloc WX [.int .i32 a0, .int .i32 a1, .int .i32 a2, .int .i32 a3, .int .i32 a4, .int .i32 a5, .int .i32 a6, .int .i32 a7] 27)); rw [hsz] at RS
    have HB := Lib.hid (below_alloc1 WX (.cells #[.int .i32 a0, .int .i32 a1, .int .i32 a2, .int .i32 a3, .int .i32 a4, .int .i32 a5, .int .i32 a6, .int .i32 a7] 27))
    skip
    refine (woolCode_any [[a0, a1, a2, a3, a4, a5, a6, a7]] hid8_one (hidw_one ha) _ 1 1 _ RS.out).mono ?_
    rintro e w1 ⟨rfl, hb⟩
    rw [woC_one, HC_.out]
    replace HB := Lib.hid (below_then HB.out HB.out.size hb)
    clear hb
    have hB := HB.out
    go_wp2_with fail
    go_ret2
    exact ⟨none, 0, rfl, own_nilF _ _ _ _, below_then HB0.out HB0.out.size hB⟩
  have hk : heapOk [a0, a1, a2, a3, a4, a5, a6, a7] = true := by
    cases h : heapOk [a0, a1, a2, a3, a4, a5, a6, a7]
    · simp [smC, h] at hc
    · rfl
  have hp : 0 < hsL [a0, a1, a2, a3, a4, a5, a6, a7] := by
    by_cases h : 0 < hsL [a0, a1, a2, a3, a4, a5, a6, a7]
    · exact h
    · simp [smC, hk, h] at hc
  have hsl : hsL [a0, a1, a2, a3, a4, a5, a6, a7] = hS a0 a1 a2 a3 a4 a5 a6 a7 := rfl
  have hr := hS_rng hk
  rw [← hsl] at hr
  rw [shR_0 hc, shTo_len, hc]
  obtain ⟨S, hS_⟩ : ∃ S, hsL [a0, a1, a2, a3, a4, a5, a6, a7] = S := ⟨_, rfl⟩
  rw [hS_] at hr hp hsl ⊢
  have HS := Lib.hid hsl.symm
  have HC_ := Lib.hid hc
  have HA := Lib.hid (fun k => heapOk_at2 hk k)
  have IX := Lib.hid (idxB a0 a1 a2 a3 a4 a5 a6 a7)
  have mS : Mid S := by unfold Mid; omega
  clear hk hS_ hc hsl
  go_enter Try.func8, Try.ntmps8
  obtain ⟨c0_, c1_, c2_, c3_, c4_, c5_, c6_, c7_⟩ := X0.out.cells8
  rw [hWX] at c0_ c1_ c2_ c3_ c4_ c5_ c6_ c7_
  go_wp2_with fail
  clear c0_ c1_ c2_ c3_ c4_ c5_ c6_ c7_
  rw [← hWX]
  have RS := Lib.hid (rds_one (Row.alloc WX [.int .i32 a0, .int .i32 a1, .int .i32 a2, .int .i32 a3, .int .i32 a4, .int .i32 a5, .int .i32 a6, .int .i32 a7] 27)); rw [hsz] at RS
  have HB := Lib.hid (below_alloc1 WX (.cells #[.int .i32 a0, .int .i32 a1, .int .i32 a2, .int .i32 a3, .int .i32 a4, .int .i32 a5, .int .i32 a6, .int .i32 a7] 27))
  skip
  refine (woolCode_any [[a0, a1, a2, a3, a4, a5, a6, a7]] hid8_one (hidw_one ha) _ 1 1 _ RS.out).mono ?_
  rintro e w1 ⟨rfl, hb⟩
  rw [woC_one, HC_.out]
  replace HB := Lib.hid (below_then HB.out HB.out.size hb)
  clear hb
  obtain ⟨c0_, c1_, c2_, c3_, c4_, c5_, c6_, c7_⟩ := (X0.out.below HB.out).cells8
  go_wp2_with fail
  clear c0_ c1_ c2_ c3_ c4_ c5_ c6_ c7_
  have hb0 := HB.out
  obtain ⟨LA, hLA⟩ : ∃ L, L = [a0, a1, a2, a3, a4, a5, a6, a7] := ⟨_, rfl⟩
  go_loopw [5, 15] (fun s v wr => ∃ (k : Nat) (A' : Option Addr) (c' : Nat), k ≤ 8 ∧ v = .int .i64 k ∧ s = .slice A' k c' ∧ wr.ownsRow WX.heap.size 34 2 (.slice A' k c') k ((shTo LA S k).flatMap FrC) ∧ Below WX.heap.size WX wr) (fun _ v _ => 8 - (intOf v).toNat)
  case atStart => exact ⟨0, _, _, by omega, rfl, rfl, by simpa [shTo] using own_nilF w1 WX.heap.size 34 2, hb0⟩
  case round =>
    obtain ⟨j, A', c', hj, rfl, rfl, O, hB⟩ := hrel
    clear HB hb0
    by_cases hlt : j < 8
    · have hb := HA.out j
      rw [← hLA] at hb
      have ix := IX.out j hlt
      rw [← hLA] at ix
      obtain ⟨x, hx⟩ : ∃ x, LA.getD j 0 = x := ⟨_, rfl⟩
      have HV := Lib.hid (sh_snoc LA S j hx)
      rw [hx] at hb ix
      have mx : Mid x := by unfold Mid; omega
      clear hx
      have HL := Lib.hid hLA; clear hLA
      obtain ⟨c0_, c1_, c2_, c3_, c4_, c5_, c6_, c7_⟩ := (X0.out.below hB).cells8
      go_wp2_with fail
      refine (all_any a0 a1 a2 a3 a4 a5 a6 a7 _ ha).mono ?_
      rintro e w2 ⟨rfl, hb2⟩
      rw [HS.out]
      clear c0_ c1_ c2_ c3_ c4_ c5_ c6_ c7_
      replace O := own_below O hb2
      have hB2 := below_then hB hB.size hb2
      clear hb2
      go_wp2_with fail
      refine (fraction_any _ _ _ mx mS (by omega)).mono ?_
      rintro e w3 ⟨rfl, hb3⟩
      replace O := own_below O hb3
      have hB3 := below_then hB2 hB2.size hb3
      clear hb3 hB2
      go_wp2_with ((at_builtin; refine app_any (w0 := WX) WX.heap.size (by rfl) _ _ 30 34 (.agg #[.int .i64 0, .int .i64 0]) 2 16 (by rfl) Try.underlying30 info_frac rfl (by omega) (by omega) _ (by rfl) 1 1 [.int .i64 (frN x S), .int .i64 (frD x S)] (by rfl) (by rfl) (by simp [Value.oneCell']) O hB3 hB3.size (by omega) ?_; intro A2 c2 w4 O2 HBn hg2))
      rw [HV.out] at O2
      go_wp2_with fail
      go_roundw
      case rel => exact ⟨j + 1, A2, c2, by omega, by go_num, rfl, O2, HBn⟩
      case measure => simp [intOf]; omega
    · obtain rfl : j = 8 := by omega
      go_wp2_with fail
      go_ret2
      exact ⟨A', c', by rfl, own_lower (by rw [← hLA]; exact O) (by omega), below_then HB0.out HB0.out.size hB⟩
end Go.Proofs.Ytjbaaomodcgdgaa
