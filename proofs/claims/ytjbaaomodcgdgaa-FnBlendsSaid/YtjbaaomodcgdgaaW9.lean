/- The walk of FnBlends, from its loop on. -/
import Derived.Test.YtjbaaomodcgdgaaWq
import Derived.Test.YtjbaaomodcgdgaaU9
import Derived.Test.YtjbaaomodcgdgaaU11
import Derived.Test.YtjbaaomodcgdgaaS3
import Derived.Test.YtjbaaomodcgdgaaR8
import Derived.Test.YtjbaaomodcgdgaaR9
import Derived.Test.YtjbaaomodcgdgaaHR
import Derived.Deep.DeepCutAuto
namespace Go.Proofs.Ytjbaaomodcgdgaa
open Go.RowKit
set_option linter.unusedVariables false
set_option linter.unusedSimpArgs false
theorem grown_of_set (w : World) (g k : Nat) (v : Value) : w.grownBy (w.setCell ⟨g, k, none⟩ v) (some g) := ⟨rfl, rfl, rfl, by rw [World.size_setCell]; exact Nat.le_refl _, fun j hj hne => Below.heap_setCell w _ _ j (by simp; exact fun e => hne (by rw [e]))⟩
theorem flR {w : World} {g n i : Nat} {xs : List (Int × List Int)} (R : Rds w (some ⟨g, 0, none⟩) n 9 FlC xs) {f : Int} {a0 a1 a2 a3 a4 a5 a6 a7 : Int} (hx : xs[i]? = some (f, [a0, a1, a2, a3, a4, a5, a6, a7])) : w.rangeAt g (i * 9 + 1) [.int .i32 a0, .int .i32 a1, .int .i32 a2, .int .i32 a3, .int .i32 a4, .int .i32 a5, .int .i32 a6, .int .i32 a7] := by
  obtain ⟨ad, h1, h2⟩ := R.2.2 (by have := (List.getElem?_eq_some_iff.1 hx).1; have := R.1; omega)
  cases h1
  intro j v hv
  have h := h2 i _ hx (1 + j) v (by rw [Nat.add_comm]; simpa [FlC, nums] using hv)
  rw [← Nat.add_assoc] at h
  simpa [Addr.add] using h
set_option maxRecDepth 100000 in
set_option maxHeartbeats 8000000 in
theorem bl28 (w0 w : World) {gx n c bt bl : Nat} {xs : List (Int × List Int)} {b0 b1 b2 b3 b4 b5 b6 b7 P N D : Int} (HL : Hid (Lst xs)) (HW : Hid (Wan [b0, b1, b2, b3, b4, b5, b6, b7])) (hP : 1 ≤ P ∧ P ≤ 5) (eN : Hid (nbN xs [b0, b1, b2, b3, b4, b5, b6, b7] P = N)) (eD : Hid (nbD xs [b0, b1, b2, b3, b4, b5, b6, b7] P = D)) (hn : 1 ≤ n ∧ n ≤ 4)
    {XC : List Value} (X5 : Hid (Row w gx 48 XC)) (hXC : Hid (∀ wx, Row wx gx 48 XC → Rds wx (some ⟨gx, 0, none⟩) n 9 FlC xs)) (X6 : Hid (Row w bt 27 [.int .i32 b0, .int .i32 b1, .int .i32 b2, .int .i32 b3, .int .i32 b4, .int .i32 b5, .int .i32 b6, .int .i32 b7])) (X18 : Hid (Row w bl 34 [.int .i64 N, .int .i64 D])) (HB : Hid (Below w0.heap.size w0 w))
    (t : Array Value) (ht : t.size = 356) (h5 : t[5]! = .slice (some ⟨gx, 0, none⟩) n c) (h6 : t[6]! = .pointer (some ⟨bt, 0, none⟩)) (h7 : t[7]! = .int .i64 P) (h18 : t[18]! = .pointer (some ⟨bl, 0, none⟩))
    (Kk : Act → World → Prop) (hK : ∀ a w, (rs (cd 21 blCode)).wp Try.prog (bodyPost Try.prog Try.f3 fun e w' => e = .returned (.bool true) ∧ Below w0.heap.size w0 w') a w → Kk a w)
    (K1 : Act → World → Prop) (hK1 : ∀ a w, (rs (hd (cd 21 blCode))).wp Try.prog (Exit.then Kk (bodyPost Try.prog Try.f3 fun e w' => e = .returned (.bool true) ∧ Below w0.heap.size w0 w')) a w → K1 a w) :
    (hd (hd (cd 21 blCode))).wp Try.prog (Exit.then K1 (Exit.then Kk (bodyPost Try.prog Try.f3 fun e w' => e = .returned (.bool true) ∧ Below w0.heap.size w0 w'))) ⟨t, []⟩ w := by
  rw [(slots356 t ht).choose_spec.1] at h5 h6 h7 h18
  obtain ⟨z, hz⟩ : ∃ z, (slots356 t ht).choose = z := ⟨_, rfl⟩
  have e := (slots356 t ht).choose_spec.2
  rw [hz] at h5 h6 h7 h18 e
  rw [e, h5, h6, h7, h18]
  clear e hz h5 h6 h7 h18 ht t
  conv => arg 2; whnf
  conv at hK => enter [a, w, 1, 2]; whnf
  conv at hK1 => enter [a, w, 1, 2]; whnf
  have hmk := run_make_n (P := Try.prog) 37 2 (z := .int .i64 0) (sz := 1) (by_ := 8) Try.underlying37 (by kernel_rfl) n (by omega) (by omega)
  rw [Nat.mul_one, madeCells_int] at hmk
  have HXL := Lib.hid (hXC.out _ X5.out).1
  go_wp2_with fail
  have HB0 := HB.out.size
  have hl6 := X6.out.lt; have hl18 := X18.out.lt; have hlx := X5.out.lt
  go_loopw [25] (fun v wr => ∃ k : Nat, k ≤ n ∧ v = .int .i64 k ∧ Hid (Row wr gx 48 XC) ∧ Hid (Row wr bt 27 [.int .i32 b0, .int .i32 b1, .int .i32 b2, .int .i32 b3, .int .i32 b4, .int .i32 b5, .int .i32 b6, .int .i32 b7]) ∧ Hid (Row wr bl 34 [.int .i64 N, .int .i64 D]) ∧ Hid (Below w0.heap.size w0 wr) ∧ w.heap.size ≤ wr.heap.size) (fun v _ => n - (intOf v).toNat)
  case atStart => exact ⟨0, by omega, rfl, X5, X6, X18, HB, Nat.le_refl _⟩
  case round =>
    clear X5 X6 X18 HB
    obtain ⟨k, hk, rfl, X5, X6, X18, HB, hbs⟩ := hrel
    by_cases hlt : k < n
    · as_aux_lemma =>
      obtain ⟨x, hx⟩ : ∃ x, xs[k]? = some x := ⟨_, List.getElem?_eq_getElem (by rw [HXL.out]; exact hlt)⟩
      obtain ⟨f, L⟩ := x
      have HXF := HL.out.fl _ (List.mem_of_getElem? hx)
      obtain ⟨a0, a1, a2, a3, a4, a5, a6, a7, rfl⟩ := eight_of (L := L) HXF.2.1
      have HA := Lib.hid HXF.wan; clear HXF
      have wfA : Hid (∀ x ∈ [a0, a1, a2, a3, a4, a5, a6, a7], (Lit.int .i32 x).wf = true) := Lib.hid (fun y hy => by have := HA.out.bd y hy; simp [Lit.wf, IntKind.min, IntKind.max, IntKind.signed, IntKind.bits]; omega)
      have wfB : Hid (∀ x ∈ [b0, b1, b2, b3, b4, b5, b6, b7], (Lit.int .i32 x).wf = true) := Lib.hid (fun y hy => by have := HW.out.bd y hy; simp [Lit.wf, IntKind.min, IntKind.max, IntKind.signed, IntKind.bits]; omega)
      have hF := Lib.hid (fl_facts HL.out.fl).1
      have RG := Lib.hid (fun (wx : World) (Rx : Rds wx (some ⟨gx, 0, none⟩) n 9 FlC xs) => flR Rx hx)
      obtain ⟨hbc, hbr⟩ := bl_one HL.out (show k < xs.length by rw [HXL.out]; exact hlt) hx hP
      simp only [HXL.out] at hbc hbr
      have hon : Hid ((List.replicate n (0 : Int)).set k P = onI n k P) := Lib.hid rfl
      obtain ⟨S, hS⟩ : ∃ S, shR [a0, a1, a2, a3, a4, a5, a6, a7] = S := ⟨_, rfl⟩
      obtain ⟨s1, s2, s3, s4⟩ := HA.out.hs
      have HI : Hid (∀ wx B d, Rds wx (some ⟨gx, 0, none⟩) n 9 FlC xs → Rds wx B n 1 (fun x : Int => [.int .i64 x]) (onI n k P) → Calls Try.prog 18 #[.slice (some ⟨gx, 0, none⟩) n c, .slice B n d] wx (RetOwnT 34 2 S.length (S.flatMap FrC) [.int .i64 0] wx)) := Lib.hid (fun wx B d r1 r2 => by have h := iBlendOf (some ⟨gx, 0, none⟩) n c xs B n d (onI n k P) wx r1 hF (by omega) r2 (by omega); rw [hbc, hbr, hS] at h; exact h)
      have HSH : Hid (∀ wx, Calls Try.prog 9 #[.agg #[.int .i32 a0, .int .i32 a1, .int .i32 a2, .int .i32 a3, .int .i32 a4, .int .i32 a5, .int .i32 a6, .int .i32 a7]] wx (RetOwnT 34 2 S.length (S.flatMap FrC) [.int .i64 0] wx)) := Lib.hid (fun wx => by have h := sSharesOf a0 a1 a2 a3 a4 a5 a6 a7 wx wfA; rw [s4, hS] at h; exact h)
      obtain ⟨FN, hFN⟩ : ∃ FN, frN (offS [a0, a1, a2, a3, a4, a5, a6, a7] [b0, b1, b2, b3, b4, b5, b6, b7] (hsL [a0, a1, a2, a3, a4, a5, a6, a7]) (hsL [b0, b1, b2, b3, b4, b5, b6, b7]) 8) (hsL [a0, a1, a2, a3, a4, a5, a6, a7] * hsL [b0, b1, b2, b3, b4, b5, b6, b7]) = FN := ⟨_, rfl⟩
      obtain ⟨FD, hFD⟩ : ∃ FD, frD (offS [a0, a1, a2, a3, a4, a5, a6, a7] [b0, b1, b2, b3, b4, b5, b6, b7] (hsL [a0, a1, a2, a3, a4, a5, a6, a7]) (hsL [b0, b1, b2, b3, b4, b5, b6, b7]) 8) (hsL [a0, a1, a2, a3, a4, a5, a6, a7] * hsL [b0, b1, b2, b3, b4, b5, b6, b7]) = FD := ⟨_, rfl⟩
      have HFN := Lib.hid hFN; have HFD := Lib.hid hFD
      have hwo := (far_le HL.out HW.out hP (show k < xs.length by rw [HXL.out]; exact hlt) hx).1
      have HO1 : Hid (∀ wx, Calls Try.prog 10 #[.agg #[.int .i32 a0, .int .i32 a1, .int .i32 a2, .int .i32 a3, .int .i32 a4, .int .i32 a5, .int .i32 a6, .int .i32 a7], .agg #[.int .i32 b0, .int .i32 b1, .int .i32 b2, .int .i32 b3, .int .i32 b4, .int .i32 b5, .int .i32 b6, .int .i32 b7]] wx fun e w' => e = .returned (.tuple #[Fr FN FD, .int .i64 0]) ∧ Below wx.heap.size wx w') := Lib.hid (fun wx => by have h := iOffBy a0 a1 a2 a3 a4 a5 a6 a7 b0 b1 b2 b3 b4 b5 b6 b7 wx wfA wfB; rw [hwo, hFN, hFD] at h; exact h)
      have HO2 : Hid (∀ wx, Calls Try.prog 20 #[.agg #[.int .i32 a0, .int .i32 a1, .int .i32 a2, .int .i32 a3, .int .i32 a4, .int .i32 a5, .int .i32 a6, .int .i32 a7], .agg #[.int .i32 b0, .int .i32 b1, .int .i32 b2, .int .i32 b3, .int .i32 b4, .int .i32 b5, .int .i32 b6, .int .i32 b7]] wx fun e w' => e = .returned (.tuple #[Fr FN FD, .int .i64 0]) ∧ Below wx.heap.size wx w') := Lib.hid (fun wx => by have h := sOffBy a0 a1 a2 a3 a4 a5 a6 a7 b0 b1 b2 b3 b4 b5 b6 b7 wx wfA wfB; rw [hwo, hFN, hFD] at h; exact h)
      clear hwo hFN hFD
      have hSl : S.length ≤ 1048576 := by rw [← hS]; exact shR_len _
      clear hbc hbr s1 s2 s3 s4 hS
      have XZ := Lib.hid (Row.alloc wr (nums .i64 (List.replicate n 0)) 2)
      have hza := below_alloc1 wr (.cells (nums .i64 (List.replicate n 0)).toArray 2)
      replace HB := Lib.hid (below_then HB.out HB.out.size hza)
      replace X5 := Lib.hid (X5.out.below hza)
      replace X6 := Lib.hid (X6.out.below hza)
      replace X18 := Lib.hid (X18.out.below hza)
      have hzs : wr.heap.size < (wr.alloc (.cells (nums .i64 (List.replicate n 0)).toArray 2)).heap.size := by rw [World.size_alloc]; omega
      go_upto_region 32 with fail
      generalize World.alloc wr (.cells (nums .i64 (List.replicate n 0)).toArray 2) = wz at *
      clear hza hmk
      obtain ⟨gz, hgz⟩ : ∃ x, wr.heap.size = x := ⟨_, rfl⟩
      rw [hgz] at XZ hzs ⊢
      have hgw : w.heap.size ≤ gz := by omega
      clear hgz
      have hc : wz.cell? ⟨gz, k, none⟩ = some (.int .i64 0) := by rw [XZ.out.cell, nums_get, List.getElem?_replicate, if_pos hlt]; rfl
      have hfz := XZ.out.frozen k
      have XP : Hid (Row (wz.setCell ⟨gz, k, none⟩ (.int .i64 P)) gz 2 (nums .i64 (onI n k P))) := Lib.hid (by have h := XZ.out.set k (.int .i64 P); rw [show (nums .i64 (List.replicate n (0 : Int))).set k (.int .i64 P) = nums .i64 (onI n k P) from by unfold nums onI; rw [List.map_set]] at h; exact h)
      have hbz := (Below.refl gz wz).setCell (p := ⟨gz, k, none⟩) (Nat.le_refl _) (.int .i64 P)
      replace X5 := Lib.hid (X5.out.apart (C := gz) (by omega) k (.int .i64 P))
      replace X6 := Lib.hid (X6.out.apart (C := gz) (by omega) k (.int .i64 P))
      replace X18 := Lib.hid (X18.out.apart (C := gz) (by omega) k (.int .i64 P))
      have HB2 : Hid (Below w0.heap.size w0 (wz.setCell ⟨gz, k, none⟩ (.int .i64 P))) := Lib.hid (HB.out.setCell (p := ⟨gz, k, none⟩) (by have := HB0; simp; omega) _)
      clear HB XZ
      go_wp2_with fail
      have HBH := HB2; clear HB2
      have hbs2 : w.heap.size ≤ (wz.setCell ⟨gz, k, none⟩ (.int .i64 P)).heap.size := by rw [World.size_setCell]; omega
      generalize wz.setCell ⟨gz, k, none⟩ (.int .i64 P) = wy at *
      clear hc hfz hbz hbs hzs HB0 hgw
      have RP := Lib.hid (own_rds1 (XP.out.own (sz := 1) (n := n) (base := gz) (Nat.le_refl _) (by simp [maxLen]; omega) (by rw [nums_length]; unfold onI; simp)) (by omega))
      refine (HI.out _ _ _ (hXC.out _ X5.out) RP.out).mono ?_
      rintro e w1 ⟨A1, c1, rfl, O, hb⟩
      replace HBH := Lib.hid (below_then HBH.out HBH.out.size hb)
      replace X5 := Lib.hid (X5.out.below hb)
      replace X6 := Lib.hid (X6.out.below hb)
      replace X18 := Lib.hid (X18.out.below hb)
      replace hbs2 := Nat.le_trans hbs2 hb.size
      have R1 := Lib.hid (own_rdsF O hSl)
      clear O hb RP XP HI
      have e8 := RG.out _ (hXC.out _ X5.out)
      have f0 : w1.cell? ⟨gx, k * 9 + 1, none⟩ = some (.int .i32 a0) := e8 0 _ rfl
      have f1 : w1.cell? ⟨gx, k * 9 + 1 + 1, none⟩ = some (.int .i32 a1) := e8 1 _ rfl
      have f2 : w1.cell? ⟨gx, k * 9 + 1 + 2, none⟩ = some (.int .i32 a2) := e8 2 _ rfl
      have f3 : w1.cell? ⟨gx, k * 9 + 1 + 3, none⟩ = some (.int .i32 a3) := e8 3 _ rfl
      have f4 : w1.cell? ⟨gx, k * 9 + 1 + 4, none⟩ = some (.int .i32 a4) := e8 4 _ rfl
      have f5 : w1.cell? ⟨gx, k * 9 + 1 + 5, none⟩ = some (.int .i32 a5) := e8 5 _ rfl
      have f6 : w1.cell? ⟨gx, k * 9 + 1 + 6, none⟩ = some (.int .i32 a6) := e8 6 _ rfl
      have f7 : w1.cell? ⟨gx, k * 9 + 1 + 7, none⟩ = some (.int .i32 a7) := e8 7 _ rfl
      clear e8
      go_wp2_with fail
      refine (HSH.out _).mono ?_
      rintro e w2 ⟨A2, c2, rfl, O, hb⟩
      replace HBH := Lib.hid (below_then HBH.out HBH.out.size hb)
      replace X5 := Lib.hid (X5.out.below hb)
      replace X6 := Lib.hid (X6.out.below hb)
      replace X18 := Lib.hid (X18.out.below hb)
      replace R1 := Lib.hid (R1.out.below hb)
      replace hbs2 := Nat.le_trans hbs2 hb.size
      have R2 := Lib.hid (own_rdsF O hSl)
      clear O hb HSH f0 f1 f2 f3 f4 f5 f6 f7
      go_upto_region 35 with fail
      have hlv : w.heap.size ≤ w2.heap.size := hbs2
      go_cut [31, 32] (fun s31 s32 wx => ∃ gq : Nat, s31 = .pointer (some ⟨gq, 0, none⟩) ∧ s32 = .int .i64 0 ∧ Hid (Row wx gq 34 [.int .i64 FN, .int .i64 FD]) ∧ Hid (Below w2.heap.size w2 wx) ∧ w2.heap.size ≤ gq)
      case first =>
        refine wp_region_held_drew (S := fun w' => Row w' gx 48 XC ∧ Row w' bt 27 [.int .i32 b0, .int .i32 b1, .int .i32 b2, .int .i32 b3, .int .i32 b4, .int .i32 b5, .int .i32 b6, .int .i32 b7]) (by kernel_rfl) ⟨X5.out.drew, X6.out.drew⟩ (fun hH => ?_)
        refine wpAnyH_take (i := 0) (v := .slice (some ⟨gx, 0, none⟩) n c) rfl (by kernel_rfl) (by kernel_rfl) (by kernel_rfl) (fun _ _ _ h => h) (Or.inl ⟨by rfl, fun w h => by go_simp⟩) hH ?_
        try simp only [Act.put, List.getElem_toArray, List.getElem_cons_zero, List.getElem_cons_succ, List.setIfInBounds_toArray, List.set_cons_zero, List.set_cons_succ]
        refine wpAnyH_take (i := 1) (v := .int .i64 (k : Int)) rfl (by kernel_rfl) (by kernel_rfl) (by kernel_rfl) (fun _ _ _ h => h) (Or.inl ⟨by rfl, fun w h => by go_simp⟩) hH ?_
        try simp only [Act.put, List.getElem_toArray, List.getElem_cons_zero, List.getElem_cons_succ, List.setIfInBounds_toArray, List.set_cons_zero, List.set_cons_succ]
        refine wpAnyH_take (i := 2) (v := .pointer (some ⟨gx, k * 9, none⟩)) rfl (by kernel_rfl) (by kernel_rfl) (by kernel_rfl) (fun _ _ _ h => h) (Or.inl ⟨by rfl, fun w h => by go_simp⟩) hH ?_
        try simp only [Act.put, List.getElem_toArray, List.getElem_cons_zero, List.getElem_cons_succ, List.setIfInBounds_toArray, List.set_cons_zero, List.set_cons_succ]
        refine wpAnyH_take (i := 3) (v := .pointer (some ⟨gx, k * 9 + 1, none⟩)) rfl (by kernel_rfl) (by kernel_rfl) (by kernel_rfl) (fun _ _ _ h => h) (Or.inl ⟨by rfl, fun w h => by go_simp⟩) hH ?_
        try simp only [Act.put, List.getElem_toArray, List.getElem_cons_zero, List.getElem_cons_succ, List.setIfInBounds_toArray, List.set_cons_zero, List.set_cons_succ]
        refine wpAnyH_take (i := 4) rfl (by kernel_rfl) (by kernel_rfl) (by kernel_rfl) (fun _ _ _ h => h) (yieldsIf_load_mid (by rfl) _ _ rfl _ _ rfl [.int .i32 a0, .int .i32 a1, .int .i32 a2, .int .i32 a3, .int .i32 a4, .int .i32 a5, .int .i32 a6, .int .i32 a7] _ (fun w h => RG.out _ (hXC.out _ h.1)) heap_type rfl heap_size) hH ?_
        try simp only [Act.put, List.getElem_toArray, List.getElem_cons_zero, List.getElem_cons_succ, List.setIfInBounds_toArray, List.set_cons_zero, List.set_cons_succ]
        refine wpAnyH_take (i := 5) rfl (by kernel_rfl) (by kernel_rfl) (by kernel_rfl) (fun _ _ _ h => h) (yieldsIf_load_mid (by rfl) _ _ rfl _ _ rfl [.int .i32 b0, .int .i32 b1, .int .i32 b2, .int .i32 b3, .int .i32 b4, .int .i32 b5, .int .i32 b6, .int .i32 b7] _ (fun w h => h.2.rangeAt) heap_type rfl heap_size) hH ?_
        try simp only [Act.put, List.getElem_toArray, List.getElem_cons_zero, List.getElem_cons_succ, List.setIfInBounds_toArray, List.set_cons_zero, List.set_cons_succ]
        clear hH
        have Y0 := X5.out.drew; have Y1 := X6.out.drew
        have HQ : Below w2.heap.size w2 (World.drew w2) := (Below.refl _ _).drew
        obtain ⟨wd, hwd⟩ : ∃ x, x = World.drew w2 := ⟨_, rfl⟩
        rw [← hwd] at Y0 Y1 HQ ⊢
        clear hwd
        refine wpAnyH_ready (rs := [6, 10]) (by kernel_rfl) (by simp) ?_
        refine AllReadyH.cons rfl (fun K hK => ?_) ?_
        · try simp only [List.getElem_toArray, List.getElem_cons_zero, List.getElem_cons_succ]
          rw [if_pos (by rfl)]
          go_simp
          refine (HO1.out _).mono ?_
          rintro e we ⟨rfl, hb⟩
          refine hK.out _ _ ⟨Y0.below hb, Y1.below hb⟩ (fun _ => ?_)
          clear hK K
          try simp only [Act.put, List.getElem_toArray, List.getElem_cons_zero, List.getElem_cons_succ, List.setIfInBounds_toArray, List.set_cons_zero, List.set_cons_succ]
          replace Y0 := Y0.below hb
          replace Y1 := Y1.below hb
          replace HQ := below_then HQ HQ.size hb
          clear hb
          obtain ⟨wd, hwd⟩ : ∃ x, x = we := ⟨_, rfl⟩
          subst hwd
          refine wpAnyH_take (i := 7) (v := .tuple #[.agg #[.int .i64 FN, .int .i64 FD], .int .i64 0]) rfl (by kernel_rfl) (by kernel_rfl) (by kernel_rfl) (fun _ _ _ h => h) (Or.inl ⟨by rfl, fun w h => by go_simp⟩) ⟨Y0, Y1⟩ ?_
          try simp only [Act.put, List.getElem_toArray, List.getElem_cons_zero, List.getElem_cons_succ, List.setIfInBounds_toArray, List.set_cons_zero, List.set_cons_succ]
          refine wpAnyH_take (i := 8) (v := .agg #[.int .i64 FN, .int .i64 FD]) rfl (by kernel_rfl) (by kernel_rfl) (by kernel_rfl) (fun _ _ _ h => h) (Or.inl ⟨by rfl, fun w h => by go_simp⟩) ⟨Y0, Y1⟩ ?_
          try simp only [Act.put, List.getElem_toArray, List.getElem_cons_zero, List.getElem_cons_succ, List.setIfInBounds_toArray, List.set_cons_zero, List.set_cons_succ]
          refine wpAnyH_take (i := 9) (v := .int .i64 0) rfl (by kernel_rfl) (by kernel_rfl) (by kernel_rfl) (fun _ _ _ h => h) (Or.inl ⟨by rfl, fun w h => by go_simp⟩) ⟨Y0, Y1⟩ ?_
          try simp only [Act.put, List.getElem_toArray, List.getElem_cons_zero, List.getElem_cons_succ, List.setIfInBounds_toArray, List.set_cons_zero, List.set_cons_succ]
          refine wpAnyH_ready (rs := [10]) (by kernel_rfl) (by simp) ?_
          refine AllReadyH.cons rfl (fun K hK => ?_) ?_
          · try simp only [List.getElem_toArray, List.getElem_cons_zero, List.getElem_cons_succ]
            rw [if_pos (by rfl)]
            go_simp
            refine hK.out _ _ ⟨Y0.below (below_alloc1 _ _), Y1.below (below_alloc1 _ _)⟩ (fun _ => ?_)
            clear hK K
            try simp only [Act.put, List.getElem_toArray, List.getElem_cons_zero, List.getElem_cons_succ, List.setIfInBounds_toArray, List.set_cons_zero, List.set_cons_succ]
            have Z := Row.alloc wd [.int .i64 0, .int .i64 0] 34
            have hlY0 := Y0.lt
            have hlY1 := Y1.lt
            replace Y0 := Y0.below (below_alloc1 _ (.cells #[.int .i64 0, .int .i64 0] 34))
            replace Y1 := Y1.below (below_alloc1 _ (.cells #[.int .i64 0, .int .i64 0] 34))
            have hz := HQ.size
            replace HQ := HQ.alloc HQ.size (.cells #[.int .i64 0, .int .i64 0] 34)
            generalize World.alloc wd (.cells #[.int .i64 0, .int .i64 0] 34) = wz at Y0 Y1 HQ Z ⊢
            have hne0 : gx ≠ wd.heap.size := by omega
            have hne1 : bt ≠ wd.heap.size := by omega
            generalize wd.heap.size = gq at *
            clear hlY0 hlY1
            obtain ⟨wd, hwd⟩ : ∃ x, x = wz := ⟨_, rfl⟩
            subst hwd
            refine wpAnyH_ready (rs := [11]) (by kernel_rfl) (by simp) ?_
            refine AllReadyH.cons rfl (fun K hK => ?_) AllReadyH.nil
            try simp only [List.getElem_toArray, List.getElem_cons_zero, List.getElem_cons_succ]
            rw [if_pos (by rfl)]
            refine wp_store_mid _ _ _ rfl _ _ (List.toArray [.int .i64 FN, .int .i64 FD]) rfl rfl (Z.there rfl) frac_size (one2 _ _) ?_
            simp only [List.toList_toArray]
            refine hK.out _ _ ⟨Y0.setAway (by omega) _ _, Y1.setAway (by omega) _ _⟩ (fun _ => ?_)
            clear hK K
            try simp only [Act.put, List.getElem_toArray, List.getElem_cons_zero, List.getElem_cons_succ, List.setIfInBounds_toArray, List.set_cons_zero, List.set_cons_succ]
            replace Y0 := Y0.setAway (C := gq) (by omega) [.int .i64 FN, .int .i64 FD] 0
            replace Y1 := Y1.setAway (C := gq) (by omega) [.int .i64 FN, .int .i64 FD] 0
            replace HQ := below_setCells (b := w2.heap.size) (C := gq) (by omega) [.int .i64 FN, .int .i64 FD] 0 HQ
            replace Z := Z.setAll [.int .i64 FN, .int .i64 FD] rfl
            generalize World.setCells _ gq 0 [.int .i64 FN, .int .i64 FD] = ws at Y0 Y1 HQ Z ⊢
            refine wpAnyH_take (i := 12) (v := .int .i64 0) rfl (by kernel_rfl) (by kernel_rfl) (by kernel_rfl) (fun _ _ _ h => h) (Or.inl ⟨by rfl, fun w h => by go_simp⟩) ⟨Y0, Y1⟩ ?_
            try simp only [Act.put, List.getElem_toArray, List.getElem_cons_zero, List.getElem_cons_succ, List.setIfInBounds_toArray, List.set_cons_zero, List.set_cons_succ]
            refine wpAnyH_done (by kernel_rfl) ?_ _
            go_wp2_with fail
            go_meet
            exact ⟨gq, rfl, rfl, Lib.hid Z, Lib.hid HQ, by omega⟩
          exact AllReadyH.nil
        refine AllReadyH.cons rfl (fun K hK => ?_) ?_
        · try simp only [List.getElem_toArray, List.getElem_cons_zero, List.getElem_cons_succ]
          rw [if_pos (by rfl)]
          go_simp
          refine hK.out _ _ ⟨Y0.below (below_alloc1 _ _), Y1.below (below_alloc1 _ _)⟩ (fun _ => ?_)
          clear hK K
          try simp only [Act.put, List.getElem_toArray, List.getElem_cons_zero, List.getElem_cons_succ, List.setIfInBounds_toArray, List.set_cons_zero, List.set_cons_succ]
          have Z := Row.alloc wd [.int .i64 0, .int .i64 0] 34
          have hlY0 := Y0.lt
          have hlY1 := Y1.lt
          replace Y0 := Y0.below (below_alloc1 _ (.cells #[.int .i64 0, .int .i64 0] 34))
          replace Y1 := Y1.below (below_alloc1 _ (.cells #[.int .i64 0, .int .i64 0] 34))
          have hz := HQ.size
          replace HQ := HQ.alloc HQ.size (.cells #[.int .i64 0, .int .i64 0] 34)
          generalize World.alloc wd (.cells #[.int .i64 0, .int .i64 0] 34) = wz at Y0 Y1 HQ Z ⊢
          have hne0 : gx ≠ wd.heap.size := by omega
          have hne1 : bt ≠ wd.heap.size := by omega
          generalize wd.heap.size = gq at *
          clear hlY0 hlY1
          obtain ⟨wd, hwd⟩ : ∃ x, x = wz := ⟨_, rfl⟩
          subst hwd
          refine wpAnyH_ready (rs := [6]) (by kernel_rfl) (by simp) ?_
          refine AllReadyH.cons rfl (fun K hK => ?_) ?_
          · try simp only [List.getElem_toArray, List.getElem_cons_zero, List.getElem_cons_succ]
            rw [if_pos (by rfl)]
            go_simp
            refine (HO1.out _).mono ?_
            rintro e we ⟨rfl, hb⟩
            refine hK.out _ _ ⟨Y0.below hb, Y1.below hb⟩ (fun _ => ?_)
            clear hK K
            try simp only [Act.put, List.getElem_toArray, List.getElem_cons_zero, List.getElem_cons_succ, List.setIfInBounds_toArray, List.set_cons_zero, List.set_cons_succ]
            replace Y0 := Y0.below hb
            replace Y1 := Y1.below hb
            replace Z := Z.below hb
            replace HQ := below_then HQ HQ.size hb
            clear hb
            obtain ⟨wd, hwd⟩ : ∃ x, x = we := ⟨_, rfl⟩
            subst hwd
            refine wpAnyH_take (i := 7) (v := .tuple #[.agg #[.int .i64 FN, .int .i64 FD], .int .i64 0]) rfl (by kernel_rfl) (by kernel_rfl) (by kernel_rfl) (fun _ _ _ h => h) (Or.inl ⟨by rfl, fun w h => by go_simp⟩) ⟨Y0, Y1⟩ ?_
            try simp only [Act.put, List.getElem_toArray, List.getElem_cons_zero, List.getElem_cons_succ, List.setIfInBounds_toArray, List.set_cons_zero, List.set_cons_succ]
            refine wpAnyH_take (i := 8) (v := .agg #[.int .i64 FN, .int .i64 FD]) rfl (by kernel_rfl) (by kernel_rfl) (by kernel_rfl) (fun _ _ _ h => h) (Or.inl ⟨by rfl, fun w h => by go_simp⟩) ⟨Y0, Y1⟩ ?_
            try simp only [Act.put, List.getElem_toArray, List.getElem_cons_zero, List.getElem_cons_succ, List.setIfInBounds_toArray, List.set_cons_zero, List.set_cons_succ]
            refine wpAnyH_take (i := 9) (v := .int .i64 0) rfl (by kernel_rfl) (by kernel_rfl) (by kernel_rfl) (fun _ _ _ h => h) (Or.inl ⟨by rfl, fun w h => by go_simp⟩) ⟨Y0, Y1⟩ ?_
            try simp only [Act.put, List.getElem_toArray, List.getElem_cons_zero, List.getElem_cons_succ, List.setIfInBounds_toArray, List.set_cons_zero, List.set_cons_succ]
            refine wpAnyH_ready (rs := [11]) (by kernel_rfl) (by simp) ?_
            refine AllReadyH.cons rfl (fun K hK => ?_) AllReadyH.nil
            try simp only [List.getElem_toArray, List.getElem_cons_zero, List.getElem_cons_succ]
            rw [if_pos (by rfl)]
            refine wp_store_mid _ _ _ rfl _ _ (List.toArray [.int .i64 FN, .int .i64 FD]) rfl rfl (Z.there rfl) frac_size (one2 _ _) ?_
            simp only [List.toList_toArray]
            refine hK.out _ _ ⟨Y0.setAway (by omega) _ _, Y1.setAway (by omega) _ _⟩ (fun _ => ?_)
            clear hK K
            try simp only [Act.put, List.getElem_toArray, List.getElem_cons_zero, List.getElem_cons_succ, List.setIfInBounds_toArray, List.set_cons_zero, List.set_cons_succ]
            replace Y0 := Y0.setAway (C := gq) (by omega) [.int .i64 FN, .int .i64 FD] 0
            replace Y1 := Y1.setAway (C := gq) (by omega) [.int .i64 FN, .int .i64 FD] 0
            replace HQ := below_setCells (b := w2.heap.size) (C := gq) (by omega) [.int .i64 FN, .int .i64 FD] 0 HQ
            replace Z := Z.setAll [.int .i64 FN, .int .i64 FD] rfl
            generalize World.setCells _ gq 0 [.int .i64 FN, .int .i64 FD] = ws at Y0 Y1 HQ Z ⊢
            refine wpAnyH_take (i := 12) (v := .int .i64 0) rfl (by kernel_rfl) (by kernel_rfl) (by kernel_rfl) (fun _ _ _ h => h) (Or.inl ⟨by rfl, fun w h => by go_simp⟩) ⟨Y0, Y1⟩ ?_
            try simp only [Act.put, List.getElem_toArray, List.getElem_cons_zero, List.getElem_cons_succ, List.setIfInBounds_toArray, List.set_cons_zero, List.set_cons_succ]
            refine wpAnyH_done (by kernel_rfl) ?_ _
            go_wp2_with fail
            go_meet
            exact ⟨gq, rfl, rfl, Lib.hid Z, Lib.hid HQ, by omega⟩
          exact AllReadyH.nil
        exact AllReadyH.nil
      case rest =>
        clear hlv
        obtain ⟨gq, rfl, rfl, XQ, HBQ, hgq⟩ := hcut
        obtain ⟨w3, hw3⟩ : ∃ x, x = wc := ⟨_, rfl⟩
        subst hw3
        have hb := HBQ.out
        replace HBH := Lib.hid (below_then HBH.out HBH.out.size hb)
        replace X5 := Lib.hid (X5.out.below hb)
        replace X6 := Lib.hid (X6.out.below hb)
        replace X18 := Lib.hid (X18.out.below hb)
        replace R1 := Lib.hid (R1.out.below hb)
        replace R2 := Lib.hid (R2.out.below hb)
        replace hbs2 := Nat.le_trans hbs2 hb.size
        clear hb HBQ HO1 hgq
        go_upto_region 36 with fail
        have hlv : w.heap.size ≤ w3.heap.size := hbs2
        go_cut [33, 34] (fun s33 s34 wx => ∃ gq : Nat, s33 = .pointer (some ⟨gq, 0, none⟩) ∧ s34 = .int .i64 0 ∧ Hid (Row wx gq 34 [.int .i64 FN, .int .i64 FD]) ∧ Hid (Below w3.heap.size w3 wx) ∧ w3.heap.size ≤ gq)
        case first =>
          refine wp_region_held_drew (S := fun w' => Row w' gx 48 XC ∧ Row w' bt 27 [.int .i32 b0, .int .i32 b1, .int .i32 b2, .int .i32 b3, .int .i32 b4, .int .i32 b5, .int .i32 b6, .int .i32 b7]) (by kernel_rfl) ⟨X5.out.drew, X6.out.drew⟩ (fun hH => ?_)
          refine wpAnyH_take (i := 0) (v := .slice (some ⟨gx, 0, none⟩) n c) rfl (by kernel_rfl) (by kernel_rfl) (by kernel_rfl) (fun _ _ _ h => h) (Or.inl ⟨by rfl, fun w h => by go_simp⟩) hH ?_
          try simp only [Act.put, List.getElem_toArray, List.getElem_cons_zero, List.getElem_cons_succ, List.setIfInBounds_toArray, List.set_cons_zero, List.set_cons_succ]
          refine wpAnyH_take (i := 1) (v := .int .i64 (k : Int)) rfl (by kernel_rfl) (by kernel_rfl) (by kernel_rfl) (fun _ _ _ h => h) (Or.inl ⟨by rfl, fun w h => by go_simp⟩) hH ?_
          try simp only [Act.put, List.getElem_toArray, List.getElem_cons_zero, List.getElem_cons_succ, List.setIfInBounds_toArray, List.set_cons_zero, List.set_cons_succ]
          refine wpAnyH_take (i := 2) (v := .pointer (some ⟨gx, k * 9, none⟩)) rfl (by kernel_rfl) (by kernel_rfl) (by kernel_rfl) (fun _ _ _ h => h) (Or.inl ⟨by rfl, fun w h => by go_simp⟩) hH ?_
          try simp only [Act.put, List.getElem_toArray, List.getElem_cons_zero, List.getElem_cons_succ, List.setIfInBounds_toArray, List.set_cons_zero, List.set_cons_succ]
          refine wpAnyH_take (i := 3) (v := .pointer (some ⟨gx, k * 9 + 1, none⟩)) rfl (by kernel_rfl) (by kernel_rfl) (by kernel_rfl) (fun _ _ _ h => h) (Or.inl ⟨by rfl, fun w h => by go_simp⟩) hH ?_
          try simp only [Act.put, List.getElem_toArray, List.getElem_cons_zero, List.getElem_cons_succ, List.setIfInBounds_toArray, List.set_cons_zero, List.set_cons_succ]
          refine wpAnyH_take (i := 4) rfl (by kernel_rfl) (by kernel_rfl) (by kernel_rfl) (fun _ _ _ h => h) (yieldsIf_load_mid (by rfl) _ _ rfl _ _ rfl [.int .i32 a0, .int .i32 a1, .int .i32 a2, .int .i32 a3, .int .i32 a4, .int .i32 a5, .int .i32 a6, .int .i32 a7] _ (fun w h => RG.out _ (hXC.out _ h.1)) heap_type rfl heap_size) hH ?_
          try simp only [Act.put, List.getElem_toArray, List.getElem_cons_zero, List.getElem_cons_succ, List.setIfInBounds_toArray, List.set_cons_zero, List.set_cons_succ]
          refine wpAnyH_take (i := 5) rfl (by kernel_rfl) (by kernel_rfl) (by kernel_rfl) (fun _ _ _ h => h) (yieldsIf_load_mid (by rfl) _ _ rfl _ _ rfl [.int .i32 b0, .int .i32 b1, .int .i32 b2, .int .i32 b3, .int .i32 b4, .int .i32 b5, .int .i32 b6, .int .i32 b7] _ (fun w h => h.2.rangeAt) heap_type rfl heap_size) hH ?_
          try simp only [Act.put, List.getElem_toArray, List.getElem_cons_zero, List.getElem_cons_succ, List.setIfInBounds_toArray, List.set_cons_zero, List.set_cons_succ]
          clear hH
          have Y0 := X5.out.drew; have Y1 := X6.out.drew
          have HQ : Below w3.heap.size w3 (World.drew w3) := (Below.refl _ _).drew
          obtain ⟨wd, hwd⟩ : ∃ x, x = World.drew w3 := ⟨_, rfl⟩
          rw [← hwd] at Y0 Y1 HQ ⊢
          clear hwd
          refine wpAnyH_ready (rs := [6, 10]) (by kernel_rfl) (by simp) ?_
          refine AllReadyH.cons rfl (fun K hK => ?_) ?_
          · try simp only [List.getElem_toArray, List.getElem_cons_zero, List.getElem_cons_succ]
            rw [if_pos (by rfl)]
            go_simp
            refine (HO2.out _).mono ?_
            rintro e we ⟨rfl, hb⟩
            refine hK.out _ _ ⟨Y0.below hb, Y1.below hb⟩ (fun _ => ?_)
            clear hK K
            try simp only [Act.put, List.getElem_toArray, List.getElem_cons_zero, List.getElem_cons_succ, List.setIfInBounds_toArray, List.set_cons_zero, List.set_cons_succ]
            replace Y0 := Y0.below hb
            replace Y1 := Y1.below hb
            replace HQ := below_then HQ HQ.size hb
            clear hb
            obtain ⟨wd, hwd⟩ : ∃ x, x = we := ⟨_, rfl⟩
            subst hwd
            refine wpAnyH_take (i := 7) (v := .tuple #[.agg #[.int .i64 FN, .int .i64 FD], .int .i64 0]) rfl (by kernel_rfl) (by kernel_rfl) (by kernel_rfl) (fun _ _ _ h => h) (Or.inl ⟨by rfl, fun w h => by go_simp⟩) ⟨Y0, Y1⟩ ?_
            try simp only [Act.put, List.getElem_toArray, List.getElem_cons_zero, List.getElem_cons_succ, List.setIfInBounds_toArray, List.set_cons_zero, List.set_cons_succ]
            refine wpAnyH_take (i := 8) (v := .agg #[.int .i64 FN, .int .i64 FD]) rfl (by kernel_rfl) (by kernel_rfl) (by kernel_rfl) (fun _ _ _ h => h) (Or.inl ⟨by rfl, fun w h => by go_simp⟩) ⟨Y0, Y1⟩ ?_
            try simp only [Act.put, List.getElem_toArray, List.getElem_cons_zero, List.getElem_cons_succ, List.setIfInBounds_toArray, List.set_cons_zero, List.set_cons_succ]
            refine wpAnyH_take (i := 9) (v := .int .i64 0) rfl (by kernel_rfl) (by kernel_rfl) (by kernel_rfl) (fun _ _ _ h => h) (Or.inl ⟨by rfl, fun w h => by go_simp⟩) ⟨Y0, Y1⟩ ?_
            try simp only [Act.put, List.getElem_toArray, List.getElem_cons_zero, List.getElem_cons_succ, List.setIfInBounds_toArray, List.set_cons_zero, List.set_cons_succ]
            refine wpAnyH_ready (rs := [10]) (by kernel_rfl) (by simp) ?_
            refine AllReadyH.cons rfl (fun K hK => ?_) ?_
            · try simp only [List.getElem_toArray, List.getElem_cons_zero, List.getElem_cons_succ]
              rw [if_pos (by rfl)]
              go_simp
              refine hK.out _ _ ⟨Y0.below (below_alloc1 _ _), Y1.below (below_alloc1 _ _)⟩ (fun _ => ?_)
              clear hK K
              try simp only [Act.put, List.getElem_toArray, List.getElem_cons_zero, List.getElem_cons_succ, List.setIfInBounds_toArray, List.set_cons_zero, List.set_cons_succ]
              have Z := Row.alloc wd [.int .i64 0, .int .i64 0] 34
              have hlY0 := Y0.lt
              have hlY1 := Y1.lt
              replace Y0 := Y0.below (below_alloc1 _ (.cells #[.int .i64 0, .int .i64 0] 34))
              replace Y1 := Y1.below (below_alloc1 _ (.cells #[.int .i64 0, .int .i64 0] 34))
              have hz := HQ.size
              replace HQ := HQ.alloc HQ.size (.cells #[.int .i64 0, .int .i64 0] 34)
              generalize World.alloc wd (.cells #[.int .i64 0, .int .i64 0] 34) = wz at Y0 Y1 HQ Z ⊢
              have hne0 : gx ≠ wd.heap.size := by omega
              have hne1 : bt ≠ wd.heap.size := by omega
              generalize wd.heap.size = gq at *
              clear hlY0 hlY1
              obtain ⟨wd, hwd⟩ : ∃ x, x = wz := ⟨_, rfl⟩
              subst hwd
              refine wpAnyH_ready (rs := [11]) (by kernel_rfl) (by simp) ?_
              refine AllReadyH.cons rfl (fun K hK => ?_) AllReadyH.nil
              try simp only [List.getElem_toArray, List.getElem_cons_zero, List.getElem_cons_succ]
              rw [if_pos (by rfl)]
              refine wp_store_mid _ _ _ rfl _ _ (List.toArray [.int .i64 FN, .int .i64 FD]) rfl rfl (Z.there rfl) frac_size (one2 _ _) ?_
              simp only [List.toList_toArray]
              refine hK.out _ _ ⟨Y0.setAway (by omega) _ _, Y1.setAway (by omega) _ _⟩ (fun _ => ?_)
              clear hK K
              try simp only [Act.put, List.getElem_toArray, List.getElem_cons_zero, List.getElem_cons_succ, List.setIfInBounds_toArray, List.set_cons_zero, List.set_cons_succ]
              replace Y0 := Y0.setAway (C := gq) (by omega) [.int .i64 FN, .int .i64 FD] 0
              replace Y1 := Y1.setAway (C := gq) (by omega) [.int .i64 FN, .int .i64 FD] 0
              replace HQ := below_setCells (b := w3.heap.size) (C := gq) (by omega) [.int .i64 FN, .int .i64 FD] 0 HQ
              replace Z := Z.setAll [.int .i64 FN, .int .i64 FD] rfl
              generalize World.setCells _ gq 0 [.int .i64 FN, .int .i64 FD] = ws at Y0 Y1 HQ Z ⊢
              refine wpAnyH_take (i := 12) (v := .int .i64 0) rfl (by kernel_rfl) (by kernel_rfl) (by kernel_rfl) (fun _ _ _ h => h) (Or.inl ⟨by rfl, fun w h => by go_simp⟩) ⟨Y0, Y1⟩ ?_
              try simp only [Act.put, List.getElem_toArray, List.getElem_cons_zero, List.getElem_cons_succ, List.setIfInBounds_toArray, List.set_cons_zero, List.set_cons_succ]
              refine wpAnyH_done (by kernel_rfl) ?_ _
              go_wp2_with fail
              go_meet
              exact ⟨gq, rfl, rfl, Lib.hid Z, Lib.hid HQ, by omega⟩
            exact AllReadyH.nil
          refine AllReadyH.cons rfl (fun K hK => ?_) ?_
          · try simp only [List.getElem_toArray, List.getElem_cons_zero, List.getElem_cons_succ]
            rw [if_pos (by rfl)]
            go_simp
            refine hK.out _ _ ⟨Y0.below (below_alloc1 _ _), Y1.below (below_alloc1 _ _)⟩ (fun _ => ?_)
            clear hK K
            try simp only [Act.put, List.getElem_toArray, List.getElem_cons_zero, List.getElem_cons_succ, List.setIfInBounds_toArray, List.set_cons_zero, List.set_cons_succ]
            have Z := Row.alloc wd [.int .i64 0, .int .i64 0] 34
            have hlY0 := Y0.lt
            have hlY1 := Y1.lt
            replace Y0 := Y0.below (below_alloc1 _ (.cells #[.int .i64 0, .int .i64 0] 34))
            replace Y1 := Y1.below (below_alloc1 _ (.cells #[.int .i64 0, .int .i64 0] 34))
            have hz := HQ.size
            replace HQ := HQ.alloc HQ.size (.cells #[.int .i64 0, .int .i64 0] 34)
            generalize World.alloc wd (.cells #[.int .i64 0, .int .i64 0] 34) = wz at Y0 Y1 HQ Z ⊢
            have hne0 : gx ≠ wd.heap.size := by omega
            have hne1 : bt ≠ wd.heap.size := by omega
            generalize wd.heap.size = gq at *
            clear hlY0 hlY1
            obtain ⟨wd, hwd⟩ : ∃ x, x = wz := ⟨_, rfl⟩
            subst hwd
            refine wpAnyH_ready (rs := [6]) (by kernel_rfl) (by simp) ?_
            refine AllReadyH.cons rfl (fun K hK => ?_) ?_
            · try simp only [List.getElem_toArray, List.getElem_cons_zero, List.getElem_cons_succ]
              rw [if_pos (by rfl)]
              go_simp
              refine (HO2.out _).mono ?_
              rintro e we ⟨rfl, hb⟩
              refine hK.out _ _ ⟨Y0.below hb, Y1.below hb⟩ (fun _ => ?_)
              clear hK K
              try simp only [Act.put, List.getElem_toArray, List.getElem_cons_zero, List.getElem_cons_succ, List.setIfInBounds_toArray, List.set_cons_zero, List.set_cons_succ]
              replace Y0 := Y0.below hb
              replace Y1 := Y1.below hb
              replace Z := Z.below hb
              replace HQ := below_then HQ HQ.size hb
              clear hb
              obtain ⟨wd, hwd⟩ : ∃ x, x = we := ⟨_, rfl⟩
              subst hwd
              refine wpAnyH_take (i := 7) (v := .tuple #[.agg #[.int .i64 FN, .int .i64 FD], .int .i64 0]) rfl (by kernel_rfl) (by kernel_rfl) (by kernel_rfl) (fun _ _ _ h => h) (Or.inl ⟨by rfl, fun w h => by go_simp⟩) ⟨Y0, Y1⟩ ?_
              try simp only [Act.put, List.getElem_toArray, List.getElem_cons_zero, List.getElem_cons_succ, List.setIfInBounds_toArray, List.set_cons_zero, List.set_cons_succ]
              refine wpAnyH_take (i := 8) (v := .agg #[.int .i64 FN, .int .i64 FD]) rfl (by kernel_rfl) (by kernel_rfl) (by kernel_rfl) (fun _ _ _ h => h) (Or.inl ⟨by rfl, fun w h => by go_simp⟩) ⟨Y0, Y1⟩ ?_
              try simp only [Act.put, List.getElem_toArray, List.getElem_cons_zero, List.getElem_cons_succ, List.setIfInBounds_toArray, List.set_cons_zero, List.set_cons_succ]
              refine wpAnyH_take (i := 9) (v := .int .i64 0) rfl (by kernel_rfl) (by kernel_rfl) (by kernel_rfl) (fun _ _ _ h => h) (Or.inl ⟨by rfl, fun w h => by go_simp⟩) ⟨Y0, Y1⟩ ?_
              try simp only [Act.put, List.getElem_toArray, List.getElem_cons_zero, List.getElem_cons_succ, List.setIfInBounds_toArray, List.set_cons_zero, List.set_cons_succ]
              refine wpAnyH_ready (rs := [11]) (by kernel_rfl) (by simp) ?_
              refine AllReadyH.cons rfl (fun K hK => ?_) AllReadyH.nil
              try simp only [List.getElem_toArray, List.getElem_cons_zero, List.getElem_cons_succ]
              rw [if_pos (by rfl)]
              refine wp_store_mid _ _ _ rfl _ _ (List.toArray [.int .i64 FN, .int .i64 FD]) rfl rfl (Z.there rfl) frac_size (one2 _ _) ?_
              simp only [List.toList_toArray]
              refine hK.out _ _ ⟨Y0.setAway (by omega) _ _, Y1.setAway (by omega) _ _⟩ (fun _ => ?_)
              clear hK K
              try simp only [Act.put, List.getElem_toArray, List.getElem_cons_zero, List.getElem_cons_succ, List.setIfInBounds_toArray, List.set_cons_zero, List.set_cons_succ]
              replace Y0 := Y0.setAway (C := gq) (by omega) [.int .i64 FN, .int .i64 FD] 0
              replace Y1 := Y1.setAway (C := gq) (by omega) [.int .i64 FN, .int .i64 FD] 0
              replace HQ := below_setCells (b := w3.heap.size) (C := gq) (by omega) [.int .i64 FN, .int .i64 FD] 0 HQ
              replace Z := Z.setAll [.int .i64 FN, .int .i64 FD] rfl
              generalize World.setCells _ gq 0 [.int .i64 FN, .int .i64 FD] = ws at Y0 Y1 HQ Z ⊢
              refine wpAnyH_take (i := 12) (v := .int .i64 0) rfl (by kernel_rfl) (by kernel_rfl) (by kernel_rfl) (fun _ _ _ h => h) (Or.inl ⟨by rfl, fun w h => by go_simp⟩) ⟨Y0, Y1⟩ ?_
              try simp only [Act.put, List.getElem_toArray, List.getElem_cons_zero, List.getElem_cons_succ, List.setIfInBounds_toArray, List.set_cons_zero, List.set_cons_succ]
              refine wpAnyH_done (by kernel_rfl) ?_ _
              go_wp2_with fail
              go_meet
              exact ⟨gq, rfl, rfl, Lib.hid Z, Lib.hid HQ, by omega⟩
            exact AllReadyH.nil
          exact AllReadyH.nil
        case rest =>
          clear hlv
          obtain ⟨gp, rfl, rfl, XP, HBQ, hgp⟩ := hcut
          obtain ⟨w4, hw4⟩ : ∃ x, x = wc := ⟨_, rfl⟩
          subst hw4
          have hb := HBQ.out
          replace HBH := Lib.hid (below_then HBH.out HBH.out.size hb)
          replace X5 := Lib.hid (X5.out.below hb)
          replace X6 := Lib.hid (X6.out.below hb)
          replace X18 := Lib.hid (X18.out.below hb)
          replace R1 := Lib.hid (R1.out.below hb)
          replace R2 := Lib.hid (R2.out.below hb)
          replace XQ := Lib.hid (XQ.out.below hb)
          replace hbs2 := Nat.le_trans hbs2 hb.size
          clear hb HBQ HO2 hgp
          have qq := far_le HL.out HW.out hP (show k < xs.length by rw [HXL.out]; exact hlt) hx
          rw [eN.out, eD.out, HFN.out, HFD.out] at qq
          obtain ⟨-, q1, q2, q3, q4, q5⟩ := qq
          have u1 : ¬ FD < 1 := by omega
          have u2 : ¬ D < 1 := by omega
          have u3 : ¬ FN * D < N * FD := by omega
          have v1 : IntKind.i64.wrap (FN * D) = FN * D := IntWalk.i64_in _ (by omega)
          have v2 : IntKind.i64.wrap (N * FD) = N * FD := IntWalk.i64_in _ (by omega)
          clear q1 q2 q3 q4 q5 hx
          go_wp2_with fail
          refine (sameFractions_true A1 A2 S.length c1 c2 S _ R1.out R2.out).mono ?_
          rintro e w5 ⟨rfl, hb⟩
          replace HBH := Lib.hid (below_then HBH.out HBH.out.size hb)
          replace X5 := Lib.hid (X5.out.below hb)
          replace X6 := Lib.hid (X6.out.below hb)
          replace X18 := Lib.hid (X18.out.below hb)
          replace XQ := Lib.hid (XQ.out.below hb)
          replace XP := Lib.hid (XP.out.below hb)
          replace hbs2 := Nat.le_trans hbs2 hb.size
          clear hb R1 R2
          obtain ⟨m0, m1⟩ := XQ.out.cells2; obtain ⟨m2, m3⟩ := XP.out.cells2; obtain ⟨m4, m5⟩ := X18.out.cells2
          go_wp2_with fail
          go_roundw
          case rel => exact ⟨k + 1, by omega, by go_num, X5, X6, X18, HBH, hbs2⟩
          case measure => simp [intOf]; omega
    · obtain rfl : k = n := by omega
      have hni : ¬ (k : Int) < (k : Int) := by omega
      go_upto_region 41 with fail
      exact bl41 w0 _ HB P hP _ rfl rfl _ (by assumption)
end Go.Proofs.Ytjbaaomodcgdgaa
