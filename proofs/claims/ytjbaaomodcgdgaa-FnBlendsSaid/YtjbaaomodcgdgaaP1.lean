/- NearestBlend: how far a blend is off: the plain law and the reference's contract. -/
import Derived.Test.YtjbaaomodcgdgaaU11
namespace Go.Proofs.Ytjbaaomodcgdgaa
open Go.RowKit
set_option linter.unusedVariables false
set_option linter.unusedSimpArgs false
theorem getD_le_hsL {L : List Int} (h : heapOk L = true) (hl : L.length = 8) (j : Nat) : L.getD j 0 ≤ hsL L := by
  obtain ⟨a0, a1, a2, a3, a4, a5, a6, a7, rfl⟩ := heap8 hl
  have h2 : ∀ x ∈ [a0, a1, a2, a3, a4, a5, a6, a7], 0 ≤ x ∧ x ≤ 1000 := by simpa [heapOk, inB] using h
  have b0 := h2 a0 (by simp); have b1 := h2 a1 (by simp); have b2 := h2 a2 (by simp); have b3 := h2 a3 (by simp)
  have b4 := h2 a4 (by simp); have b5 := h2 a5 (by simp); have b6 := h2 a6 (by simp); have b7 := h2 a7 (by simp)
  show _ ≤ hS a0 a1 a2 a3 a4 a5 a6 a7
  unfold hS
  match j with
  | 0 => show a0 ≤ _; omega
  | 1 => show a1 ≤ _; omega
  | 2 => show a2 ≤ _; omega
  | 3 => show a3 ≤ _; omega
  | 4 => show a4 ≤ _; omega
  | 5 => show a5 ≤ _; omega
  | 6 => show a6 ≤ _; omega
  | 7 => show a7 ≤ _; omega
  | j + 8 => show (0 : Int) ≤ _; omega
theorem vA_100 {xs : List (Int × List Int)} (h : flB xs = true) (h8 : ∀ x ∈ xs, x.2.length = 8) (hv : hvB xs = true) (j k : Nat) : 0 ≤ vA xs j k ∧ vA xs j k ≤ 100 := by
  refine ⟨(vA_bd h j k).1, ?_⟩
  unfold vA
  split
  · rename_i x hx
    have hm := List.mem_of_getElem? hx
    have h1 := getD_le_hsL (fl_heap h hm) (h8 x hm) j
    have h2 : hsL x.2 ≤ 100 := by simpa using List.all_eq_true.1 hv x hm
    omega
  · omega
theorem shaTo_bd2 {xs : List (Int × List Int)} {ps : List Int} {M : Int} (h : flB xs = true) (h8 : ∀ x ∈ xs, x.2.length = 8) (hv : hvB xs = true) (hg : ∀ k, 1 ≤ gA xs k ∧ gA xs k ≤ 100) (hp : ∀ k, 0 ≤ gd ps k ∧ gd ps k ≤ 8) (hM : 0 ≤ M ∧ M ≤ 1000000000000) (j : Nat) : ∀ k, 0 ≤ shaTo xs ps M j k ∧ shaTo xs ps M j k ≤ k * 800000000000000
  | 0 => ⟨Int.le_refl _, by simp [shaTo]⟩
  | k + 1 => by
    have ih := shaTo_bd2 h h8 hv hg hp hM j k
    have h1 := mul_bd2 (hp k).1 (hp k).2 (vA_100 h h8 hv j k).1 (vA_100 h h8 hv j k).2
    have h2 := tdiv_bd hM.1 (hg k).1
    have h3 := mul_bd2 h1.1 h1.2 h2.1 (show M.tdiv (gA xs k) ≤ 1000000000000 by omega)
    unfold shaTo
    omega
/-- How far a blend is off. -/
def offD (xs : List (Int × List Int)) (ps : List Int) (M G P : Int) (W : List Int) (j : Nat) : Int := shaTo xs ps M j xs.length * G - W.getD j 0 * P * M
def offT (xs : List (Int × List Int)) (ps : List Int) (M G P : Int) (W : List Int) : Nat → Int
  | 0 => 0
  | j + 1 => offT xs ps M G P W j + ((offD xs ps M G P W j).natAbs : Int)
/-- What is known of a list that may be blended, and of what is wanted. -/
structure NbOk (xs : List (Int × List Int)) (M G P : Int) (W : List Int) : Prop where
  fl : flB xs = true
  ok : FlOk xs
  hv : hvB xs = true
  nz : nzB xs = true
  h6 : xs.length ≤ 6
  hM : 0 ≤ M ∧ M ≤ 1000000000000
  hG : 0 ≤ G ∧ G ≤ 100
  hP : 0 ≤ P ∧ P ≤ 8
  hW : ∀ j, 0 ≤ W.getD j 0 ∧ W.getD j 0 ≤ 1000
  hWl : W.length = 8
theorem NbOk.bd {xs : List (Int × List Int)} {M G P : Int} {W ps : List Int} (h : NbOk xs M G P W) (hp : ∀ k, 0 ≤ gd ps k ∧ gd ps k ≤ 8) (j : Nat) :
    (0 ≤ shaTo xs ps M j xs.length ∧ shaTo xs ps M j xs.length ≤ 4800000000000000) ∧ (0 ≤ shaTo xs ps M j xs.length * G ∧ shaTo xs ps M j xs.length * G ≤ 480000000000000000) ∧ (0 ≤ W.getD j 0 * P ∧ W.getD j 0 * P ≤ 8000) ∧ (0 ≤ W.getD j 0 * P * M ∧ W.getD j 0 * P * M ≤ 8000000000000000) := by
  have h1 := shaTo_bd2 h.fl h.ok.len h.hv (gA_bd h.hv h.nz) hp h.hM j xs.length
  have h6 := h.h6
  have h1b : shaTo xs ps M j xs.length ≤ 4800000000000000 := by omega
  have h2 := mul_bd2 h1.1 h1b h.hG.1 h.hG.2
  have h3 := mul_bd2 (h.hW j).1 (h.hW j).2 h.hP.1 h.hP.2
  have h4 := mul_bd2 h3.1 h3.2 h.hM.1 h.hM.2
  exact ⟨⟨h1.1, h1b⟩, ⟨h2.1, by omega⟩, ⟨h3.1, by omega⟩, ⟨h4.1, by omega⟩⟩
theorem offT_bd {xs : List (Int × List Int)} {M G P : Int} {W ps : List Int} (h : NbOk xs M G P W) (hp : ∀ k, 0 ≤ gd ps k ∧ gd ps k ≤ 8) : ∀ j, 0 ≤ offT xs ps M G P W j ∧ offT xs ps M G P W j ≤ j * 500000000000000000
  | 0 => ⟨Int.le_refl _, by simp [offT]⟩
  | j + 1 => by
    have ih := offT_bd h hp j
    obtain ⟨_, h2, _, h4⟩ := h.bd hp j
    unfold offT offD
    omega
set_option maxHeartbeats 1000000 in
theorem l01Share_q (A B : Option Addr) (n c d : Nat) (xs : List (Int × List Int)) (ps : List Int) (j : Nat) (M : Int) (w : World) (R : Rds w A n 9 FlC xs) (hF : Hid (FlOk xs)) (R2 : Rds w B n 1 (fun x : Int => [.int .i64 x]) ps) (hfl : Hid (flB xs = true)) (h1 : Hid (hvB xs = true)) (h2 : Hid (nzB xs = true)) (h6 : n ≤ 6) (hj : j < 8) (hp : Hid (∀ k, 0 ≤ gd ps k ∧ gd ps k ≤ 8)) (hM : 0 ≤ M ∧ M ≤ 1000000000000) :
    Calls Try.prog 58 #[.slice A n c, .slice B n d, .int .i64 (j : Int), .int .i64 M] w fun e w' => e = .returned (.int .i64 (shaTo xs ps M j n)) ∧ ∃ q, w' = w.drewN q := by
  go_enter Try.func58, Try.ntmps58
  go_wp2_with fail
  go_loopw [9, 10] (fun s v wr => ∃ k : Nat, k ≤ n ∧ v = .int .i64 k ∧ s = .int .i64 (shaTo xs ps M j k) ∧ Hid (∃ q, wr = w.drewN q)) (fun _ v _ => n - (intOf v).toNat)
  case atStart => exact ⟨0, by omega, rfl, rfl, Lib.hid ⟨0, rfl⟩⟩
  case round =>
    obtain ⟨k, hk, rfl, rfl, HQ⟩ := hrel
    have hB : Below w.heap.size w wr := by obtain ⟨q, hq⟩ := HQ.out; rw [hq]; exact Joins.below_draws _ _ _
    by_cases hlt : k < n
    · obtain ⟨ad, x, rfl, hx, hm, hg⟩ := l01Grams_of (R.below hB) hF.out hlt
      obtain ⟨ad_, x_, hA, hx_, _, _, hc⟩ := (R.below hB).cells hlt
      cases hA
      rw [hx] at hx_
      cases hx_
      have hl8 := (hF.out x hm).2.1
      have e0 : wr.cell? ⟨(ad.add (k * 9)).block, (ad.add (k * 9)).off + 1 + j, none⟩ = some (.int .i32 (x.2.getD j 0)) := by
        have h := hc j (.int .i32 (x.2.getD j 0)) (by
          show (nums .i32 x.2)[j]? = _
          rw [nums_get, List.getElem?_eq_getElem (by omega), List.getD_eq_getElem?_getD, List.getElem?_eq_getElem (by omega)]
          rfl)
        rw [show (ad.add (k * 9)).off + 1 + j = (ad.add (k * 9)).off + (j + 1) by omega]
        exact h
      obtain ⟨bd, p, rfl, hpx, ep⟩ := (R2.below hB).at1 hlt
      have hgp := gd_of hpx
      have hpb := hp.out k
      rw [hgp] at hpb
      have hvb := vA_bd hfl.out j k
      have hsb := shaTo_bd hfl.out (gA_bd h1.out h2.out) hp.out hM j k
      have hgb := gA_bd h1.out h2.out k
      have e1 : shaTo xs ps M j (k + 1) = shaTo xs ps M j k + gd ps k * vA xs j k * M.tdiv (gA xs k) := rfl
      rw [gA_at hx, vA_at hx, hgp] at e1
      rw [gA_at hx] at hgb
      rw [vA_at hx] at hvb
      have E1 := Lib.hid e1; have HX := Lib.hid hx
      clear e1 hx hm hc hl8 hpx hgp hg
      generalize shaTo xs ps M j k = S at hsb E1 ⊢
      obtain ⟨g, hgg⟩ : ∃ g, hsL x.2 = g := ⟨_, rfl⟩
      rw [hgg] at hgb
      replace E1 := E1.out
      rw [hgg] at E1
      replace E1 := Lib.hid E1
      have HG := Lib.hid hgg; clear hgg
      generalize x.2.getD j 0 = v at hvb E1 e0
      have hp1 := mul_bd2 hpb.1 hpb.2 hvb.1 hvb.2
      have ht := tdiv_bd hM.1 hgb.1
      have hp2 := mul_bd2 hp1.1 hp1.2 ht.1 (show M.tdiv g ≤ 1000000000000 by omega)
      have hg0 : ¬ g = 0 := by omega
      have v1 : IntKind.i64.wrap (p * v) = p * v := IntWalk.i64_in _ (by omega)
      have v2 : IntKind.i64.wrap (M.tdiv g) = M.tdiv g := IntWalk.i64_in _ (by omega)
      have v3 : IntKind.i64.wrap (p * v * M.tdiv g) = p * v * M.tdiv g := IntWalk.i64_in _ (by omega)
      have v4 : IntKind.i64.wrap (S + p * v * M.tdiv g) = S + p * v * M.tdiv g := IntWalk.i64_in _ (by omega)
      have v5 : IntKind.i64.wrap v = v := IntWalk.i64_in _ (by omega)
      go_wp2_with fail
      go_quiet ((go_at_call 32; exact Calls.quiet_of_same (l01Grams_x ((R.below hB).below (Joins.below_draws _ _ _)) hF.out hlt HX.out HG.out)))
      go_wp2_with fail
      clear v1 v2 v3 v4 v5
      go_roundw
      case rel => exact ⟨k + 1, by omega, by go_num, by rw [E1.out], Lib.hid (by obtain ⟨q, hq⟩ := HQ.out; exact ⟨q + nq, by rw [hq, World.drewN_drewN]⟩)⟩
      case measure => simp [intOf]; omega
    · obtain rfl : k = n := by omega
      go_wp2_with fail
      go_ret
      exact ⟨rfl, HQ.out⟩
/-- The search's record. -/
abbrev srC (A : Option Addr) (n c : Nat) (W : List Int) (P M : Int) (best : Value) (le : Int) (fo : Bool) : List Value :=
  [.slice A n c, .int .i32 (W.getD 0 0), .int .i32 (W.getD 1 0), .int .i32 (W.getD 2 0), .int .i32 (W.getD 3 0), .int .i32 (W.getD 4 0), .int .i32 (W.getD 5 0), .int .i32 (W.getD 6 0), .int .i32 (W.getD 7 0), .int .i64 P, .int .i64 M, best, .int .i64 le, .bool fo]
set_option maxHeartbeats 2000000 in
theorem off_any (g E : Nat) (A B : Option Addr) (n c d : Nat) (xs : List (Int × List Int)) (W ps : List Int) (M G P : Int) (best : Value) (le : Int) (fo : Bool) (w : World) (hr : Hid (Row w g E (srC A n c W P M best le fo))) (hG : hsL W = G) (H : Hid (NbOk xs M G P W)) (R : Rds w A n 9 FlC xs) (R2 : Rds w B n 1 (fun x : Int => [.int .i64 x]) ps) (hp : Hid (∀ k, 0 ≤ gd ps k ∧ gd ps k ≤ 8)) :
    Calls Try.prog 76 #[.pointer (some ⟨g, 0, none⟩), .slice B n d] w fun e w' => e = .returned (.int .i64 (offT xs ps M G P W 8)) ∧ ∃ q, w' = w.drewN q := by
  have HXL := Lib.hid R.1
  have hgr := l01Grams_at g 1 (W.getD 0 0) (W.getD 1 0) (W.getD 2 0) (W.getD 3 0) (W.getD 4 0) (W.getD 5 0) (W.getD 6 0) (W.getD 7 0) w (hr.out.cell 1) (hr.out.cell 2) (hr.out.cell 3) (hr.out.cell 4) (hr.out.cell 5) (hr.out.cell 6) (hr.out.cell 7) (hr.out.cell 8) (Lib.hid (by
    intro x hx
    have hb : 0 ≤ x ∧ x ≤ 1000 := by
      simp only [List.mem_cons, List.not_mem_nil, or_false] at hx
      rcases hx with rfl | rfl | rfl | rfl | rfl | rfl | rfl | rfl <;> exact H.out.hW _
    exact WalkArith.wf_i32 (by omega)))
  have HGR := Lib.hid hgr; clear hgr
  have HG := Lib.hid hG; clear hG
  go_enter Try.func76, Try.ntmps76
  go_wp2_with fail
  refine HGR.out.mono ?_
  rintro e w1 ⟨rfl, rfl⟩
  rw [show hsL [W.getD 0 0, W.getD 1 0, W.getD 2 0, W.getD 3 0, W.getD 4 0, W.getD 5 0, W.getD 6 0, W.getD 7 0] = G from HG.out]
  go_wp2_with fail
  go_loopw [6, 7] (fun s v wr => ∃ j : Nat, j ≤ 8 ∧ v = .int .i64 j ∧ s = .int .i64 (offT xs ps M G P W j) ∧ Hid (∃ q, wr = w.drewN q)) (fun _ v _ => 8 - (intOf v).toNat)
  case atStart => exact ⟨0, by omega, rfl, rfl, Lib.hid ⟨0, rfl⟩⟩
  case round =>
    obtain ⟨j, hj, rfl, rfl, HQ⟩ := hrel
    have hB : Below w.heap.size w wr := by obtain ⟨q, hq⟩ := HQ.out; rw [hq]; exact Joins.below_draws _ _ _
    by_cases hlt : j < 8
    · have hj1 : (j : Int) < 8 := by omega
      have hr2 := hr.out.below hB
      have c0 : wr.cell? ⟨g, 0, none⟩ = some (.slice A n c) := hr2.cell 0
      have c9 : wr.cell? ⟨g, 9, none⟩ = some (.int .i64 P) := hr2.cell 9
      have c10 : wr.cell? ⟨g, 10, none⟩ = some (.int .i64 M) := hr2.cell 10
      have cj : wr.cell? ⟨g, 1 + j, none⟩ = some (.int .i32 (W.getD j 0)) := by
        have h8 : j = 0 ∨ j = 1 ∨ j = 2 ∨ j = 3 ∨ j = 4 ∨ j = 5 ∨ j = 6 ∨ j = 7 := by omega
        rcases h8 with rfl | rfl | rfl | rfl | rfl | rfl | rfl | rfl
        · exact hr2.cell 1
        · exact hr2.cell 2
        · exact hr2.cell 3
        · exact hr2.cell 4
        · exact hr2.cell 5
        · exact hr2.cell 6
        · exact hr2.cell 7
        · exact hr2.cell 8
      clear hr2
      obtain ⟨b1, b2, b3, b4⟩ := H.out.bd hp.out j
      have hot := offT_bd H.out hp.out j
      have e1 : offT xs ps M G P W (j + 1) = offT xs ps M G P W j + ((shaTo xs ps M j xs.length * G - W.getD j 0 * P * M).natAbs : Int) := rfl
      rw [HXL.out] at b1 b2 e1
      obtain ⟨S, hS⟩ : ∃ S, shaTo xs ps M j n = S := ⟨_, rfl⟩
      rw [hS] at b1 b2 e1
      obtain ⟨u, hu⟩ : ∃ u, W.getD j 0 = u := ⟨_, rfl⟩
      rw [hu] at b3 b4 e1 cj
      have hub := H.out.hW j
      rw [hu] at hub
      obtain ⟨T, hT⟩ : ∃ T, offT xs ps M G P W j = T := ⟨_, rfl⟩
      rw [hT] at hot e1
      rw [hT]
      have E1 := Lib.hid e1; have HS := Lib.hid hS
      clear e1 hS hu hT
      have hsh : ∀ w', Below w.heap.size w w' → Calls Try.prog 58 #[.slice A n c, .slice B n d, .int .i64 (j : Int), .int .i64 M] w' fun e w2 => e = .returned (.int .i64 S) ∧ ∃ q, w2 = w'.drewN q := fun w' hb => by
        have := l01Share_q A B n c d xs ps j M w' (R.below hb) (Lib.hid H.out.ok) (R2.below hb) (Lib.hid H.out.fl) (Lib.hid H.out.hv) (Lib.hid H.out.nz) (by rw [← HXL.out]; exact H.out.h6) hlt hp H.out.hM
        rw [HS.out] at this
        exact this
      have HSH := Lib.hid hsh; clear hsh
      obtain ⟨a, ha⟩ : ∃ a, S * G - u * P * M = a := ⟨_, rfl⟩
      have hab : -8000000000000000 ≤ a ∧ a ≤ 480000000000000000 := by omega
      have v1 : IntKind.i64.wrap (S * G) = S * G := IntWalk.i64_in _ (by omega)
      have v2 : IntKind.i64.wrap (u * P) = u * P := IntWalk.i64_in _ (by omega)
      have v3 : IntKind.i64.wrap (u * P * M) = u * P * M := IntWalk.i64_in _ (by omega)
      have v4 : IntKind.i64.wrap (S * G - u * P * M) = S * G - u * P * M := IntWalk.i64_in _ (by omega)
      have v5 : IntKind.i64.wrap u = u := IntWalk.i64_in _ (by omega)
      have v6 : IntKind.i64.wrap (T + ((S * G - u * P * M).natAbs : Int)) = T + ((S * G - u * P * M).natAbs : Int) := IntWalk.i64_in _ (by omega)
      clear ha
      go_wp2_with fail
      go_quiet (first
        | (go_at_call 58; exact Calls.quiet_of (HSH.out _ (hB.trans (Joins.below_draws _ _ _))))
        | (go_at_call 59; exact Calls.quiet_of_same ((l01Size_any (S * G - u * P * M) _ (by unfold Mid; omega)).mono fun e w2 ⟨h1, h2⟩ => ⟨h1, h2.symm⟩)))
      go_wp2_with fail
      clear v1 v2 v3 v4 v5 v6
      go_roundw
      case rel => exact ⟨j + 1, by omega, by go_num, by rw [E1.out], Lib.hid (by obtain ⟨q, hq⟩ := HQ.out; exact ⟨q + nq, by rw [hq, World.drewN_drewN]⟩)⟩
      case measure => simp [intOf]; omega
    · have hj1 : ¬ (j : Int) < 8 := by omega
      obtain rfl : j = 8 := by omega
      go_wp2_with fail
      go_ret
      exact ⟨rfl, HQ.out⟩
end Go.Proofs.Ytjbaaomodcgdgaa
