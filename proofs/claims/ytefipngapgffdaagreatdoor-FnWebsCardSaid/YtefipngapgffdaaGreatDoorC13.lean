/- Contracts: carded, l02Pass: one pass. -/
import Derived.Test.YtefipngapgffdaaGreatDoorC12
import Derived.IntWalk
namespace Go.Proofs.YtefipngapgffdaaGreatDoor
open Go.RowKit
set_option linter.unusedVariables false
set_option linter.unusedSimpArgs false
def ptL (D : List Int) (p : Int) (k : Nat) : List Int := (D.take k).map (fun x => x - lostI x p) ++ D.drop k
def ptF (D : List Int) (p : Int) (k : Nat) : Int := ((D.take k).map fun x => lostI x p).sum
theorem ptL_set {D : List Int} {p x : Int} {k : Nat} (L : List Value) (hx : D[k]? = some x) : (nums .i64 (ptL D p k) ++ L).set k (.int .i64 (x - lostI x p)) = nums .i64 (ptL D p (k + 1)) ++ L := by
  obtain ⟨hk, hx'⟩ := List.getElem?_eq_some_iff.1 hx
  have e1 : D.take (k + 1) = D.take k ++ [x] := by rw [List.take_add_one, hx]; rfl
  unfold ptL
  rw [List.drop_eq_getElem_cons hk, e1, hx']
  simp only [nums, List.map_append, List.map_cons, List.map_nil, List.append_assoc, List.cons_append, List.nil_append]
  exact set_app _ _ _ _ _ (by simp; omega)
theorem ptL_at {D : List Int} {p x : Int} {k : Nat} (L : List Value) (hx : D[k]? = some x) : (nums .i64 (ptL D p k) ++ L)[k]? = some (.int .i64 x) := by
  obtain ⟨hk, hx'⟩ := List.getElem?_eq_some_iff.1 hx
  rw [List.getElem?_append_left (by simp [nums, ptL]; omega), nums_get]
  unfold ptL
  rw [List.getElem?_append_right (by simp; omega), List.getElem?_drop]
  have e : k + (k - ((D.take k).map fun x => x - lostI x p).length) = k := by rw [List.length_map, List.length_take]; omega
  rw [e, hx]
  rfl
theorem ptF_succ {D : List Int} {p x : Int} {k : Nat} (hx : D[k]? = some x) : ptF D p (k + 1) = ptF D p k + lostI x p := by
  unfold ptF
  rw [List.take_add_one, hx]
  simp
theorem ptF_rng {D : List Int} {n : Nat} (h : Web D n) {p : Int} (hp : 0 ≤ p ∧ p ≤ 100) (k : Nat) : 0 ≤ ptF D p k ∧ ptF D p k ≤ 120000 := by
  have hs := sum_rng (f := fun x => lostI x p) (M := 10000) (D.take k) (fun x hx => by have h1 := h.2.2.2.2 x (List.mem_of_mem_take hx); have h2 := lost_rng h1 hp; show 0 ≤ lostI x p ∧ lostI x p ≤ 10000; omega)
  have h1 := h.1
  have h2 := h.2.2.2.1
  have h3 : (D.take k).length ≤ 12 := by rw [List.length_take]; omega
  unfold ptF
  omega
theorem ptL_0 (D : List Int) (p : Int) : ptL D p 0 = D := by simp [ptL]
theorem ptL_n {D : List Int} {n : Nat} (h : D.length = n) (p : Int) : ptL D p n = D.map fun x => x - lostI x p := by
  subst h; simp [ptL]
theorem ptF_n {D : List Int} {n : Nat} (h : D.length = n) (p : Int) : ptF D p n = (D.map fun x => lostI x p).sum := by
  subst h; simp [ptF]
set_option maxHeartbeats 2000000 in
theorem carded_any (A : Option Addr) (n c : Nat) (xs : List Int) (q p : Int) (w : World) (R : Rds w A n 1 (fun x : Int => [.int .i64 x]) xs) (hc : n ≤ c ∧ c ≤ 9223372036854775807) (W : Hid (Web xs n)) (hp : 0 ≤ p ∧ p ≤ 100) :
    Calls Tryz.prog 73 #[.slice A n c, .int .u8 q, .int .i64 p] w (RetOwnT 2 1 n (nums .i64 (cardL xs q p)) [.int .i64 (cardF xs q p)] w) := by
  obtain ⟨w1_, w2_, w3_, w4_, w5_⟩ := W.out
  clear w5_
  by_cases h1 : q = 114
  · subst h1
    have e1 : cardL xs 114 p = rollL xs 1 := by simp [cardL]
    have e2 : cardF xs 114 p = 0 := by simp [cardF]
    rw [e1, e2]
    clear e1 e2
    go_enter Tryz.func73, Tryz.ntmps73
    go_wp2_with fail
    refine (rolled_any A n c xs 1 _ R (by omega) (by omega) (by omega) hc.1 hc.2).mono ?_
    rintro e w2 ⟨A2, c2, rfl, O2, hb2⟩
    go_wp2_with fail
    go_ret2
    exact ⟨A2, c2, rfl, O2, hb2⟩
  · have f1 : (q == 114) = false := by simpa using h1
    have e1 : cardL xs q p = (cardD xs q).map fun x => x - lostI x p := by simp [cardL, h1]
    have e2 : cardF xs q p = ((cardD xs q).map fun x => lostI x p).sum := by simp [cardF, h1]
    rw [e1, e2]
    clear e1 e2
    have HD := Lib.hid (cardD_web W.out q)
    have hsm := card_small W.out q
    have hnn : 2 * (n / 2) = n := by omega
    by_cases h2 : q = 102
    · subst h2
      simp only [if_true] at hsm
      obtain ⟨hsS, hsL⟩ := hsm
      have hD : cardD xs 102 = outL (foldL xs) := by simp [cardD]
      have HDD := Lib.hid hD; have HSL := Lib.hid hsL; have HNN := Lib.hid hnn; clear hD hsL hnn
      have HSS := Lib.hid hsS; clear hsS
      go_enter Tryz.func73, Tryz.ntmps73
      go_wp2_with fail
      refine (folded_any A n c xs _ R (fun x hx => by have := W.out.2.2.2.2 x hx; omega) (by omega)).mono ?_
      rintro e w2 ⟨A2, c2, rfl, O2, hb2⟩
      go_wp2_with fail
      refine (drawn_any A2 (n / 2) c2 (foldL xs) _ (own_rds1 O2 (by omega)) HSS.out (by omega)).mono ?_
      rintro e w3 ⟨A3, c3, rfl, O3, hb3⟩
      have hB3 := Lib.hid (below_then hb2 hb2.size hb3)
      have hsz := hb2.size
      clear O2 hb3
      rw [HNN.out, ← HDD.out] at O3
      obtain ⟨g, L, rfl, hbg, hrow, hnc, hcm, hlen⟩ := own_row O3 (by omega) (by omega)
      have hgw : w.heap.size ≤ g := by omega
      have HR := Lib.hid hrow; have HLEN := Lib.hid hlen; have HO := Lib.hid O3; clear hrow hlen O3
      rw [HNN.out]
      clear hb2
      go_wp2_with fail
      go_loopw [9, 28] (fun f v wr => ∃ k : Nat, k ≤ n ∧ v = .int .i64 k ∧ f = .int .i64 (ptF (cardD xs 102) p k) ∧ Hid (Row wr g 2 (nums .i64 (ptL (cardD xs 102) p k) ++ L)) ∧ Hid (Below w.heap.size w wr)) (fun _ v _ => n - (intOf v).toNat)
      case atStart => exact ⟨0, by omega, rfl, by simp [ptF], Lib.hid (by rw [ptL_0]; exact HR.out), hB3⟩
      case round =>
        obtain ⟨k, hk, rfl, rfl, hr, hB⟩ := hrel
        by_cases hlt : k < n
        · obtain ⟨x, hx⟩ : ∃ x, (cardD xs 102)[k]? = some x := ⟨_, List.getElem?_eq_getElem (by rw [HD.out.1]; exact hlt)⟩
          have hxr := HD.out.2.2.2.2 x (List.mem_of_getElem? hx)
          have hl := lost_rng hxr hp
          have hT := ptF_rng HD.out hp k
          have cx : wr.cell? ⟨g, k, none⟩ = some (.int .i64 x) := by rw [hr.out.cell, ptL_at L hx]
          have cf := hr.out.frozen k
          have HST := Lib.hid (ptL_set (p := p) L hx); have HSF := Lib.hid (ptF_succ (p := p) hx)
          obtain ⟨T, hTd⟩ : ∃ T, ptF (cardD xs 102) p k = T := ⟨_, rfl⟩
          rw [hTd] at hT ⊢
          have HTD := Lib.hid hTd; clear hTd hx
          obtain ⟨u, hu⟩ : ∃ u, lostI x p = u := ⟨_, rfl⟩
          have v2 : (x * p).tdiv 100 = u := by rw [Int.tdiv_eq_ediv_of_nonneg hl.1]; exact hu
          rw [hu] at hl
          have HU := Lib.hid hu; clear hu
          have v1 : IntKind.i64.wrap (x * p) = x * p := IntWalk.i64_in _ (by omega)
          have v3 : IntKind.i64.wrap u = u := IntWalk.i64_in _ (by omega)
          go_wp2_with fail
          clear v1 v2 v3
          go_roundw
          case rel => exact ⟨k + 1, by omega, by go_num, by rw [HSF.out, HTD.out, HU.out], Lib.hid (by have := hr.out.set k (.int .i64 (x - u)); rw [← HU.out, HST.out] at this; rw [← HU.out]; exact this), Lib.hid (hB.out.setCell hgw _)⟩
          case measure => simp [intOf]; omega
        · obtain rfl : k = n := by omega
          go_wp2_with fail
          go_ret2
          refine ⟨some ⟨g, 0, none⟩, c3, by rw [← ptF_n HD.out.1]; rfl, ?_, hB.out⟩
          have := hr.out
          rw [ptL_n HD.out.1] at this
          exact own_of_row this hgw hnc hcm (by rw [nums_length, List.length_map, HD.out.1, Nat.mul_one]) (by rw [nums_length, List.length_map, HD.out.1]; have := HLEN.out; rw [nums_length, HD.out.1] at this; exact this)
    · have f2 : (q == 102) = false := by simpa using h2
      simp only [h2, if_false] at hsm
      obtain ⟨hsS, hsL⟩ := hsm
      have hD : cardD xs q = outL (crossL xs) := by simp [cardD, h2]
      have HDD := Lib.hid hD; have HSL := Lib.hid hsL; have HNN := Lib.hid hnn; clear hD hsL hnn
      have HSS := Lib.hid hsS; clear hsS
      go_enter Tryz.func73, Tryz.ntmps73
      go_wp2_with fail
      refine (crossed_any A n c xs _ R (fun x hx => by have := W.out.2.2.2.2 x hx; omega) (by omega)).mono ?_
      rintro e w2 ⟨A2, c2, rfl, O2, hb2⟩
      go_wp2_with fail
      refine (drawn_any A2 (n / 2) c2 (crossL xs) _ (own_rds1 O2 (by omega)) HSS.out (by omega)).mono ?_
      rintro e w3 ⟨A3, c3, rfl, O3, hb3⟩
      have hB3 := Lib.hid (below_then hb2 hb2.size hb3)
      have hsz := hb2.size
      clear O2 hb3
      rw [HNN.out, ← HDD.out] at O3
      obtain ⟨g, L, rfl, hbg, hrow, hnc, hcm, hlen⟩ := own_row O3 (by omega) (by omega)
      have hgw : w.heap.size ≤ g := by omega
      have HR := Lib.hid hrow; have HLEN := Lib.hid hlen; have HO := Lib.hid O3; clear hrow hlen O3
      rw [HNN.out]
      clear hb2
      go_wp2_with fail
      go_loopw [9, 28] (fun f v wr => ∃ k : Nat, k ≤ n ∧ v = .int .i64 k ∧ f = .int .i64 (ptF (cardD xs q) p k) ∧ Hid (Row wr g 2 (nums .i64 (ptL (cardD xs q) p k) ++ L)) ∧ Hid (Below w.heap.size w wr)) (fun _ v _ => n - (intOf v).toNat)
      case atStart => exact ⟨0, by omega, rfl, by simp [ptF], Lib.hid (by rw [ptL_0]; exact HR.out), hB3⟩
      case round =>
        obtain ⟨k, hk, rfl, rfl, hr, hB⟩ := hrel
        by_cases hlt : k < n
        · obtain ⟨x, hx⟩ : ∃ x, (cardD xs q)[k]? = some x := ⟨_, List.getElem?_eq_getElem (by rw [HD.out.1]; exact hlt)⟩
          have hxr := HD.out.2.2.2.2 x (List.mem_of_getElem? hx)
          have hl := lost_rng hxr hp
          have hT := ptF_rng HD.out hp k
          have cx : wr.cell? ⟨g, k, none⟩ = some (.int .i64 x) := by rw [hr.out.cell, ptL_at L hx]
          have cf := hr.out.frozen k
          have HST := Lib.hid (ptL_set (p := p) L hx); have HSF := Lib.hid (ptF_succ (p := p) hx)
          obtain ⟨T, hTd⟩ : ∃ T, ptF (cardD xs q) p k = T := ⟨_, rfl⟩
          rw [hTd] at hT ⊢
          have HTD := Lib.hid hTd; clear hTd hx
          obtain ⟨u, hu⟩ : ∃ u, lostI x p = u := ⟨_, rfl⟩
          have v2 : (x * p).tdiv 100 = u := by rw [Int.tdiv_eq_ediv_of_nonneg hl.1]; exact hu
          rw [hu] at hl
          have HU := Lib.hid hu; clear hu
          have v1 : IntKind.i64.wrap (x * p) = x * p := IntWalk.i64_in _ (by omega)
          have v3 : IntKind.i64.wrap u = u := IntWalk.i64_in _ (by omega)
          go_wp2_with fail
          clear v1 v2 v3
          go_roundw
          case rel => exact ⟨k + 1, by omega, by go_num, by rw [HSF.out, HTD.out, HU.out], Lib.hid (by have := hr.out.set k (.int .i64 (x - u)); rw [← HU.out, HST.out] at this; rw [← HU.out]; exact this), Lib.hid (hB.out.setCell hgw _)⟩
          case measure => simp [intOf]; omega
        · obtain rfl : k = n := by omega
          go_wp2_with fail
          go_ret2
          refine ⟨some ⟨g, 0, none⟩, c3, by rw [← ptF_n HD.out.1]; rfl, ?_, hB.out⟩
          have := hr.out
          rw [ptL_n HD.out.1] at this
          exact own_of_row this hgw hnc hcm (by rw [nums_length, List.length_map, HD.out.1, Nat.mul_one]) (by rw [nums_length, List.length_map, HD.out.1]; have := HLEN.out; rw [nums_length, HD.out.1] at this; exact this)
set_option maxHeartbeats 2000000 in
theorem l02Pass_any (A : Option Addr) (n c : Nat) (xs : List Int) (q p : Int) (w : World) (R : Rds w A n 1 (fun x : Int => [.int .i64 x]) xs) (hc : n ≤ c ∧ c ≤ 9223372036854775807) (W : Hid (Web xs n)) (hp : 0 ≤ p ∧ p ≤ 100) (hq : q = 114 ∨ q = 102 ∨ q = 99) :
    Calls Tryz.prog 42 #[.slice A n c, .int .u8 q, .int .i64 p] w (RetOwnT 2 1 n (nums .i64 (cardL xs q p)) [.int .i64 (cardF xs q p), .bool true] w) := by
  obtain ⟨w1_, w2_, w3_, w4_, w5_⟩ := W.out
  clear w5_
  by_cases h1 : q = 114
  · subst h1
    have e1 : cardL xs 114 p = rollL xs 1 := by simp [cardL]
    have e2 : cardF xs 114 p = 0 := by simp [cardF]
    rw [e1, e2]
    clear e1 e2
    go_enter Tryz.func42, Tryz.ntmps42
    go_wp2_with fail
    refine (l02Roll_any A n c xs 1 _ R (by omega) (by omega) (by omega)).mono ?_
    rintro e w2 ⟨A2, c2, rfl, O2, hb2⟩
    go_wp2_with fail
    go_ret3
    exact ⟨A2, c2, rfl, O2, hb2⟩
  · have f1 : (q == 114) = false := by simpa using h1
    have e1 : cardL xs q p = (cardD xs q).map fun x => x - lostI x p := by simp [cardL, h1]
    have e2 : cardF xs q p = ((cardD xs q).map fun x => lostI x p).sum := by simp [cardF, h1]
    rw [e1, e2]
    clear e1 e2
    have HD := Lib.hid (cardD_web W.out q)
    have hsm := card_small W.out q
    have hnn : 2 * (n / 2) = n := by omega
    by_cases h2 : q = 102
    · subst h2
      simp only [if_true] at hsm
      obtain ⟨hsS, hsL⟩ := hsm
      have hD : cardD xs 102 = outL (foldL xs) := by simp [cardD]
      have HDD := Lib.hid hD; have HSL := Lib.hid hsL; have HNN := Lib.hid hnn; clear hD hsL hnn
      have HSS := Lib.hid hsS; clear hsS
      go_enter Tryz.func42, Tryz.ntmps42
      go_wp2_with fail
      refine (l02Double_fold A n c xs _ R (fun x hx => by have := W.out.2.2.2.2 x hx; omega) (by omega)).mono ?_
      rintro e w2 ⟨A2, c2, rfl, O2, hb2⟩
      go_wp2_with fail
      refine (l02Out_any A2 (n / 2) c2 (foldL xs) _ (own_rds1 O2 (by omega)) HSS.out (by omega)).mono ?_
      rintro e w3 ⟨A3, c3, rfl, O3, hb3⟩
      have hB3 := Lib.hid (below_then hb2 hb2.size hb3)
      have hsz := hb2.size
      clear O2 hb3
      rw [HNN.out, ← HDD.out] at O3
      obtain ⟨g, L, rfl, hbg, hrow, hnc, hcm, hlen⟩ := own_row O3 (by omega) (by omega)
      have hgw : w.heap.size ≤ g := by omega
      have HR := Lib.hid hrow; have HLEN := Lib.hid hlen; have HO := Lib.hid O3; clear hrow hlen O3
      rw [HNN.out]
      clear hb2
      go_wp2_with fail
      go_loopw [10, 11] (fun f v wr => ∃ k : Nat, k ≤ n ∧ v = .int .i64 k ∧ f = .int .i64 (ptF (cardD xs 102) p k) ∧ Hid (Row wr g 2 (nums .i64 (ptL (cardD xs 102) p k) ++ L)) ∧ Hid (Below w.heap.size w wr)) (fun _ v _ => n - (intOf v).toNat)
      case atStart => exact ⟨0, by omega, rfl, by simp [ptF], Lib.hid (by rw [ptL_0]; exact HR.out), hB3⟩
      case round =>
        obtain ⟨k, hk, rfl, rfl, hr, hB⟩ := hrel
        by_cases hlt : k < n
        · obtain ⟨x, hx⟩ : ∃ x, (cardD xs 102)[k]? = some x := ⟨_, List.getElem?_eq_getElem (by rw [HD.out.1]; exact hlt)⟩
          have hxr := HD.out.2.2.2.2 x (List.mem_of_getElem? hx)
          have hl := lost_rng hxr hp
          have hT := ptF_rng HD.out hp k
          have cx : wr.cell? ⟨g, k, none⟩ = some (.int .i64 x) := by rw [hr.out.cell, ptL_at L hx]
          have cf := hr.out.frozen k
          have HST := Lib.hid (ptL_set (p := p) L hx); have HSF := Lib.hid (ptF_succ (p := p) hx)
          obtain ⟨T, hTd⟩ : ∃ T, ptF (cardD xs 102) p k = T := ⟨_, rfl⟩
          rw [hTd] at hT ⊢
          have HTD := Lib.hid hTd; clear hTd hx
          obtain ⟨u, hu⟩ : ∃ u, lostI x p = u := ⟨_, rfl⟩
          have v2 : (x * p).tdiv 100 = u := by rw [Int.tdiv_eq_ediv_of_nonneg hl.1]; exact hu
          rw [hu] at hl
          have HU := Lib.hid hu; clear hu
          have v1 : IntKind.i64.wrap (x * p) = x * p := IntWalk.i64_in _ (by omega)
          have v3 : IntKind.i64.wrap u = u := IntWalk.i64_in _ (by omega)
          go_wp2_with fail
          clear v1 v2 v3
          go_roundw
          case rel => exact ⟨k + 1, by omega, by go_num, by rw [HSF.out, HTD.out, HU.out], Lib.hid (by have := hr.out.set k (.int .i64 (x - u)); rw [← HU.out, HST.out] at this; rw [← HU.out]; exact this), Lib.hid (hB.out.setCell hgw _)⟩
          case measure => simp [intOf]; omega
        · obtain rfl : k = n := by omega
          go_wp2_with fail
          go_ret3
          refine ⟨some ⟨g, 0, none⟩, c3, by rw [← ptF_n HD.out.1]; rfl, ?_, hB.out⟩
          have := hr.out
          rw [ptL_n HD.out.1] at this
          exact own_of_row this hgw hnc hcm (by rw [nums_length, List.length_map, HD.out.1, Nat.mul_one]) (by rw [nums_length, List.length_map, HD.out.1]; have := HLEN.out; rw [nums_length, HD.out.1] at this; exact this)
    · have f2 : (q == 102) = false := by simpa using h2
      have h3 : q = 99 := by omega
      subst h3
      simp only [show ¬ (99 : Int) = 102 from by omega, if_false] at hsm
      obtain ⟨hsS, hsL⟩ := hsm
      have hD : cardD xs 99 = outL (crossL xs) := by simp [cardD]
      have HDD := Lib.hid hD; have HSL := Lib.hid hsL; have HNN := Lib.hid hnn; clear hD hsL hnn
      have HSS := Lib.hid hsS; clear hsS
      go_enter Tryz.func42, Tryz.ntmps42
      go_wp2_with fail
      refine (l02Double_cross A n c xs _ R (fun x hx => by have := W.out.2.2.2.2 x hx; omega) (by omega)).mono ?_
      rintro e w2 ⟨A2, c2, rfl, O2, hb2⟩
      go_wp2_with fail
      refine (l02Out_any A2 (n / 2) c2 (crossL xs) _ (own_rds1 O2 (by omega)) HSS.out (by omega)).mono ?_
      rintro e w3 ⟨A3, c3, rfl, O3, hb3⟩
      have hB3 := Lib.hid (below_then hb2 hb2.size hb3)
      have hsz := hb2.size
      clear O2 hb3
      rw [HNN.out, ← HDD.out] at O3
      obtain ⟨g, L, rfl, hbg, hrow, hnc, hcm, hlen⟩ := own_row O3 (by omega) (by omega)
      have hgw : w.heap.size ≤ g := by omega
      have HR := Lib.hid hrow; have HLEN := Lib.hid hlen; have HO := Lib.hid O3; clear hrow hlen O3
      rw [HNN.out]
      clear hb2
      go_wp2_with fail
      go_loopw [10, 11] (fun f v wr => ∃ k : Nat, k ≤ n ∧ v = .int .i64 k ∧ f = .int .i64 (ptF (cardD xs 99) p k) ∧ Hid (Row wr g 2 (nums .i64 (ptL (cardD xs 99) p k) ++ L)) ∧ Hid (Below w.heap.size w wr)) (fun _ v _ => n - (intOf v).toNat)
      case atStart => exact ⟨0, by omega, rfl, by simp [ptF], Lib.hid (by rw [ptL_0]; exact HR.out), hB3⟩
      case round =>
        obtain ⟨k, hk, rfl, rfl, hr, hB⟩ := hrel
        by_cases hlt : k < n
        · obtain ⟨x, hx⟩ : ∃ x, (cardD xs 99)[k]? = some x := ⟨_, List.getElem?_eq_getElem (by rw [HD.out.1]; exact hlt)⟩
          have hxr := HD.out.2.2.2.2 x (List.mem_of_getElem? hx)
          have hl := lost_rng hxr hp
          have hT := ptF_rng HD.out hp k
          have cx : wr.cell? ⟨g, k, none⟩ = some (.int .i64 x) := by rw [hr.out.cell, ptL_at L hx]
          have cf := hr.out.frozen k
          have HST := Lib.hid (ptL_set (p := p) L hx); have HSF := Lib.hid (ptF_succ (p := p) hx)
          obtain ⟨T, hTd⟩ : ∃ T, ptF (cardD xs 99) p k = T := ⟨_, rfl⟩
          rw [hTd] at hT ⊢
          have HTD := Lib.hid hTd; clear hTd hx
          obtain ⟨u, hu⟩ : ∃ u, lostI x p = u := ⟨_, rfl⟩
          have v2 : (x * p).tdiv 100 = u := by rw [Int.tdiv_eq_ediv_of_nonneg hl.1]; exact hu
          rw [hu] at hl
          have HU := Lib.hid hu; clear hu
          have v1 : IntKind.i64.wrap (x * p) = x * p := IntWalk.i64_in _ (by omega)
          have v3 : IntKind.i64.wrap u = u := IntWalk.i64_in _ (by omega)
          go_wp2_with fail
          clear v1 v2 v3
          go_roundw
          case rel => exact ⟨k + 1, by omega, by go_num, by rw [HSF.out, HTD.out, HU.out], Lib.hid (by have := hr.out.set k (.int .i64 (x - u)); rw [← HU.out, HST.out] at this; rw [← HU.out]; exact this), Lib.hid (hB.out.setCell hgw _)⟩
          case measure => simp [intOf]; omega
        · obtain rfl : k = n := by omega
          go_wp2_with fail
          go_ret3
          refine ⟨some ⟨g, 0, none⟩, c3, by rw [← ptF_n HD.out.1]; rfl, ?_, hB.out⟩
          have := hr.out
          rw [ptL_n HD.out.1] at this
          exact own_of_row this hgw hnc hcm (by rw [nums_length, List.length_map, HD.out.1, Nat.mul_one]) (by rw [nums_length, List.length_map, HD.out.1]; have := HLEN.out; rw [nums_length, HD.out.1] at this; exact this)
end Go.Proofs.YtefipngapgffdaaGreatDoor
