/- Contract: spec.ReadFleeces. -/
import Derived.Test.YtjjdmabhmpkijaaDoorJ7
import Derived.Test.YtjjdmabhmpkijaaDoorJ6
import Derived.Deep.AppendLies
namespace Go.Proofs.YtjjdmabhmpkijaaDoor
open Go.RowKit
set_option linter.unusedVariables false
set_option linter.unusedSimpArgs false
theorem rf_noK {l : List UInt8} (h : ¬ ((sp 10 l).getLast? = some [] ∧ (sp 10 l).length ≤ 7 ∧ (sp 10 l).dropLast.all lnK = true)) : rfR l = [] ∧ rfC l = 5 := by
  refine ⟨?_, ?_⟩
  all_goals
    have hk : ¬ rfK l = true := by
      intro e
      unfold rfK at e
      simp only [Bool.and_eq_true, decide_eq_true_eq] at e
      exact h ⟨e.1, e.2.1, e.2.2⟩
  · unfold rfR; rw [if_neg hk]
  · unfold rfC; rw [if_neg hk]
theorem rf_yesK {l : List UInt8} (h1 : (sp 10 l).getLast? = some []) (h2 : (sp 10 l).length ≤ 7) (h3 : (sp 10 l).dropLast.all lnK = true) : rfR l = (sp 10 l).dropLast.map lnV ∧ rfC l = 0 := by
  have hk : rfK l = true := by
    unfold rfK
    simp only [Bool.and_eq_true, decide_eq_true_eq]
    exact ⟨h1, h2, h3⟩
  refine ⟨?_, ?_⟩
  · unfold rfR; rw [if_pos hk]; rfl
  · unfold rfC; rw [if_pos hk]
theorem infoFl2 : (Tryd.prog.info? 38).map (fun i => (i.zero, i.size, i.bytes)) = some (some (.agg #[.int .i8 0, .int .i32 0, .int .i32 0, .int .i32 0, .int .i32 0, .int .i32 0, .int .i32 0, .int .i32 0, .int .i32 0]), 9, 36) := by kernel_rfl
theorem Rds.grownA {α : Type} {w w' : World} {ad : Addr} {n sz g : Nat} {C : α → List Value} {xs : List α} (R : Rds w (some ad) n sz C xs) (h : w.grownBy w' (some g)) (hne : ad.block ≠ g) : Rds w' (some ad) n sz C xs := by
  refine ⟨R.1, R.2.1, fun h0 => ?_⟩
  obtain ⟨a, ha, hc⟩ := R.2.2 h0
  cases ha
  refine ⟨ad, rfl, fun k x hx j v hv => ?_⟩
  have h1 := hc k x hx j v hv
  have h2 := World.block_lt_of_cell? _ _ h1
  have hb : (ad.add (k * sz + j)).block = ad.block := by unfold Addr.add; split <;> rfl
  rw [World.cell?_of_block (w := w) (h.block _ h2 (by rw [hb]; intro e; exact hne (by cases e; rfl)))]
  exact h1
def lvX (L : List ByteArray) : List (Int × List Int) := L.map fun x => lnV x.data.toList
theorem spN_size {c : UInt8} {s x : ByteArray} (h : x ∈ spB c s) : x.size ≤ s.size := by
  have h2 : ∀ (l : List UInt8), ∀ y ∈ sp c l, y.length ≤ l.length := by
    intro l
    induction l with
    | nil => intro y hy; simp [sp] at hy; subst hy; simp
    | cons z r ih =>
      intro y hy
      obtain ⟨a, t, e⟩ := sp_ne c r
      by_cases hx : z = c
      · subst hx
        rw [sp_hit] at hy
        rcases List.mem_cons.1 hy with rfl | h
        · simp
        · have := ih y h; simp; omega
      · rw [sp_miss hx r e] at hy
        rw [e] at ih
        rcases List.mem_cons.1 hy with rfl | h
        · have := ih a (by simp); simp; omega
        · have := ih y (by simp [h]); simp; omega
  obtain ⟨y, hy, rfl⟩ := List.mem_map.1 h
  have := h2 _ _ hy
  rw [str_len] at this
  rw [← str_len]
  simpa [btx] using this
theorem spN_len (c : UInt8) (s : ByteArray) : (spB c s).length ≤ s.size + 1 := by
  have h1 : ∀ l : List UInt8, (sp c l).length ≤ l.length + 1 := by
    intro l
    induction l with
    | nil => simp [sp]
    | cons x r ih =>
      obtain ⟨a, t, e⟩ := sp_ne c r
      by_cases hx : x = c
      · subst hx; rw [sp_hit, List.length_cons, List.length_cons]; omega
      · rw [sp_miss hx r e]; rw [e] at ih; rw [List.length_cons] at *; rw [List.length_cons]; omega
  have := h1 s.data.toList
  rw [str_len] at this
  unfold spB
  rw [List.length_map]
  exact this
theorem spN_data (c : UInt8) (s : ByteArray) : (spB c s).map (·.data.toList) = sp c s.data.toList := by
  unfold spB
  rw [List.map_map]
  exact map_self2 fun l _ => by simp [btx]
set_option maxRecDepth 100000 in
set_option maxHeartbeats 4000000 in
theorem sReadFleeces (s : ByteArray) (w : World) (hs : s.size ≤ 1048576) :
    Calls Tryd.prog 10 #[.string s] w (RetOwnT 38 9 (rfR s.data.toList).length ((rfR s.data.toList).flatMap FlC) [.int .i64 (rfC s.data.toList)] w) := by
  obtain ⟨i0, hi, hz0, hz1, hz2⟩ := info_parts infoFl2
  have HI := Lib.hid hi; clear hi
  have O0 := Lib.hid (own_empty0 w 38 9)
  have B0 := Lib.hid (below_alloc1 w (.cells #[] 38))
  go_enter Tryd.func10, Tryd.ntmps10
  go_wp2_with fail
  obtain ⟨wa, hwa⟩ : ∃ x, x = w.alloc (.cells #[] 38) := ⟨_, rfl⟩
  have hwz : wa.heap.size = w.heap.size + 1 := by rw [hwa, World.size_alloc]
  have HWZ := Lib.hid hwz
  rw [← hwa] at O0 B0 ⊢
  clear hwa hwz
  refine (l01Split_any s 10 _ hs).mono ?_
  rintro e w1 ⟨A, c, rfl, O, hb⟩
  have hle := spN_len 10 s
  obtain ⟨q, hq⟩ : ∃ q, (spB 10 s).length = q := ⟨_, rfl⟩
  rw [hq] at O hle ⊢
  have hq1 : 1 ≤ q := by
    obtain ⟨h, t, e⟩ := sp_ne 10 s.data.toList
    rw [← hq]
    unfold spB
    rw [List.length_map, e]
    simp
  have HQ := Lib.hid hq
  have HQD : Hid ((sp 10 s.data.toList).length = q) := Lib.hid (by rw [← spN_data, List.length_map]; exact hq)
  have hgw : ∃ ad : Addr, A = some ad ∧ wa.heap.size ≤ ad.block ∧ ad.block < w1.heap.size := by
    obtain ⟨g, cap, e, h1, h2⟩ := O.form (by omega)
    exact ⟨⟨g, 0, none⟩, by cases e; rfl, h1, h2⟩
  obtain ⟨ad, rfl, hg1, hg2⟩ := hgw
  obtain ⟨gw, hgw⟩ : ∃ gw, ad.block = gw := ⟨_, rfl⟩
  rw [hgw] at hg1 hg2
  have HGB := Lib.hid hgw
  clear hgw
  have HG1 := Lib.hid (Nat.le_trans hg1 (Nat.le_refl _)); have HG2 := Lib.hid hg2
  clear hg1 hg2
  have R := Lib.hid (own_strs O (by omega))
  have O1 := Lib.hid (own_below O0.out hb)
  have B1 := Lib.hid (below_then B0.out B0.out.size hb)
  clear O hb O0 B0 hq
  obtain ⟨p, rfl⟩ : ∃ p, q = p + 1 := ⟨q - 1, by omega⟩
  obtain ⟨ad0, x, hea, hx, hc⟩ := R.out.at1 (k := p) (by omega)
  obtain rfl : ad = ad0 := Option.some.inj hea
  clear hea
  have hxd : (sp 10 s.data.toList)[p]? = some x.data.toList := by rw [← spN_data, List.getElem?_map, hx]; rfl
  have hlast : (sp 10 s.data.toList).getLast? = some x.data.toList := by
    rw [List.getLast?_eq_getElem?, HQD.out]
    exact hxd
  have HLA := Lib.hid hlast
  clear hlast hxd hx
  have v1 : IntKind.i64.wrap (((p + 1 : Nat) : Int) - 1) = (p : Int) := (IntWalk.i64_in _ (by omega)).trans (by omega)
  have v1b : IntKind.i64.wrap ((p : Int) + 1 - 1) = (p : Int) := (IntWalk.i64_in _ (by omega)).trans (by omega)
  have hpl : (p : Int) < ((p + 1 : Nat) : Int) := by omega
  have hplb : (p : Int) < (p : Int) + 1 := by omega
  have hpln : p < p + 1 := by omega
  by_cases hbad : ¬ x.size = 0 ∨ 6 < p
  · have NO := Lib.hid (rf_noK (l := s.data.toList) (fun h => by
      rcases hbad with h1 | h1
      · have := h.1
        rw [HLA.out] at this
        have := congrArg List.length (Option.some.inj this)
        rw [str_len] at this
        exact h1 this
      · have := h.2.1
        rw [HQD.out] at this
        omega))
    have h0 : x.toList.isEmpty = decide (x.size = 0) := by
      rw [ByteArray.toList_eq]
      by_cases h : x.size = 0
      · rw [str_nil h]; rfl
      · rw [decide_eq_false h]
        cases hl : x.data.toList with
        | nil => exact absurd (by rw [← str_len, hl]; rfl) h
        | cons _ _ => rfl
    obtain ⟨z, hz⟩ : ∃ z, decide (x.size = 0) = z := ⟨_, rfl⟩
    rw [hz] at h0
    cases z
    · clear hbad hz
      go_wp2_with fail
      go_ret2
      rw [NO.out.1, NO.out.2]
      exact ⟨_, _, rfl, O1.out, B1.out⟩
    · have h6 : 6 < p := by
        rcases hbad with h | h
        · exact absurd (of_decide_eq_true hz) h
        · exact h
      have h6i : (6 : Int) < (p : Int) := by omega
      clear hbad hz
      go_wp2_with fail
      go_ret2
      rw [NO.out.1, NO.out.2]
      exact ⟨_, _, rfl, O1.out, B1.out⟩
  · have hx0 : x.size = 0 := by
      rcases Nat.eq_zero_or_pos x.size with h | h
      · exact h
      · exact absurd (.inl (by omega)) hbad
    have hp6 : p ≤ 6 := Nat.not_lt.1 (fun h => hbad (.inr h))
    have hxe : x.toList.isEmpty = true := by rw [ByteArray.toList_eq, str_nil hx0]; rfl
    have hp6i : ¬ (6 : Int) < (p : Int) := by omega
    have HLA2 : Hid ((sp 10 s.data.toList).getLast? = some []) := Lib.hid (by rw [HLA.out, str_nil hx0])
    clear hbad hx0 HLA
    go_wp2_with fail
    clear hc hxe v1 v1b hplb hpln hpl hp6i
    have O2 : Hid (w1.ownsRow w.heap.size 38 9 (.slice (some ⟨w.heap.size, 0, none⟩) 0 0) 0 ((lvX ((spB 10 s).take 0)).flatMap FlC)) := O1
    go_loopw [4, 7] (fun o v wr => ∃ (k g c' : Nat), k ≤ p ∧ v = .int .i64 k ∧ o = .slice (some ⟨g, 0, none⟩) k c' ∧ Hid (gw ≠ g ∧ gw < wr.heap.size) ∧ Hid (∀ j y, j < k → (spB 10 s)[j]? = some y → lnK y.data.toList = true) ∧ Hid (wr.ownsRow w.heap.size 38 9 (.slice (some ⟨g, 0, none⟩) k c') k ((lvX ((spB 10 s).take k)).flatMap FlC)) ∧ Hid (Below w.heap.size w wr) ∧ Hid (Rds wr (some ad) (p + 1) 1 (fun s : ByteArray => [.string s]) (spB 10 s))) (fun _ v _ => p - (intOf v).toNat)
    case atStart => exact ⟨0, _, _, by omega, rfl, rfl, Lib.hid ⟨by have := HG1.out; have := HWZ.out; omega, HG2.out⟩, Lib.hid (fun j y hj => absurd hj (Nat.not_lt_zero _)), O2, B1, R⟩
    case round =>
      clear O1 O2 B1 R
      obtain ⟨k, g, c', hk, rfl, rfl, HGW, HY, O, HB, R⟩ := hrel
      by_cases hlt : k < p
      · have hki : (k : Int) < (p : Int) := by omega
        have hkp : k < p + 1 := by omega
        have hkpi : (k : Int) < ((p + 1 : Nat) : Int) := by omega
        obtain ⟨ad2, y, he, hy, hc⟩ := R.out.at1 hkp
        obtain rfl : ad = ad2 := Option.some.inj he
        have hys := spN_size (List.mem_of_getElem? hy)
        have HYY := Lib.hid hy
        clear he hy
        go_wp2_with fail
        refine (l01Line_any y _ (by omega)).mono ?_
        rintro e w5 ⟨f, a0, a1, a2, a3, a4, a5, a6, a7, rfl, hv, hb5⟩
        have HB5 := Lib.hid (below_then HB.out HB.out.size hb5)
        have O5 := Lib.hid (own_below O.out hb5)
        have R5 := Lib.hid (R.out.below hb5)
        have HG5 := Lib.hid (Nat.lt_of_lt_of_le HGW.out.2 hb5.size)
        clear hb5 hc O HB R
        cases hp : lnK y.data.toList
        · have NO := Lib.hid (rf_noK (l := s.data.toList) (fun h => by
            have h3 := List.all_eq_true.1 h.2.2 y.data.toList (by
              have h1 : (sp 10 s.data.toList)[k]? = some y.data.toList := by rw [← spN_data, List.getElem?_map, HYY.out]; rfl
              refine List.mem_of_getElem? (i := k) ?_
              rw [List.getElem?_dropLast, HQD.out, if_pos (by omega)]
              exact h1)
            rw [hp] at h3
            cases h3))
          have HFB := Lib.hid (HB5.out.alloc HB5.out.size (.cells #[.int .i8 f, .int .i32 a0, .int .i32 a1, .int .i32 a2, .int .i32 a3, .int .i32 a4, .int .i32 a5, .int .i32 a6, .int .i32 a7] 38))
          have HFO := Lib.hid (own_lower (own_empty0 (w5.alloc (.cells #[.int .i8 f, .int .i32 a0, .int .i32 a1, .int .i32 a2, .int .i32 a3, .int .i32 a4, .int .i32 a5, .int .i32 a6, .int .i32 a7] 38)) 38 9) HFB.out.size)
          have HFB2 := Lib.hid (HFB.out.alloc HFB.out.size (.cells #[] 38))
          clear hv hp O5 R5
          go_wp2_with fail
          go_ret2
          rw [NO.out.1, NO.out.2]
          exact ⟨_, _, rfl, by have := HFO.out; simp only [World.size_alloc] at this; exact this, HFB2.out⟩
        · have HV := Lib.hid (hv hp)
          have HY2 : Hid (∀ j y, j < k + 1 → (spB 10 s)[j]? = some y → lnK y.data.toList = true) := Lib.hid (fun j y2 hj h2 => by
            rcases Nat.lt_or_ge j k with h | h
            · exact HY.out j y2 h h2
            · obtain rfl : j = k := by omega
              rw [HYY.out] at h2
              obtain rfl := Option.some.inj h2
              exact hp)
          have HT : Hid ((lvX ((spB 10 s).take (k + 1))).flatMap FlC = (lvX ((spB 10 s).take k)).flatMap FlC ++ [.int .i8 f, .int .i32 a0, .int .i32 a1, .int .i32 a2, .int .i32 a3, .int .i32 a4, .int .i32 a5, .int .i32 a6, .int .i32 a7]) := Lib.hid (by
            rw [List.take_add_one, HYY.out]
            simp only [lvX, List.map_append, List.flatMap_append, Option.toList_some, List.map_cons, List.map_nil, List.flatMap_cons, List.flatMap_nil, List.append_nil]
            rw [← HV.out]
            rfl)
          have OA := Lib.hid (O5.out.alloc (.cells #[.int .i8 f, .int .i32 a0, .int .i32 a1, .int .i32 a2, .int .i32 a3, .int .i32 a4, .int .i32 a5, .int .i32 a6, .int .i32 a7] 38))
          have BA := Lib.hid (HB5.out.alloc HB5.out.size (.cells #[.int .i8 f, .int .i32 a0, .int .i32 a1, .int .i32 a2, .int .i32 a3, .int .i32 a4, .int .i32 a5, .int .i32 a6, .int .i32 a7] 38))
          have RA := Lib.hid (R5.out.below (below_alloc1 w5 (.cells #[.int .i8 f, .int .i32 a0, .int .i32 a1, .int .i32 a2, .int .i32 a3, .int .i32 a4, .int .i32 a5, .int .i32 a6, .int .i32 a7] 38)))
          clear hv hp HY HV O5 HB5 R5 hys
          have X8 := Row.alloc w5 [.int .i8 f, .int .i32 a0, .int .i32 a1, .int .i32 a2, .int .i32 a3, .int .i32 a4, .int .i32 a5, .int .i32 a6, .int .i32 a7] 38
          go_upto_region 12 with fail
          obtain ⟨w6, hw6⟩ : ∃ x, x = w5.alloc (.cells #[.int .i8 f, .int .i32 a0, .int .i32 a1, .int .i32 a2, .int .i32 a3, .int .i32 a4, .int .i32 a5, .int .i32 a6, .int .i32 a7] 38) := ⟨_, rfl⟩
          have HG6 : Hid (w5.heap.size < w6.heap.size) := Lib.hid (by rw [hw6, World.size_alloc]; omega)
          rw [← hw6] at X8 OA BA RA ⊢
          have hlt5 := X8.lt
          clear hw6
          obtain ⟨e0, e1, e2, e3, e4, e5, e6, e7, e8⟩ := X8.cells9
          clear X8
          have OA2 := Lib.hid (OA.out.alloc (.cells #[.int .i8 f, .int .i32 a0, .int .i32 a1, .int .i32 a2, .int .i32 a3, .int .i32 a4, .int .i32 a5, .int .i32 a6, .int .i32 a7] 38))
          have BA2 := Lib.hid (BA.out.alloc BA.out.size (.cells #[.int .i8 f, .int .i32 a0, .int .i32 a1, .int .i32 a2, .int .i32 a3, .int .i32 a4, .int .i32 a5, .int .i32 a6, .int .i32 a7] 38))
          have RA2 := Lib.hid (RA.out.below (below_alloc1 w6 (.cells #[.int .i8 f, .int .i32 a0, .int .i32 a1, .int .i32 a2, .int .i32 a3, .int .i32 a4, .int .i32 a5, .int .i32 a6, .int .i32 a7] 38)))
          have CN := Lib.hid (row_cells w6 [.int .i8 f, .int .i32 a0, .int .i32 a1, .int .i32 a2, .int .i32 a3, .int .i32 a4, .int .i32 a5, .int .i32 a6, .int .i32 a7] 38)
          have hb6 : w.heap.size ≤ w6.heap.size := BA.out.size
          go_wp2_with ((at_builtin; refine wpList_append_lies _ (by rfl) _ _ 25 (by rfl) w.heap.size 38 i0 (.agg #[.int .i8 0, .int .i32 0, .int .i32 0, .int .i32 0, .int .i32 0, .int .i32 0, .int .i32 0, .int .i32 0, .int .i32 0]) 9 36 Tryd.underlying25 HI.out hz0 hz1 hz2 rfl (by omega) (.slice (some ⟨g, 0, none⟩) k c') k ((lvX ((spB 10 s).take k)).flatMap FlC) (by rfl) OA2.out ⟨w6.heap.size, 0, none⟩ 1 1 [.int .i8 f, .int .i32 a0, .int .i32 a1, .int .i32 a2, .int .i32 a3, .int .i32 a4, .int .i32 a5, .int .i32 a6, .int .i32 a7] (by rfl) (by rfl) CN.out (by simp [Value.oneCell']) (by omega) (by simp only [maxLen]; omega) (by omega) (by simp only [World.size_alloc]; omega) _ rfl ?_; intro g2 c2 w3 O3 hg3 hl3 hlt3))
          have R3 : Hid (Rds w3 (some ad) (p + 1) 1 (fun s : ByteArray => [.string s]) (spB 10 s)) := Lib.hid (RA2.out.grownA (g := g) hg3 (by rw [HGB.out]; exact HGW.out.1))
          have HB3 := Lib.hid (BA2.out.grown hg3 BA2.out.size (fun k e => by have := (own_base OA2.out k e).1; omega))
          have HG3 : Hid (gw ≠ g2 ∧ gw < w3.heap.size) := Lib.hid (by
            have h1 := hg3.size
            simp only [World.size_alloc] at h1 hl3
            have h2 := HG5.out
            have h3 := HG6.out
            refine ⟨?_, by omega⟩
            rcases hl3 with h | h
            · have : g = g2 := by simpa [Value.ownBlock] using h
              rw [← this]; exact HGW.out.1
            · omega)
          rw [← HT.out] at O3
          clear hg3 hl3 hlt3 e0 e1 e2 e3 e4 e5 e6 e7 e8 RA OA BA RA2 OA2 BA2 CN
          go_roundw
          case rel => exact ⟨k + 1, g2, c2, by omega, by go_num, rfl, HG3, HY2, Lib.hid O3, HB3, R3⟩
          case measure => simp [intOf]; omega
      · obtain rfl : k = p := by omega
        have hni : ¬ (k : Int) < (k : Int) := by omega
        have YES := Lib.hid (rf_yesK (l := s.data.toList) HLA2.out (by rw [HQD.out]; omega) (by
          rw [List.all_eq_true]
          intro y hy
          obtain ⟨j, hj, rfl⟩ := List.getElem_of_mem hy
          have hj2 := hj
          rw [List.length_dropLast, HQD.out] at hj2
          rw [List.getElem_dropLast]
          have h1 : (spB 10 s)[j]? = some (btx ((sp 10 s.data.toList)[j]'(by rw [HQD.out]; omega))) := by
            unfold spB
            rw [List.getElem?_map, List.getElem?_eq_getElem (by rw [HQD.out]; omega)]
            rfl
          have := HY.out j _ (by omega) h1
          simpa [btx] using this))
        have HE : Hid (lvX ((spB 10 s).take k) = (sp 10 s.data.toList).dropLast.map lnV) := Lib.hid (by
          rw [List.dropLast_eq_take, HQD.out, ← spN_data, ← List.map_take, List.map_map]
          rfl)
        have HEL : Hid (((sp 10 s.data.toList).dropLast.map lnV).length = k) := Lib.hid (by rw [List.length_map, List.length_dropLast, HQD.out]; omega)
        go_wp2_with fail
        go_ret2
        rw [YES.out.1, YES.out.2, HEL.out, ← HE.out]
        exact ⟨_, _, rfl, O.out, HB.out⟩
end Go.Proofs.YtjjdmabhmpkijaaDoor
