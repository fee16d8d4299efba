/- Contract: spec.l01Line. -/
import Derived.Test.YtjjdmabhmpkijaaDoorJ4
namespace Go.Proofs.YtjjdmabhmpkijaaDoor
open Go.RowKit
set_option linter.unusedVariables false
set_option linter.unusedSimpArgs false
theorem lnS_eq {l h : List UInt8} {t : List (List UInt8)} (e : sp 32 l = h :: t) : lnS l = if t.length = 8 ∧ 2 ≤ h.length ∧ h.getLast? = some 58 ∧ nok h.dropLast = true ∧ nvv h.dropLast ≤ 9 ∧ (t.all fun w => nok w && decide (nvv w ≤ 1000)) = true then some (nvv h.dropLast, t.map nvv) else none := by
  unfold lnS
  rw [e]
theorem ln_no {l h : List UInt8} {t : List (List UInt8)} (e : sp 32 l = h :: t) (hn : ¬ (t.length = 8 ∧ 2 ≤ h.length ∧ h.getLast? = some 58 ∧ nok h.dropLast = true ∧ nvv h.dropLast ≤ 9 ∧ (t.all fun w => nok w && decide (nvv w ≤ 1000)) = true)) : lnK l = false := by
  unfold lnK
  rw [lnS_eq e, if_neg hn]
  rfl
theorem ln_noW {l h : List UInt8} {t : List (List UInt8)} (e : sp 32 l = h :: t) {k : Nat} {x : List UInt8} (hx : t[k]? = some x) (hb : nok x = false ∨ 1000 < nvv x) : lnK l = false := by
  refine ln_no e ?_
  rintro ⟨_, _, _, _, _, h6⟩
  have := List.all_eq_true.1 h6 x (List.mem_of_getElem? hx)
  simp only [Bool.and_eq_true, decide_eq_true_eq] at this
  rcases hb with hb | hb
  · rw [hb] at this; exact Bool.noConfusion this.1
  · omega
theorem eight {α : Type} {t : List α} {d : α} (h : t.length = 8) : t = (List.range 8).map fun j => t.getD j d := by
  apply List.ext_getElem?
  intro i
  by_cases hi : i < 8
  · rw [List.getElem?_map, List.getElem?_range hi, List.getElem?_eq_getElem (by omega)]
    simp [List.getD_eq_getElem?_getD, List.getElem?_eq_getElem (show i < t.length by omega)]
  · rw [List.getElem?_eq_none (by omega), List.getElem?_eq_none (by simp; omega)]
theorem ln_yes {l h : List UInt8} {t : List (List UInt8)} (e : sp 32 l = h :: t) (h8 : t.length = 8) (h2 : 2 ≤ h.length) (hc : h.getLast? = some 58) (h3 : nok h.dropLast = true) (h4 : nvv h.dropLast ≤ 9)
    (hw : ∀ j, j < 8 → nok (t.getD j []) = true ∧ nvv (t.getD j []) ≤ 1000) : lnK l = true ∧ lnV l = (nvv h.dropLast, (List.range 8).map fun j => nvv (t.getD j [])) := by
  have hC : t.length = 8 ∧ 2 ≤ h.length ∧ h.getLast? = some 58 ∧ nok h.dropLast = true ∧ nvv h.dropLast ≤ 9 ∧ (t.all fun w => nok w && decide (nvv w ≤ 1000)) = true := by
    refine ⟨h8, h2, hc, h3, h4, ?_⟩
    rw [List.all_eq_true, eight (d := []) h8]
    intro y hy
    obtain ⟨j, hj, rfl⟩ := List.mem_map.1 hy
    obtain ⟨p, q⟩ := hw j (List.mem_range.1 hj)
    rw [p]
    simpa using q
  have hs := lnS_eq e
  rw [if_pos hC] at hs
  refine ⟨by unfold lnK; rw [hs]; rfl, ?_⟩
  unfold lnV
  rw [hs]
  show (_, _) = (_, _)
  congr 1
  conv => lhs; rw [eight (d := []) h8]
  rw [List.map_map]
  rfl
theorem grownBy_setCell1 (w : World) (b o : Nat) (v : Value) : w.grownBy (w.setCell ⟨b, o, none⟩ v) (some b) :=
  ⟨rfl, rfl, rfl, by rw [World.size_setCell]; exact Nat.le_refl _, fun k _ hk => Below.heap_setCell _ _ _ k (fun e => hk (by rw [e]))⟩
theorem fg8 (g : Nat → Int) (k : Nat) : ∃ a0 a1 a2 a3 a4 a5 a6 a7, fgL g k = [a0, a1, a2, a3, a4, a5, a6, a7] := ⟨_, _, _, _, _, _, _, _, rfl⟩
theorem res9s (t : Array Value) (w : World) (b : Nat) (ok : Bool) {f a0 a1 a2 a3 a4 a5 a6 a7 : Int} (h2 : t[2]?.getD undef = .pointer (some ⟨b, 0, none⟩)) (h3 : t[3]?.getD undef = .bool ok) (S : Row w b 38 [.int .i8 f, .int .i32 a0, .int .i32 a1, .int .i32 a2, .int .i32 a3, .int .i32 a4, .int .i32 a5, .int .i32 a6, .int .i32 a7]) :
    (results Tryd.f21 t).run Tryd.prog w = .ok (.tuple #[.agg #[.int .i8 f, .int .i32 a0, .int .i32 a1, .int .i32 a2, .int .i32 a3, .int .i32 a4, .int .i32 a5, .int .i32 a6, .int .i32 a7], .bool ok]) w := by
  obtain ⟨s0, s1, s2, s3, s4, s5, s6, s7, s8⟩ := S.cells9
  simp [results, Tryd.results21, go_sem, h2, h3, s0, s1, s2, s3, s4, s5, s6, s7, s8]
set_option maxRecDepth 100000 in
set_option maxHeartbeats 4000000 in
theorem l01Line_any (s : ByteArray) (w : World) (hs : s.size ≤ 1048576) :
    Calls Tryd.prog 21 #[.string s] w fun e w' => ∃ f a0 a1 a2 a3 a4 a5 a6 a7, e = .returned (.tuple #[.agg #[.int .i8 f, .int .i32 a0, .int .i32 a1, .int .i32 a2, .int .i32 a3, .int .i32 a4, .int .i32 a5, .int .i32 a6, .int .i32 a7], .bool (lnK s.data.toList)]) ∧ (lnK s.data.toList = true → (f, [a0, a1, a2, a3, a4, a5, a6, a7]) = lnV s.data.toList) ∧ Below w.heap.size w w' := by
  obtain ⟨hd, tl, hsp⟩ := sp_ne 32 s.data.toList
  have HSP := Lib.hid hsp
  have hspb : spB 32 s = btx hd :: tl.map btx := by unfold spB; rw [hsp]; rfl
  have X2 : Hid (Row ((w.alloc (.cells #[.int .i8 0, .int .i32 0, .int .i32 0, .int .i32 0, .int .i32 0, .int .i32 0, .int .i32 0, .int .i32 0, .int .i32 0] 38)).alloc (.cells #[.int .i8 0, .int .i32 0, .int .i32 0, .int .i32 0, .int .i32 0, .int .i32 0, .int .i32 0, .int .i32 0, .int .i32 0] 38)) w.heap.size 38 [.int .i8 0, .int .i32 0, .int .i32 0, .int .i32 0, .int .i32 0, .int .i32 0, .int .i32 0, .int .i32 0, .int .i32 0]) := Lib.hid ((Row.alloc w _ _).below (below_alloc1 _ _))
  have X4 : Hid (Row ((w.alloc (.cells #[.int .i8 0, .int .i32 0, .int .i32 0, .int .i32 0, .int .i32 0, .int .i32 0, .int .i32 0, .int .i32 0, .int .i32 0] 38)).alloc (.cells #[.int .i8 0, .int .i32 0, .int .i32 0, .int .i32 0, .int .i32 0, .int .i32 0, .int .i32 0, .int .i32 0, .int .i32 0] 38)) (w.heap.size + 1) 38 [.int .i8 0, .int .i32 0, .int .i32 0, .int .i32 0, .int .i32 0, .int .i32 0, .int .i32 0, .int .i32 0, .int .i32 0]) := Lib.hid (by have := Row.alloc (w.alloc (.cells #[.int .i8 0, .int .i32 0, .int .i32 0, .int .i32 0, .int .i32 0, .int .i32 0, .int .i32 0, .int .i32 0, .int .i32 0] 38)) [.int .i8 0, .int .i32 0, .int .i32 0, .int .i32 0, .int .i32 0, .int .i32 0, .int .i32 0, .int .i32 0, .int .i32 0] 38; rw [World.size_alloc] at this; exact this)
  have HB : Hid (Below w.heap.size w ((w.alloc (.cells #[.int .i8 0, .int .i32 0, .int .i32 0, .int .i32 0, .int .i32 0, .int .i32 0, .int .i32 0, .int .i32 0, .int .i32 0] 38)).alloc (.cells #[.int .i8 0, .int .i32 0, .int .i32 0, .int .i32 0, .int .i32 0, .int .i32 0, .int .i32 0, .int .i32 0, .int .i32 0] 38))) := Lib.hid (by go_grown)
  go_enter Tryd.func21, Tryd.ntmps21
  go_wp2_with fail
  obtain ⟨wa, hwa⟩ : ∃ x, x = ((w.alloc (.cells #[.int .i8 0, .int .i32 0, .int .i32 0, .int .i32 0, .int .i32 0, .int .i32 0, .int .i32 0, .int .i32 0, .int .i32 0] 38)).alloc (.cells #[.int .i8 0, .int .i32 0, .int .i32 0, .int .i32 0, .int .i32 0, .int .i32 0, .int .i32 0, .int .i32 0, .int .i32 0] 38)) := ⟨_, rfl⟩
  have hwz : wa.heap.size = w.heap.size + 1 + 1 := by rw [hwa]; simp only [World.size_alloc]
  rw [← hwa] at X2 X4 HB ⊢
  have HWZ := Lib.hid hwz
  clear hwa hwz
  refine (l01Split_any s 32 _ hs).mono ?_
  rintro e w1 ⟨A, c, rfl, O, hb⟩
  have hml : (spB 32 s).length = tl.length + 1 := by rw [hspb]; simp
  have hle : (spB 32 s).length ≤ s.size + 1 := by
    have h1 : ∀ l : List UInt8, (sp 32 l).length ≤ l.length + 1 := by
      intro l
      induction l with
      | nil => simp [sp]
      | cons x r ih =>
        obtain ⟨a, t, e⟩ := sp_ne 32 r
        by_cases hx : x = 32
        · subst hx; rw [sp_hit, List.length_cons, List.length_cons]; omega
        · rw [sp_miss hx r e]; rw [e] at ih; rw [List.length_cons] at *; rw [List.length_cons]; omega
    have := h1 s.data.toList
    rw [str_len] at this
    unfold spB
    rw [List.length_map]
    exact this
  have R := Lib.hid (own_strs O (by omega))
  have HO := Lib.hid O
  replace X2 := Lib.hid (X2.out.below hb)
  replace X4 := Lib.hid (X4.out.below hb)
  replace HB := Lib.hid (below_then HB.out HB.out.size hb)
  clear O hb
  obtain ⟨m, hm⟩ : ∃ m, tl.length + 1 = m := ⟨_, rfl⟩
  rw [hml, hm] at R HO ⊢
  rw [hml, hm] at hle
  have HM := Lib.hid hm
  clear hm hml
  obtain ⟨ad, hw, rfl, hh0, hc0⟩ := R.out.at1 (k := 0) (by have := HM.out; omega)
  rw [show ad.add 0 = ad from by simp [Addr.add]] at hc0
  have ehw : hw = btx hd := by rw [hspb] at hh0; exact (Option.some.inj hh0).symm
  have hhd : hw.data.toList = hd := by rw [ehw]; simp [btx]
  have hhl : hw.size = hd.length := by rw [← str_len, hhd]
  have HHD := Lib.hid hhd; have HHL := Lib.hid hhl; have HSB := Lib.hid hspb
  have hhs : hw.size ≤ 1048576 := by
    have h2 : ∀ (l : List UInt8), ∀ y ∈ sp 32 l, y.length ≤ l.length := by
      intro l
      induction l with
      | nil => intro y hy; simp [sp] at hy; subst hy; simp
      | cons z r ih =>
        intro y hy
        obtain ⟨a, t, e⟩ := sp_ne 32 r
        by_cases hx : z = 32
        · subst hx
          rw [sp_hit] at hy
          rcases List.mem_cons.1 hy with rfl | h
          · simp
          · have := ih y h; simp; omega
        · rw [sp_miss hx r e] at hy
          rw [e] at ih
          rcases List.mem_cons.1 hy with rfl | h
          · have := ih a (by simp); simp; omega
          · have := ih y (by simp [h]); simp; omega
    have := h2 s.data.toList hd (by rw [hsp]; simp)
    rw [str_len] at this
    omega
  clear ehw hh0 hhd hhl hspb hsp
  by_cases hm8 : m = 9
  rotate_left
  · have NO := Lib.hid (ln_no HSP.out (fun h => hm8 (by rw [← HM.out, h.1])))
    have h9 : ((m : Int) != 9) = true := by rw [bne_iff_ne]; omega
    have hm0 : 0 < m := by have := HM.out; omega
    clear hle hm8
    have RG := X4.out.rangeAt
    go_upto_region 5 with fail
    apply wp_region_lit
    refine wpList_load_mid (by rfl) _ _ (by rfl) (w.heap.size + 1) 0 (by rfl) [.int .i8 0, .int .i32 0, .int .i32 0, .int .i32 0, .int .i32 0, .int .i32 0, .int .i32 0, .int .i32 0, .int .i32 0] _ RG Tryd.underlying38 (by rfl) fl_size ?_
    simp only [Act.put, List.setIfInBounds_toArray, List.set_cons_zero, List.set_cons_succ]
    refine wpList_store_mid (by rfl) _ _ _ (by rfl) w.heap.size 0 (List.toArray [.int .i8 0, .int .i32 0, .int .i32 0, .int .i32 0, .int .i32 0, .int .i32 0, .int .i32 0, .int .i32 0, .int .i32 0]) (by rfl) (by rfl) (X2.out.there rfl) fl_size nine1 ?_
    have S := X2.out.setAll [.int .i8 0, .int .i32 0, .int .i32 0, .int .i32 0, .int .i32 0, .int .i32 0, .int .i32 0, .int .i32 0, .int .i32 0] rfl
    have hBB := below_setCells (b := w.heap.size) (C := w.heap.size) (Nat.le_refl _) [.int .i8 0, .int .i32 0, .int .i32 0, .int .i32 0, .int .i32 0, .int .i32 0, .int .i32 0, .int .i32 0, .int .i32 0] 0 HB.out
    simp only [List.toList_toArray]
    generalize World.setCells _ w.heap.size 0 [.int .i8 0, .int .i32 0, .int .i32 0, .int .i32 0, .int .i32 0, .int .i32 0, .int .i32 0, .int .i32 0, .int .i32 0] = ww at S hBB ⊢
    clear X4 X2 HB RG
    go_wp2_with fail
    refine bodyPost_ret (res9s _ _ w.heap.size false rfl rfl S) rfl ⟨0, 0, 0, 0, 0, 0, 0, 0, 0, by rw [NO.out], (fun e => by rw [NO.out] at e; cases e), hBB⟩
  subst hm8
  by_cases hn2 : hw.size < 2
  · have NO := Lib.hid (ln_no HSP.out (fun h => by have := h.2.1; have := HHL.out; omega))
    have h2i : (hw.size : Int) < 2 := by omega
    clear hle hn2
    have RG := X4.out.rangeAt
    go_upto_region 5 with fail
    apply wp_region_lit
    refine wpList_load_mid (by rfl) _ _ (by rfl) (w.heap.size + 1) 0 (by rfl) [.int .i8 0, .int .i32 0, .int .i32 0, .int .i32 0, .int .i32 0, .int .i32 0, .int .i32 0, .int .i32 0, .int .i32 0] _ RG Tryd.underlying38 (by rfl) fl_size ?_
    simp only [Act.put, List.setIfInBounds_toArray, List.set_cons_zero, List.set_cons_succ]
    refine wpList_store_mid (by rfl) _ _ _ (by rfl) w.heap.size 0 (List.toArray [.int .i8 0, .int .i32 0, .int .i32 0, .int .i32 0, .int .i32 0, .int .i32 0, .int .i32 0, .int .i32 0, .int .i32 0]) (by rfl) (by rfl) (X2.out.there rfl) fl_size nine1 ?_
    have S := X2.out.setAll [.int .i8 0, .int .i32 0, .int .i32 0, .int .i32 0, .int .i32 0, .int .i32 0, .int .i32 0, .int .i32 0, .int .i32 0] rfl
    have hBB := below_setCells (b := w.heap.size) (C := w.heap.size) (Nat.le_refl _) [.int .i8 0, .int .i32 0, .int .i32 0, .int .i32 0, .int .i32 0, .int .i32 0, .int .i32 0, .int .i32 0, .int .i32 0] 0 HB.out
    simp only [List.toList_toArray]
    generalize World.setCells _ w.heap.size 0 [.int .i8 0, .int .i32 0, .int .i32 0, .int .i32 0, .int .i32 0, .int .i32 0, .int .i32 0, .int .i32 0, .int .i32 0] = ww at S hBB ⊢
    clear X4 X2 HB RG
    go_wp2_with fail
    refine bodyPost_ret (res9s _ _ w.heap.size false rfl rfl S) rfl ⟨0, 0, 0, 0, 0, 0, 0, 0, 0, by rw [NO.out], (fun e => by rw [NO.out] at e; cases e), hBB⟩
  obtain ⟨p, hp⟩ : ∃ p, hw.size = p + 1 := ⟨hw.size - 1, by omega⟩
  have hpl : p < hw.size := by omega
  have h2i : ¬ (hw.size : Int) < 2 := by omega
  have v1 : IntKind.i64.wrap ((hw.size : Int) - 1) = (p : Int) := (IntWalk.i64_in _ (by omega)).trans (by omega)
  have hpi : (p : Int) < (hw.size : Int) := by omega
  have HP := Lib.hid hp
  have hlast : hd.getLast? = some (hw[p]'hpl) := by
    have h1 : hd.length = p + 1 := by rw [← HHL.out, HP.out]
    rw [List.getLast?_eq_getElem?, h1, ← HHD.out]
    show hw.data.toList[p]? = _
    rw [List.getElem?_eq_getElem (by rw [str_len]; exact hpl)]
    rfl
  have HLA := Lib.hid hlast
  clear hlast hn2 hle hp
  by_cases hcl : hw[p]'hpl = 58
  rotate_left
  · have NO := Lib.hid (ln_no HSP.out (fun h => hcl (by have := h.2.2.1; rw [HLA.out] at this; exact Option.some.inj this)))
    have h58 : ((((hw[p]'hpl).toNat : Int)) != 58) = true := by
      rw [bne_iff_ne]
      intro e
      exact hcl (UInt8.toNat_inj.1 (by have h48 : (58 : UInt8).toNat = 58 := rfl; omega))
    clear hcl
    have RG := X4.out.rangeAt
    go_upto_region 5 with fail
    apply wp_region_lit
    refine wpList_load_mid (by rfl) _ _ (by rfl) (w.heap.size + 1) 0 (by rfl) [.int .i8 0, .int .i32 0, .int .i32 0, .int .i32 0, .int .i32 0, .int .i32 0, .int .i32 0, .int .i32 0, .int .i32 0] _ RG Tryd.underlying38 (by rfl) fl_size ?_
    simp only [Act.put, List.setIfInBounds_toArray, List.set_cons_zero, List.set_cons_succ]
    refine wpList_store_mid (by rfl) _ _ _ (by rfl) w.heap.size 0 (List.toArray [.int .i8 0, .int .i32 0, .int .i32 0, .int .i32 0, .int .i32 0, .int .i32 0, .int .i32 0, .int .i32 0, .int .i32 0]) (by rfl) (by rfl) (X2.out.there rfl) fl_size nine1 ?_
    have S := X2.out.setAll [.int .i8 0, .int .i32 0, .int .i32 0, .int .i32 0, .int .i32 0, .int .i32 0, .int .i32 0, .int .i32 0, .int .i32 0] rfl
    have hBB := below_setCells (b := w.heap.size) (C := w.heap.size) (Nat.le_refl _) [.int .i8 0, .int .i32 0, .int .i32 0, .int .i32 0, .int .i32 0, .int .i32 0, .int .i32 0, .int .i32 0, .int .i32 0] 0 HB.out
    simp only [List.toList_toArray]
    generalize World.setCells _ w.heap.size 0 [.int .i8 0, .int .i32 0, .int .i32 0, .int .i32 0, .int .i32 0, .int .i32 0, .int .i32 0, .int .i32 0, .int .i32 0] = ww at S hBB ⊢
    clear X4 X2 HB RG
    go_wp2_with fail
    refine bodyPost_ret (res9s _ _ w.heap.size false rfl rfl S) rfl ⟨0, 0, 0, 0, 0, 0, 0, 0, 0, by rw [NO.out], (fun e => by rw [NO.out] at e; cases e), hBB⟩
  have h58 : ((((hw[p]'hpl).toNat : Int)) != 58) = false := by rw [hcl]; rfl
  rw [hcl] at HLA
  clear hcl
  have hext : hw.extract 0 p = btx hd.dropLast := btx_of (by
    rw [Lib.extract_data, List.dropLast_eq_take, ← HHD.out, str_len, HP.out]
    simp)
  obtain ⟨N, hN⟩ : ∃ N, N = nvv hd.dropLast := ⟨_, rfl⟩
  obtain ⟨ok, hok⟩ : ∃ ok, ok = nok hd.dropLast := ⟨_, rfl⟩
  have hNb := nvv_bd hd.dropLast
  rw [← hN] at hNb
  have HNUM : Hid (∀ wx, Calls Tryd.prog 33 #[.string (hw.extract 0 p)] wx fun e w' => e = .returned (.tuple #[.int .i64 N, .bool ok]) ∧ w' = wx) := Lib.hid (fun wx => by
    have h1 := l01Number_any (hw.extract 0 p) wx (by rw [ByteArray.size_extract]; omega)
    rw [show (hw.extract 0 p).data.toList = hd.dropLast by rw [hext]; simp [btx], ← hN, ← hok] at h1
    exact h1)
  have HNN := Lib.hid hN; have HOO := Lib.hid hok
  have hpi2 : (p : Int) ≤ (hw.size : Int) := by omega
  clear hext hN hok
  go_wp2_with fail
  refine (HNUM.out _).mono ?_
  rintro e w2 ⟨rfl, rfl⟩
  by_cases hbad : ok = false ∨ 9 < N
  · have NO := Lib.hid (ln_no HSP.out (fun h => by
      have h4 := h.2.2.2.1
      have h5 := h.2.2.2.2.1
      rw [← HOO.out] at h4
      rw [← HNN.out] at h5
      rcases hbad with hbad | hbad
      · rw [hbad] at h4; cases h4
      · omega))
    rcases hbad with rfl | hbad
    · have RG := X4.out.rangeAt
      go_upto_region 8 with fail
      apply wp_region_lit
      refine wpList_load_mid (by rfl) _ _ (by rfl) (w.heap.size + 1) 0 (by rfl) [.int .i8 0, .int .i32 0, .int .i32 0, .int .i32 0, .int .i32 0, .int .i32 0, .int .i32 0, .int .i32 0, .int .i32 0] _ RG Tryd.underlying38 (by rfl) fl_size ?_
      simp only [Act.put, List.setIfInBounds_toArray, List.set_cons_zero, List.set_cons_succ]
      refine wpList_store_mid (by rfl) _ _ _ (by rfl) w.heap.size 0 (List.toArray [.int .i8 0, .int .i32 0, .int .i32 0, .int .i32 0, .int .i32 0, .int .i32 0, .int .i32 0, .int .i32 0, .int .i32 0]) (by rfl) (by rfl) (X2.out.there rfl) fl_size nine1 ?_
      have S := X2.out.setAll [.int .i8 0, .int .i32 0, .int .i32 0, .int .i32 0, .int .i32 0, .int .i32 0, .int .i32 0, .int .i32 0, .int .i32 0] rfl
      have hBB := below_setCells (b := w.heap.size) (C := w.heap.size) (Nat.le_refl _) [.int .i8 0, .int .i32 0, .int .i32 0, .int .i32 0, .int .i32 0, .int .i32 0, .int .i32 0, .int .i32 0, .int .i32 0] 0 HB.out
      simp only [List.toList_toArray]
      generalize World.setCells _ w.heap.size 0 [.int .i8 0, .int .i32 0, .int .i32 0, .int .i32 0, .int .i32 0, .int .i32 0, .int .i32 0, .int .i32 0, .int .i32 0] = ww at S hBB ⊢
      clear X4 X2 HB RG
      go_wp2_with fail
      refine bodyPost_ret (res9s _ _ w.heap.size false rfl rfl S) rfl ⟨0, 0, 0, 0, 0, 0, 0, 0, 0, by rw [NO.out], (fun e => by rw [NO.out] at e; cases e), hBB⟩
    · cases ok
      · have RG := X4.out.rangeAt
        go_upto_region 8 with fail
        apply wp_region_lit
        refine wpList_load_mid (by rfl) _ _ (by rfl) (w.heap.size + 1) 0 (by rfl) [.int .i8 0, .int .i32 0, .int .i32 0, .int .i32 0, .int .i32 0, .int .i32 0, .int .i32 0, .int .i32 0, .int .i32 0] _ RG Tryd.underlying38 (by rfl) fl_size ?_
        simp only [Act.put, List.setIfInBounds_toArray, List.set_cons_zero, List.set_cons_succ]
        refine wpList_store_mid (by rfl) _ _ _ (by rfl) w.heap.size 0 (List.toArray [.int .i8 0, .int .i32 0, .int .i32 0, .int .i32 0, .int .i32 0, .int .i32 0, .int .i32 0, .int .i32 0, .int .i32 0]) (by rfl) (by rfl) (X2.out.there rfl) fl_size nine1 ?_
        have S := X2.out.setAll [.int .i8 0, .int .i32 0, .int .i32 0, .int .i32 0, .int .i32 0, .int .i32 0, .int .i32 0, .int .i32 0, .int .i32 0] rfl
        have hBB := below_setCells (b := w.heap.size) (C := w.heap.size) (Nat.le_refl _) [.int .i8 0, .int .i32 0, .int .i32 0, .int .i32 0, .int .i32 0, .int .i32 0, .int .i32 0, .int .i32 0, .int .i32 0] 0 HB.out
        simp only [List.toList_toArray]
        generalize World.setCells _ w.heap.size 0 [.int .i8 0, .int .i32 0, .int .i32 0, .int .i32 0, .int .i32 0, .int .i32 0, .int .i32 0, .int .i32 0, .int .i32 0] = ww at S hBB ⊢
        clear X4 X2 HB RG
        go_wp2_with fail
        refine bodyPost_ret (res9s _ _ w.heap.size false rfl rfl S) rfl ⟨0, 0, 0, 0, 0, 0, 0, 0, 0, by rw [NO.out], (fun e => by rw [NO.out] at e; cases e), hBB⟩
      · have RG := X4.out.rangeAt
        go_upto_region 8 with fail
        apply wp_region_lit
        refine wpList_load_mid (by rfl) _ _ (by rfl) (w.heap.size + 1) 0 (by rfl) [.int .i8 0, .int .i32 0, .int .i32 0, .int .i32 0, .int .i32 0, .int .i32 0, .int .i32 0, .int .i32 0, .int .i32 0] _ RG Tryd.underlying38 (by rfl) fl_size ?_
        simp only [Act.put, List.setIfInBounds_toArray, List.set_cons_zero, List.set_cons_succ]
        refine wpList_store_mid (by rfl) _ _ _ (by rfl) w.heap.size 0 (List.toArray [.int .i8 0, .int .i32 0, .int .i32 0, .int .i32 0, .int .i32 0, .int .i32 0, .int .i32 0, .int .i32 0, .int .i32 0]) (by rfl) (by rfl) (X2.out.there rfl) fl_size nine1 ?_
        have S := X2.out.setAll [.int .i8 0, .int .i32 0, .int .i32 0, .int .i32 0, .int .i32 0, .int .i32 0, .int .i32 0, .int .i32 0, .int .i32 0] rfl
        have hBB := below_setCells (b := w.heap.size) (C := w.heap.size) (Nat.le_refl _) [.int .i8 0, .int .i32 0, .int .i32 0, .int .i32 0, .int .i32 0, .int .i32 0, .int .i32 0, .int .i32 0, .int .i32 0] 0 HB.out
        simp only [List.toList_toArray]
        generalize World.setCells _ w.heap.size 0 [.int .i8 0, .int .i32 0, .int .i32 0, .int .i32 0, .int .i32 0, .int .i32 0, .int .i32 0, .int .i32 0, .int .i32 0] = ww at S hBB ⊢
        clear X4 X2 HB RG
        go_wp2_with fail
        refine bodyPost_ret (res9s _ _ w.heap.size false rfl rfl S) rfl ⟨0, 0, 0, 0, 0, 0, 0, 0, 0, by rw [NO.out], (fun e => by rw [NO.out] at e; cases e), hBB⟩
  have hok1 : ok = true := by cases ok with
    | true => rfl
    | false => exact absurd (.inl rfl) hbad
  have hN9 : N ≤ 9 := Int.not_lt.1 (fun h => hbad (.inr h))
  subst hok1
  clear hbad
  have v8 : IntKind.i8.wrap N = N := IntWalk.i8_in _ (by omega)
  have hN9i : ¬ 9 < N := by omega
  obtain ⟨gg, hgg⟩ : ∃ gg, gg = fun j => nvv (tl.getD j []) := ⟨_, rfl⟩
  have HGG := Lib.hid hgg
  clear hgg
  have hX4 : Hid (Row (w2.setCell ⟨w.heap.size + 1, 0, none⟩ (.int .i8 N)) (w.heap.size + 1) 38 (.int .i8 N :: nums .i32 (fgL gg 0))) := Lib.hid (by rw [fgL_zero]; exact X4.out.set 0 _)
  have hX2 := Lib.hid (X2.out.apart (C := w.heap.size + 1) (by omega) 0 (.int .i8 N))
  have hHB := Lib.hid (HB.out.setCell (p := ⟨w.heap.size + 1, 0, none⟩) (by simp) (.int .i8 N))
  have hOO : Hid ((w2.setCell ⟨w.heap.size + 1, 0, none⟩ (.int .i8 N)).ownsRow (w.heap.size + 1 + 1) 9 1 (.slice (some ad) 9 c) 9 (strs (spB 32 s))) := Lib.hid (by
    have h1 := HO.out
    rw [HWZ.out] at h1
    exact h1.kept (grownBy_setCell1 _ _ _ _) (.inr fun e => by have := (own_base h1 _ e).1; omega))
  have c40 := X4.out.cell 0
  have f40 := X4.out.frozen 0
  simp only [List.getElem?_cons_zero] at c40
  have XX2 := hX2; have XX4 := hX4; have XHB := hHB; have XO := hOO
  clear hX2 hX4 hHB hOO R HO X2 X4 HB
  go_wp2_with fail
  obtain ⟨wb, hwb⟩ : ∃ x, x = w2.setCell ⟨w.heap.size + 1, 0, none⟩ (.int .i8 N) := ⟨_, rfl⟩
  rw [← hwb] at XX2 XX4 XHB XO ⊢
  clear hwb c40 f40 v8 hc0
  go_loopw [9] (fun v wr => ∃ k : Nat, k ≤ 8 ∧ v = .int .i64 k ∧ Hid (∀ j, j < k → nok (tl.getD j []) = true ∧ nvv (tl.getD j []) ≤ 1000) ∧ Hid (Row wr (w.heap.size + 1) 38 (.int .i8 N :: nums .i32 (fgL gg k))) ∧ Hid (Row wr w.heap.size 38 [.int .i8 0, .int .i32 0, .int .i32 0, .int .i32 0, .int .i32 0, .int .i32 0, .int .i32 0, .int .i32 0, .int .i32 0]) ∧ Hid (wr.ownsRow (w.heap.size + 1 + 1) 9 1 (.slice (some ad) 9 c) 9 (strs (spB 32 s))) ∧ Hid (Below w.heap.size w wr)) (fun v _ => 8 - (intOf v).toNat)
  case atStart => exact ⟨0, by omega, rfl, Lib.hid (fun j hj => absurd hj (Nat.not_lt_zero _)), XX4, XX2, XO, XHB⟩
  case round =>
    clear XX4 XX2 XO XHB
    obtain ⟨k, hk, rfl, HY, X4, X2, HO, HB⟩ := hrel
    by_cases hlt : k < 8
    · as_aux_lemma =>
      have hki : (k : Int) < 8 := by omega
      have R := own_strs HO.out (by omega)
      obtain ⟨k1, hk1⟩ : ∃ k1, k + 1 = k1 := ⟨_, rfl⟩
      obtain ⟨ad2, x, he, hx, hc⟩ := R.at1 (k := k1) (by omega)
      rw [← hk1] at hx
      obtain rfl : ad = ad2 := Option.some.inj he
      have hxd : tl[k]? = some x.data.toList := by
        rw [HSB.out, List.getElem?_cons_succ, List.getElem?_map] at hx
        cases ht : tl[k]? with
        | none => rw [ht] at hx; cases hx
        | some y => rw [ht] at hx; have := Option.some.inj hx; rw [← this]; simp [btx]
      have hg : tl.getD k [] = x.data.toList := by rw [List.getD_eq_getElem?_getD, hxd]; rfl
      have hxs : x.size ≤ 1048576 := by
        have h2 : ∀ (l : List UInt8), ∀ y ∈ sp 32 l, y.length ≤ l.length := by
          intro l
          induction l with
          | nil => intro y hy; simp [sp] at hy; subst hy; simp
          | cons z r ih =>
            intro y hy
            obtain ⟨a, t, e⟩ := sp_ne 32 r
            by_cases hx : z = 32
            · subst hx
              rw [sp_hit] at hy
              rcases List.mem_cons.1 hy with rfl | h
              · simp
              · have := ih y h; simp; omega
            · rw [sp_miss hx r e] at hy
              rw [e] at ih
              rcases List.mem_cons.1 hy with rfl | h
              · have := ih a (by simp); simp; omega
              · have := ih y (by simp [h]); simp; omega
        have := h2 s.data.toList x.data.toList (by rw [HSP.out]; exact List.mem_cons_of_mem _ (List.mem_of_getElem? hxd))
        rw [str_len, str_len] at this
        omega
      have hub := nvv_bd x.data.toList
      have hgk : gg k = nvv x.data.toList := by rw [HGG.out]; show nvv _ = _; rw [hg]
      have HS := fgL_set gg hlt
      rw [hgk] at HS
      have HNUM2 : Hid (∀ wx, Calls Tryd.prog 33 #[.string x] wx fun e w' => e = .returned (.tuple #[.int .i64 (nvv x.data.toList), .bool (nok x.data.toList)]) ∧ w' = wx) := Lib.hid (fun wx => l01Number_any x wx (by omega))
      have v1k : IntKind.i64.wrap ((k : Int) + 1) = (k1 : Int) := (IntWalk.i64_in _ (by omega)).trans (by omega)
      have hk9 : (k1 : Int) < 9 := by omega
      have hk9n : k1 < 9 := by omega
      have HXD := Lib.hid hxd; have HG := Lib.hid hg
      obtain ⟨u, hu⟩ : ∃ u, nvv x.data.toList = u := ⟨_, rfl⟩
      obtain ⟨b, hb⟩ : ∃ b, nok x.data.toList = b := ⟨_, rfl⟩
      rw [hu] at hub HS HNUM2
      rw [hb] at HNUM2
      have HU := Lib.hid hu; have HBB := Lib.hid hb; have HSS := Lib.hid HS
      have HK1 := Lib.hid hk1
      clear hx hxd hg hxs hgk hu hb HS he R hk1
      go_wp2_with fail
      refine (HNUM2.out _).mono ?_
      rintro e w5 ⟨rfl, rfl⟩
      by_cases hbad : b = false ∨ 1000 < u
      · have NO := Lib.hid (ln_noW HSP.out HXD.out (by rw [HBB.out, HU.out]; exact hbad))
        obtain ⟨a0, a1, a2, a3, a4, a5, a6, a7, he8⟩ := fg8 gg k
        rw [he8] at X4
        replace X4 : Hid (Row w5 (w.heap.size + 1) 38 [.int .i8 N, .int .i32 a0, .int .i32 a1, .int .i32 a2, .int .i32 a3, .int .i32 a4, .int .i32 a5, .int .i32 a6, .int .i32 a7]) := X4
        clear he8 HSS hc v1k HY
        rcases hbad with rfl | hbad
        · have RG := X4.out.rangeAt
          go_upto_region 15 with fail
          apply wp_region_lit
          refine wpList_load_mid (by rfl) _ _ (by rfl) (w.heap.size + 1) 0 (by rfl) [.int .i8 N, .int .i32 a0, .int .i32 a1, .int .i32 a2, .int .i32 a3, .int .i32 a4, .int .i32 a5, .int .i32 a6, .int .i32 a7] _ RG Tryd.underlying38 (by rfl) fl_size ?_
          simp only [Act.put, List.setIfInBounds_toArray, List.set_cons_zero, List.set_cons_succ]
          refine wpList_store_mid (by rfl) _ _ _ (by rfl) w.heap.size 0 (List.toArray [.int .i8 N, .int .i32 a0, .int .i32 a1, .int .i32 a2, .int .i32 a3, .int .i32 a4, .int .i32 a5, .int .i32 a6, .int .i32 a7]) (by rfl) (by rfl) (X2.out.there rfl) fl_size nine1 ?_
          have S := X2.out.setAll [.int .i8 N, .int .i32 a0, .int .i32 a1, .int .i32 a2, .int .i32 a3, .int .i32 a4, .int .i32 a5, .int .i32 a6, .int .i32 a7] rfl
          have hBB := below_setCells (b := w.heap.size) (C := w.heap.size) (Nat.le_refl _) [.int .i8 N, .int .i32 a0, .int .i32 a1, .int .i32 a2, .int .i32 a3, .int .i32 a4, .int .i32 a5, .int .i32 a6, .int .i32 a7] 0 HB.out
          simp only [List.toList_toArray]
          generalize World.setCells _ w.heap.size 0 [.int .i8 N, .int .i32 a0, .int .i32 a1, .int .i32 a2, .int .i32 a3, .int .i32 a4, .int .i32 a5, .int .i32 a6, .int .i32 a7] = ww at S hBB ⊢
          clear X4 X2 HB RG
          go_wp2_with fail
          refine bodyPost_ret (res9s _ _ w.heap.size false rfl rfl S) rfl ⟨N, a0, a1, a2, a3, a4, a5, a6, a7, by rw [NO.out], (fun e => by rw [NO.out] at e; cases e), hBB⟩
        · cases b
          · have RG := X4.out.rangeAt
            go_upto_region 15 with fail
            apply wp_region_lit
            refine wpList_load_mid (by rfl) _ _ (by rfl) (w.heap.size + 1) 0 (by rfl) [.int .i8 N, .int .i32 a0, .int .i32 a1, .int .i32 a2, .int .i32 a3, .int .i32 a4, .int .i32 a5, .int .i32 a6, .int .i32 a7] _ RG Tryd.underlying38 (by rfl) fl_size ?_
            simp only [Act.put, List.setIfInBounds_toArray, List.set_cons_zero, List.set_cons_succ]
            refine wpList_store_mid (by rfl) _ _ _ (by rfl) w.heap.size 0 (List.toArray [.int .i8 N, .int .i32 a0, .int .i32 a1, .int .i32 a2, .int .i32 a3, .int .i32 a4, .int .i32 a5, .int .i32 a6, .int .i32 a7]) (by rfl) (by rfl) (X2.out.there rfl) fl_size nine1 ?_
            have S := X2.out.setAll [.int .i8 N, .int .i32 a0, .int .i32 a1, .int .i32 a2, .int .i32 a3, .int .i32 a4, .int .i32 a5, .int .i32 a6, .int .i32 a7] rfl
            have hBB := below_setCells (b := w.heap.size) (C := w.heap.size) (Nat.le_refl _) [.int .i8 N, .int .i32 a0, .int .i32 a1, .int .i32 a2, .int .i32 a3, .int .i32 a4, .int .i32 a5, .int .i32 a6, .int .i32 a7] 0 HB.out
            simp only [List.toList_toArray]
            generalize World.setCells _ w.heap.size 0 [.int .i8 N, .int .i32 a0, .int .i32 a1, .int .i32 a2, .int .i32 a3, .int .i32 a4, .int .i32 a5, .int .i32 a6, .int .i32 a7] = ww at S hBB ⊢
            clear X4 X2 HB RG
            go_wp2_with fail
            refine bodyPost_ret (res9s _ _ w.heap.size false rfl rfl S) rfl ⟨N, a0, a1, a2, a3, a4, a5, a6, a7, by rw [NO.out], (fun e => by rw [NO.out] at e; cases e), hBB⟩
          · have RG := X4.out.rangeAt
            go_upto_region 15 with fail
            apply wp_region_lit
            refine wpList_load_mid (by rfl) _ _ (by rfl) (w.heap.size + 1) 0 (by rfl) [.int .i8 N, .int .i32 a0, .int .i32 a1, .int .i32 a2, .int .i32 a3, .int .i32 a4, .int .i32 a5, .int .i32 a6, .int .i32 a7] _ RG Tryd.underlying38 (by rfl) fl_size ?_
            simp only [Act.put, List.setIfInBounds_toArray, List.set_cons_zero, List.set_cons_succ]
            refine wpList_store_mid (by rfl) _ _ _ (by rfl) w.heap.size 0 (List.toArray [.int .i8 N, .int .i32 a0, .int .i32 a1, .int .i32 a2, .int .i32 a3, .int .i32 a4, .int .i32 a5, .int .i32 a6, .int .i32 a7]) (by rfl) (by rfl) (X2.out.there rfl) fl_size nine1 ?_
            have S := X2.out.setAll [.int .i8 N, .int .i32 a0, .int .i32 a1, .int .i32 a2, .int .i32 a3, .int .i32 a4, .int .i32 a5, .int .i32 a6, .int .i32 a7] rfl
            have hBB := below_setCells (b := w.heap.size) (C := w.heap.size) (Nat.le_refl _) [.int .i8 N, .int .i32 a0, .int .i32 a1, .int .i32 a2, .int .i32 a3, .int .i32 a4, .int .i32 a5, .int .i32 a6, .int .i32 a7] 0 HB.out
            simp only [List.toList_toArray]
            generalize World.setCells _ w.heap.size 0 [.int .i8 N, .int .i32 a0, .int .i32 a1, .int .i32 a2, .int .i32 a3, .int .i32 a4, .int .i32 a5, .int .i32 a6, .int .i32 a7] = ww at S hBB ⊢
            clear X4 X2 HB RG
            go_wp2_with fail
            refine bodyPost_ret (res9s _ _ w.heap.size false rfl rfl S) rfl ⟨N, a0, a1, a2, a3, a4, a5, a6, a7, by rw [NO.out], (fun e => by rw [NO.out] at e; cases e), hBB⟩
      · have hb1 : b = true := by cases b with
          | true => rfl
          | false => exact absurd (.inl rfl) hbad
        have hu1 : u ≤ 1000 := Int.not_lt.1 (fun h => hbad (.inr h))
        subst hb1
        have hu1i : ¬ 1000 < u := by omega
        have v32 : IntKind.i32.wrap u = u := IntWalk.i32_in _ (by omega)
        have HY2 : Hid (∀ j, j < k + 1 → nok (tl.getD j []) = true ∧ nvv (tl.getD j []) ≤ 1000) := Lib.hid (fun j hj => by
          rcases Nat.lt_or_ge j k with h | h
          · exact HY.out j h
          · obtain rfl : j = k := by omega
            rw [HG.out, HBB.out, HU.out]
            exact ⟨rfl, hu1⟩)
        obtain ⟨u0, c0⟩ : ∃ u0, w5.cell? ⟨w.heap.size + 1, 1 + k, none⟩ = some u0 := by
          rw [X4.out.cell]
          exact ⟨_, List.getElem?_eq_getElem (by rw [List.length_cons, nums_length, fgL_len]; omega)⟩
        have f0 := X4.out.frozen (1 + k)
        have hSet : Hid (Row (w5.setCell ⟨w.heap.size + 1, 1 + k, none⟩ (.int .i32 u)) (w.heap.size + 1) 38 (.int .i8 N :: nums .i32 (fgL gg (k + 1)))) := Lib.hid (by
          have := X4.out.set (1 + k) (.int .i32 u)
          rw [Nat.add_comm 1 k, List.set_cons_succ, HSS.out] at this
          rw [Nat.add_comm 1 k]
          exact this)
        have hX2 := Lib.hid (X2.out.apart (C := w.heap.size + 1) (by omega) (1 + k) (.int .i32 u))
        have hHO := Lib.hid (HO.out.kept (grownBy_setCell1 w5 (w.heap.size + 1) (1 + k) (.int .i32 u)) (.inr fun e => by have := (own_base HO.out _ e).1; omega))
        have hHB := Lib.hid (HB.out.setCell (p := ⟨w.heap.size + 1, 1 + k, none⟩) (by simp) (.int .i32 u))
        clear hbad hu1 HSS X4 X2 HO HB hc hub
        have v1b : IntKind.i64.wrap ((k : Int) + 1) = ((k + 1 : Nat) : Int) := v1k.trans (by have := HK1.out; omega)
        clear v1k
        go_wp2_with fail
        go_roundw
        case rel => exact ⟨k + 1, by omega, by go_num, HY2, hSet, hX2, hHO, hHB⟩
        case measure => simp [intOf]; omega
    · as_aux_lemma =>
      obtain rfl : k = 8 := by omega
      have YES := Lib.hid (ln_yes HSP.out (by have := HM.out; omega) (by have := HHL.out; have := HP.out; omega) HLA.out HOO.out.symm (by rw [← HNN.out]; exact hN9) (fun j hj => HY.out j hj))
      have hni : ¬ ((8 : Nat) : Int) < 8 := by omega
      replace X4 : Hid (Row wr (w.heap.size + 1) 38 [.int .i8 N, .int .i32 (gg 0), .int .i32 (gg 1), .int .i32 (gg 2), .int .i32 (gg 3), .int .i32 (gg 4), .int .i32 (gg 5), .int .i32 (gg 6), .int .i32 (gg 7)]) := Lib.hid (by have := X4.out; rw [fgL_all gg (Nat.le_refl _)] at this; exact this)
      clear HY HO
      have RG := X4.out.rangeAt
      go_upto_region 17 with fail
      apply wp_region_lit
      refine wpList_load_mid (by rfl) _ _ (by rfl) (w.heap.size + 1) 0 (by rfl) [.int .i8 N, .int .i32 (gg 0), .int .i32 (gg 1), .int .i32 (gg 2), .int .i32 (gg 3), .int .i32 (gg 4), .int .i32 (gg 5), .int .i32 (gg 6), .int .i32 (gg 7)] _ RG Tryd.underlying38 (by rfl) fl_size ?_
      simp only [Act.put, List.setIfInBounds_toArray, List.set_cons_zero, List.set_cons_succ]
      refine wpList_store_mid (by rfl) _ _ _ (by rfl) w.heap.size 0 (List.toArray [.int .i8 N, .int .i32 (gg 0), .int .i32 (gg 1), .int .i32 (gg 2), .int .i32 (gg 3), .int .i32 (gg 4), .int .i32 (gg 5), .int .i32 (gg 6), .int .i32 (gg 7)]) (by rfl) (by rfl) (X2.out.there rfl) fl_size nine1 ?_
      have S := X2.out.setAll [.int .i8 N, .int .i32 (gg 0), .int .i32 (gg 1), .int .i32 (gg 2), .int .i32 (gg 3), .int .i32 (gg 4), .int .i32 (gg 5), .int .i32 (gg 6), .int .i32 (gg 7)] rfl
      have hBB := below_setCells (b := w.heap.size) (C := w.heap.size) (Nat.le_refl _) [.int .i8 N, .int .i32 (gg 0), .int .i32 (gg 1), .int .i32 (gg 2), .int .i32 (gg 3), .int .i32 (gg 4), .int .i32 (gg 5), .int .i32 (gg 6), .int .i32 (gg 7)] 0 HB.out
      simp only [List.toList_toArray]
      generalize World.setCells _ w.heap.size 0 [.int .i8 N, .int .i32 (gg 0), .int .i32 (gg 1), .int .i32 (gg 2), .int .i32 (gg 3), .int .i32 (gg 4), .int .i32 (gg 5), .int .i32 (gg 6), .int .i32 (gg 7)] = ww at S hBB ⊢
      clear X4 X2 HB RG
      go_wp2_with fail
      refine bodyPost_ret (res9s _ _ w.heap.size true rfl rfl S) rfl ⟨N, gg 0, gg 1, gg 2, gg 3, gg 4, gg 5, gg 6, gg 7, by rw [YES.out.1], (fun _ => by rw [YES.out.2, ← HNN.out, ← range8 gg, HGG.out]), hBB⟩
end Go.Proofs.YtjjdmabhmpkijaaDoor
