/- Contracts: impl.small at 8 and at 32 bits; impl.readFleece. -/
import Derived.Test.YtbkhlcbnnjgdpaaGreatDoorJ3
import Derived.Test.YtbkhlcbnnjgdpaaGreatDoorBh
import Derived.Deep.MidRow
namespace Go.Proofs.YtbkhlcbnnjgdpaaGreatDoor
open Go.RowKit
set_option linter.unusedVariables false
set_option linter.unusedSimpArgs false
theorem small8_any (B : Nat) (s : ByteArray) (w : World) (E : Env B w) (hs : s.size ≤ 1048576) :
    Calls Tryz.prog 69 #[.string s, .int .i64 8] w fun e w' => ∃ v, e = .returned (.tuple #[.int .i64 v, .bool (pok 8 s.data.toList)]) ∧ (pok 8 s.data.toList = true → v = pv 8 s.data.toList) ∧ Below w.heap.size w w' := by
  cases h : Lib.parseIntB 8 s.data.toList with
  | ok v =>
    have P := Lib.hid (pok_ok h)
    have H := Lib.hid h
    clear h
    go_enter Tryz.func69, Tryz.ntmps69
    go_wp2_with fail
    refine (Tryz.strconv_ParseInt_10_at8_ok s (by omega) v H.out _).mono ?_
    rintro e w1 ⟨rfl, hw⟩
    have hb : Below w.heap.size w w1 := by
      rcases hw with rfl | ⟨t, rfl⟩
      · exact Below.refl _ _
      · exact Lib.bytesWorld_below _ _ _
    clear hw
    go_wp2_with fail
    go_region
    go_wp2_with fail
    go_ret2
    exact ⟨v, by rw [P.out.1]; rfl, fun _ => P.out.2.symm, hb.drew⟩
  | «syntax» =>
    have P := Lib.hid (pok_syntax h)
    have H := Lib.hid h
    obtain ⟨tp, p, hv⟩ := E.sy
    clear h
    go_enter Tryz.func69, Tryz.ntmps69
    go_wp2_with fail
    refine (Tryz.strconv_ParseInt_10_at8_syntax_var s (by omega) H.out tp p _ hv).mono ?_
    rintro e w1 ⟨N, rfl, h1, h2, hb⟩
    clear hv h1 h2
    go_wp2_with fail
    go_region
    go_wp2_with fail
    go_ret2
    exact ⟨_, by rw [P.out]; rfl, (fun e => by rw [P.out] at e; cases e), hb.drew⟩
  | range =>
    have P := Lib.hid (pok_range h)
    have H := Lib.hid h
    obtain ⟨tp, p, hv⟩ := E.ra
    clear h
    go_enter Tryz.func69, Tryz.ntmps69
    go_wp2_with fail
    refine (Tryz.strconv_ParseInt_10_at8_range_var s (by omega) H.out tp p _ hv).mono ?_
    rintro e w1 ⟨N, rfl, h1, h2, hb⟩
    clear hv h1 h2
    go_wp2_with fail
    go_region
    go_wp2_with fail
    go_ret2
    exact ⟨_, by rw [P.out]; rfl, (fun e => by rw [P.out] at e; cases e), hb.drew⟩
theorem small32_any (B : Nat) (s : ByteArray) (w : World) (E : Env B w) (hs : s.size ≤ 1048576) :
    Calls Tryz.prog 69 #[.string s, .int .i64 32] w fun e w' => ∃ v, e = .returned (.tuple #[.int .i64 v, .bool (pok 32 s.data.toList)]) ∧ (pok 32 s.data.toList = true → v = pv 32 s.data.toList) ∧ Below w.heap.size w w' := by
  cases h : Lib.parseIntB 32 s.data.toList with
  | ok v =>
    have P := Lib.hid (pok_ok h)
    have H := Lib.hid h
    clear h
    go_enter Tryz.func69, Tryz.ntmps69
    go_wp2_with fail
    refine (Tryz.strconv_ParseInt_10_at32_ok s (by omega) v H.out _).mono ?_
    rintro e w1 ⟨rfl, hw⟩
    have hb : Below w.heap.size w w1 := by
      rcases hw with rfl | ⟨t, rfl⟩
      · exact Below.refl _ _
      · exact Lib.bytesWorld_below _ _ _
    clear hw
    go_wp2_with fail
    go_region
    go_wp2_with fail
    go_ret2
    exact ⟨v, by rw [P.out.1]; rfl, fun _ => P.out.2.symm, hb.drew⟩
  | «syntax» =>
    have P := Lib.hid (pok_syntax h)
    have H := Lib.hid h
    obtain ⟨tp, p, hv⟩ := E.sy
    clear h
    go_enter Tryz.func69, Tryz.ntmps69
    go_wp2_with fail
    refine (Tryz.strconv_ParseInt_10_at32_syntax_var s (by omega) H.out tp p _ hv).mono ?_
    rintro e w1 ⟨N, rfl, h1, h2, hb⟩
    clear hv h1 h2
    go_wp2_with fail
    go_region
    go_wp2_with fail
    go_ret2
    exact ⟨_, by rw [P.out]; rfl, (fun e => by rw [P.out] at e; cases e), hb.drew⟩
  | range =>
    have P := Lib.hid (pok_range h)
    have H := Lib.hid h
    obtain ⟨tp, p, hv⟩ := E.ra
    clear h
    go_enter Tryz.func69, Tryz.ntmps69
    go_wp2_with fail
    refine (Tryz.strconv_ParseInt_10_at32_range_var s (by omega) H.out tp p _ hv).mono ?_
    rintro e w1 ⟨N, rfl, h1, h2, hb⟩
    clear hv h1 h2
    go_wp2_with fail
    go_region
    go_wp2_with fail
    go_ret2
    exact ⟨_, by rw [P.out]; rfl, (fun e => by rw [P.out] at e; cases e), hb.drew⟩
/-- Numbers of which the first k are told. -/
def fgL (g : Nat → Int) (k : Nat) : List Int := (List.range 8).map fun j => if j < k then g j else 0
theorem fgL_len (g : Nat → Int) (k : Nat) : (fgL g k).length = 8 := by simp [fgL]
theorem fgL_zero (g : Nat → Int) : fgL g 0 = [0, 0, 0, 0, 0, 0, 0, 0] := by simp [fgL, List.range_succ]
theorem fgL_set (g : Nat → Int) {k : Nat} (h : k < 8) : (nums .i32 (fgL g k)).set k (.int .i32 (g k)) = nums .i32 (fgL g (k + 1)) := by
  apply List.ext_getElem?
  intro i
  by_cases h1 : i = k
  · subst h1
    rw [List.getElem?_set_self (by simp [nums, fgL]; omega)]
    simp [nums, fgL, h]
  · rw [List.getElem?_set_ne (by omega)]
    by_cases h2 : i < 8
    · simp [nums, fgL, h2, show (i < k + 1) = (i < k) from by simp; omega]
    · simp [nums, fgL, h2]
theorem fgL_all (g : Nat → Int) {k : Nat} (h : 8 ≤ k) : fgL g k = [g 0, g 1, g 2, g 3, g 4, g 5, g 6, g 7] := by
  simp [fgL, List.range_succ]
  omega
def cutT (s : ByteArray) : ByteArray := ⟨(Lib.trimSuffix s.data.toList [10]).toArray⟩
theorem nine {t : List (List UInt8)} (h : t.length = 9) : t.tail = (List.range 8).map fun j => t.getD (j + 1) [] := by
  apply List.ext_getElem?
  intro i
  by_cases hi : i < 8
  · rw [List.getElem?_tail, List.getElem?_map, List.getElem?_range hi, List.getElem?_eq_getElem (by omega)]
    simp [List.getD_eq_getElem?_getD, List.getElem?_eq_getElem (show i + 1 < t.length by omega)]
  · rw [List.getElem?_tail, List.getElem?_map, List.getElem?_eq_none (by omega), List.getElem?_eq_none (by simp; omega)]
    rfl
theorem rd_no8 {l : List UInt8} (h : pok 8 (rdL l) = false) : rdOk l = false := by unfold rdOk; rw [h]; rfl
theorem rd_no9 {l : List UInt8} (h : (rdW l).length ≠ 9) : rdOk l = false := by unfold rdOk; simp [h]
theorem rd_noW {l : List UInt8} {k : Nat} {x : List UInt8} (hx : (rdW l)[k + 1]? = some x) (h : pok 32 x = false) : rdOk l = false := by
  have : (rdW l).tail.all (pok 32) = false := by
    rw [List.all_eq_false]
    exact ⟨x, List.mem_of_getElem? (by rw [List.getElem?_tail]; exact hx), by rw [h]; simp⟩
  unfold rdOk
  rw [this]
  simp
theorem rd_yes {l : List UInt8} (h8 : pok 8 (rdL l) = true) (h9 : (rdW l).length = 9) (hw : ∀ j, j < 8 → pok 32 ((rdW l).getD (j + 1) []) = true) :
    rdOk l = true ∧ rdV l = (pv 8 (rdL l), (List.range 8).map fun j => pv 32 ((rdW l).getD (j + 1) [])) := by
  constructor
  · unfold rdOk
    rw [h8, nine h9]
    simp only [Bool.true_and, Bool.and_eq_true, decide_eq_true_eq, List.all_eq_true]
    refine ⟨h9, fun y hy => ?_⟩
    obtain ⟨j, hj, rfl⟩ := List.mem_map.1 hy
    exact hw j (List.mem_range.1 hj)
  · unfold rdV
    rw [nine h9, List.map_map]
    rfl
theorem fl_size : (Tryz.prog.info? 58).map (·.size) = some 9 := by kernel_rfl
theorem nine1 {f a0 a1 a2 a3 a4 a5 a6 a7 : Int} : (List.toArray [Value.int .i8 f, .int .i32 a0, .int .i32 a1, .int .i32 a2, .int .i32 a3, .int .i32 a4, .int .i32 a5, .int .i32 a6, .int .i32 a7]).all (·.oneCell') = true := by
  simp [Value.oneCell']
theorem range8 (g : Nat → Int) : (List.range 8).map g = [g 0, g 1, g 2, g 3, g 4, g 5, g 6, g 7] := by simp [List.range_succ]
theorem cut_le (l p : List UInt8) : (Lib.cut l p).1.length ≤ l.length ∧ (Lib.cut l p).2.1.length ≤ l.length := by
  unfold Lib.cut
  split
  · exact ⟨by rw [List.length_take]; omega, by rw [List.length_drop]; omega⟩
  · exact ⟨Nat.le_refl _, by simp⟩
theorem below_stores9 {B g : Nat} {w w1 : World} (h : Below B w w1) (hg : B ≤ g) (v0 v1 v2 v3 v4 v5 v6 v7 v8 : Value) : Below B w (((((((((w1.setCell ⟨g, 0, none⟩ v0).setCell ⟨g, 1, none⟩ v1).setCell ⟨g, 2, none⟩ v2).setCell ⟨g, 3, none⟩ v3).setCell ⟨g, 4, none⟩ v4).setCell ⟨g, 5, none⟩ v5).setCell ⟨g, 6, none⟩ v6).setCell ⟨g, 7, none⟩ v7).setCell ⟨g, 8, none⟩ v8) := by
  iterate 9 (refine Below.setCell ?_ hg _)
  exact h
theorem Row.set9 {w : World} {B : Nat} {E : TypeId} {x0 x1 x2 x3 x4 x5 x6 x7 x8 : Value} (r : Row w B E [x0, x1, x2, x3, x4, x5, x6, x7, x8]) (v0 v1 v2 v3 v4 v5 v6 v7 v8 : Value) :
    Row (((((((((w.setCell ⟨B, 0, none⟩ v0).setCell ⟨B, 1, none⟩ v1).setCell ⟨B, 2, none⟩ v2).setCell ⟨B, 3, none⟩ v3).setCell ⟨B, 4, none⟩ v4).setCell ⟨B, 5, none⟩ v5).setCell ⟨B, 6, none⟩ v6).setCell ⟨B, 7, none⟩ v7).setCell ⟨B, 8, none⟩ v8) B E [v0, v1, v2, v3, v4, v5, v6, v7, v8] :=
  ((((((((r.set 0 v0).set 1 v1).set 2 v2).set 3 v3).set 4 v4).set 5 v5).set 6 v6).set 7 v7).set 8 v8
theorem res9 (t : Array Value) (w : World) (b : Nat) (ok : Bool) {f a0 a1 a2 a3 a4 a5 a6 a7 : Int} (h2 : t[2]?.getD undef = .pointer (some ⟨b, 0, none⟩)) (h3 : t[3]?.getD undef = .bool ok) (S : Row w b 58 [.int .i8 f, .int .i32 a0, .int .i32 a1, .int .i32 a2, .int .i32 a3, .int .i32 a4, .int .i32 a5, .int .i32 a6, .int .i32 a7]) :
    (results Tryz.f46 t).run Tryz.prog w = .ok (.tuple #[.agg #[.int .i8 f, .int .i32 a0, .int .i32 a1, .int .i32 a2, .int .i32 a3, .int .i32 a4, .int .i32 a5, .int .i32 a6, .int .i32 a7], .bool ok]) w := by
  obtain ⟨s0, s1, s2, s3, s4, s5, s6, s7, s8⟩ := S.cells9
  simp [results, Tryz.results46, go_sem, h2, h3, s0, s1, s2, s3, s4, s5, s6, s7, s8]
set_option maxRecDepth 100000 in
set_option maxHeartbeats 4000000 in
theorem iReadFleece (B : Nat) (s : ByteArray) (w : World) (E : Env B w) (hBw : B ≤ w.heap.size) (hs : s.size ≤ 1048576) :
    Calls Tryz.prog 46 #[.string s] w fun e w' => ∃ f a0 a1 a2 a3 a4 a5 a6 a7, e = .returned (.tuple #[.agg #[.int .i8 f, .int .i32 a0, .int .i32 a1, .int .i32 a2, .int .i32 a3, .int .i32 a4, .int .i32 a5, .int .i32 a6, .int .i32 a7], .bool (rdOk s.data.toList)]) ∧ (rdOk s.data.toList = true → (f, [a0, a1, a2, a3, a4, a5, a6, a7]) = rdV s.data.toList) ∧ Below w.heap.size w w' := by
  have X2 : Hid (Row (w.alloc (.cells #[.int .i8 0, .int .i32 0, .int .i32 0, .int .i32 0, .int .i32 0, .int .i32 0, .int .i32 0, .int .i32 0, .int .i32 0] 58)) w.heap.size 58 [.int .i8 0, .int .i32 0, .int .i32 0, .int .i32 0, .int .i32 0, .int .i32 0, .int .i32 0, .int .i32 0, .int .i32 0]) := Lib.hid (Row.alloc w _ _)
  have HB : Hid (Below w.heap.size w (w.alloc (.cells #[.int .i8 0, .int .i32 0, .int .i32 0, .int .i32 0, .int .i32 0, .int .i32 0, .int .i32 0, .int .i32 0, .int .i32 0] 58))) := Lib.hid (below_alloc1 _ _)
  have HE := Lib.hid E
  clear E
  go_enter Tryz.func46, Tryz.ntmps46
  go_wp2_with fail
  obtain ⟨wa, hwa⟩ : ∃ x, x = w.alloc (.cells #[.int .i8 0, .int .i32 0, .int .i32 0, .int .i32 0, .int .i32 0, .int .i32 0, .int .i32 0, .int .i32 0, .int .i32 0] 58) := ⟨_, rfl⟩
  rw [← hwa] at X2 HB ⊢
  clear hwa
  refine (Tryz.strings_TrimSuffix s ⟨#[10]⟩ _ (by omega)).mono ?_
  rintro e w1 ⟨rfl, rfl⟩
  have ht := Lib.trimSuffix_le s.data.toList [10]
  obtain ⟨T, hT⟩ : ∃ T : ByteArray, T = ⟨(Lib.trimSuffix s.data.toList [10]).toArray⟩ := ⟨_, rfl⟩
  have hTd : T.data.toList = Lib.trimSuffix s.data.toList [10] := by rw [hT]
  have hTs : T.size ≤ 1048576 := by rw [← str_len, hTd]; rw [str_len] at ht; omega
  obtain ⟨m, hm⟩ := (HE.out.on (HB.out.mono hBw)).mx
  rw [show (⟨#[10]⟩ : ByteArray).data.toList = [10] from rfl, ← hT]
  clear hT ht
  go_wp2_with fail
  refine (Tryz.strings_Cut T ⟨#[58]⟩ m _ (by omega) hm).mono ?_
  rintro e w2 ⟨rfl, q, hw2⟩
  have hb2 : Below w1.heap.size w1 w2 := by rw [hw2]; exact (Below.refl _ _).trans (Joins.below_draws _ _ _)
  replace X2 := Lib.hid (X2.out.below hb2)
  replace HB := Lib.hid (below_then HB.out HB.out.size hb2)
  clear hw2 hb2 hm m
  rw [show (⟨#[58]⟩ : ByteArray).data.toList = [58] from rfl, hTd]
  obtain ⟨L, hL⟩ : ∃ L : ByteArray, L = ⟨(Lib.cut (Lib.trimSuffix s.data.toList [10]) [58]).1.toArray⟩ := ⟨_, rfl⟩
  obtain ⟨G, hG⟩ : ∃ G : ByteArray, G = ⟨(Lib.cut (Lib.trimSuffix s.data.toList [10]) [58]).2.1.toArray⟩ := ⟨_, rfl⟩
  have hLd : L.data.toList = rdL s.data.toList := by rw [hL]; rfl
  have hGd : G.data.toList = rdR s.data.toList := by rw [hG]; rfl
  rw [← hL, ← hG]
  have hLs : L.size ≤ 1048576 := by
    rw [← str_len, hLd]
    have h1 := cut_le (Lib.trimSuffix s.data.toList [10]) [58]
    have h2 := Lib.trimSuffix_le s.data.toList [10]
    rw [str_len] at h2
    unfold rdL
    omega
  have hGs : G.size ≤ 1048576 := by
    rw [← str_len, hGd]
    have h1 := cut_le (Lib.trimSuffix s.data.toList [10]) [58]
    have h2 := Lib.trimSuffix_le s.data.toList [10]
    rw [str_len] at h2
    unfold rdR
    omega
  have HLD := Lib.hid hLd; have HGD := Lib.hid hGd
  clear hL hG hLd hGd hTd hTs
  obtain ⟨m, hm⟩ := (HE.out.on (HB.out.mono hBw)).mx
  have hsplit := Tryz.strings_Split G ⟨#[32]⟩ m w2 (by omega) hm (by decide)
  have hlen := lwd_len G
  have hle := lwd_le G
  rw [← hlen] at hsplit
  have HSP := Lib.hid hsplit
  clear hsplit hm hlen m
  obtain ⟨n, hn⟩ : ∃ n, (lwd G).length = n := ⟨_, rfl⟩
  rw [hn] at HSP hle
  have HN := Lib.hid hn
  clear hn
  have HWD : Hid ((lwd G).map (·.data.toList) = rdW s.data.toList) := Lib.hid (by rw [lwd_wds]; unfold wds rdW; rw [HGD.out])
  have HNW : Hid ((rdW s.data.toList).length = n) := Lib.hid (by rw [← HWD.out, List.length_map]; exact HN.out)
  go_wp2_with fail
  refine HSP.out.mono ?_
  rintro e w3 ⟨rfl, hw3⟩
  have XW : Hid (Row w3 w2.heap.size 9 (strs (lwd G))) := Lib.hid (by rw [hw3]; exact Row.alloc w2 (strs (lwd G)) _)
  have hb3 : Below w2.heap.size w2 w3 := by rw [hw3]; exact below_alloc1 w2 _
  have hz3 : w3.heap.size = w2.heap.size + 1 := by rw [hw3, World.size_alloc]
  replace X2 := Lib.hid (X2.out.below hb3)
  replace HB := Lib.hid (below_then HB.out HB.out.size hb3)
  have HZ3 := Lib.hid hz3
  clear hw3 hb3 hz3 HSP
  go_wp2_with fail
  refine (small8_any B L _ (HE.out.on (HB.out.mono hBw)) (by omega)).mono ?_
  rintro e w4 ⟨v, rfl, hv, hb4⟩
  rw [HLD.out] at hv ⊢
  replace X2 := Lib.hid (X2.out.below hb4)
  replace HB := Lib.hid (below_then HB.out HB.out.size hb4)
  replace XW := Lib.hid (XW.out.below hb4)
  have HZ4 := Lib.hid hb4.size
  clear hb4
  cases h8 : pok 8 (rdL s.data.toList)
  · have NO := Lib.hid (rd_no8 h8)
    clear h8 hv hle hLs hGs
    go_wp2_with (refine wpList_store_mid (by rfl) _ _ _ (by rfl) w.heap.size 0 (List.toArray [.int .i8 0, .int .i32 0, .int .i32 0, .int .i32 0, .int .i32 0, .int .i32 0, .int .i32 0, .int .i32 0, .int .i32 0]) (by rfl) (by rfl) (X2.out.there rfl) fl_size nine1 ?_; have S := X2.out.setAll [.int .i8 0, .int .i32 0, .int .i32 0, .int .i32 0, .int .i32 0, .int .i32 0, .int .i32 0, .int .i32 0, .int .i32 0] rfl; have hBB := below_setCells (b := w.heap.size) (C := w.heap.size) (Nat.le_refl _) [.int .i8 0, .int .i32 0, .int .i32 0, .int .i32 0, .int .i32 0, .int .i32 0, .int .i32 0, .int .i32 0, .int .i32 0] 0 HB.out; simp only [List.toList_toArray]; generalize World.setCells _ w.heap.size 0 [.int .i8 0, .int .i32 0, .int .i32 0, .int .i32 0, .int .i32 0, .int .i32 0, .int .i32 0, .int .i32 0, .int .i32 0] = ww at S hBB ⊢)
    refine bodyPost_ret (res9 _ _ w.heap.size false rfl rfl S) rfl ⟨0, 0, 0, 0, 0, 0, 0, 0, 0, by rw [NO.out], (fun e => by rw [NO.out] at e; cases e), hBB⟩
  · have H8 := Lib.hid h8
    obtain rfl := hv h8
    clear h8 hv
    by_cases h9 : n = 9
    rotate_left
    · have NO := Lib.hid (rd_no9 (by rw [HNW.out]; exact h9))
      have h9i : ((n : Int) == 9) = false := by rw [beq_eq_false_iff_ne]; omega
      clear hle hLs hGs h9
      go_wp2_with (refine wpList_store_mid (by rfl) _ _ _ (by rfl) w.heap.size 0 (List.toArray [.int .i8 0, .int .i32 0, .int .i32 0, .int .i32 0, .int .i32 0, .int .i32 0, .int .i32 0, .int .i32 0, .int .i32 0]) (by rfl) (by rfl) (X2.out.there rfl) fl_size nine1 ?_; have S := X2.out.setAll [.int .i8 0, .int .i32 0, .int .i32 0, .int .i32 0, .int .i32 0, .int .i32 0, .int .i32 0, .int .i32 0, .int .i32 0] rfl; have hBB := below_setCells (b := w.heap.size) (C := w.heap.size) (Nat.le_refl _) [.int .i8 0, .int .i32 0, .int .i32 0, .int .i32 0, .int .i32 0, .int .i32 0, .int .i32 0, .int .i32 0, .int .i32 0] 0 HB.out; simp only [List.toList_toArray]; generalize World.setCells _ w.heap.size 0 [.int .i8 0, .int .i32 0, .int .i32 0, .int .i32 0, .int .i32 0, .int .i32 0, .int .i32 0, .int .i32 0, .int .i32 0] = ww at S hBB ⊢)
      refine bodyPost_ret (res9 _ _ w.heap.size false rfl rfl S) rfl ⟨0, 0, 0, 0, 0, 0, 0, 0, 0, by rw [NO.out], (fun e => by rw [NO.out] at e; cases e), hBB⟩
    · subst h9
      obtain ⟨f, hf⟩ : ∃ f, pv 8 (rdL s.data.toList) = f := ⟨_, rfl⟩
      have hfb := pv_bd 8 (rdL s.data.toList) (.inl rfl)
      simp at hfb
      rw [hf] at hfb ⊢
      have HF := Lib.hid hf
      have v8 : IntKind.i8.wrap f = f := IntWalk.i8_in _ (by omega)
      clear hf hfb hle hLs hGs
      have X10 : Hid (Row (w4.alloc (.cells #[.int .i8 f, .int .i32 0, .int .i32 0, .int .i32 0, .int .i32 0, .int .i32 0, .int .i32 0, .int .i32 0, .int .i32 0] 58)) w4.heap.size 58 (.int .i8 f :: nums .i32 (fgL (fun j => pv 32 ((rdW s.data.toList).getD (j + 1) [])) 0))) := Lib.hid (by rw [fgL_zero]; exact Row.alloc w4 [.int .i8 f, .int .i32 0, .int .i32 0, .int .i32 0, .int .i32 0, .int .i32 0, .int .i32 0, .int .i32 0, .int .i32 0] _)
      have Y2 := Lib.hid (X2.out.below (below_alloc1 w4 (.cells #[.int .i8 f, .int .i32 0, .int .i32 0, .int .i32 0, .int .i32 0, .int .i32 0, .int .i32 0, .int .i32 0, .int .i32 0] 58)))
      have YW := Lib.hid (XW.out.below (below_alloc1 w4 (.cells #[.int .i8 f, .int .i32 0, .int .i32 0, .int .i32 0, .int .i32 0, .int .i32 0, .int .i32 0, .int .i32 0, .int .i32 0] 58)))
      have YB := Lib.hid (HB.out.alloc HB.out.size (.cells #[.int .i8 f, .int .i32 0, .int .i32 0, .int .i32 0, .int .i32 0, .int .i32 0, .int .i32 0, .int .i32 0, .int .i32 0] 58))
      have hne : w.heap.size ≠ w4.heap.size := by have := X2.out.lt; omega
      have hnw : w2.heap.size ≠ w4.heap.size := by have := XW.out.lt; omega
      have hle4 : w.heap.size ≤ w4.heap.size := HB.out.size
      clear X2 XW HB HZ3 HZ4
      go_wp2_with fail
      obtain ⟨wb, hwb⟩ : ∃ x, x = w4.alloc (.cells #[.int .i8 f, .int .i32 0, .int .i32 0, .int .i32 0, .int .i32 0, .int .i32 0, .int .i32 0, .int .i32 0, .int .i32 0] 58) := ⟨_, rfl⟩
      rw [← hwb] at X10 Y2 YW YB ⊢
      clear hwb v8
      obtain ⟨gg, hgg⟩ : ∃ gg, gg = fun j => pv 32 ((rdW s.data.toList).getD (j + 1) []) := ⟨_, rfl⟩
      rw [← hgg] at X10
      have HGG := Lib.hid hgg
      clear hgg
      go_loopw [43] (fun v wr => ∃ k : Nat, k ≤ 8 ∧ v = .int .i64 k ∧ Hid (∀ j, j < k → pok 32 ((rdW s.data.toList).getD (j + 1) []) = true) ∧ Hid (Row wr w4.heap.size 58 (.int .i8 f :: nums .i32 (fgL gg k))) ∧ Hid (Row wr w.heap.size 58 [.int .i8 0, .int .i32 0, .int .i32 0, .int .i32 0, .int .i32 0, .int .i32 0, .int .i32 0, .int .i32 0, .int .i32 0]) ∧ Hid (Row wr w2.heap.size 9 (strs (lwd G))) ∧ Hid (Below w.heap.size w wr)) (fun v _ => 8 - (intOf v).toNat)
      case atStart => exact ⟨0, by omega, rfl, Lib.hid (fun j hj => absurd hj (Nat.not_lt_zero _)), X10, Y2, YW, YB⟩
      case round =>
        clear X10 Y2 YW YB
        obtain ⟨k, hk, rfl, HY, X10, X2, XW, HB⟩ := hrel
        by_cases hlt : k < 8
        · as_aux_lemma =>
          have hki : (k : Int) < 8 := by omega
          obtain ⟨x, hx⟩ : ∃ x, (lwd G)[k + 1]? = some x := ⟨_, List.getElem?_eq_getElem (by rw [HN.out]; omega)⟩
          have hxs := lwd_size (List.mem_of_getElem? hx)
          have hxd : (rdW s.data.toList)[k + 1]? = some x.data.toList := by rw [← HWD.out, List.getElem?_map, hx]; rfl
          have hg : (rdW s.data.toList).getD (k + 1) [] = x.data.toList := by rw [List.getD_eq_getElem?_getD, hxd]; rfl
          have hc : wr.cell? ⟨w2.heap.size, 1 + k, none⟩ = some (.string x) := by
            rw [XW.out.cell, strs, List.getElem?_map, Nat.add_comm, hx]
            rfl
          have hGx : x.size ≤ 1048576 := by
            have h1 := cut_le (Lib.trimSuffix s.data.toList [10]) [58]
            have h2 := Lib.trimSuffix_le s.data.toList [10]
            have h3 : G.size = (rdR s.data.toList).length := by rw [← HGD.out, str_len]
            rw [str_len] at h2
            unfold rdR at h3
            omega
          have HXD := Lib.hid hxd; have HG := Lib.hid hg
          clear hx hxd hg hxs
          go_wp2_with fail
          refine (small32_any B x _ (HE.out.on (HB.out.mono hBw)) hGx).mono ?_
          rintro e w5 ⟨v, rfl, hv, hb5⟩
          replace X10 := Lib.hid (X10.out.below hb5)
          replace X2 := Lib.hid (X2.out.below hb5)
          replace XW := Lib.hid (XW.out.below hb5)
          replace HB := Lib.hid (below_then HB.out HB.out.size hb5)
          clear hb5 hc
          cases hp : pok 32 x.data.toList
          · have NO := Lib.hid (rd_noW HXD.out hp)
            clear hp hv
            go_upto_region 12 with fail
            apply wp_region_lit
            go_step
            go_step
            go_step
            refine wpList_store_mid (by rfl) _ _ _ (by rfl) w.heap.size 0 (List.toArray [.int .i8 0, .int .i32 0, .int .i32 0, .int .i32 0, .int .i32 0, .int .i32 0, .int .i32 0, .int .i32 0, .int .i32 0]) (by rfl) (by rfl) (X2.out.there rfl) fl_size nine1 ?_
            have S := X2.out.setAll [.int .i8 0, .int .i32 0, .int .i32 0, .int .i32 0, .int .i32 0, .int .i32 0, .int .i32 0, .int .i32 0, .int .i32 0] rfl
            have hBB := below_setCells (b := w.heap.size) (C := w.heap.size) (Nat.le_refl _) [.int .i8 0, .int .i32 0, .int .i32 0, .int .i32 0, .int .i32 0, .int .i32 0, .int .i32 0, .int .i32 0, .int .i32 0] 0 HB.out
            simp only [List.toList_toArray]
            generalize World.setCells _ w.heap.size 0 [.int .i8 0, .int .i32 0, .int .i32 0, .int .i32 0, .int .i32 0, .int .i32 0, .int .i32 0, .int .i32 0, .int .i32 0] = ww at S hBB ⊢
            clear X2 XW HB X10
            go_wp2_with fail
            refine bodyPost_ret (res9 _ _ w.heap.size false rfl rfl S) rfl ⟨0, 0, 0, 0, 0, 0, 0, 0, 0, by rw [NO.out], (fun e => by rw [NO.out] at e; cases e), hBB⟩
          · obtain rfl := hv hp
            have hvb := pv_bd 32 x.data.toList (.inr rfl)
            simp at hvb
            have HS := Lib.hid (fgL_set gg hlt)
            have hgk : gg k = pv 32 x.data.toList := by rw [HGG.out]; show pv 32 _ = _; rw [HG.out]
            rw [hgk] at HS
            obtain ⟨u, hu⟩ : ∃ u, pv 32 x.data.toList = u := ⟨_, rfl⟩
            rw [hu] at hvb HS ⊢
            have v32 : IntKind.i32.wrap u = u := IntWalk.i32_in _ (by omega)
            have HY2 : Hid (∀ j, j < k + 1 → pok 32 ((rdW s.data.toList).getD (j + 1) []) = true) := Lib.hid (fun j hj => by
              rcases Nat.lt_or_ge j k with h | h
              · exact HY.out j h
              · obtain rfl : j = k := by omega
                rw [HG.out]; exact hp)
            obtain ⟨u0, c0⟩ : ∃ u0, w5.cell? ⟨w4.heap.size, 1 + k, none⟩ = some u0 := by
              rw [X10.out.cell]
              exact ⟨_, List.getElem?_eq_getElem (by rw [List.length_cons, nums_length, fgL_len]; omega)⟩
            have f0 := X10.out.frozen (1 + k)
            have hSet : Hid (Row (w5.setCell ⟨w4.heap.size, 1 + k, none⟩ (.int .i32 u)) w4.heap.size 58 (.int .i8 f :: nums .i32 (fgL gg (k + 1)))) := Lib.hid (by
              have := X10.out.set (1 + k) (.int .i32 u)
              rw [Nat.add_comm 1 k, List.set_cons_succ, HS.out] at this
              rw [Nat.add_comm 1 k]
              exact this)
            have hX2 := Lib.hid (X2.out.apart hne (1 + k) (.int .i32 u))
            have hXW := Lib.hid (XW.out.apart hnw (1 + k) (.int .i32 u))
            have hHB := Lib.hid (HB.out.setCell (p := ⟨w4.heap.size, 1 + k, none⟩) hle4 (.int .i32 u))
            clear hp hv hgk hvb hu HS X10 X2 XW HB
            go_wp2_with fail
            go_roundw
            case rel => exact ⟨k + 1, by omega, by go_num, HY2, hSet, hX2, hXW, hHB⟩
            case measure => simp [intOf]; omega
        · as_aux_lemma =>
          obtain rfl : k = 8 := by omega
          have YES := Lib.hid (rd_yes H8.out HNW.out (fun j hj => HY.out j hj))
          have hni : ¬ ((8 : Nat) : Int) < 8 := by omega
          have X : Hid (Row wr w4.heap.size 58 [.int .i8 f, .int .i32 (gg 0), .int .i32 (gg 1), .int .i32 (gg 2), .int .i32 (gg 3), .int .i32 (gg 4), .int .i32 (gg 5), .int .i32 (gg 6), .int .i32 (gg 7)]) := Lib.hid (by have := X10.out; rw [fgL_all gg (Nat.le_refl _)] at this; exact this)
          have RG := X.out.rangeAt
          clear X10 HY
          go_upto_region 15 with fail
          apply wp_region_lit
          refine wpList_load_mid (by rfl) _ _ (by rfl) w4.heap.size 0 (by rfl) [.int .i8 f, .int .i32 (gg 0), .int .i32 (gg 1), .int .i32 (gg 2), .int .i32 (gg 3), .int .i32 (gg 4), .int .i32 (gg 5), .int .i32 (gg 6), .int .i32 (gg 7)] _ RG Tryz.underlying58 (by rfl) fl_size ?_
          simp only [Act.put, List.setIfInBounds_toArray, List.set_cons_zero, List.set_cons_succ]
          refine wpList_store_mid (by rfl) _ _ _ (by rfl) w.heap.size 0 (List.toArray [.int .i8 f, .int .i32 (gg 0), .int .i32 (gg 1), .int .i32 (gg 2), .int .i32 (gg 3), .int .i32 (gg 4), .int .i32 (gg 5), .int .i32 (gg 6), .int .i32 (gg 7)]) (by rfl) (by rfl) (X2.out.there rfl) fl_size nine1 ?_
          have S := X2.out.setAll [.int .i8 f, .int .i32 (gg 0), .int .i32 (gg 1), .int .i32 (gg 2), .int .i32 (gg 3), .int .i32 (gg 4), .int .i32 (gg 5), .int .i32 (gg 6), .int .i32 (gg 7)] rfl
          have hBB := below_setCells (b := w.heap.size) (C := w.heap.size) (Nat.le_refl _) [.int .i8 f, .int .i32 (gg 0), .int .i32 (gg 1), .int .i32 (gg 2), .int .i32 (gg 3), .int .i32 (gg 4), .int .i32 (gg 5), .int .i32 (gg 6), .int .i32 (gg 7)] 0 HB.out
          simp only [List.toList_toArray]
          generalize World.setCells _ w.heap.size 0 [.int .i8 f, .int .i32 (gg 0), .int .i32 (gg 1), .int .i32 (gg 2), .int .i32 (gg 3), .int .i32 (gg 4), .int .i32 (gg 5), .int .i32 (gg 6), .int .i32 (gg 7)] = ww at S hBB ⊢
          clear X X2 XW HB RG
          go_wp2_with fail
          refine bodyPost_ret (res9 _ _ w.heap.size true rfl rfl S) rfl ⟨f, gg 0, gg 1, gg 2, gg 3, gg 4, gg 5, gg 6, gg 7, by rw [YES.out.1], (fun _ => by rw [YES.out.2, HF.out, ← range8 gg, HGG.out]), hBB⟩
end Go.Proofs.YtbkhlcbnnjgdpaaGreatDoor
