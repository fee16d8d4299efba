/- NearestBlend: the program's side: all choices of parts (splits and its closure). -/
import Derived.Test.YtjbaaomodcgdgaaP3
namespace Go.Proofs.Ytjbaaomodcgdgaa
open Go.RowKit
set_option linter.unusedVariables false
set_option linter.unusedSimpArgs false
theorem take_set1 {qs : List Int} {i : Nat} {v : Int} (h : i < qs.length) : (qs.set i v).take (i + 1) = qs.take i ++ [v] := by
  rw [List.take_add_one, List.getElem?_set_self h, List.take_set, List.set_eq_of_length_le (by rw [List.length_take]; omega)]
  rfl
theorem Keeps.size_le {S : Nat → Prop} {w w' : World} (h : Keeps S w w') : w.heap.size ≤ w'.heap.size := h.size
/-- What the closures hold. -/
def SplC (n : Nat) (Lb bM bV bD bF E1 E2 : Nat) (caps : Array Value) (w : World) : Prop :=
  Row w bM 3 [.int .i64 n] ∧ Row w bV 37 [.slice (some ⟨Lb, 0, none⟩) n n] ∧ Row w bD E1 [.func (.func 42) #[] caps] ∧ Row w bF E2 [.func (.func 74) #[] #[.pointer (some ⟨bM, 0, none⟩), .pointer (some ⟨bV, 0, none⟩), .pointer (some ⟨bD, 0, none⟩), .pointer (some ⟨bF, 0, none⟩)]]
def SplI (n Lb bB bE base : Nat) (st : Sta) (pre : List Int) (w : World) : Prop :=
  ∃ qs : List Int, qs.length = n ∧ qs.take pre.length = pre ∧ Row w Lb 2 (nums .i64 qs) ∧ StI bB bE base st w ∧ base ≤ w.heap.size
theorem SplC.keeps {S : Nat → Prop} {n Lb bM bV bD bF E1 E2 : Nat} {caps : Array Value} {w w' : World} (h : SplC n Lb bM bV bD bF E1 E2 caps w) (k : Keeps S w w') (h1 : ¬ S bM) (h2 : ¬ S bV) (h3 : ¬ S bD) (h4 : ¬ S bF) : SplC n Lb bM bV bD bF E1 E2 caps w' :=
  ⟨k.row h.1 h1, k.row h.2.1 h2, k.row h.2.2.1 h3, k.row h.2.2.2 h4⟩
theorem NbCst.keeps {S : Nat → Prop} {A : Option Addr} {n c : Nat} {xs : List (Int × List Int)} {W : List Int} {M G P : Int} {bL bY bA bW bP : Nat} {w w' : World} (h : NbCst A n c xs W M G P bL bY bA bW bP w) (k : Keeps S w w') (h1 : ¬ S bL) (h2 : ¬ S bY) (h3 : ¬ S bA) (h4 : ¬ S bW) (h5 : ¬ S bP) (h6 : ∀ ad, A = some ad → ¬ S ad.block) : NbCst A n c xs W M G P bL bY bA bW bP w' :=
  ⟨k.row h.1 h1, k.row h.2.1 h2, k.row h.2.2.1 h3, k.row h.2.2.2.1 h4, k.row h.2.2.2.2.1 h5, k.rds h.2.2.2.2.2 h6⟩
theorem StI.keeps {S : Nat → Prop} {bB bE base : Nat} {st : Sta} {w w' : World} (h : StI bB bE base st w) (k : Keeps S w w') (h1 : ¬ S bB) (h2 : ¬ S bE) (h3 : ∀ b, base ≤ b → ¬ S b) : StI bB bE base st w' := by
  cases st with
  | none => exact ⟨k.row h.1 h1, k.row h.2 h2⟩
  | some q =>
    obtain ⟨ps, l⟩ := q
    obtain ⟨ad, cb, r1, r2, O⟩ := h
    exact ⟨ad, cb, k.row r1 h1, k.row r2 h2, k.own O h3⟩
set_option maxRecDepth 100000 in
set_option maxHeartbeats 8000000 in
theorem fill_any (A : Option Addr) (n c : Nat) (xs : List (Int × List Int)) (W : List Int) (M G P : Int) (bL bY bA bW bP bB bE base Lb bM bV bD bF E1 E2 : Nat) (H : Hid (NbOk xs M G P W)) (hn : 1 ≤ n) (h6 : n ≤ 6)
    (hd : Hid ((bB ≠ bE ∧ bB < base ∧ bE < base ∧ Lb < base ∧ Lb ≠ bB ∧ Lb ≠ bE) ∧ (∀ b, (b = bL ∨ b = bY ∨ b = bA ∨ b = bW ∨ b = bP ∨ b = bM ∨ b = bV ∨ b = bD ∨ b = bF) → ¬ (b = bB ∨ b = bE ∨ b = Lb)) ∧ ∀ ad, A = some ad → ¬ (ad.block = bB ∨ ad.block = bE ∨ ad.block = Lb))) :
    ∀ (d : Nat) (pre : List Int) (left K : Nat) (i li : Int) (st : Sta) (w : World), pre.length = K → K + d + 1 = n → i = (K : Int) → li = (left : Int) → left ≤ 8 → (∀ x ∈ pre, 0 ≤ x ∧ x ≤ 8) → NbCst A n c xs W M G P bL bY bA bW bP w → SplC n Lb bM bV bD bF E1 E2 #[.pointer (some ⟨bL, 0, none⟩), .pointer (some ⟨bY, 0, none⟩), .pointer (some ⟨bA, 0, none⟩), .pointer (some ⟨bW, 0, none⟩), .pointer (some ⟨bP, 0, none⟩), .pointer (some ⟨bB, 0, none⟩), .pointer (some ⟨bE, 0, none⟩)] w → SplI n Lb bB bE base st pre w →
      Calls Try.prog 74 #[.int .i64 i, .int .i64 li, .pointer (some ⟨bM, 0, none⟩), .pointer (some ⟨bV, 0, none⟩), .pointer (some ⟨bD, 0, none⟩), .pointer (some ⟨bF, 0, none⟩)] w fun e w' => e = .returned (.tuple #[]) ∧ SplI n Lb bB bE base (nbF (fun ps => offT xs ps M G P W 8) d pre left st) pre w' ∧ Keeps (fun b => b = bB ∨ b = bE ∨ b = Lb) w w' := by
  obtain ⟨⟨d1, d2, d3, d4, d5, d6⟩, d7, d8⟩ := hd.out
  have D7 := Lib.hid d7; have D8 := Lib.hid d8
  clear d7 d8 hd
  have hk1 : ∀ args w, (callFunc 42 args).run Try.prog w = .ok (.enter 42 args) w := enters_of Try.func42 rfl (by decide)
  have hk2 : ∀ args w, (callFunc 74 args).run Try.prog w = .ok (.enter 74 args) w := enters_of Try.func74 rfl (by decide)
  intro d
  induction d with
  | zero =>
    intro pre left K i li st w hkl hkn hi hli hl hpre hC hSp hI
    subst hi; subst hli
    have HKL := Lib.hid hkl; have HPR := Lib.hid hpre; have HC := Lib.hid hC; have HSP := Lib.hid hSp
    obtain ⟨qs, hq1, hq2, hqr, hst, hbs⟩ := hI
    have HQ1 := Lib.hid hq1; have HQ2 := Lib.hid hq2; have HQR := Lib.hid hqr; have HST := Lib.hid hst
    clear hkl hpre hC hSp hq1 hq2 hqr hst
    have cM : w.cell? ⟨bM, 0, none⟩ = some (.int .i64 n) := HSP.out.1.cell 0
    have cV : w.cell? ⟨bV, 0, none⟩ = some (.slice (some ⟨Lb, 0, none⟩) n n) := HSP.out.2.1.cell 0
    have kn : (n : Int) - 1 = (K : Int) := by omega
    have hKn : K < n := by omega
    obtain ⟨v0, cL⟩ : ∃ v, w.cell? ⟨Lb, K, none⟩ = some v := by
      rw [HQR.out.cell, nums_get, List.getElem?_eq_getElem (by rw [HQ1.out]; exact hKn)]
      exact ⟨_, rfl⟩
    have fL := HQR.out.frozen K
    have hqs : (qs.set K (left : Int)) = pre ++ [(left : Int)] := by
      have h1 := take_set1 (qs := qs) (i := K) (v := (left : Int)) (by rw [HQ1.out]; exact hKn)
      rw [← HKL.out, HQ2.out, HKL.out, List.take_of_length_le (by rw [List.length_set, HQ1.out]; omega)] at h1
      exact h1
    have K1 : Keeps (fun b => b = bB ∨ b = bE ∨ b = Lb) w (w.setCell ⟨Lb, K, none⟩ (.int .i64 (left : Int))) := (Keeps.refl _ _).set Lb K _ (.inr (.inr rfl))
    have hqr1 : Row (w.setCell ⟨Lb, K, none⟩ (.int .i64 (left : Int))) Lb 2 (nums .i64 (pre ++ [(left : Int)])) := by
      have := HQR.out.set K (.int .i64 (left : Int))
      rw [show (nums .i64 qs).set K (.int .i64 (left : Int)) = nums .i64 (qs.set K (left : Int)) by simp [nums, List.map_set], hqs] at this
      exact this
    have hst1 : StI bB bE base st (w.setCell ⟨Lb, K, none⟩ (.int .i64 (left : Int))) := HST.out.keeps ((Keeps.refl (fun b => b = Lb) _).set Lb K _ rfl) (Ne.symm d5) (Ne.symm d6) (fun b hb => by omega)
    have hc1 : NbCst A n c xs W M G P bL bY bA bW bP (w.setCell ⟨Lb, K, none⟩ (.int .i64 (left : Int))) := HC.out.keeps K1 (D7.out _ (by simp)) (D7.out _ (by simp)) (D7.out _ (by simp)) (D7.out _ (by simp)) (D7.out _ (by simp)) D8.out
    have hll : (pre ++ [(left : Int)]).length = n := by rw [List.length_append, HKL.out]; simp; omega
    have hs1 : (w.setCell ⟨Lb, K, none⟩ (.int .i64 (left : Int))).heap.size = w.heap.size := by simp [World.setCell]
    have RP : Rds (w.setCell ⟨Lb, K, none⟩ (.int .i64 (left : Int))) (some ⟨Lb, 0, none⟩) n 1 (fun x : Int => [.int .i64 x]) (pre ++ [(left : Int)]) := own_rds1 (hqr1.own (n := n) (base := 0) (sz := 1) (Nat.zero_le _) (by unfold maxLen; omega) (by rw [nums_length, hll, Nat.mul_one])) (by omega)
    have hdo := do_any A n c n xs W (pre ++ [(left : Int)]) M G P bL bY bA bW bP bB bE base Lb st _ (Lib.hid hc1) (Lib.hid hst1) H hll RP hn (Lib.hid (gd_ps (pre_snoc HPR.out (k := left) hl))) d1 d2 d3 (by rw [hs1]; exact hbs)
    have cD : w.cell? ⟨bD, 0, none⟩ = some (.func (.func 42) #[] #[.pointer (some ⟨bL, 0, none⟩), .pointer (some ⟨bY, 0, none⟩), .pointer (some ⟨bA, 0, none⟩), .pointer (some ⟨bW, 0, none⟩), .pointer (some ⟨bP, 0, none⟩), .pointer (some ⟨bB, 0, none⟩), .pointer (some ⟨bE, 0, none⟩)]) := HSP.out.2.2.1.cell 0
    have n1 : bV ≠ Lb := fun e => D7.out bV (by simp) (.inr (.inr e))
    have n2 : bD ≠ Lb := fun e => D7.out bD (by simp) (.inr (.inr e))
    have HDO := Lib.hid hdo; have HK1 := Lib.hid K1; have HQR1 := Lib.hid hqr1; have HLL := Lib.hid hll; have HS1 := Lib.hid hs1
    clear hdo K1 hqr1 hst1 hc1 RP hqs hll hs1
    go_enter Try.func74, Try.ntmps74
    go_wp2_with fail
    refine HDO.out.mono ?_
    rintro e w2 ⟨rfl, hst2, hk⟩
    go_wp2_with fail
    first | (first | ((try simp only [Exit.inBlock, Exit.then]); refine bodyPost_end (results_none rfl _ _ _) rfl ?_) | ((try simp only [Exit.inBlock, Exit.then]); refine bodyPost_ret (results_none rfl _ _ _) rfl ?_))
    refine ⟨rfl, ⟨pre ++ [(left : Int)], HLL.out, by rw [List.take_left], hk.row HQR1.out (by rintro (e | e) <;> omega), hst2, ?_⟩, HK1.out.trans (hk.mono (fun b hb => by rcases hb with h | h; exact .inl h; exact .inr (.inl h)))⟩
    have := hk.size
    rw [HS1.out] at this
    omega
  | succ d ih =>
    intro pre left K i li st w hkl hkn hi hli hl hpre hC hSp hI
    subst hi; subst hli
    have HKL := Lib.hid hkl; have HPR := Lib.hid hpre; have HC := Lib.hid hC; have HSP := Lib.hid hSp; have HI := Lib.hid hI; have IH := Lib.hid ih
    clear hkl hpre hC hSp hI ih
    have cM : w.cell? ⟨bM, 0, none⟩ = some (.int .i64 n) := HSP.out.1.cell 0
    have kn : ¬ (K : Int) = (n : Int) - 1 := by omega
    have hKn : K < n := by omega
    have vv : IntKind.i64.wrap ((left : Int) + 1) = (left : Int) + 1 := IntWalk.i64_in _ (by omega)
    go_enter Try.func74, Try.ntmps74
    go_wp2_with fail
    rw [show ((K : Int) == (n : Int) - 1) = false by simp; omega]
    clear cM vv
    go_loopw [22] (fun v wr => ∃ k : Nat, k ≤ left + 1 ∧ v = .int .i64 k ∧ Hid (SplI n Lb bB bE base (nbTo (fun ps => offT xs ps M G P W 8) d pre left st k) pre wr) ∧ Hid (Keeps (fun b => b = bB ∨ b = bE ∨ b = Lb) w wr)) (fun v _ => left + 1 - (intOf v).toNat)
    case atStart => exact ⟨0, by omega, rfl, HI, Lib.hid (Keeps.refl _ _)⟩
    case round =>
      obtain ⟨k, hk, rfl, HIk, HKk⟩ := hrel
      by_cases hlt : k ≤ left
      · have hki : (k : Int) < (left : Int) + 1 := by omega
        have hSp := HSP.out.keeps HKk.out (D7.out _ (by simp)) (D7.out _ (by simp)) (D7.out _ (by simp)) (D7.out _ (by simp))
        have hC := HC.out.keeps HKk.out (D7.out _ (by simp)) (D7.out _ (by simp)) (D7.out _ (by simp)) (D7.out _ (by simp)) (D7.out _ (by simp)) D8.out
        obtain ⟨qs, hq1, hq2, hqr, hst, hbs⟩ := HIk.out
        have cV : wr.cell? ⟨bV, 0, none⟩ = some (.slice (some ⟨Lb, 0, none⟩) n n) := hSp.2.1.cell 0
        have cF : wr.cell? ⟨bF, 0, none⟩ = some (.func (.func 74) #[] #[.pointer (some ⟨bM, 0, none⟩), .pointer (some ⟨bV, 0, none⟩), .pointer (some ⟨bD, 0, none⟩), .pointer (some ⟨bF, 0, none⟩)]) := hSp.2.2.2.cell 0
        obtain ⟨v0, cL⟩ : ∃ v, wr.cell? ⟨Lb, K, none⟩ = some v := by
          rw [hqr.cell, nums_get, List.getElem?_eq_getElem (by rw [hq1]; exact hKn)]
          exact ⟨_, rfl⟩
        have fL := hqr.frozen K
        have K1 : Keeps (fun b => b = bB ∨ b = bE ∨ b = Lb) wr (wr.setCell ⟨Lb, K, none⟩ (.int .i64 (k : Int))) := (Keeps.refl _ _).set Lb K _ (.inr (.inr rfl))
        have hI1 : SplI n Lb bB bE base (nbTo (fun ps => offT xs ps M G P W 8) d pre left st k) (pre ++ [(k : Int)]) (wr.setCell ⟨Lb, K, none⟩ (.int .i64 (k : Int))) := by
          refine ⟨qs.set K (k : Int), by rw [List.length_set]; exact hq1, ?_, ?_, hst.keeps ((Keeps.refl (fun b => b = Lb) _).set Lb K _ rfl) (Ne.symm d5) (Ne.symm d6) (fun b hb => by omega), by simp [World.setCell]; exact hbs⟩
          · rw [List.length_append, HKL.out]
            show (qs.set K (k : Int)).take (K + 1) = _
            rw [take_set1 (by rw [hq1]; exact hKn), ← HKL.out, hq2]
          · have := hqr.set K (.int .i64 (k : Int))
            rw [show (nums .i64 qs).set K (.int .i64 (k : Int)) = nums .i64 (qs.set K (k : Int)) by simp [nums, List.map_set]] at this
            exact this
        have hcall := IH.out (pre ++ [(k : Int)]) (left - k) (K + 1) ((K : Int) + 1) ((left : Int) - (k : Int)) _ _ (by rw [List.length_append, HKL.out]; rfl) (by omega) (by omega) (by omega) (by omega) (pre_snoc HPR.out (by omega)) (hC.keeps K1 (D7.out _ (by simp)) (D7.out _ (by simp)) (D7.out _ (by simp)) (D7.out _ (by simp)) (D7.out _ (by simp)) D8.out) (hSp.keeps K1 (D7.out _ (by simp)) (D7.out _ (by simp)) (D7.out _ (by simp)) (D7.out _ (by simp))) hI1
        have HCA := Lib.hid hcall
        have HK1 := Lib.hid (HKk.out.trans K1)
        have n1 : bF ≠ Lb := fun e => D7.out bF (by simp) (.inr (.inr e))
        have n2 : bV ≠ Lb := fun e => D7.out bV (by simp) (.inr (.inr e))
        have v1 : IntKind.i64.wrap ((left : Int) - (k : Int)) = (left : Int) - (k : Int) := IntWalk.i64_in _ (by omega)
        have v2 : IntKind.i64.wrap ((K : Int) + 1) = (K : Int) + 1 := IntWalk.i64_in _ (by omega)
        clear hcall K1 hI1 hSp hC hq1 hq2 hqr hst
        go_wp2_with fail
        refine HCA.out.mono ?_
        rintro e w5 ⟨rfl, hI5, hk5⟩
        have HI6 : Hid (SplI n Lb bB bE base (nbTo (fun ps => offT xs ps M G P W 8) d pre left st (k + 1)) pre w5) := Lib.hid (by
          rw [nbTo_succ]
          obtain ⟨qs5, r1, r2, r3⟩ := hI5
          refine ⟨qs5, r1, ?_, r3⟩
          have : (qs5.take (pre ++ [(k : Int)]).length).take pre.length = pre := by rw [r2, List.take_left]
          rw [List.take_take, Nat.min_eq_left (by simp)] at this
          exact this)
        have HK6 := Lib.hid (HK1.out.trans hk5)
        clear hI5 hk5 v1 v2 cV cF cL fL
        go_wp2_with fail
        go_roundw
        case rel => exact ⟨k + 1, by omega, by go_num, HI6, HK6⟩
        case measure => simp [intOf]; omega
      · obtain rfl : k = left + 1 := by omega
        have hki : ¬ ((left + 1 : Nat) : Int) < (left : Int) + 1 := by omega
        go_wp2_with fail
        first | (first | ((try simp only [Exit.inBlock, Exit.then]); refine bodyPost_end (results_none rfl _ _ _) rfl ?_) | ((try simp only [Exit.inBlock, Exit.then]); refine bodyPost_ret (results_none rfl _ _ _) rfl ?_))
        exact ⟨rfl, by rw [nbF_succ]; exact HIk.out, HKk.out⟩
end Go.Proofs.Ytjbaaomodcgdgaa
